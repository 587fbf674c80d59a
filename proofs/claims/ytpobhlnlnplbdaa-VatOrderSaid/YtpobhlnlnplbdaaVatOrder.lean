/- The walk of VatOrder. -/
import Derived.Test.YtpobhlnlnplbdaaVatRuns
import Derived.Test.YtpobhlnlnplbdaaBookRate
import Derived.Test.YtpobhlnlnplbdaaWithin
import Derived.Deep.RegionHeld3
import Derived.Deep.RegionWith
namespace Go.Proofs.Ytpobhlnlnplbdaa
open Go Go.RowKit BigFrame
attribute [local go_sem] After.same

theorem tabT_short {l : List Rate} (h : l.length ≤ 40) : tabT l = l.foldl stepT [] := by unfold tabT; rw [List.take_of_length_le h]
theorem tabT_len (l : List Rate) (h : l.length ≤ 40) : (tabT l).length ≤ l.length := by
  have := (tab_fold l RightV.nil).2.1
  rw [tabT_short h]; simpa using this
theorem swap_mem {l ys : List Rate} {k : Nat} (hk : k < ys.length) (h0 : 0 < ys.length) (h : ∀ x, x ∈ ys ↔ x ∈ l) : ∀ x, x ∈ (ys.set 0 ys[k]).set k ys[0] ↔ x ∈ l := by
  intro x
  rw [← h x]
  constructor
  · intro hx
    rcases List.mem_or_eq_of_mem_set hx with hx | rfl
    · rcases List.mem_or_eq_of_mem_set hx with hx | rfl
      · exact hx
      · exact List.getElem_mem _
    · exact List.getElem_mem _
  · intro hx
    obtain ⟨i, hi, rfl⟩ := List.getElem_of_mem hx
    by_cases e0 : i = 0
    · subst e0
      refine List.mem_iff_getElem.2 ⟨k, by simpa using hk, ?_⟩
      simp
    · by_cases ek : i = k
      · subst ek
        refine List.mem_iff_getElem.2 ⟨0, by simpa using h0, ?_⟩
        rw [List.getElem_set_ne (by omega), List.getElem_set_self]
      · refine List.mem_iff_getElem.2 ⟨i, by simpa using hi, ?_⟩
        rw [List.getElem_set_ne (by omega), List.getElem_set_ne (by omega)]
set_option maxHeartbeats 8000000 in
set_option maxRecDepth 100000 in
theorem vatOrder_walk (v vt : Value) (l : List Rate) (tl : List Int) (w : World) (hv : Rd rateE w v l) (ht : Rd intsE w vt tl) :
    Calls Try.prog 7 #[v, vt] w fun e w' => e = .returned (.bool true) ∧ Below w.heap.size w w' := by
  obtain ⟨w0, hw0⟩ : ∃ w0, w0 = w := ⟨_, rfl⟩
  rw [← hw0] at hv ht ⊢
  clear hw0
  obtain ⟨pt, ct, rfl, ht1, ht2, ht3, ht4⟩ := ht.form
  clear ht3 ht4
  unfold maxLen at ht2
  obtain ⟨p, cap, rfl, h1, h2, h3, h4⟩ := hv.form
  clear h3 h4
  unfold maxLen at h2
  have b_0 := Below.refl w0.heap.size w0
  have HTL := Lib.hid ht
  clear ht
  have hcase : (12 < l.length ∧ Rd rateE w0 (subV (.slice p l.length cap) 0 12 5) (l.take 12)) ∨ ¬ 12 < l.length := by
    by_cases h : 12 < l.length
    · exact .inl ⟨h, by have := hv.sub 0 12 (by omega) (by omega); rw [show rateE.sz = 5 from rfl] at this; simpa using this⟩
    · exact .inr h
  rcases hcase with ⟨hlong, hsub⟩ | hshort
  rotate_left
  · skip
    have hi12 : ¬ (12 : Int) < (l.length : Int) := by omega
    have hn12 : l.length ≤ 12 := by omega
    obtain ⟨l2, hl2⟩ : ∃ z, z = l := ⟨_, rfl⟩
    subst hl2
    have hl_0 := hv
    obtain ⟨pu, hpu⟩ : ∃ z, z = p := ⟨_, rfl⟩
    subst hpu
    obtain ⟨cu, hcu⟩ : ∃ z, z = cap := ⟨_, rfl⟩
    subst hcu
    clear hv
    go_enter Try.func7, Try.ntmps7
    have c1 : Below w0.heap.size w0 (w0.alloc (.cells #[] 25)) := below_alloc w0 _
    have own1 : OwnR rateE (w0.alloc (.cells #[] 25)) w0.heap.size 25 (.slice (some ⟨w0.heap.size, 0, none⟩) 0 0) [] := OwnR.litAt rateE w0 #[] _ [] 0 w0.heap.size w0.heap.size rfl rfl rfl (Nat.zero_le _) (Nat.le_refl _)
    have hl_1 := hl_0.ext c1
    have hc1 : (([] : List Rate).length + l2.length) * 48 ≤ 140737488355328 := by simp; omega
    have Hc1 := Lib.hid hc1
    clear hc1
    go_wp2_with (first
      | (at_builtin; refine wpList_appR (E := rateE) tRate rfl rfl own1 rfl hl_1 rfl Hc1.out c1.size ?_; intro v6 w6 own6 g6 b6; rw [List.nil_append] at own6; clear g6)
      | fail)
    have b_6 : Below w0.heap.size w0 w6 := c1.trans b6
    have hl_6 := hl_0.ext b_6
    have HL := Lib.hid hl_6
    have HT6 := Lib.hid (HTL.out.ext b_6)
    have sM := fun k h => own6.lt k h
    have SM := Lib.hid sM
    obtain ⟨pm, cm, rfl⟩ := own6.rd.shape
    have BB := Lib.hid b_6
    have s06 := b_6.size
    clear own1 c1 hl_1 hl_6 sM b6 b_6
    go_loopw [6] (fun i wr => ∃ (k : Nat) (ys : List Rate), k ≤ tl.length ∧ i = .int .i64 k ∧ OwnR rateE wr w0.heap.size 25 (.slice pm l2.length cm) ys ∧ Hid (ys.length = l2.length) ∧ Hid (∀ x, x ∈ ys ↔ x ∈ l2) ∧ Hid (w6.grownBy wr (Value.slice pm l2.length cm).ownBlock)) (fun i _ => tl.length - (intOf i).toNat)
    case atStart => exact ⟨0, l2, by omega, rfl, own6, rfl, fun x => Iff.rfl, grown_below (Below.refl _ _)⟩
    case round =>
      obtain ⟨k, ys, hk, rfl, ownY, hyl, hmem, hgr⟩ := hrel
      clear own6
      have hki0 : (0 : Int) ≤ (k : Int) := by omega
      have hsplit : (k < tl.length ∧ k < 30 ∧ 1 < l2.length) ∨ (¬ k < tl.length) ∨ (k < tl.length ∧ ¬ k < 30) ∨ (k < tl.length ∧ k < 30 ∧ ¬ 1 < l2.length) := by omega
      rcases hsplit with ⟨k1, k2, k3⟩ | hex
      · skip
        have i1 : (k : Int) < (tl.length : Int) := by omega
        have i2 : (k : Int) < 30 := by omega
        have i3 : (1 : Int) < (l2.length : Int) := by omega
        obtain ⟨bt, ot, rfl⟩ := Rd.blk HT6.out (by omega)
        have dT : Below w0.heap.size w6 wr := below_grown hgr.out s06 (fun k h => (SM.out k h).1)
        have tB : bt < w0.heap.size := by have := HTL.out.at_ k1 0 (by decide); exact World.block_lt_of_cell? w0 _ this
        have t0 : wr.cell? ⟨bt, ot + k, none⟩ = some (.int .i64 tl[k]) := by
          have h := HT6.out.at_ k1 0 (by decide)
          rw [dT.cell (p := ⟨bt, ot + k, none⟩) tB]; simpa [intsE] using h
        have hwb := within_bounds tl[k] 1 ((l2.length : Int) - 1) (by omega)
        have hcw := fun w => withinCalls tl[k] 1 ((l2.length : Int) - 1) w (by omega) (by omega) (by omega)
        obtain ⟨q, hq⟩ : ∃ q : Nat, within tl[k] 1 ((l2.length : Int) - 1) = (q : Int) := ⟨(within tl[k] 1 ((l2.length : Int) - 1)).toNat, by omega⟩
        rw [hq] at hwb hcw
        have hq1 : 1 ≤ q := by omega
        have hq2 : q < l2.length := by omega
        clear hq hwb
        generalize tl[k] = tv at *
        have hw1 : IntKind.i64.wrap ((l2.length : Int) - 1) = (l2.length : Int) - 1 := by rw [IntKind.wrap_i64]; omega
        go_wp2_with fail
        with_reducible refine (hcw _).mono ?_
        rintro e w' ⟨rfl, rfl⟩
        obtain ⟨gB, cB, hsh, e1, e2, e3, e4⟩ := ownY.head (by rw [hyl.out]; omega)
        rw [hyl.out] at hsh
        simp only [Value.slice.injEq, true_and] at hsh
        obtain ⟨rfl, rfl⟩ := hsh
        rw [hyl.out] at e3
        unfold maxLen at e4
        have c0 := ownY.cellAt hyl.out.symm 0 (by rw [hyl.out]; omega) 0 (by decide)
        have f0 := ownY.frozenAt hyl.out.symm (0 * 5 + 0)
        have d0 := ownY.cellAt hyl.out.symm q (by rw [hyl.out]; omega) 0 (by decide)
        have z0 := ownY.frozenAt hyl.out.symm (q * 5)
        have c1 := ownY.cellAt hyl.out.symm 0 (by rw [hyl.out]; omega) 1 (by decide)
        have f1 := ownY.frozenAt hyl.out.symm (0 * 5 + 1)
        have d1 := ownY.cellAt hyl.out.symm q (by rw [hyl.out]; omega) 1 (by decide)
        have z1 := ownY.frozenAt hyl.out.symm (q * 5 + 1)
        have c2 := ownY.cellAt hyl.out.symm 0 (by rw [hyl.out]; omega) 2 (by decide)
        have f2 := ownY.frozenAt hyl.out.symm (0 * 5 + 2)
        have d2 := ownY.cellAt hyl.out.symm q (by rw [hyl.out]; omega) 2 (by decide)
        have z2 := ownY.frozenAt hyl.out.symm (q * 5 + 2)
        have c3 := ownY.cellAt hyl.out.symm 0 (by rw [hyl.out]; omega) 3 (by decide)
        have f3 := ownY.frozenAt hyl.out.symm (0 * 5 + 3)
        have d3 := ownY.cellAt hyl.out.symm q (by rw [hyl.out]; omega) 3 (by decide)
        have z3 := ownY.frozenAt hyl.out.symm (q * 5 + 3)
        have c4 := ownY.cellAt hyl.out.symm 0 (by rw [hyl.out]; omega) 4 (by decide)
        have f4 := ownY.frozenAt hyl.out.symm (0 * 5 + 4)
        have d4 := ownY.cellAt hyl.out.symm q (by rw [hyl.out]; omega) 4 (by decide)
        have z4 := ownY.frozenAt hyl.out.symm (q * 5 + 4)
        obtain ⟨own2, gr2⟩ := ownY.put hyl.out.symm 0 (by rw [hyl.out]; omega) (ys[q]'(by rw [hyl.out]; omega))
        obtain ⟨own3, gr3⟩ := own2.put (by rw [List.length_set]; exact hyl.out.symm) q (by rw [List.length_set, hyl.out]; omega) (ys[0]'(by rw [hyl.out]; omega))
        have hsw := Lib.hid (swap_mem (k := q) (by rw [hyl.out]; omega) (by rw [hyl.out]; omega) hmem.out)
        have hlen : Hid (((ys.set 0 (ys[q]'(by rw [hyl.out]; omega))).set q (ys[0]'(by rw [hyl.out]; omega))).length = l2.length) := by show _ = _; rw [List.length_set, List.length_set]; exact hyl.out
        obtain ⟨y2, hy2⟩ : ∃ z, (ys.set 0 (ys[q]'(by rw [hyl.out]; omega))).set q (ys[0]'(by rw [hyl.out]; omega)) = z := ⟨_, rfl⟩
        rw [hy2] at own3 hsw hlen
        clear hy2 own2
        generalize ys[0]'_ = a at *
        generalize ys[q]'_ = b at *
        simp only [rateE, List.getElem?_cons_zero, List.getElem?_cons_succ, Nat.zero_mul, Nat.zero_add, Nat.add_zero] at c0 d0 f0 c1 d1 f1 c2 d2 f2 c3 d3 f3 c4 d4 f4
        have GR := Lib.hid (grown_tr (grown_tr hgr.out gr2) gr3)
        have OW := Lib.hid own3
        clear own3 gr2 gr3 hgr
        have hq0 : (0 : Int) ≤ (q : Int) := by omega
        have hql : (q : Int) < (l2.length : Int) := by omega
        clear hcw hw1
        go_wp2_with fail
        go_region_with (fail)
        all_goals
          go_wp2_with fail
          go_roundw
          case rel => exact ⟨k + 1, y2, by omega, by go_num, OW.out.drew, hlen, hsw, grown_drew GR.out⟩
          case measure => first | (simp [intOf]; done) | (simp [intOf]; omega)
      · have dW : Below w0.heap.size w6 wr := below_grown hgr.out s06 (fun k h => (SM.out k h).1)
        have b_r := BB.out.trans dW
        have hlr := hl_0.ext b_r
        have rY := ownY.rd
        have hly := hyl.out
        have lA := tabT_len l2 (by omega)
        have lB := tabT_len ys (by omega)
        rw [hly] at lB
        have hAB : Hid ((tabT l2).length = l2.length → (tabT ys).length = l2.length → tabT l2 = tabT ys) := fun h1 h2 => by
          rw [tabT_short (by omega)] at h1 ⊢
          rw [tabT_short (l := ys) (by omega)] at h2 ⊢
          exact tab_same (fun x => (hmem.out x).symm) h1 (by omega)
        clear hgr dW ownY hly
        rcases hex with x1 | ⟨x1, x2⟩ | ⟨x1, x2, x3⟩
        · skip
          have i1 : ¬ (k : Int) < (tl.length : Int) := by omega
          go_wp2_with fail
          with_reducible refine (vatTable _ l2 _ hlr).mono ?_
          rintro e w7 ⟨⟨va, rfl, ownA⟩, c7⟩
          have rY7 := rY.ext c7
          have b_7 := b_r.trans (c7.mono b_r.size)
          clear hlr rY c7 b_r
          go_wp2_with fail
          with_reducible refine (vatTable _ ys _ rY7).mono ?_
          rintro e w8 ⟨⟨vb, rfl, ownB⟩, c8⟩
          have rA := ownA.rd.ext c8
          have rB := ownB.rd
          have b_8 := b_7.trans (c8.mono b_7.size)
          clear rY7 c8 ownA ownB b_7
          generalize tabT l2 = A at *
          generalize tabT ys = B at *
          by_cases hA : A.length = l2.length
          · by_cases hB : B.length = l2.length
            · have he := hAB.out hA hB
              subst he
              obtain ⟨pa, ca, rfl⟩ := rA.shapeN hA
              obtain ⟨pb, cb, rfl⟩ := rB.shapeN hA
              clear hA hB lA lB hAB
              go_wp2_with fail
              refine (sameRate _ _ _ _ _ rA rB).mono ?_
              rintro e w9 ⟨rfl, n9, hw9⟩
              have c9 : Below w8.heap.size w8 w9 := by rw [hw9]; exact below_drawn _ _ _
              clear hw9
              rw [decide_eq_true rfl]
              go_wp2_with fail
              with_reducible refine (vatRuns_walk _).mono ?_
              rintro e w10 ⟨rfl, c10⟩
              go_wp2_with fail
              go_ret
              exact ⟨rfl, b_8.trans ((c9.trans (c10.mono c9.size)).mono b_8.size)⟩
            · obtain ⟨pa, ca, rfl⟩ := rA.shapeN hA
              obtain ⟨pb, cb, rfl⟩ := rB.shape
              have n1 : (B.length != l2.length) = true := by simpa using hB
              have n2 : ((B.length : Int) != (l2.length : Int)) = true := by simp; omega
              have n3 : (B.length == l2.length) = false := by simpa using hB
              have n4 : ((B.length : Int) == (l2.length : Int)) = false := by simp; omega
              clear hA hB lA
              clear hAB
              go_wp2_with fail
              with_reducible refine (vatRuns_walk _).mono ?_
              rintro e w10 ⟨rfl, c10⟩
              go_wp2_with fail
              go_ret
              exact ⟨rfl, b_8.trans (c10.mono b_8.size)⟩
          · obtain ⟨pa, ca, rfl⟩ := rA.shape
            obtain ⟨pb, cb, rfl⟩ := rB.shape
            have n1 : (A.length != l2.length) = true := by simpa using hA
            have n2 : ((A.length : Int) != (l2.length : Int)) = true := by simp; omega
            have n3 : (A.length == l2.length) = false := by simpa using hA
            have n4 : ((A.length : Int) == (l2.length : Int)) = false := by simp; omega
            clear hA
            clear hAB
            go_wp2_with fail
            with_reducible refine (vatRuns_walk _).mono ?_
            rintro e w10 ⟨rfl, c10⟩
            go_wp2_with fail
            go_ret
            exact ⟨rfl, b_8.trans (c10.mono b_8.size)⟩
        · skip
          have i1 : (k : Int) < (tl.length : Int) := by omega
          have i2 : ¬ (k : Int) < 30 := by omega
          go_wp2_with fail
          with_reducible refine (vatTable _ l2 _ hlr).mono ?_
          rintro e w7 ⟨⟨va, rfl, ownA⟩, c7⟩
          have rY7 := rY.ext c7
          have b_7 := b_r.trans (c7.mono b_r.size)
          clear hlr rY c7 b_r
          go_wp2_with fail
          with_reducible refine (vatTable _ ys _ rY7).mono ?_
          rintro e w8 ⟨⟨vb, rfl, ownB⟩, c8⟩
          have rA := ownA.rd.ext c8
          have rB := ownB.rd
          have b_8 := b_7.trans (c8.mono b_7.size)
          clear rY7 c8 ownA ownB b_7
          generalize tabT l2 = A at *
          generalize tabT ys = B at *
          by_cases hA : A.length = l2.length
          · by_cases hB : B.length = l2.length
            · have he := hAB.out hA hB
              subst he
              obtain ⟨pa, ca, rfl⟩ := rA.shapeN hA
              obtain ⟨pb, cb, rfl⟩ := rB.shapeN hA
              clear hA hB lA lB hAB
              go_wp2_with fail
              refine (sameRate _ _ _ _ _ rA rB).mono ?_
              rintro e w9 ⟨rfl, n9, hw9⟩
              have c9 : Below w8.heap.size w8 w9 := by rw [hw9]; exact below_drawn _ _ _
              clear hw9
              rw [decide_eq_true rfl]
              go_wp2_with fail
              with_reducible refine (vatRuns_walk _).mono ?_
              rintro e w10 ⟨rfl, c10⟩
              go_wp2_with fail
              go_ret
              exact ⟨rfl, b_8.trans ((c9.trans (c10.mono c9.size)).mono b_8.size)⟩
            · obtain ⟨pa, ca, rfl⟩ := rA.shapeN hA
              obtain ⟨pb, cb, rfl⟩ := rB.shape
              have n1 : (B.length != l2.length) = true := by simpa using hB
              have n2 : ((B.length : Int) != (l2.length : Int)) = true := by simp; omega
              have n3 : (B.length == l2.length) = false := by simpa using hB
              have n4 : ((B.length : Int) == (l2.length : Int)) = false := by simp; omega
              clear hA hB lA
              clear hAB
              go_wp2_with fail
              with_reducible refine (vatRuns_walk _).mono ?_
              rintro e w10 ⟨rfl, c10⟩
              go_wp2_with fail
              go_ret
              exact ⟨rfl, b_8.trans (c10.mono b_8.size)⟩
          · obtain ⟨pa, ca, rfl⟩ := rA.shape
            obtain ⟨pb, cb, rfl⟩ := rB.shape
            have n1 : (A.length != l2.length) = true := by simpa using hA
            have n2 : ((A.length : Int) != (l2.length : Int)) = true := by simp; omega
            have n3 : (A.length == l2.length) = false := by simpa using hA
            have n4 : ((A.length : Int) == (l2.length : Int)) = false := by simp; omega
            clear hA
            clear hAB
            go_wp2_with fail
            with_reducible refine (vatRuns_walk _).mono ?_
            rintro e w10 ⟨rfl, c10⟩
            go_wp2_with fail
            go_ret
            exact ⟨rfl, b_8.trans (c10.mono b_8.size)⟩
        · skip
          have i1 : (k : Int) < (tl.length : Int) := by omega
          have i2 : (k : Int) < 30 := by omega
          have i3 : ¬ (1 : Int) < (l2.length : Int) := by omega
          go_wp2_with fail
          with_reducible refine (vatTable _ l2 _ hlr).mono ?_
          rintro e w7 ⟨⟨va, rfl, ownA⟩, c7⟩
          have rY7 := rY.ext c7
          have b_7 := b_r.trans (c7.mono b_r.size)
          clear hlr rY c7 b_r
          go_wp2_with fail
          with_reducible refine (vatTable _ ys _ rY7).mono ?_
          rintro e w8 ⟨⟨vb, rfl, ownB⟩, c8⟩
          have rA := ownA.rd.ext c8
          have rB := ownB.rd
          have b_8 := b_7.trans (c8.mono b_7.size)
          clear rY7 c8 ownA ownB b_7
          generalize tabT l2 = A at *
          generalize tabT ys = B at *
          by_cases hA : A.length = l2.length
          · by_cases hB : B.length = l2.length
            · have he := hAB.out hA hB
              subst he
              obtain ⟨pa, ca, rfl⟩ := rA.shapeN hA
              obtain ⟨pb, cb, rfl⟩ := rB.shapeN hA
              clear hA hB lA lB hAB
              go_wp2_with fail
              refine (sameRate _ _ _ _ _ rA rB).mono ?_
              rintro e w9 ⟨rfl, n9, hw9⟩
              have c9 : Below w8.heap.size w8 w9 := by rw [hw9]; exact below_drawn _ _ _
              clear hw9
              rw [decide_eq_true rfl]
              go_wp2_with fail
              with_reducible refine (vatRuns_walk _).mono ?_
              rintro e w10 ⟨rfl, c10⟩
              go_wp2_with fail
              go_ret
              exact ⟨rfl, b_8.trans ((c9.trans (c10.mono c9.size)).mono b_8.size)⟩
            · obtain ⟨pa, ca, rfl⟩ := rA.shapeN hA
              obtain ⟨pb, cb, rfl⟩ := rB.shape
              have n1 : (B.length != l2.length) = true := by simpa using hB
              have n2 : ((B.length : Int) != (l2.length : Int)) = true := by simp; omega
              have n3 : (B.length == l2.length) = false := by simpa using hB
              have n4 : ((B.length : Int) == (l2.length : Int)) = false := by simp; omega
              clear hA hB lA
              clear hAB
              go_wp2_with fail
              with_reducible refine (vatRuns_walk _).mono ?_
              rintro e w10 ⟨rfl, c10⟩
              go_wp2_with fail
              go_ret
              exact ⟨rfl, b_8.trans (c10.mono b_8.size)⟩
          · obtain ⟨pa, ca, rfl⟩ := rA.shape
            obtain ⟨pb, cb, rfl⟩ := rB.shape
            have n1 : (A.length != l2.length) = true := by simpa using hA
            have n2 : ((A.length : Int) != (l2.length : Int)) = true := by simp; omega
            have n3 : (A.length == l2.length) = false := by simpa using hA
            have n4 : ((A.length : Int) == (l2.length : Int)) = false := by simp; omega
            clear hA
            clear hAB
            go_wp2_with fail
            with_reducible refine (vatRuns_walk _).mono ?_
            rintro e w10 ⟨rfl, c10⟩
            go_wp2_with fail
            go_ret
            exact ⟨rfl, b_8.trans (c10.mono b_8.size)⟩
  · skip
    have hs := run_sub_to tRate (P := Try.prog) hv .i64 12 12 rfl (by omega)
    have hi12 : (12 : Int) < (l.length : Int) := by omega
    generalize subV (.slice p l.length cap) 0 12 5 = u at *
    have hn12 : (l.take 12).length ≤ 12 := by simp; omega
    generalize l.take 12 = l2 at *
    obtain ⟨pu, cu, rfl⟩ := hsub.shape
    have hl_0 := hsub
    clear hv hsub
    go_enter Try.func7, Try.ntmps7
    have c1 : Below w0.heap.size w0 (w0.alloc (.cells #[] 25)) := below_alloc w0 _
    have own1 : OwnR rateE (w0.alloc (.cells #[] 25)) w0.heap.size 25 (.slice (some ⟨w0.heap.size, 0, none⟩) 0 0) [] := OwnR.litAt rateE w0 #[] _ [] 0 w0.heap.size w0.heap.size rfl rfl rfl (Nat.zero_le _) (Nat.le_refl _)
    have hl_1 := hl_0.ext c1
    have hc1 : (([] : List Rate).length + l2.length) * 48 ≤ 140737488355328 := by simp; omega
    have Hc1 := Lib.hid hc1
    clear hc1
    go_wp2_with (first
      | (at_builtin; refine wpList_appR (E := rateE) tRate rfl rfl own1 rfl hl_1 rfl Hc1.out c1.size ?_; intro v6 w6 own6 g6 b6; rw [List.nil_append] at own6; clear g6)
      | fail)
    clear hs
    have b_6 : Below w0.heap.size w0 w6 := c1.trans b6
    have hl_6 := hl_0.ext b_6
    have HL := Lib.hid hl_6
    have HT6 := Lib.hid (HTL.out.ext b_6)
    have sM := fun k h => own6.lt k h
    have SM := Lib.hid sM
    obtain ⟨pm, cm, rfl⟩ := own6.rd.shape
    have BB := Lib.hid b_6
    have s06 := b_6.size
    clear own1 c1 hl_1 hl_6 sM b6 b_6
    go_loopw [6] (fun i wr => ∃ (k : Nat) (ys : List Rate), k ≤ tl.length ∧ i = .int .i64 k ∧ OwnR rateE wr w0.heap.size 25 (.slice pm l2.length cm) ys ∧ Hid (ys.length = l2.length) ∧ Hid (∀ x, x ∈ ys ↔ x ∈ l2) ∧ Hid (w6.grownBy wr (Value.slice pm l2.length cm).ownBlock)) (fun i _ => tl.length - (intOf i).toNat)
    case atStart => exact ⟨0, l2, by omega, rfl, own6, rfl, fun x => Iff.rfl, grown_below (Below.refl _ _)⟩
    case round =>
      obtain ⟨k, ys, hk, rfl, ownY, hyl, hmem, hgr⟩ := hrel
      clear own6
      have hki0 : (0 : Int) ≤ (k : Int) := by omega
      have hsplit : (k < tl.length ∧ k < 30 ∧ 1 < l2.length) ∨ (¬ k < tl.length) ∨ (k < tl.length ∧ ¬ k < 30) ∨ (k < tl.length ∧ k < 30 ∧ ¬ 1 < l2.length) := by omega
      rcases hsplit with ⟨k1, k2, k3⟩ | hex
      · skip
        have i1 : (k : Int) < (tl.length : Int) := by omega
        have i2 : (k : Int) < 30 := by omega
        have i3 : (1 : Int) < (l2.length : Int) := by omega
        obtain ⟨bt, ot, rfl⟩ := Rd.blk HT6.out (by omega)
        have dT : Below w0.heap.size w6 wr := below_grown hgr.out s06 (fun k h => (SM.out k h).1)
        have tB : bt < w0.heap.size := by have := HTL.out.at_ k1 0 (by decide); exact World.block_lt_of_cell? w0 _ this
        have t0 : wr.cell? ⟨bt, ot + k, none⟩ = some (.int .i64 tl[k]) := by
          have h := HT6.out.at_ k1 0 (by decide)
          rw [dT.cell (p := ⟨bt, ot + k, none⟩) tB]; simpa [intsE] using h
        have hwb := within_bounds tl[k] 1 ((l2.length : Int) - 1) (by omega)
        have hcw := fun w => withinCalls tl[k] 1 ((l2.length : Int) - 1) w (by omega) (by omega) (by omega)
        obtain ⟨q, hq⟩ : ∃ q : Nat, within tl[k] 1 ((l2.length : Int) - 1) = (q : Int) := ⟨(within tl[k] 1 ((l2.length : Int) - 1)).toNat, by omega⟩
        rw [hq] at hwb hcw
        have hq1 : 1 ≤ q := by omega
        have hq2 : q < l2.length := by omega
        clear hq hwb
        generalize tl[k] = tv at *
        have hw1 : IntKind.i64.wrap ((l2.length : Int) - 1) = (l2.length : Int) - 1 := by rw [IntKind.wrap_i64]; omega
        go_wp2_with fail
        with_reducible refine (hcw _).mono ?_
        rintro e w' ⟨rfl, rfl⟩
        obtain ⟨gB, cB, hsh, e1, e2, e3, e4⟩ := ownY.head (by rw [hyl.out]; omega)
        rw [hyl.out] at hsh
        simp only [Value.slice.injEq, true_and] at hsh
        obtain ⟨rfl, rfl⟩ := hsh
        rw [hyl.out] at e3
        unfold maxLen at e4
        have c0 := ownY.cellAt hyl.out.symm 0 (by rw [hyl.out]; omega) 0 (by decide)
        have f0 := ownY.frozenAt hyl.out.symm (0 * 5 + 0)
        have d0 := ownY.cellAt hyl.out.symm q (by rw [hyl.out]; omega) 0 (by decide)
        have z0 := ownY.frozenAt hyl.out.symm (q * 5)
        have c1 := ownY.cellAt hyl.out.symm 0 (by rw [hyl.out]; omega) 1 (by decide)
        have f1 := ownY.frozenAt hyl.out.symm (0 * 5 + 1)
        have d1 := ownY.cellAt hyl.out.symm q (by rw [hyl.out]; omega) 1 (by decide)
        have z1 := ownY.frozenAt hyl.out.symm (q * 5 + 1)
        have c2 := ownY.cellAt hyl.out.symm 0 (by rw [hyl.out]; omega) 2 (by decide)
        have f2 := ownY.frozenAt hyl.out.symm (0 * 5 + 2)
        have d2 := ownY.cellAt hyl.out.symm q (by rw [hyl.out]; omega) 2 (by decide)
        have z2 := ownY.frozenAt hyl.out.symm (q * 5 + 2)
        have c3 := ownY.cellAt hyl.out.symm 0 (by rw [hyl.out]; omega) 3 (by decide)
        have f3 := ownY.frozenAt hyl.out.symm (0 * 5 + 3)
        have d3 := ownY.cellAt hyl.out.symm q (by rw [hyl.out]; omega) 3 (by decide)
        have z3 := ownY.frozenAt hyl.out.symm (q * 5 + 3)
        have c4 := ownY.cellAt hyl.out.symm 0 (by rw [hyl.out]; omega) 4 (by decide)
        have f4 := ownY.frozenAt hyl.out.symm (0 * 5 + 4)
        have d4 := ownY.cellAt hyl.out.symm q (by rw [hyl.out]; omega) 4 (by decide)
        have z4 := ownY.frozenAt hyl.out.symm (q * 5 + 4)
        obtain ⟨own2, gr2⟩ := ownY.put hyl.out.symm 0 (by rw [hyl.out]; omega) (ys[q]'(by rw [hyl.out]; omega))
        obtain ⟨own3, gr3⟩ := own2.put (by rw [List.length_set]; exact hyl.out.symm) q (by rw [List.length_set, hyl.out]; omega) (ys[0]'(by rw [hyl.out]; omega))
        have hsw := Lib.hid (swap_mem (k := q) (by rw [hyl.out]; omega) (by rw [hyl.out]; omega) hmem.out)
        have hlen : Hid (((ys.set 0 (ys[q]'(by rw [hyl.out]; omega))).set q (ys[0]'(by rw [hyl.out]; omega))).length = l2.length) := by show _ = _; rw [List.length_set, List.length_set]; exact hyl.out
        obtain ⟨y2, hy2⟩ : ∃ z, (ys.set 0 (ys[q]'(by rw [hyl.out]; omega))).set q (ys[0]'(by rw [hyl.out]; omega)) = z := ⟨_, rfl⟩
        rw [hy2] at own3 hsw hlen
        clear hy2 own2
        generalize ys[0]'_ = a at *
        generalize ys[q]'_ = b at *
        simp only [rateE, List.getElem?_cons_zero, List.getElem?_cons_succ, Nat.zero_mul, Nat.zero_add, Nat.add_zero] at c0 d0 f0 c1 d1 f1 c2 d2 f2 c3 d3 f3 c4 d4 f4
        have GR := Lib.hid (grown_tr (grown_tr hgr.out gr2) gr3)
        have OW := Lib.hid own3
        clear own3 gr2 gr3 hgr
        have hq0 : (0 : Int) ≤ (q : Int) := by omega
        have hql : (q : Int) < (l2.length : Int) := by omega
        clear hcw hw1
        go_wp2_with fail
        go_region_with (fail)
        all_goals
          go_wp2_with fail
          go_roundw
          case rel => exact ⟨k + 1, y2, by omega, by go_num, OW.out.drew, hlen, hsw, grown_drew GR.out⟩
          case measure => first | (simp [intOf]; done) | (simp [intOf]; omega)
      · have dW : Below w0.heap.size w6 wr := below_grown hgr.out s06 (fun k h => (SM.out k h).1)
        have b_r := BB.out.trans dW
        have hlr := hl_0.ext b_r
        have rY := ownY.rd
        have hly := hyl.out
        have lA := tabT_len l2 (by omega)
        have lB := tabT_len ys (by omega)
        rw [hly] at lB
        have hAB : Hid ((tabT l2).length = l2.length → (tabT ys).length = l2.length → tabT l2 = tabT ys) := fun h1 h2 => by
          rw [tabT_short (by omega)] at h1 ⊢
          rw [tabT_short (l := ys) (by omega)] at h2 ⊢
          exact tab_same (fun x => (hmem.out x).symm) h1 (by omega)
        clear hgr dW ownY hly
        rcases hex with x1 | ⟨x1, x2⟩ | ⟨x1, x2, x3⟩
        · skip
          have i1 : ¬ (k : Int) < (tl.length : Int) := by omega
          go_wp2_with fail
          with_reducible refine (vatTable _ l2 _ hlr).mono ?_
          rintro e w7 ⟨⟨va, rfl, ownA⟩, c7⟩
          have rY7 := rY.ext c7
          have b_7 := b_r.trans (c7.mono b_r.size)
          clear hlr rY c7 b_r
          go_wp2_with fail
          with_reducible refine (vatTable _ ys _ rY7).mono ?_
          rintro e w8 ⟨⟨vb, rfl, ownB⟩, c8⟩
          have rA := ownA.rd.ext c8
          have rB := ownB.rd
          have b_8 := b_7.trans (c8.mono b_7.size)
          clear rY7 c8 ownA ownB b_7
          generalize tabT l2 = A at *
          generalize tabT ys = B at *
          by_cases hA : A.length = l2.length
          · by_cases hB : B.length = l2.length
            · have he := hAB.out hA hB
              subst he
              obtain ⟨pa, ca, rfl⟩ := rA.shapeN hA
              obtain ⟨pb, cb, rfl⟩ := rB.shapeN hA
              clear hA hB lA lB hAB
              go_wp2_with fail
              refine (sameRate _ _ _ _ _ rA rB).mono ?_
              rintro e w9 ⟨rfl, n9, hw9⟩
              have c9 : Below w8.heap.size w8 w9 := by rw [hw9]; exact below_drawn _ _ _
              clear hw9
              rw [decide_eq_true rfl]
              go_wp2_with fail
              with_reducible refine (vatRuns_walk _).mono ?_
              rintro e w10 ⟨rfl, c10⟩
              go_wp2_with fail
              go_ret
              exact ⟨rfl, b_8.trans ((c9.trans (c10.mono c9.size)).mono b_8.size)⟩
            · obtain ⟨pa, ca, rfl⟩ := rA.shapeN hA
              obtain ⟨pb, cb, rfl⟩ := rB.shape
              have n1 : (B.length != l2.length) = true := by simpa using hB
              have n2 : ((B.length : Int) != (l2.length : Int)) = true := by simp; omega
              have n3 : (B.length == l2.length) = false := by simpa using hB
              have n4 : ((B.length : Int) == (l2.length : Int)) = false := by simp; omega
              clear hA hB lA
              clear hAB
              go_wp2_with fail
              with_reducible refine (vatRuns_walk _).mono ?_
              rintro e w10 ⟨rfl, c10⟩
              go_wp2_with fail
              go_ret
              exact ⟨rfl, b_8.trans (c10.mono b_8.size)⟩
          · obtain ⟨pa, ca, rfl⟩ := rA.shape
            obtain ⟨pb, cb, rfl⟩ := rB.shape
            have n1 : (A.length != l2.length) = true := by simpa using hA
            have n2 : ((A.length : Int) != (l2.length : Int)) = true := by simp; omega
            have n3 : (A.length == l2.length) = false := by simpa using hA
            have n4 : ((A.length : Int) == (l2.length : Int)) = false := by simp; omega
            clear hA
            clear hAB
            go_wp2_with fail
            with_reducible refine (vatRuns_walk _).mono ?_
            rintro e w10 ⟨rfl, c10⟩
            go_wp2_with fail
            go_ret
            exact ⟨rfl, b_8.trans (c10.mono b_8.size)⟩
        · skip
          have i1 : (k : Int) < (tl.length : Int) := by omega
          have i2 : ¬ (k : Int) < 30 := by omega
          go_wp2_with fail
          with_reducible refine (vatTable _ l2 _ hlr).mono ?_
          rintro e w7 ⟨⟨va, rfl, ownA⟩, c7⟩
          have rY7 := rY.ext c7
          have b_7 := b_r.trans (c7.mono b_r.size)
          clear hlr rY c7 b_r
          go_wp2_with fail
          with_reducible refine (vatTable _ ys _ rY7).mono ?_
          rintro e w8 ⟨⟨vb, rfl, ownB⟩, c8⟩
          have rA := ownA.rd.ext c8
          have rB := ownB.rd
          have b_8 := b_7.trans (c8.mono b_7.size)
          clear rY7 c8 ownA ownB b_7
          generalize tabT l2 = A at *
          generalize tabT ys = B at *
          by_cases hA : A.length = l2.length
          · by_cases hB : B.length = l2.length
            · have he := hAB.out hA hB
              subst he
              obtain ⟨pa, ca, rfl⟩ := rA.shapeN hA
              obtain ⟨pb, cb, rfl⟩ := rB.shapeN hA
              clear hA hB lA lB hAB
              go_wp2_with fail
              refine (sameRate _ _ _ _ _ rA rB).mono ?_
              rintro e w9 ⟨rfl, n9, hw9⟩
              have c9 : Below w8.heap.size w8 w9 := by rw [hw9]; exact below_drawn _ _ _
              clear hw9
              rw [decide_eq_true rfl]
              go_wp2_with fail
              with_reducible refine (vatRuns_walk _).mono ?_
              rintro e w10 ⟨rfl, c10⟩
              go_wp2_with fail
              go_ret
              exact ⟨rfl, b_8.trans ((c9.trans (c10.mono c9.size)).mono b_8.size)⟩
            · obtain ⟨pa, ca, rfl⟩ := rA.shapeN hA
              obtain ⟨pb, cb, rfl⟩ := rB.shape
              have n1 : (B.length != l2.length) = true := by simpa using hB
              have n2 : ((B.length : Int) != (l2.length : Int)) = true := by simp; omega
              have n3 : (B.length == l2.length) = false := by simpa using hB
              have n4 : ((B.length : Int) == (l2.length : Int)) = false := by simp; omega
              clear hA hB lA
              clear hAB
              go_wp2_with fail
              with_reducible refine (vatRuns_walk _).mono ?_
              rintro e w10 ⟨rfl, c10⟩
              go_wp2_with fail
              go_ret
              exact ⟨rfl, b_8.trans (c10.mono b_8.size)⟩
          · obtain ⟨pa, ca, rfl⟩ := rA.shape
            obtain ⟨pb, cb, rfl⟩ := rB.shape
            have n1 : (A.length != l2.length) = true := by simpa using hA
            have n2 : ((A.length : Int) != (l2.length : Int)) = true := by simp; omega
            have n3 : (A.length == l2.length) = false := by simpa using hA
            have n4 : ((A.length : Int) == (l2.length : Int)) = false := by simp; omega
            clear hA
            clear hAB
            go_wp2_with fail
            with_reducible refine (vatRuns_walk _).mono ?_
            rintro e w10 ⟨rfl, c10⟩
            go_wp2_with fail
            go_ret
            exact ⟨rfl, b_8.trans (c10.mono b_8.size)⟩
        · skip
          have i1 : (k : Int) < (tl.length : Int) := by omega
          have i2 : (k : Int) < 30 := by omega
          have i3 : ¬ (1 : Int) < (l2.length : Int) := by omega
          go_wp2_with fail
          with_reducible refine (vatTable _ l2 _ hlr).mono ?_
          rintro e w7 ⟨⟨va, rfl, ownA⟩, c7⟩
          have rY7 := rY.ext c7
          have b_7 := b_r.trans (c7.mono b_r.size)
          clear hlr rY c7 b_r
          go_wp2_with fail
          with_reducible refine (vatTable _ ys _ rY7).mono ?_
          rintro e w8 ⟨⟨vb, rfl, ownB⟩, c8⟩
          have rA := ownA.rd.ext c8
          have rB := ownB.rd
          have b_8 := b_7.trans (c8.mono b_7.size)
          clear rY7 c8 ownA ownB b_7
          generalize tabT l2 = A at *
          generalize tabT ys = B at *
          by_cases hA : A.length = l2.length
          · by_cases hB : B.length = l2.length
            · have he := hAB.out hA hB
              subst he
              obtain ⟨pa, ca, rfl⟩ := rA.shapeN hA
              obtain ⟨pb, cb, rfl⟩ := rB.shapeN hA
              clear hA hB lA lB hAB
              go_wp2_with fail
              refine (sameRate _ _ _ _ _ rA rB).mono ?_
              rintro e w9 ⟨rfl, n9, hw9⟩
              have c9 : Below w8.heap.size w8 w9 := by rw [hw9]; exact below_drawn _ _ _
              clear hw9
              rw [decide_eq_true rfl]
              go_wp2_with fail
              with_reducible refine (vatRuns_walk _).mono ?_
              rintro e w10 ⟨rfl, c10⟩
              go_wp2_with fail
              go_ret
              exact ⟨rfl, b_8.trans ((c9.trans (c10.mono c9.size)).mono b_8.size)⟩
            · obtain ⟨pa, ca, rfl⟩ := rA.shapeN hA
              obtain ⟨pb, cb, rfl⟩ := rB.shape
              have n1 : (B.length != l2.length) = true := by simpa using hB
              have n2 : ((B.length : Int) != (l2.length : Int)) = true := by simp; omega
              have n3 : (B.length == l2.length) = false := by simpa using hB
              have n4 : ((B.length : Int) == (l2.length : Int)) = false := by simp; omega
              clear hA hB lA
              clear hAB
              go_wp2_with fail
              with_reducible refine (vatRuns_walk _).mono ?_
              rintro e w10 ⟨rfl, c10⟩
              go_wp2_with fail
              go_ret
              exact ⟨rfl, b_8.trans (c10.mono b_8.size)⟩
          · obtain ⟨pa, ca, rfl⟩ := rA.shape
            obtain ⟨pb, cb, rfl⟩ := rB.shape
            have n1 : (A.length != l2.length) = true := by simpa using hA
            have n2 : ((A.length : Int) != (l2.length : Int)) = true := by simp; omega
            have n3 : (A.length == l2.length) = false := by simpa using hA
            have n4 : ((A.length : Int) == (l2.length : Int)) = false := by simp; omega
            clear hA
            clear hAB
            go_wp2_with fail
            with_reducible refine (vatRuns_walk _).mono ?_
            rintro e w10 ⟨rfl, c10⟩
            go_wp2_with fail
            go_ret
            exact ⟨rfl, b_8.trans (c10.mono b_8.size)⟩
end Go.Proofs.Ytpobhlnlnplbdaa
