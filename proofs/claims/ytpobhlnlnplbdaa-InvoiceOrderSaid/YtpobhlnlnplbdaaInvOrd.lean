/- The walk of InvoiceOrder. -/
import Derived.Test.YtpobhlnlnplbdaaInvMir
import Derived.Test.YtpobhlnlnplbdaaInvOrdP
import Derived.Deep.RegionWith
namespace Go.Proofs.Ytpobhlnlnplbdaa
open Go Go.RowKit
set_option maxHeartbeats 8000000 in
set_option maxRecDepth 100000 in
theorem invoiceOrder_walk (vt : Value) (T : List Rate) (d : Day) (vl : Value) (ls : List Ln) (vi : Value) (tl : List Int) (w : World) (ht : Rd rateE w vt T) (hv : Rd lnE w vl ls) (hti : Rd intsE w vi tl) :
    Calls Try.prog 13 #[vt, .agg #[.int .i64 d.y, .int .i64 d.m, .int .i64 d.d], vl, vi] w fun e w' => e = .returned (.bool true) ∧ Below w.heap.size w w' := by
  obtain ⟨w0, hw0⟩ : ∃ w0, w0 = w := ⟨_, rfl⟩
  rw [← hw0] at ht hv hti ⊢
  clear hw0
  obtain ⟨pt, ct, rfl, hi1, hi2, hi3, hi4⟩ := hti.form
  clear hi3 hi4
  unfold maxLen at hi2
  have hb1 := below_alloc w0 (.cells #[.int .i64 d.y, .int .i64 d.m, .int .i64 d.d] 23)
  have kd := Blk.new w0 #[.int .i64 d.y, .int .i64 d.m, .int .i64 d.d] 23
  have b_1 := hb1
  have ht1 := ht.ext hb1
  have hv1 := hv.ext hb1
  have HTI := Lib.hid (hti.ext hb1)
  clear ht hv hb1 hti
  go_enter Try.func13, Try.ntmps13
  go_wp2_with fail
  generalize hw1 : w0.alloc (.cells #[.int .i64 d.y, .int .i64 d.m, .int .i64 d.d] 23) = w1 at *
  clear hw1
  with_reducible refine (invFew _ _ T ls _ ht1 hv1).mono ?_
  rintro e w' ⟨⟨x, y, rfl, rT, rL⟩, hw'⟩
  have hw2 := hw'.symm
  clear hw'
  subst hw2
  have hl20 : (ls.take 20).length ≤ 20 := by simp; omega
  generalize T.take 30 = T1 at *
  generalize ls.take 20 = l1 at *
  clear ht1 hv1
  obtain ⟨pL, cL, rfl⟩ := rL.shape
  have c1 : Below w1.heap.size w1 (w1.alloc (.cells #[] 60)) := below_alloc w1 _
  have own1 : OwnR lnE (w1.alloc (.cells #[] 60)) w1.heap.size 60 (.slice (some ⟨w1.heap.size, 0, none⟩) 0 0) [] := OwnR.litAt lnE w1 #[] _ [] 0 w1.heap.size w1.heap.size rfl rfl rfl (Nat.zero_le _) (Nat.le_refl _)
  have hl_1 := rL.ext c1
  have hc1 : (([] : List Ln).length + l1.length) * 48 ≤ 140737488355328 := by simp; omega
  have Hc1 := Lib.hid hc1
  clear hc1
  go_wp2_with (first
    | (at_builtin; refine wpList_appR (E := lnE) tLn rfl rfl own1 rfl hl_1 rfl Hc1.out c1.size ?_; intro v6 w6 own6 g6 b6; rw [List.nil_append] at own6; clear g6)
    | fail)
  have b16 : Below w1.heap.size w1 w6 := c1.trans b6
  obtain ⟨p6, c6, rfl⟩ := own6.rd.shape
  clear own1 c1 hl_1 b6 Hc1 rL
  go_loopw [10] (fun i wr => ∃ (k : Nat), k ≤ l1.length ∧ i = .int .i64 k ∧ OwnR lnE wr w1.heap.size 60 (.slice p6 l1.length c6) (mapTo clipL k l1) ∧ Below w1.heap.size w1 wr) (fun i _ => l1.length - (intOf i).toNat)
  case atStart => exact ⟨0, by omega, rfl, by rw [mapTo_zero]; exact own6, b16⟩
  case round =>
    clear own6 b16
    obtain ⟨k, hk, rfl, ow6, hb⟩ := hrel
    by_cases hlt : k < l1.length
    · have hi : (k : Int) < (l1.length : Int) := by omega
      have hi0 : (0 : Int) ≤ (k : Int) := by omega
      have N6 := Lib.hid (mapTo_len clipL k l1)
      obtain ⟨q6, r6, hsh, e1, e2, e3, e4⟩ := ow6.head (by rw [N6.out]; omega)
      rw [N6.out] at hsh e3
      simp only [Value.slice.injEq, true_and] at hsh
      obtain ⟨rfl, rfl⟩ := hsh
      unfold maxLen at e4
      have hkx : ∀ h, (mapTo clipL k l1)[k]'h = l1[k] := fun h => mapTo_at hlt h
      have S67 := Lib.hid (mapTo_set (f := clipL) hlt)
      obtain ⟨x, hx⟩ : ∃ x, l1[k] = x := ⟨_, rfl⟩
      obtain ⟨n, hn⟩ : ∃ n, within x.count 1 1000 = n := ⟨_, rfl⟩
      obtain ⟨pr, hpr⟩ : ∃ n, within x.price (-1099511627776) 1099511627776 = n := ⟨_, rfl⟩
      have hcl : clipL x = ⟨x.text, x.cat, n, pr⟩ := by unfold clipL; rw [hn, hpr]
      have hw1 := fun w => withinCalls x.count 1 1000 w (by decide) (by decide) (by decide)
      have hw2 := fun w => withinCalls x.price (-1099511627776) 1099511627776 w (by decide) (by decide) (by decide)
      rw [hn] at hw1
      rw [hpr] at hw2
      obtain ⟨oA, gA⟩ := ow6.stored N6.out.symm k (by rw [N6.out]; exact hlt) 2 (by decide) (.int .i64 n) rfl ⟨x.text, x.cat, n, x.price⟩ (by rw [hkx, hx]; rfl)
      have fA := ow6.frozenAt N6.out.symm (k * lnE.sz + 2)
      have fA3 := ow6.frozenAt N6.out.symm (k * lnE.sz + 3)
      obtain ⟨oB, gB⟩ := oA.stored (by rw [List.length_set]; exact N6.out.symm) k (by rw [List.length_set, N6.out]; exact hlt) 3 (by decide) (.int .i64 pr) rfl ⟨x.text, x.cat, n, pr⟩ (by rw [List.getElem_set_self]; rfl)
      have fB := oA.frozenAt (by rw [List.length_set]; exact N6.out.symm) (k * lnE.sz + 3)
      rw [List.set_set, ← hcl, ← hx, S67.out] at oB
      have u2 := ow6.cellAt N6.out.symm k (by rw [N6.out]; exact hlt) 2 (by decide)
      have u3 := ow6.cellAt N6.out.symm k (by rw [N6.out]; exact hlt) 3 (by decide)
      rw [hkx, hx] at u2 u3
      have u4 : (wr.setCell ⟨q6, k * lnE.sz + 2, none⟩ (.int .i64 n)).cell? ⟨q6, k * lnE.sz + 3, none⟩ = some (.int .i64 x.price) := (cell_set_ne _ (by omega)).trans u3
      have OB := Lib.hid oB
      have HBD := Lib.hid ((hb.setCell (p := ⟨q6, k * lnE.sz + 2, none⟩) e1 (.int .i64 n)).setCell (p := ⟨q6, k * lnE.sz + 3, none⟩) e1 (.int .i64 pr))
      simp only [show lnE.sz = 4 from rfl] at OB HBD fA fA3 fB u2 u3 u4
      simp only [lnE, List.getElem?_cons_zero, List.getElem?_cons_succ] at u2 u3
      clear oA oB gA gB ow6 hkx hcl hn hpr hb S67 hx
      go_wp2_with fail
      with_reducible refine (hw1 _).mono ?_
      rintro e w' ⟨rfl, rfl⟩
      go_wp2_with fail
      with_reducible refine (hw2 _).mono ?_
      rintro e w' ⟨rfl, rfl⟩
      go_wp2_with fail
      go_roundw
      case rel => exact ⟨k + 1, by omega, by go_num, OB.out, HBD.out⟩
      case measure => first | (simp [intOf]; done) | (simp [intOf]; omega)
    · have hi : ¬ (k : Int) < (l1.length : Int) := by omega
      have hkk : k = l1.length := by omega
      rw [hkk, mapTo_all] at ow6
      have hs := clip_small l1
      have hal : (l1.map clipL).length ≤ 20 := by simp; omega
      generalize l1.map clipL = a at *
      have HS := Lib.hid hs
      obtain ⟨zA, hzA⟩ : ∃ z, totalV (tabI T1) d a = z := ⟨_, rfl⟩
      have HA := Lib.hid hzA
      obtain ⟨w10, hw10⟩ : ∃ z, z = wr := ⟨_, rfl⟩
      subst hw10
      have b_10 := b_1.trans (hb.mono b_1.size)
      have rA_10 := ow6.rd
      have rT_10 := rT.ext hb
      have kd_10 := kd.ext hb
      have ti_10 := HTI.out.ext hb
      clear hzA hs ow6 rT kd b_1 hb HTI hkk
      go_wp2_with fail
      with_reducible refine (invTable _ T1 _ rT_10).mono ?_
      rintro e w11 ⟨⟨ut, rfl, ownT⟩, c11⟩
      have b_11 := b_10.trans (c11.mono b_10.size)
      have rA_11 := rA_10.ext c11
      have rT_11 := rT_10.ext c11
      have kd_11 := kd_10.ext c11
      have ti_11 := ti_10.ext c11
      clear b_10 rA_10 rT_10 kd_10 ti_10
      have rU_11 := ownT.rd
      clear ownT rT_11
      obtain ⟨pU, cU, rfl⟩ := rU_11.shape
      clear c11
      have d0 := kd_11.cell 0 _ rfl
      have d1 := kd_11.cell 1 _ rfl
      have d2 := kd_11.cell 2 _ rfl
      go_wp2_with fail
      clear d0 d1 d2
      with_reducible refine (invTotal _ _ (tabI T1) d a _ rU_11 rA_11 (small_fits HS.out)).mono ?_
      rintro e w12 ⟨hT, c12⟩
      rw [HA.out] at hT
      obtain ⟨vrX, rfl, ownrX⟩ := hT.uni
      clear hT
      have rX_12 := ownrX.rd
      clear ownrX
      obtain ⟨prX, crX, rfl⟩ := rX_12.shape
      have b_12 := b_11.trans (c12.mono b_11.size)
      have rA_12 := rA_11.ext c12
      have kd_12 := kd_11.ext c12
      have ti_12 := ti_11.ext c12
      have rU_12 := rU_11.ext c12
      clear b_11 rA_11 kd_11 ti_11 rU_11
      clear c12
      have c13 : Below w12.heap.size w12 (w12.alloc (.cells #[.int .i64 (resT zA).net, .int .i64 (resT zA).tax, .int .i64 (resT zA).gross, (.slice prX (resT zA).parts.length crX)] 56)) := below_alloc _ _
      have kA_13 := Blk.new w12 #[.int .i64 (resT zA).net, .int .i64 (resT zA).tax, .int .i64 (resT zA).gross, (.slice prX (resT zA).parts.length crX)] 56
      have b_13 := b_12.trans (c13.mono b_12.size)
      have rA_13 := rA_12.ext c13
      have kd_13 := kd_12.ext c13
      have ti_13 := ti_12.ext c13
      have rU_13 := rU_12.ext c13
      have rX_13 := rX_12.ext c13
      clear b_12 rA_12 kd_12 ti_12 rU_12 rX_12
      clear c13
      go_upto_region 10 with (fail)
      generalize hw13 : w12.alloc (.cells #[.int .i64 (resT zA).net, .int .i64 (resT zA).tax, .int .i64 (resT zA).gross, (.slice prX (resT zA).parts.length crX)] 56) = w13 at *
      clear hw13
      have c1 : Below w13.heap.size w13 (w13.alloc (.cells #[] 60)) := below_alloc w13 _
      have own1 : OwnR lnE (w13.alloc (.cells #[] 60)) w13.heap.size 60 (.slice (some ⟨w13.heap.size, 0, none⟩) 0 0) [] := OwnR.litAt lnE w13 #[] _ [] 0 w13.heap.size w13.heap.size rfl rfl rfl (Nat.zero_le _) (Nat.le_refl _)
      have hl_1 := rA_13.ext c1
      have hc1 : (([] : List Ln).length + a.length) * 48 ≤ 140737488355328 := by simp; omega
      have Hc1 := Lib.hid hc1
      clear hc1
      go_wp2_with (first
        | (at_builtin; refine wpList_appR (E := lnE) tLn rfl rfl own1 rfl hl_1 rfl Hc1.out c1.size ?_; intro v7 w7 own7 g7 b7; rw [List.nil_append] at own7; clear g7)
        | fail)
      have b_7 : Below w13.heap.size w13 w7 := c1.trans b7
      have sM := fun k h => own7.lt k h
      have SM := Lib.hid sM
      obtain ⟨p7, c7, rfl⟩ := own7.rd.shape
      have B7 := Lib.hid b_7
      have s07 := b_7.size
      have HT7 := Lib.hid (ti_13.ext b_7)
      have HTN := Lib.hid ti_13
      clear own1 c1 hl_1 sM b7 b_7 ti_13 rA_13
      go_loopw [15] (fun i wr => ∃ (k : Nat) (ys : List Ln), k ≤ tl.length ∧ i = .int .i64 k ∧ OwnR lnE wr w13.heap.size 60 (.slice p7 a.length c7) ys ∧ Hid (ys.length = a.length) ∧ Hid (ys.Perm a) ∧ Hid (w7.grownBy wr (Value.slice p7 a.length c7).ownBlock)) (fun i _ => tl.length - (intOf i).toNat)
      case atStart => exact ⟨0, a, by omega, rfl, own7, rfl, List.Perm.refl _, grown_below (Below.refl _ _)⟩
      case round =>
        obtain ⟨m, ys, hm, rfl, ownY, hyl, hperm, hgr⟩ := hrel
        clear own7
        have hki0 : (0 : Int) ≤ (m : Int) := by omega
        have hsplit : (m < tl.length ∧ m < 30 ∧ 1 < a.length) ∨ (¬ m < tl.length) ∨ (m < tl.length ∧ ¬ m < 30) ∨ (m < tl.length ∧ m < 30 ∧ ¬ 1 < a.length) := by omega
        rcases hsplit with ⟨k1, k2, k3⟩ | hex
        · skip
          have i1 : (m : Int) < (tl.length : Int) := by omega
          have i2 : (m : Int) < 30 := by omega
          have i3 : (1 : Int) < (a.length : Int) := by omega
          obtain ⟨bt, ot, rfl⟩ := Rd.blk HT7.out (by omega)
          have dT : Below w13.heap.size w7 wr := below_grown hgr.out s07 (fun k h => (SM.out k h).1)
          have tB : bt < w13.heap.size := by have := HTN.out.at_ k1 0 (by decide); exact World.block_lt_of_cell? w13 _ this
          have t0 : wr.cell? ⟨bt, ot + m, none⟩ = some (.int .i64 tl[m]) := by
            have h := HT7.out.at_ k1 0 (by decide)
            rw [dT.cell (p := ⟨bt, ot + m, none⟩) tB]; simpa [intsE] using h
          have hwb := within_bounds tl[m] 1 ((a.length : Int) - 1) (by omega)
          have hcw := fun w => withinCalls tl[m] 1 ((a.length : Int) - 1) w (by omega) (by omega) (by omega)
          obtain ⟨q, hq⟩ : ∃ q : Nat, within tl[m] 1 ((a.length : Int) - 1) = (q : Int) := ⟨(within tl[m] 1 ((a.length : Int) - 1)).toNat, by omega⟩
          rw [hq] at hwb hcw
          have hq1 : 1 ≤ q := by omega
          have hq2 : q < a.length := by omega
          clear hq hwb
          generalize tl[m] = tv at *
          have hw1 : IntKind.i64.wrap ((a.length : Int) - 1) = (a.length : Int) - 1 := by rw [IntKind.wrap_i64]; omega
          go_wp2_with fail
          with_reducible refine (hcw _).mono ?_
          rintro e w' ⟨rfl, rfl⟩
          obtain ⟨gB, cB, hsh, e1, e2, e3, e4⟩ := ownY.head (by rw [hyl.out]; omega)
          rw [hyl.out] at hsh
          simp only [Value.slice.injEq, true_and] at hsh
          obtain ⟨rfl, rfl⟩ := hsh
          rw [hyl.out] at e3
          unfold maxLen at e4
          have c0 := ownY.cellAt hyl.out.symm 0 (by rw [hyl.out]; omega) 0 (by decide)
          have f0 := ownY.frozenAt hyl.out.symm (0 * 4 + 0)
          have d0 := ownY.cellAt hyl.out.symm q (by rw [hyl.out]; omega) 0 (by decide)
          have z0 := ownY.frozenAt hyl.out.symm (q * 4)
          have c1 := ownY.cellAt hyl.out.symm 0 (by rw [hyl.out]; omega) 1 (by decide)
          have f1 := ownY.frozenAt hyl.out.symm (0 * 4 + 1)
          have d1 := ownY.cellAt hyl.out.symm q (by rw [hyl.out]; omega) 1 (by decide)
          have z1 := ownY.frozenAt hyl.out.symm (q * 4 + 1)
          have c2 := ownY.cellAt hyl.out.symm 0 (by rw [hyl.out]; omega) 2 (by decide)
          have f2 := ownY.frozenAt hyl.out.symm (0 * 4 + 2)
          have d2 := ownY.cellAt hyl.out.symm q (by rw [hyl.out]; omega) 2 (by decide)
          have z2 := ownY.frozenAt hyl.out.symm (q * 4 + 2)
          have c3 := ownY.cellAt hyl.out.symm 0 (by rw [hyl.out]; omega) 3 (by decide)
          have f3 := ownY.frozenAt hyl.out.symm (0 * 4 + 3)
          have d3 := ownY.cellAt hyl.out.symm q (by rw [hyl.out]; omega) 3 (by decide)
          have z3 := ownY.frozenAt hyl.out.symm (q * 4 + 3)
          obtain ⟨own2, gr2⟩ := ownY.put hyl.out.symm 0 (by rw [hyl.out]; omega) (ys[q]'(by rw [hyl.out]; omega))
          obtain ⟨own3, gr3⟩ := own2.put (by rw [List.length_set]; exact hyl.out.symm) q (by rw [List.length_set, hyl.out]; omega) (ys[0]'(by rw [hyl.out]; omega))
          have hsw := Lib.hid ((List.set_set_perm («as» := ys) (i := 0) (j := q) (by rw [hyl.out]; omega) (by rw [hyl.out]; omega)).trans hperm.out)
          have hlen : Hid (((ys.set 0 (ys[q]'(by rw [hyl.out]; omega))).set q (ys[0]'(by rw [hyl.out]; omega))).length = a.length) := by show _ = _; rw [List.length_set, List.length_set]; exact hyl.out
          obtain ⟨y2, hy2⟩ : ∃ z, (ys.set 0 (ys[q]'(by rw [hyl.out]; omega))).set q (ys[0]'(by rw [hyl.out]; omega)) = z := ⟨_, rfl⟩
          rw [hy2] at own3 hsw hlen
          clear hy2 own2
          generalize ys[0]'_ = s0 at *
          generalize ys[q]'_ = s1 at *
          simp only [lnE, List.getElem?_cons_zero, List.getElem?_cons_succ, Nat.zero_mul, Nat.zero_add, Nat.add_zero] at c0 d0 f0 c1 d1 f1 c2 d2 f2 c3 d3 f3
          have GR := Lib.hid (grown_tr (grown_tr hgr.out gr2) gr3)
          have OW := Lib.hid own3
          clear own3 gr2 gr3 hgr
          have hq0 : (0 : Int) ≤ (q : Int) := by omega
          have hql : (q : Int) < (a.length : Int) := by omega
          clear hcw hw1
          go_wp2_with fail
          go_region_with (fail)
          all_goals
            go_wp2_with fail
            go_roundw
            case rel => exact ⟨m + 1, y2, by omega, by go_num, OW.out.drew, hlen, hsw, grown_drew GR.out⟩
            case measure => first | (simp [intOf]; done) | (simp [intOf]; omega)
        · have dW : Below w13.heap.size w7 wr := below_grown hgr.out s07 (fun k h => (SM.out k h).1)
          have bz := B7.out.trans dW
          have rB_20 := ownY.rd
          have hM := order_law (T := tabI T1) (d := d) hperm.out.symm HS.out hal
          obtain ⟨zB, hzB⟩ : ∃ z, totalV (tabI T1) d ys = z := ⟨_, rfl⟩
          rw [HA.out, hzB] at hM
          have HB := Lib.hid hzB
          have HM := Lib.hid hM
          have hfy := small_fits (l := ys) (fun x hx => HS.out x (hperm.out.mem_iff.1 hx))
          have HF := Lib.hid hfy
          clear hM hzB hfy
          obtain ⟨w20, hw20⟩ : ∃ z, z = wr := ⟨_, rfl⟩
          subst hw20
          have kd_20 := kd_13.ext bz
          have rU_20 := rU_13.ext bz
          have rX_20 := rX_13.ext bz
          have kA_20 := kA_13.ext bz
          have b_20 := b_13.trans (bz.mono b_13.size)
          clear kd_13 rU_13 rX_13 kA_13 b_13 bz dW ownY hgr SM B7 s07 HT7 HTN
          rcases hex with h1 | ⟨h1, h2⟩ | ⟨h1, h2, h3⟩
          ·
            have i1 : ¬ (m : Int) < (tl.length : Int) := by omega
            have d0 := kd_20.cell 0 _ rfl
            have d1 := kd_20.cell 1 _ rfl
            have d2 := kd_20.cell 2 _ rfl
            go_wp2_with fail
            clear d0 d1 d2
            with_reducible refine (invTotal _ _ (tabI T1) d ys _ rU_20 rB_20 HF.out).mono ?_
            rintro e w21 ⟨hT, c21⟩
            rw [HB.out] at hT
            obtain ⟨vrY, rfl, ownrY⟩ := hT.uni
            clear hT
            have rY_21 := ownrY.rd
            clear ownrY
            obtain ⟨prY, crY, rfl⟩ := rY_21.shape
            have b_21 := b_20.trans (c21.mono b_20.size)
            have kd_21 := kd_20.ext c21
            have rU_21 := rU_20.ext c21
            have rX_21 := rX_20.ext c21
            have kA_21 := kA_20.ext c21
            have rB_21 := rB_20.ext c21
            clear b_20 kd_20 rU_20 rX_20 kA_20 rB_20
            clear c21
            have c22 : Below w21.heap.size w21 (w21.alloc (.cells #[.int .i64 (resT zB).net, .int .i64 (resT zB).tax, .int .i64 (resT zB).gross, (.slice prY (resT zB).parts.length crY)] 56)) := below_alloc _ _
            have kB_22 := Blk.new w21 #[.int .i64 (resT zB).net, .int .i64 (resT zB).tax, .int .i64 (resT zB).gross, (.slice prY (resT zB).parts.length crY)] 56
            have b_22 := b_21.trans (c22.mono b_21.size)
            have kd_22 := kd_21.ext c22
            have rU_22 := rU_21.ext c22
            have rX_22 := rX_21.ext c22
            have kA_22 := kA_21.ext c22
            have rB_22 := rB_21.ext c22
            have rY_22 := rY_21.ext c22
            clear b_21 kd_21 rU_21 rX_21 kA_21 rB_21 rY_21
            clear c22
            go_upto_region 17 with (fail)
            generalize hw22 : w21.alloc (.cells #[.int .i64 (resT zB).net, .int .i64 (resT zB).tax, .int .i64 (resT zB).gross, (.slice prY (resT zB).parts.length crY)] 56) = w22 at *
            clear hw22
            clear rB_22 rU_22 kd_22
            have m0 := kA_22.cell 0 _ rfl
            have m1 := kA_22.cell 1 _ rfl
            have m2 := kA_22.cell 2 _ rfl
            have m3 := kA_22.cell 3 _ rfl
            have n0 := kB_22.cell 0 _ rfl
            have n1 := kB_22.cell 1 _ rfl
            have n2 := kB_22.cell 2 _ rfl
            have n3 := kB_22.cell 3 _ rfl
            rcases HM.out with ⟨n1, n2, q1, q2⟩ | ⟨t, q1, q2⟩
            ·
              have hn1 : (n1 == 0) = false := ne_beq (totalV_ne (HA.out.trans q1))
              have hn2 : (n2 == 0) = false := ne_beq (totalV_ne (HB.out.trans q2))
              clear HM HA HB HS HF
              subst q1 q2
              simp only [resT, errT, tot0] at *
              have rX_9 : Rd partE w22 _ tot0.parts := rX_22
              have rY_9 : Rd partE w22 _ tot0.parts := rY_22
              go_wp2_with fail
              clear m0 m1 m2 m3
              refine (backSame tot0 tot0 _ _ _ rfl rX_9 rY_9).mono ?_
              rintro e w39 ⟨rfl, c39⟩
              have b39 := b_22.trans (c39.mono b_22.size)
              go_wp2_with fail
              with_reducible refine (invoiceRuns_walk _).mono ?_
              rintro e w40 ⟨rfl, c40⟩
              have b40 := b39.trans (c40.mono b39.size)
              go_wp2_with fail
              go_ret
              exact ⟨rfl, b40⟩
            ·
              clear HM HA HB HS HF
              subst q1 q2
              simp only [resT, errT] at *
              go_wp2_with fail
              clear m0 m1 m2 m3 n0 n1 n2 n3
              with_reducible refine (backSame _ _ _ _ _ rfl rX_22 rY_22).mono ?_
              rintro e w39 ⟨rfl, c39⟩
              have b39 := b_22.trans (c39.mono b_22.size)
              go_wp2_with fail
              with_reducible refine (invoiceRuns_walk _).mono ?_
              rintro e w40 ⟨rfl, c40⟩
              have b40 := b39.trans (c40.mono b39.size)
              go_wp2_with fail
              go_ret
              exact ⟨rfl, b40⟩
          ·
            have i1 : (m : Int) < (tl.length : Int) := by omega
            have i2 : ¬ (m : Int) < 30 := by omega
            have d0 := kd_20.cell 0 _ rfl
            have d1 := kd_20.cell 1 _ rfl
            have d2 := kd_20.cell 2 _ rfl
            go_wp2_with fail
            clear d0 d1 d2
            with_reducible refine (invTotal _ _ (tabI T1) d ys _ rU_20 rB_20 HF.out).mono ?_
            rintro e w21 ⟨hT, c21⟩
            rw [HB.out] at hT
            obtain ⟨vrY, rfl, ownrY⟩ := hT.uni
            clear hT
            have rY_21 := ownrY.rd
            clear ownrY
            obtain ⟨prY, crY, rfl⟩ := rY_21.shape
            have b_21 := b_20.trans (c21.mono b_20.size)
            have kd_21 := kd_20.ext c21
            have rU_21 := rU_20.ext c21
            have rX_21 := rX_20.ext c21
            have kA_21 := kA_20.ext c21
            have rB_21 := rB_20.ext c21
            clear b_20 kd_20 rU_20 rX_20 kA_20 rB_20
            clear c21
            have c22 : Below w21.heap.size w21 (w21.alloc (.cells #[.int .i64 (resT zB).net, .int .i64 (resT zB).tax, .int .i64 (resT zB).gross, (.slice prY (resT zB).parts.length crY)] 56)) := below_alloc _ _
            have kB_22 := Blk.new w21 #[.int .i64 (resT zB).net, .int .i64 (resT zB).tax, .int .i64 (resT zB).gross, (.slice prY (resT zB).parts.length crY)] 56
            have b_22 := b_21.trans (c22.mono b_21.size)
            have kd_22 := kd_21.ext c22
            have rU_22 := rU_21.ext c22
            have rX_22 := rX_21.ext c22
            have kA_22 := kA_21.ext c22
            have rB_22 := rB_21.ext c22
            have rY_22 := rY_21.ext c22
            clear b_21 kd_21 rU_21 rX_21 kA_21 rB_21 rY_21
            clear c22
            go_upto_region 17 with (fail)
            generalize hw22 : w21.alloc (.cells #[.int .i64 (resT zB).net, .int .i64 (resT zB).tax, .int .i64 (resT zB).gross, (.slice prY (resT zB).parts.length crY)] 56) = w22 at *
            clear hw22
            clear rB_22 rU_22 kd_22
            have m0 := kA_22.cell 0 _ rfl
            have m1 := kA_22.cell 1 _ rfl
            have m2 := kA_22.cell 2 _ rfl
            have m3 := kA_22.cell 3 _ rfl
            have n0 := kB_22.cell 0 _ rfl
            have n1 := kB_22.cell 1 _ rfl
            have n2 := kB_22.cell 2 _ rfl
            have n3 := kB_22.cell 3 _ rfl
            rcases HM.out with ⟨n1, n2, q1, q2⟩ | ⟨t, q1, q2⟩
            ·
              have hn1 : (n1 == 0) = false := ne_beq (totalV_ne (HA.out.trans q1))
              have hn2 : (n2 == 0) = false := ne_beq (totalV_ne (HB.out.trans q2))
              clear HM HA HB HS HF
              subst q1 q2
              simp only [resT, errT, tot0] at *
              have rX_9 : Rd partE w22 _ tot0.parts := rX_22
              have rY_9 : Rd partE w22 _ tot0.parts := rY_22
              go_wp2_with fail
              clear m0 m1 m2 m3
              refine (backSame tot0 tot0 _ _ _ rfl rX_9 rY_9).mono ?_
              rintro e w39 ⟨rfl, c39⟩
              have b39 := b_22.trans (c39.mono b_22.size)
              go_wp2_with fail
              with_reducible refine (invoiceRuns_walk _).mono ?_
              rintro e w40 ⟨rfl, c40⟩
              have b40 := b39.trans (c40.mono b39.size)
              go_wp2_with fail
              go_ret
              exact ⟨rfl, b40⟩
            ·
              clear HM HA HB HS HF
              subst q1 q2
              simp only [resT, errT] at *
              go_wp2_with fail
              clear m0 m1 m2 m3 n0 n1 n2 n3
              with_reducible refine (backSame _ _ _ _ _ rfl rX_22 rY_22).mono ?_
              rintro e w39 ⟨rfl, c39⟩
              have b39 := b_22.trans (c39.mono b_22.size)
              go_wp2_with fail
              with_reducible refine (invoiceRuns_walk _).mono ?_
              rintro e w40 ⟨rfl, c40⟩
              have b40 := b39.trans (c40.mono b39.size)
              go_wp2_with fail
              go_ret
              exact ⟨rfl, b40⟩
          ·
            have i1 : (m : Int) < (tl.length : Int) := by omega
            have i2 : (m : Int) < 30 := by omega
            have i3 : ¬ (1 : Int) < (a.length : Int) := by omega
            have d0 := kd_20.cell 0 _ rfl
            have d1 := kd_20.cell 1 _ rfl
            have d2 := kd_20.cell 2 _ rfl
            go_wp2_with fail
            clear d0 d1 d2
            with_reducible refine (invTotal _ _ (tabI T1) d ys _ rU_20 rB_20 HF.out).mono ?_
            rintro e w21 ⟨hT, c21⟩
            rw [HB.out] at hT
            obtain ⟨vrY, rfl, ownrY⟩ := hT.uni
            clear hT
            have rY_21 := ownrY.rd
            clear ownrY
            obtain ⟨prY, crY, rfl⟩ := rY_21.shape
            have b_21 := b_20.trans (c21.mono b_20.size)
            have kd_21 := kd_20.ext c21
            have rU_21 := rU_20.ext c21
            have rX_21 := rX_20.ext c21
            have kA_21 := kA_20.ext c21
            have rB_21 := rB_20.ext c21
            clear b_20 kd_20 rU_20 rX_20 kA_20 rB_20
            clear c21
            have c22 : Below w21.heap.size w21 (w21.alloc (.cells #[.int .i64 (resT zB).net, .int .i64 (resT zB).tax, .int .i64 (resT zB).gross, (.slice prY (resT zB).parts.length crY)] 56)) := below_alloc _ _
            have kB_22 := Blk.new w21 #[.int .i64 (resT zB).net, .int .i64 (resT zB).tax, .int .i64 (resT zB).gross, (.slice prY (resT zB).parts.length crY)] 56
            have b_22 := b_21.trans (c22.mono b_21.size)
            have kd_22 := kd_21.ext c22
            have rU_22 := rU_21.ext c22
            have rX_22 := rX_21.ext c22
            have kA_22 := kA_21.ext c22
            have rB_22 := rB_21.ext c22
            have rY_22 := rY_21.ext c22
            clear b_21 kd_21 rU_21 rX_21 kA_21 rB_21 rY_21
            clear c22
            go_upto_region 17 with (fail)
            generalize hw22 : w21.alloc (.cells #[.int .i64 (resT zB).net, .int .i64 (resT zB).tax, .int .i64 (resT zB).gross, (.slice prY (resT zB).parts.length crY)] 56) = w22 at *
            clear hw22
            clear rB_22 rU_22 kd_22
            have m0 := kA_22.cell 0 _ rfl
            have m1 := kA_22.cell 1 _ rfl
            have m2 := kA_22.cell 2 _ rfl
            have m3 := kA_22.cell 3 _ rfl
            have n0 := kB_22.cell 0 _ rfl
            have n1 := kB_22.cell 1 _ rfl
            have n2 := kB_22.cell 2 _ rfl
            have n3 := kB_22.cell 3 _ rfl
            rcases HM.out with ⟨n1, n2, q1, q2⟩ | ⟨t, q1, q2⟩
            ·
              have hn1 : (n1 == 0) = false := ne_beq (totalV_ne (HA.out.trans q1))
              have hn2 : (n2 == 0) = false := ne_beq (totalV_ne (HB.out.trans q2))
              clear HM HA HB HS HF
              subst q1 q2
              simp only [resT, errT, tot0] at *
              have rX_9 : Rd partE w22 _ tot0.parts := rX_22
              have rY_9 : Rd partE w22 _ tot0.parts := rY_22
              go_wp2_with fail
              clear m0 m1 m2 m3
              refine (backSame tot0 tot0 _ _ _ rfl rX_9 rY_9).mono ?_
              rintro e w39 ⟨rfl, c39⟩
              have b39 := b_22.trans (c39.mono b_22.size)
              go_wp2_with fail
              with_reducible refine (invoiceRuns_walk _).mono ?_
              rintro e w40 ⟨rfl, c40⟩
              have b40 := b39.trans (c40.mono b39.size)
              go_wp2_with fail
              go_ret
              exact ⟨rfl, b40⟩
            ·
              clear HM HA HB HS HF
              subst q1 q2
              simp only [resT, errT] at *
              go_wp2_with fail
              clear m0 m1 m2 m3 n0 n1 n2 n3
              with_reducible refine (backSame _ _ _ _ _ rfl rX_22 rY_22).mono ?_
              rintro e w39 ⟨rfl, c39⟩
              have b39 := b_22.trans (c39.mono b_22.size)
              go_wp2_with fail
              with_reducible refine (invoiceRuns_walk _).mono ?_
              rintro e w40 ⟨rfl, c40⟩
              have b40 := b39.trans (c40.mono b39.size)
              go_wp2_with fail
              go_ret
              exact ⟨rfl, b40⟩
end Go.Proofs.Ytpobhlnlnplbdaa
