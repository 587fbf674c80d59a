/- The walk of InvoiceMirror. -/
import Derived.Test.YtpobhlnlnplbdaaInvBk
import Derived.Test.YtpobhlnlnplbdaaInvTab
import Derived.Test.YtpobhlnlnplbdaaInvMirP
import Derived.Test.YtpobhlnlnplbdaaWithin
namespace Go.Proofs.Ytpobhlnlnplbdaa
open Go Go.RowKit
def clipL (x : Ln) : Ln := ⟨x.text, x.cat, within x.count 1 1000, within x.price (-1099511627776) 1099511627776⟩
def mirC (x : Ln) : Ln := mirL (clipL x)
theorem clip_small (l : List Ln) : SmallL (l.map clipL) := by
  intro y hy
  obtain ⟨x, _, rfl⟩ := List.mem_map.1 hy
  exact ⟨within_bounds x.count 1 1000 (by decide), within_bounds x.price (-1099511627776) 1099511627776 (by decide)⟩
theorem cell_set_ne {w : World} {g : Nat} {i j : Nat} (u : Value) (h : i ≠ j) : (w.setCell ⟨g, i, none⟩ u).cell? ⟨g, j, none⟩ = w.cell? ⟨g, j, none⟩ := by
  refine World.cell?_setCell_other _ _ _ _ ?_
  intro e
  simp only [Addr.mk.injEq, and_true, true_and] at e
  exact h (by first | exact e | exact e.symm)
theorem small_fits {l : List Ln} (h : SmallL l) : ∀ x ∈ l, Mon.fits x.count ∧ Mon.fits x.price := by
  intro x hx; have := h x hx; unfold Mon.fits; omega
theorem mir_fits {l : List Ln} (h : SmallL l) : ∀ x ∈ l.map mirL, Mon.fits x.count ∧ Mon.fits x.price := by
  intro x hx
  obtain ⟨y, hy, rfl⟩ := List.mem_map.1 hx
  have := h y hy; unfold Mon.fits mirL; simp only; omega
set_option maxHeartbeats 8000000 in
set_option maxRecDepth 100000 in
theorem invoiceMirror_walk (vt : Value) (T : List Rate) (d : Day) (vl : Value) (ls : List Ln) (w : World) (ht : Rd rateE w vt T) (hv : Rd lnE w vl ls) :
    Calls Try.prog 15 #[vt, .agg #[.int .i64 d.y, .int .i64 d.m, .int .i64 d.d], vl] w fun e w' => e = .returned (.bool true) ∧ Below w.heap.size w w' := by
  obtain ⟨w0, hw0⟩ : ∃ w0, w0 = w := ⟨_, rfl⟩
  rw [← hw0] at ht hv ⊢
  clear hw0
  have hb1 := below_alloc w0 (.cells #[.int .i64 d.y, .int .i64 d.m, .int .i64 d.d] 23)
  have kd := Blk.new w0 #[.int .i64 d.y, .int .i64 d.m, .int .i64 d.d] 23
  have b_1 := hb1
  have ht1 := ht.ext hb1
  have hv1 := hv.ext hb1
  clear ht hv hb1
  go_enter Try.func15, Try.ntmps15
  go_wp2_with fail
  generalize hw1 : w0.alloc (.cells #[.int .i64 d.y, .int .i64 d.m, .int .i64 d.d] 23) = w1 at *
  clear hw1
  with_reducible refine (invFew _ _ T ls _ ht1 hv1).mono ?_
  rintro e w' ⟨⟨x, y, rfl, rT, rL⟩, hw'⟩
  have hw2 := hw'.symm
  clear hw'
  subst hw2
  have hl20 : (ls.take 20).length ≤ 20 := by simp; omega
  generalize T.take 30 = T1 at *
  generalize ls.take 20 = l1 at *
  clear ht1 hv1
  obtain ⟨pL, cL, rfl⟩ := rL.shape
  have c1 : Below w1.heap.size w1 (w1.alloc (.cells #[] 60)) := below_alloc w1 _
  have own1 : OwnR lnE (w1.alloc (.cells #[] 60)) w1.heap.size 60 (.slice (some ⟨w1.heap.size, 0, none⟩) 0 0) [] := OwnR.litAt lnE w1 #[] _ [] 0 w1.heap.size w1.heap.size rfl rfl rfl (Nat.zero_le _) (Nat.le_refl _)
  have hl_1 := rL.ext c1
  have hc1 : (([] : List Ln).length + l1.length) * 48 ≤ 140737488355328 := by simp; omega
  have Hc1 := Lib.hid hc1
  clear hc1
  go_upto_region 3 with (first
    | (at_builtin; refine wpList_appR (E := lnE) tLn rfl rfl own1 rfl hl_1 rfl Hc1.out c1.size ?_; intro v6 w6 own6 g6 b6; rw [List.nil_append] at own6; clear g6)
    | fail)
  have b_6 : Below w1.heap.size w1 w6 := c1.trans b6
  have hl_6 := rL.ext b_6
  have c2 : Below w6.heap.size w6 (w6.alloc (.cells #[] 60)) := below_alloc w6 _
  have own2 : OwnR lnE (w6.alloc (.cells #[] 60)) w6.heap.size 60 (.slice (some ⟨w6.heap.size, 0, none⟩) 0 0) [] := OwnR.litAt lnE w6 #[] _ [] 0 w6.heap.size w6.heap.size rfl rfl rfl (Nat.zero_le _) (Nat.le_refl _)
  have hl_2 := hl_6.ext c2
  clear own1 c1 hl_1 b6
  go_wp2_with (first
    | (at_builtin; refine wpList_appR (E := lnE) tLn rfl rfl own2 rfl hl_2 rfl Hc1.out c2.size ?_; intro v7 w7 own7 g7 b7; rw [List.nil_append] at own7; clear g7)
    | fail)
  have b_7 : Below w6.heap.size w6 w7 := c2.trans b7
  have own6b := own6.ext b_7
  have s6 := fun k h => (own6.lt k h)
  have S6 := Lib.hid s6
  have b17 := b_6.trans (b_7.mono b_6.size)
  obtain ⟨p6, c6, rfl⟩ := own6.rd.shape
  obtain ⟨p7, c7, rfl⟩ := own7.rd.shape
  have sz16 := b_6.size
  have sz67 := b_7.size
  clear own2 c2 hl_2 hl_6 own6 b7 s6 b_6 b_7
  go_loopw [9] (fun i wr => ∃ (k : Nat), k ≤ l1.length ∧ i = .int .i64 k ∧ OwnR lnE wr w1.heap.size 60 (.slice p6 l1.length c6) (mapTo clipL k l1) ∧ OwnR lnE wr w6.heap.size 60 (.slice p7 l1.length c7) (mapTo mirC k l1) ∧ Below w1.heap.size w1 wr) (fun i _ => l1.length - (intOf i).toNat)
  case atStart => exact ⟨0, by omega, rfl, by rw [mapTo_zero]; exact own6b, by rw [mapTo_zero]; exact own7, b17⟩
  case round =>
    clear own6b own7 b17
    obtain ⟨k, hk, rfl, ow6, ow7, hb⟩ := hrel
    by_cases hlt : k < l1.length
    · have hi : (k : Int) < (l1.length : Int) := by omega
      have hi0 : (0 : Int) ≤ (k : Int) := by omega
      have n6 := mapTo_len clipL k l1
      have n7 := mapTo_len mirC k l1
      have N6 := Lib.hid n6
      have N7 := Lib.hid n7
      clear n6 n7
      have rr := rL.ext hb
      obtain ⟨bL, oL, rfl⟩ := Rd.blk rr (by omega)
      obtain ⟨x0, x1, x2, x3⟩ := ln4 rr hlt
      have hbL : bL < w1.heap.size := World.block_lt_of_cell? w1 _ (ln4 rL hlt).1
      obtain ⟨q6, r6, hsh, e1, e2, e3, e4⟩ := ow6.head (by rw [N6.out]; omega)
      rw [N6.out] at hsh e3
      simp only [Value.slice.injEq, true_and] at hsh
      obtain ⟨rfl, rfl⟩ := hsh
      unfold maxLen at e4
      obtain ⟨q7, r7, hsh, z1, z2, z3, z4⟩ := ow7.head (by rw [N7.out]; omega)
      rw [N7.out] at hsh z3
      simp only [Value.slice.injEq, true_and] at hsh
      obtain ⟨rfl, rfl⟩ := hsh
      unfold maxLen at z4
      have h67 : q6 ≠ q7 := by have := (S6.out q6 rfl).2; omega
      have hLb6 : bL ≠ q6 := by omega
      have hkx : ∀ h, (mapTo clipL k l1)[k]'h = l1[k] := fun h => mapTo_at hlt h
      have hky : ∀ h, (mapTo mirC k l1)[k]'h = l1[k] := fun h => mapTo_at hlt h
      have S67 := Lib.hid (mapTo_set (f := clipL) hlt)
      have S77 := Lib.hid (mapTo_set (f := mirC) hlt)
      obtain ⟨x, hx⟩ : ∃ x, l1[k] = x := ⟨_, rfl⟩
      obtain ⟨n, hn⟩ : ∃ n, within x.count 1 1000 = n := ⟨_, rfl⟩
      obtain ⟨pr, hpr⟩ : ∃ n, within x.price (-1099511627776) 1099511627776 = n := ⟨_, rfl⟩
      have hprb := within_bounds x.price (-1099511627776) 1099511627776 (by decide)
      rw [hpr] at hprb
      have hcl : clipL x = ⟨x.text, x.cat, n, pr⟩ := by unfold clipL; rw [hn, hpr]
      have hmc : mirC x = ⟨x.text, x.cat, n, -pr⟩ := by unfold mirC mirL; rw [hcl]; simp only [Int.zero_sub]
      have hw1 := fun w => withinCalls x.count 1 1000 w (by decide) (by decide) (by decide)
      have hw2 := fun w => withinCalls x.price (-1099511627776) 1099511627776 w (by decide) (by decide) (by decide)
      rw [hn] at hw1
      rw [hpr] at hw2
      rw [hx] at x0 x1 x2 x3
      obtain ⟨oA, gA⟩ := ow6.stored N6.out.symm k (by rw [N6.out]; exact hlt) 2 (by decide) (.int .i64 n) rfl ⟨x.text, x.cat, n, x.price⟩ (by rw [hkx, hx]; rfl)
      have fA := ow6.frozenAt N6.out.symm (k * lnE.sz + 2)
      obtain ⟨oB, gB⟩ := oA.stored (by rw [List.length_set]; exact N6.out.symm) k (by rw [List.length_set, N6.out]; exact hlt) 3 (by decide) (.int .i64 pr) rfl ⟨x.text, x.cat, n, pr⟩ (by rw [List.getElem_set_self]; rfl)
      have fB := oA.frozenAt (by rw [List.length_set]; exact N6.out.symm) (k * lnE.sz + 3)
      rw [List.set_set, ← hcl, ← hx, S67.out] at oB
      have u2 := ow6.cellAt N6.out.symm k (by rw [N6.out]; exact hlt) 2 (by decide)
      have u3 := ow6.cellAt N6.out.symm k (by rw [N6.out]; exact hlt) 3 (by decide)
      rw [hkx, hx] at u2 u3
      have u4 : (wr.setCell ⟨q6, k * lnE.sz + 2, none⟩ (.int .i64 n)).cell? ⟨q6, k * lnE.sz + 3, none⟩ = some (.int .i64 x.price) := (cell_set_ne _ (by omega)).trans u3
      have rA3 := ln4 (rr.grown gA (.inr (by show some bL ≠ some q6; simpa using hLb6))) hlt
      obtain ⟨_, _, _, y3⟩ := rA3
      rw [hx] at y3
      have a2 := oB.cellAt (mapTo_len _ _ _).symm k (by rw [mapTo_len]; exact hlt) 2 (by decide)
      have a3 := oB.cellAt (mapTo_len _ _ _).symm k (by rw [mapTo_len]; exact hlt) 3 (by decide)
      have hk1 : ∀ h, (mapTo clipL (k + 1) l1)[k]'h = clipL x := fun h => by
        have := S67.out
        rw [← hx]; simp only [← this, List.getElem_set_self]
      rw [hk1, hcl] at a2 a3
      have ow7b := (ow7.aside gA (by intro k hk; injection hk with hk; omega)).aside gB (by intro k hk; injection hk with hk; omega)
      have v2 := ow7b.cellAt N7.out.symm k (by rw [N7.out]; exact hlt) 2 (by decide)
      have v3 := ow7b.cellAt N7.out.symm k (by rw [N7.out]; exact hlt) 3 (by decide)
      rw [hky, hx] at v2 v3
      obtain ⟨oC, gC⟩ := ow7b.stored N7.out.symm k (by rw [N7.out]; exact hlt) 2 (by decide) (.int .i64 n) rfl ⟨x.text, x.cat, n, x.price⟩ (by rw [hky, hx]; rfl)
      have fC := ow7b.frozenAt N7.out.symm (k * lnE.sz + 2)
      obtain ⟨oD, gD⟩ := oC.stored (by rw [List.length_set]; exact N7.out.symm) k (by rw [List.length_set, N7.out]; exact hlt) 3 (by decide) (.int .i64 (-pr)) rfl ⟨x.text, x.cat, n, -pr⟩ (by rw [List.getElem_set_self]; rfl)
      have fD := ow7b.frozenAt N7.out.symm (k * lnE.sz + 3)
      rw [List.set_set, ← hmc, ← hx, S77.out] at oD
      have oE := (oB.aside gC (by intro k hk; injection hk with hk; omega)).aside gD (by intro k hk; injection hk with hk; omega)
      have hbD : Below w1.heap.size w1 _ := (((hb.setCell (p := ⟨q6, k * lnE.sz + 2, none⟩) e1 (.int .i64 n)).setCell (p := ⟨q6, k * lnE.sz + 3, none⟩) e1 (.int .i64 pr)).setCell (p := ⟨q7, k * lnE.sz + 2, none⟩) (Nat.le_trans sz16 z1) (.int .i64 n)).setCell (p := ⟨q7, k * lnE.sz + 3, none⟩) (Nat.le_trans sz16 z1) (.int .i64 (-pr))
      have OD := Lib.hid oD
      have OE := Lib.hid oE
      have HBD := Lib.hid hbD
      simp only [show lnE.sz = 4 from rfl] at OD OE HBD a2 a3 fA fB fC fD u2 u3 u4 v2 v3 y3
      have hng : IntKind.i64.wrap (-pr) = -pr := by rw [IntKind.wrap_i64]; omega
      have hng2 : wrap64 (-pr) = -pr := by unfold wrap64; omega
      simp only [lnE, List.getElem?_cons_zero, List.getElem?_cons_succ] at a2 a3 u2 u3 v2 v3
      clear oA oB oC oD oE gA gB gC gD hbD ow6 ow7 ow7b hkx hky hk1 hcl hmc hn hpr rr hb S67 S77 x0 x1
      clear hx
      go_wp2_with fail
      with_reducible refine (hw1 _).mono ?_
      rintro e w' ⟨rfl, rfl⟩
      go_wp2_with fail
      with_reducible refine (hw2 _).mono ?_
      rintro e w' ⟨rfl, rfl⟩
      go_wp2_with fail
      go_region_with (fail)
      all_goals
        go_wp2_with fail
        go_roundw
        case rel => exact ⟨k + 1, by omega, by go_num, OE.out.drew, OD.out.drew, HBD.out.trans (below_drew _ _)⟩
        case measure => first | (simp [intOf]; done) | (simp [intOf]; omega)
    · have hi : ¬ (k : Int) < (l1.length : Int) := by omega
      have hkk : k = l1.length := by omega
      rw [hkk, mapTo_all] at ow6 ow7
      rw [show l1.map mirC = (l1.map clipL).map mirL from by rw [List.map_map]; rfl] at ow7
      have hs := clip_small l1
      have hal : (l1.map clipL).length ≤ 20 := by simp; omega
      generalize l1.map clipL = a at *
      obtain ⟨zA, hzA⟩ : ∃ z, totalV (tabI T1) d a = z := ⟨_, rfl⟩
      obtain ⟨zB, hzB⟩ : ∃ z, totalV (tabI T1) d (a.map mirL) = z := ⟨_, rfl⟩
      have hM : (∃ n, zA = .error n ∧ zB = .error n) ∨ ∃ t u, zA = .ok t ∧ zB = .ok u ∧ backV t = .ok u ∧ (∀ p ∈ t.parts, Mon.fits p.net ∧ Mon.fits p.tax) ∧ t.parts.length ≤ 20 := by rw [← hzA, ← hzB]; exact mirror_law hs hal
      have HM := Lib.hid hM
      have HA := Lib.hid hzA
      have HB := Lib.hid hzB
      have HS := Lib.hid hs
      obtain ⟨w10, hw10⟩ : ∃ z, z = wr := ⟨_, rfl⟩
      subst hw10
      have b_10 := b_1.trans (hb.mono b_1.size)
      have rA_10 := ow6.rd
      have rB_10 := ow7.rd
      have rT_10 := rT.ext hb
      have kd_10 := kd.ext hb
      clear hM hzA hzB hs ow6 ow7 rT kd b_1 hb hal rL Hc1 hkk S6 sz16 sz67
      go_wp2_with fail
      with_reducible refine (invTable _ T1 _ rT_10).mono ?_
      rintro e w11 ⟨⟨ut, rfl, ownT⟩, c11⟩
      have b_11 := b_10.trans (c11.mono b_10.size)
      have rA_11 := rA_10.ext c11
      have rB_11 := rB_10.ext c11
      have rT_11 := rT_10.ext c11
      have kd_11 := kd_10.ext c11
      clear b_10 rA_10 rB_10 rT_10 kd_10
      have rU_11 := ownT.rd
      clear ownT rT_11
      obtain ⟨pU, cU, rfl⟩ := rU_11.shape
      clear c11
      have d0 := kd_11.cell 0 _ rfl
      have d1 := kd_11.cell 1 _ rfl
      have d2 := kd_11.cell 2 _ rfl
      go_wp2_with fail
      clear d0 d1 d2
      with_reducible refine (invTotal _ _ (tabI T1) d a _ rU_11 rA_11 (small_fits HS.out)).mono ?_
      rintro e w12 ⟨hT, c12⟩
      rw [HA.out] at hT
      obtain ⟨vrX, rfl, ownrX⟩ := hT.uni
      clear hT
      have rX_12 := ownrX.rd
      clear ownrX
      obtain ⟨prX, crX, rfl⟩ := rX_12.shape
      have b_12 := b_11.trans (c12.mono b_11.size)
      have rA_12 := rA_11.ext c12
      have rB_12 := rB_11.ext c12
      have kd_12 := kd_11.ext c12
      have rU_12 := rU_11.ext c12
      clear b_11 rA_11 rB_11 kd_11 rU_11
      clear c12
      have c13 : Below w12.heap.size w12 (w12.alloc (.cells #[.int .i64 (resT zA).net, .int .i64 (resT zA).tax, .int .i64 (resT zA).gross, (.slice prX (resT zA).parts.length crX)] 56)) := below_alloc _ _
      have kA_13 := Blk.new w12 #[.int .i64 (resT zA).net, .int .i64 (resT zA).tax, .int .i64 (resT zA).gross, (.slice prX (resT zA).parts.length crX)] 56
      have b_13 := b_12.trans (c13.mono b_12.size)
      have rA_13 := rA_12.ext c13
      have rB_13 := rB_12.ext c13
      have kd_13 := kd_12.ext c13
      have rU_13 := rU_12.ext c13
      have rX_13 := rX_12.ext c13
      clear b_12 rA_12 rB_12 kd_12 rU_12 rX_12
      clear c13
      go_upto_region 12 with (fail)
      generalize hw13 : w12.alloc (.cells #[.int .i64 (resT zA).net, .int .i64 (resT zA).tax, .int .i64 (resT zA).gross, (.slice prX (resT zA).parts.length crX)] 56) = w13 at *
      clear hw13
      have d0 := kd_13.cell 0 _ rfl
      have d1 := kd_13.cell 1 _ rfl
      have d2 := kd_13.cell 2 _ rfl
      go_wp2_with fail
      clear d0 d1 d2
      with_reducible refine (invTotal _ _ (tabI T1) d (a.map mirL) _ rU_13 rB_13 (mir_fits HS.out)).mono ?_
      rintro e w14 ⟨hT, c14⟩
      rw [HB.out] at hT
      obtain ⟨vrY, rfl, ownrY⟩ := hT.uni
      clear hT
      have rY_14 := ownrY.rd
      clear ownrY
      obtain ⟨prY, crY, rfl⟩ := rY_14.shape
      have b_14 := b_13.trans (c14.mono b_13.size)
      have rA_14 := rA_13.ext c14
      have rB_14 := rB_13.ext c14
      have kd_14 := kd_13.ext c14
      have rU_14 := rU_13.ext c14
      have rX_14 := rX_13.ext c14
      have kA_14 := kA_13.ext c14
      clear b_13 rA_13 rB_13 kd_13 rU_13 rX_13 kA_13
      clear c14
      have c15 : Below w14.heap.size w14 (w14.alloc (.cells #[.int .i64 (resT zB).net, .int .i64 (resT zB).tax, .int .i64 (resT zB).gross, (.slice prY (resT zB).parts.length crY)] 56)) := below_alloc _ _
      have kB_15 := Blk.new w14 #[.int .i64 (resT zB).net, .int .i64 (resT zB).tax, .int .i64 (resT zB).gross, (.slice prY (resT zB).parts.length crY)] 56
      have b_15 := b_14.trans (c15.mono b_14.size)
      have rA_15 := rA_14.ext c15
      have rB_15 := rB_14.ext c15
      have kd_15 := kd_14.ext c15
      have rU_15 := rU_14.ext c15
      have rX_15 := rX_14.ext c15
      have kA_15 := kA_14.ext c15
      have rY_15 := rY_14.ext c15
      clear b_14 rA_14 rB_14 kd_14 rU_14 rX_14 kA_14 rY_14
      clear c15
      go_upto_region 13 with (fail)
      generalize hw15 : w14.alloc (.cells #[.int .i64 (resT zB).net, .int .i64 (resT zB).tax, .int .i64 (resT zB).gross, (.slice prY (resT zB).parts.length crY)] 56) = w15 at *
      clear hw15
      clear rA_15 rB_15 rU_15 kd_15
      rcases HM.out with ⟨n, e1, e2⟩ | ⟨t, u, e1, e2, e3, e4, e5⟩
      ·
        have hn : n ≠ 0 := totalV_ne (HA.out.trans e1)
        have hn1 : (n != 0) = true := by simpa using hn
        clear HM HA HB HS hn
        subst e1 e2
        simp only [resT, errT] at *
        go_wp2_with fail
        with_reducible refine (invoiceRuns_walk _).mono ?_
        rintro e w29 ⟨rfl, c29⟩
        have b29 := b_15.trans (c29.mono b_15.size)
        go_wp2_with fail
        go_ret
        exact ⟨rfl, b29⟩
      ·
        have hfit : Mon.fits t.net ∧ Mon.fits t.tax ∧ Mon.fits t.gross := by obtain ⟨_, _, _, _, _, f1, f2, f3⟩ := sums_law (HA.out.trans e1); exact ⟨f1, f2, f3⟩
        have Hbk := Lib.hid e3
        have Hfp := Lib.hid e4
        clear HM HA HB HS e3 e4
        subst e1 e2
        simp only [resT, errT] at *
        have m0 := kA_15.cell 0 _ rfl
        have m1 := kA_15.cell 1 _ rfl
        have m2 := kA_15.cell 2 _ rfl
        have m3 := kA_15.cell 3 _ rfl
        go_wp2_with fail
        clear m0 m1 m2 m3
        with_reducible refine (invBack t _ _ rX_15 hfit Hfp.out (by omega)).mono ?_
        rintro e w16 ⟨hT, c16⟩
        rw [Hbk.out] at hT
        obtain ⟨vb, rfl, ownB⟩ := hT
        have rZ_16 := ownB.rd
        clear ownB
        obtain ⟨pb, cb, rfl⟩ := rZ_16.shape
        have b_16 := b_15.trans (c16.mono b_15.size)
        have rX_16 := rX_15.ext c16
        have kA_16 := kA_15.ext c16
        have rY_16 := rY_15.ext c16
        have kB_16 := kB_15.ext c16
        clear b_15 rX_15 kA_15 rY_15 kB_15
        clear c16
        have c17 : Below w16.heap.size w16 (w16.alloc (.cells #[.int .i64 u.net, .int .i64 u.tax, .int .i64 u.gross, (.slice pb u.parts.length cb)] 56)) := below_alloc _ _
        have kC_17 := Blk.new w16 #[.int .i64 u.net, .int .i64 u.tax, .int .i64 u.gross, (.slice pb u.parts.length cb)] 56
        have b_17 := b_16.trans (c17.mono b_16.size)
        have rX_17 := rX_16.ext c17
        have kA_17 := kA_16.ext c17
        have rY_17 := rY_16.ext c17
        have kB_17 := kB_16.ext c17
        have rZ_17 := rZ_16.ext c17
        clear b_16 rX_16 kA_16 rY_16 kB_16 rZ_16
        clear c17
        have m0 := kB_17.cell 0 _ rfl
        have m1 := kB_17.cell 1 _ rfl
        have m2 := kB_17.cell 2 _ rfl
        have m3 := kB_17.cell 3 _ rfl
        have n0 := kC_17.cell 0 _ rfl
        have n1 := kC_17.cell 1 _ rfl
        have n2 := kC_17.cell 2 _ rfl
        have n3 := kC_17.cell 3 _ rfl
        go_wp2_with fail
        clear m0 m1 m2 m3 n0 n1 n2 n3
        with_reducible refine (backSame _ _ _ _ _ rfl rY_17 rZ_17).mono ?_
        rintro e w39 ⟨rfl, c39⟩
        have b39 := b_17.trans (c39.mono b_17.size)
        go_wp2_with fail
        with_reducible refine (invoiceRuns_walk _).mono ?_
        rintro e w40 ⟨rfl, c40⟩
        have b40 := b39.trans (c40.mono b39.size)
        go_wp2_with fail
        go_ret
        exact ⟨rfl, b40⟩
end Go.Proofs.Ytpobhlnlnplbdaa
