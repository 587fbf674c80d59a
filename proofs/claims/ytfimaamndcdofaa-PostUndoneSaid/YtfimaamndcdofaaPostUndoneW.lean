/- The walk of PostUndone. -/
import Derived.Test.YtfimaamndcdofaaPostEachW
import Derived.Test.YtfimaamndcdofaaPostUndoneP
namespace Go.Proofs.Ytfimaamndcdofaa
open Go Go.RowKit

theorem cut_set {lo hi : Int} {l ys : List Bal} {k : Nat} (hk : k < l.length) (hys : ys = cutR lo hi (l.take k) ++ l.drop k) : ys.set k (l[k].1, within l[k].2 lo hi) = cutR lo hi (l.take (k + 1)) ++ l.drop (k + 1) := by
  have hl : (cutR lo hi (l.take k)).length = k := by rw [cutR_length, List.length_take]; omega
  rw [hys, cutR_take_succ hk, List.set_append_right _ _ (by omega), hl, Nat.sub_self, List.drop_eq_getElem_cons hk, List.set_cons_zero, List.append_assoc]
  rfl
theorem neg_set {lo hi : Int} {l ys : List Bal} {k : Nat} (hk : k < l.length) (hys : ys = negR (cutR lo hi (l.take k)) ++ l.drop k) : ys.set k (l[k].1, -within l[k].2 lo hi) = negR (cutR lo hi (l.take (k + 1))) ++ l.drop (k + 1) := by
  have hl : (negR (cutR lo hi (l.take k))).length = k := by rw [negR_length, cutR_length, List.length_take]; omega
  have e : negR (cutR lo hi (l.take k) ++ [(l[k].1, within l[k].2 lo hi)]) = negR (cutR lo hi (l.take k)) ++ [(l[k].1, -within l[k].2 lo hi)] := by unfold negR; rw [List.map_append]; rfl
  rw [hys, cutR_take_succ hk, e, List.set_append_right _ _ (by omega), hl, Nat.sub_self, List.drop_eq_getElem_cons hk, List.set_cons_zero, List.append_assoc]
  rfl
theorem mix_get {C l ys : List Bal} {k : Nat} (hk : k < l.length) (hC : C.length = k) (hys : ys = C ++ l.drop k) (hy : k < ys.length) : ys[k] = l[k] := by
  have e : ys[k]? = l[k]? := by rw [hys, List.getElem?_append_right (by omega), hC, Nat.sub_self, List.getElem?_drop, Nat.add_zero]
  rw [List.getElem?_eq_getElem hy, List.getElem?_eq_getElem hk] at e
  exact Option.some.inj e

set_option maxHeartbeats 8000000 in
set_option maxRecDepth 100000 in
theorem postUndone_walk (vb vl : Value) (book l : List Bal) (w : World) (hb : Rd balE w vb book) (hl : Rd balE w vl l) :
    Calls Try.prog 7 #[vb, vl] w fun e w' => e = .returned (.bool true) ∧ Below w.heap.size w w' := by
  obtain ⟨l1, hl1⟩ : ∃ m, m = l.take 60 := ⟨_, rfl⟩
  obtain ⟨b1, hb1⟩ : ∃ m, m = book.take 60 := ⟨_, rfl⟩
  have nl1 : l1.length ≤ 60 := by rw [hl1, List.length_take]; omega
  have nb1 : b1.length ≤ 60 := by rw [hb1, List.length_take]; omega
  have Hl1 := Lib.hid hl1
  have Hb1 := Lib.hid hb1
  clear hl1 hb1
  go_enter Try.func7, Try.ntmps7
  go_wp2_with fail
  with_reducible refine (fewCalls _ book _ hb).mono ?_
  rintro e w' ⟨⟨v0, rfl, hv0⟩, rfl⟩
  have rb := hv0 w hb
  rw [← Hb1.out] at rb
  go_wp2_with fail
  with_reducible refine (fewCalls _ l _ hl).mono ?_
  rintro e w' ⟨⟨v1, rfl, hv1⟩, rfl⟩
  have rl := hv1 w hl
  rw [← Hl1.out] at rl
  clear hv0 hv1 hb hl Hb1 Hl1
  have own0 : OwnR balE (w.alloc (.cells #[] 33)) w.heap.size 33 (.slice (some ⟨w.heap.size, 0, none⟩) 0 0) [] := OwnR.litAt balE w #[] _ [] 0 w.heap.size w.heap.size rfl rfl rfl (Nat.zero_le _) (Nat.le_refl _)
  have hs0 : w.heap.size ≤ (w.alloc (.cells #[] 33)).heap.size := by simp
  have rl0 := rl.ext (below_alloc w (.cells #[] 33))
  have q0 := below_alloc w (.cells #[] 33)
  go_wp2_with (first
    | (at_builtin; refine wpList_appR (E := balE) (B := w.heap.size) tBal rfl rfl own0 rfl rl0 rfl (by simp; omega) hs0 ?_; intro vA w1 ownA g1' c1; clear g1' own0; replace c1 := q0.trans c1; (have ownb : OwnR balE (w1.alloc (.cells #[] 33)) w1.heap.size 33 (.slice (some ⟨w1.heap.size, 0, none⟩) 0 0) [] := OwnR.litAt balE w1 #[] _ [] 0 w1.heap.size w1.heap.size rfl rfl rfl (Nat.zero_le _) (Nat.le_refl _)); (have rl1 := (rl.ext c1).ext (below_alloc w1 (.cells #[] 33))); (have hs1 : w1.heap.size ≤ (w1.alloc (.cells #[] 33)).heap.size := by simp))
    | (at_builtin; refine wpList_appR (E := balE) (B := w1.heap.size) tBal rfl rfl ownb rfl rl1 rfl (by simp; omega) hs1 ?_; intro vB w2 ownB g2' c2; clear g2' ownb; replace c2 := (below_alloc w1 _).trans c2)
    | fail)
  replace ownA : OwnR balE w1 w.heap.size 33 vA l1 := by simpa using ownA
  replace ownB : OwnR balE w2 w1.heap.size 33 vB l1 := by simpa using ownB
  have hAlt := ownA.lt
  have ownA2 := ownA.ext c2
  have c02 := c1.trans (c2.mono c1.size)
  have hw1 := c1.size
  clear hs0 hs1 rl0 rl1 q0 c1 c2 ownA
  obtain ⟨pA, cA, rfl⟩ := ownA2.rd.shape
  obtain ⟨pB, cB, rfl⟩ := ownB.rd.shape
  obtain ⟨pl, cl, rfl, l_1, l_2, l_3, l_4⟩ := rl.form
  unfold maxLen at l_2
  clear l_3
  go_loopw [7] (fun i wr => ∃ (k : Nat) (ya yb : List Bal), k ≤ l1.length ∧ i = .int .i64 k ∧ OwnR balE wr w.heap.size 33 (.slice pA l1.length cA) ya ∧ OwnR balE wr w1.heap.size 33 (.slice pB l1.length cB) yb ∧ ya.length = l1.length ∧ yb.length = l1.length ∧ Hid (ya = cutR (-1099511627776) 1099511627776 (l1.take k) ++ l1.drop k) ∧ Hid (yb = negR (cutR (-1099511627776) 1099511627776 (l1.take k)) ++ l1.drop k) ∧ Below w.heap.size w wr) (fun i _ => l1.length - (intOf i).toNat)
  case atStart => exact ⟨0, l1, l1, by omega, rfl, ownA2, ownB, rfl, rfl, rfl, rfl, c02⟩
  case round =>
    obtain ⟨k, ya, yb, hk, rfl, oA, oB, la, lb, ha, hb, hbel⟩ := hrel
    clear ownA2 ownB c02
    by_cases hlt : k < l1.length
    · obtain ⟨bl, offl, rfl, lc⟩ := l_4 (by omega)
      have x1 := lc k hlt 1 (by decide)
      have hbl : bl < w.heap.size := by
        simp only [balE, List.getElem?_cons_zero, List.getElem?_cons_succ] at x1
        exact World.block_lt_of_cell? w _ x1
      rw [← hbel.cell (p := ⟨bl, _, none⟩) hbl] at x1
      simp only [balE, List.getElem?_cons_zero, List.getElem?_cons_succ, Nat.add_zero, ← Nat.add_assoc] at x1
      have hkl : (k : Int) < (l1.length : Int) := by omega
      have hga := Lib.hid (mix_get hlt (by rw [cutR_length, List.length_take]; omega) ha.out (by omega))
      have hgb := Lib.hid (mix_get hlt (by rw [negR_length, cutR_length, List.length_take]; omega) hb.out (by omega))
      have hsa := Lib.hid (cut_set hlt ha.out)
      have hsb := Lib.hid (neg_set hlt hb.out)
      obtain ⟨x, hx⟩ : ∃ x, x = l1[k] := ⟨_, rfl⟩
      rw [← hx] at x1 hga hgb hsa hsb
      obtain ⟨z, hz⟩ : ∃ z, z = within x.2 (-1099511627776) 1099511627776 := ⟨_, rfl⟩
      have zb := within_bounds x.2 (-1099511627776) 1099511627776 (by omega)
      rw [← hz] at zb hsa hsb
      obtain ⟨z1, z2⟩ := zb
      obtain ⟨gA, cA', hsh, e1, e2, e3, e4⟩ := oA.head (by omega)
      rw [la] at hsh
      simp only [Value.slice.injEq, true_and] at hsh
      obtain ⟨rfl, rfl⟩ := hsh
      obtain ⟨gB, cB', hsh, f1, f2, f3, f4⟩ := oB.head (by omega)
      rw [lb] at hsh
      simp only [Value.slice.injEq, true_and] at hsh
      obtain ⟨rfl, rfl⟩ := hsh
      have hgA : gA < w1.heap.size := (hAlt gA rfl).2
      have hne : gB ≠ gA := by omega
      have a1 := oA.cellAt la.symm k (by omega) 1 (by decide)
      have b1' := oB.cellAt lb.symm k (by omega) 1 (by decide)
      rw [hga.out] at a1
      rw [hgb.out] at b1'
      simp only [balE, List.getElem?_cons_zero, List.getElem?_cons_succ, Nat.add_zero] at a1 b1'
      have fa := oA.frozenAt la.symm (k * 2 + 1)
      have fb := oB.frozenAt lb.symm (k * 2 + 1)
      obtain ⟨oA2, gr2⟩ := oA.stored la.symm k (by omega) 1 (by decide) (.int .i64 z) rfl (x.1, z) (by rw [hga.out]; rfl)
      have oB2 := oB.aside gr2 (fun q hq => by cases hq; exact hne.symm)
      obtain ⟨oB3, gr3⟩ := oB2.stored lb.symm k (by omega) 1 (by decide) (.int .i64 (-z)) rfl (x.1, -z) (by rw [hgb.out]; rfl)
      have oA3 := oA2.aside gr3 (fun q hq => by cases hq; exact hne)
      have hbel2 := (hbel.setCell (p := ⟨gA, k * 2 + 1, none⟩) e1 (.int .i64 z)).setCell (p := ⟨gB, k * 2 + 1, none⟩) (by show w.heap.size ≤ gB; omega) (.int .i64 (-z))
      have La := Lib.hid la
      have Lb := Lib.hid lb
      have Hz := Lib.hid hz
      have hzn : IntKind.i64.wrap (-z) = -z := by rw [IntKind.wrap_i64]; omega
      clear hga hgb la lb hz hx lc oA oB oA2 oB2 gr2 gr3
      go_wp2_with fail
      with_reducible refine (withinCalls _ _ _ _ (by omega) (by omega) (by omega)).mono ?_
      rintro e w' ⟨rfl, rfl⟩
      rw [← Hz.out]
      go_wp2_with fail
      go_roundw
      case rel => exact ⟨k + 1, ya.set k (x.1, z), yb.set k (x.1, -z), by omega, by go_num, oA3, oB3, by rw [List.length_set]; exact La.out, by rw [List.length_set]; exact Lb.out, hsa, hsb, hbel2⟩
      case measure => simp [intOf]; omega
    · have hk' : k = l1.length := by omega
      have hkl : ¬ (k : Int) < (l1.length : Int) := by omega
      have hA := ha.out
      have hB := hb.out
      rw [hk', List.drop_of_length_le (Nat.le_refl _), List.append_nil, List.take_of_length_le (Nat.le_refl _)] at hA hB
      rw [← hA] at hB
      have bndA : Hid (∀ x ∈ ya, -1099511627776 ≤ x.2 ∧ x.2 ≤ 1099511627776) := by show ∀ _, _; rw [hA]; exact cutR_bound (by omega)
      have HB := Lib.hid hB
      have nya : ya.length ≤ 60 := by omega
      have nyb : yb.length ≤ 60 := by omega
      have rA := oA.rd
      have rB := oB.rd
      rw [la.symm] at rA
      rw [lb.symm] at rB
      rw [show (.slice pA l1.length cA : Value) = .slice pA ya.length cA from by rw [la], show (.slice pB l1.length cB : Value) = .slice pB yb.length cB from by rw [lb]]
      clear ha hb hk' hA hB hlt l_4 oA oB hAlt hw1 la lb
      have sz := hbel.size
      have rbw := rb.ext hbel
      clear rb rl
      obtain ⟨wz, rfl⟩ : ∃ wz : World, wz = wr := ⟨_, rfl⟩
      have ownw : OwnR balE (wz.alloc (.cells #[] 33)) wz.heap.size 33 (.slice (some ⟨wz.heap.size, 0, none⟩) 0 0) [] := OwnR.litAt balE wz #[] _ [] 0 wz.heap.size wz.heap.size rfl rfl rfl (Nat.zero_le _) (Nat.le_refl _)
      have rbw1 := rbw.ext (below_alloc wz (.cells #[] 33))
      have hsw : wz.heap.size ≤ (wz.alloc (.cells #[] 33)).heap.size := by simp
      go_wp2_with (first
        | (at_builtin; refine wpList_appR (E := balE) (B := wz.heap.size) tBal rfl rfl ownw rfl rbw1 rfl (by simp; omega) hsw ?_; intro vW w3 ownW g3' c3; clear g3' ownw; replace c3 := (below_alloc wz _).trans c3)
        | fail)
      replace ownW : OwnR balE w3 wz.heap.size 33 vW b1 := by simpa using ownW
      obtain ⟨pW, cW, rfl⟩ := ownW.rd.shape
      obtain ⟨pb, cb, rfl, b_1, b_2, b_3, b_4⟩ := rbw.form
      unfold maxLen at b_2
      clear b_3 rbw1 hsw rbw
      go_loopw [9] (fun i wr => ∃ (k : Nat) (ys : List Bal), k ≤ b1.length ∧ i = .int .i64 k ∧ OwnR balE wr wz.heap.size 33 (.slice pW b1.length cW) ys ∧ ys.length = b1.length ∧ Hid (ys = cutR (-1125899906842624) 1125899906842624 (b1.take k) ++ b1.drop k) ∧ Below wz.heap.size wz wr) (fun i _ => b1.length - (intOf i).toNat)
      case atStart => exact ⟨0, b1, by omega, rfl, ownW, rfl, rfl, c3⟩
      case round =>
        obtain ⟨k, ys, hk, rfl, oW, lw, hys, hbw⟩ := hrel
        clear ownW c3
        by_cases hlt : k < b1.length
        · obtain ⟨bl, offl, rfl, lc⟩ := b_4 (by omega)
          have x1 := lc k hlt 1 (by decide)
          have hbl : bl < wz.heap.size := by
            simp only [balE, List.getElem?_cons_zero, List.getElem?_cons_succ] at x1
            exact World.block_lt_of_cell? wz _ x1
          rw [← hbw.cell (p := ⟨bl, _, none⟩) hbl] at x1
          simp only [balE, List.getElem?_cons_zero, List.getElem?_cons_succ, Nat.add_zero, ← Nat.add_assoc] at x1
          have hkl : (k : Int) < (b1.length : Int) := by omega
          have hgw := Lib.hid (mix_get hlt (by rw [cutR_length, List.length_take]; omega) hys.out (by omega))
          have hsw := Lib.hid (cut_set hlt hys.out)
          obtain ⟨x, hx⟩ : ∃ x, x = b1[k] := ⟨_, rfl⟩
          rw [← hx] at x1 hgw hsw
          obtain ⟨z, hz⟩ : ∃ z, z = within x.2 (-1125899906842624) 1125899906842624 := ⟨_, rfl⟩
          rw [← hz] at hsw
          obtain ⟨gW, cW', hsh, e1, e2, e3, e4⟩ := oW.head (by omega)
          rw [lw] at hsh
          simp only [Value.slice.injEq, true_and] at hsh
          obtain ⟨rfl, rfl⟩ := hsh
          have fw := oW.frozenAt lw.symm (k * 2 + 1)
          have a1 := oW.cellAt lw.symm k (by omega) 1 (by decide)
          rw [hgw.out] at a1
          simp only [balE, List.getElem?_cons_zero, List.getElem?_cons_succ, Nat.add_zero] at a1
          obtain ⟨oW2, gr2⟩ := oW.stored lw.symm k (by omega) 1 (by decide) (.int .i64 z) rfl (x.1, z) (by rw [hgw.out]; rfl)
          have hbw2 := hbw.setCell (p := ⟨gW, k * 2 + 1, none⟩) e1 (.int .i64 z)
          have Lw := Lib.hid lw
          have Hz := Lib.hid hz
          clear hgw lw hz hx lc oW gr2 b_4
          go_wp2_with fail
          with_reducible refine (withinCalls _ _ _ _ (by omega) (by omega) (by omega)).mono ?_
          rintro e w' ⟨rfl, rfl⟩
          rw [← Hz.out]
          go_wp2_with fail
          go_roundw
          case rel => exact ⟨k + 1, ys.set k (x.1, z), by omega, by go_num, oW2, by rw [List.length_set]; exact Lw.out, hsw, hbw2⟩
          case measure => simp [intOf]; omega
        · have hkl2 : ¬ (k : Int) < (ys.length : Int) := by omega
          have hW := hys.out
          rw [show k = b1.length from by omega, List.drop_of_length_le (Nat.le_refl _), List.append_nil, List.take_of_length_le (Nat.le_refl _)] at hW
          have bndW : Hid (∀ x ∈ ys, -1125899906842624 ≤ x.2 ∧ x.2 ≤ 1125899906842624) := by show ∀ _, _; rw [hW]; exact cutR_bound (by omega)
          have nys : ys.length ≤ 60 := by omega
          have rW := oW.rd
          rw [lw.symm] at rW
          rw [show (.slice pW b1.length cW : Value) = .slice pW ys.length cW from by rw [lw]]
          have rA3 := rA.ext hbw
          have rB3 := rB.ext hbw
          have hb3 := hbel.trans (hbw.mono sz)
          clear hys hW hlt b_4 oW rA rB hbel hbw lw
          have fitW : Hid (∀ x ∈ ys, Mon.fits x.2) := fun x hx => by have := bndW.out x hx; unfold Mon.fits; omega
          have fitA : Hid (∀ x ∈ ya, Mon.fits x.2) := fun x hx => by have := bndA.out x hx; unfold Mon.fits; omega
          have sz3 := hb3.size
          obtain ⟨wy, rfl⟩ : ∃ wy : World, wy = wr := ⟨_, rfl⟩
          go_wp2_with fail
          with_reducible refine (postEnter _ _ ys ya _ rW rA3 fitW.out fitA.out (by omega)).mono ?_
          rintro e w4 ⟨hT, b4⟩
          have rW4 := rW.ext b4
          have rB4 := rB3.ext b4
          have hb4 := hb3.trans (b4.mono sz3)
          have sz4 := hb4.size
          clear rW rA3 rB3 b4 hb3
          by_cases hr : rightB ys = true
          · have hup := (right_up ys).1 hr
            obtain ⟨xs, hxs⟩ := enterTo_ok (acc := ys) (l := ya) 67553994410557440 1099511627776 hup (by omega) (fun c => by have := amtOf_bound (X := 1125899906842624) (by omega) bndW.out c; omega) bndA.out (by omega)
            have hlx := enterTo_len hxs
            have fitX := Lib.hid (enterTo_fits hxs fitW.out)
            have hupx := (enterTo_spec hxs).2.2.1 hup
            have hlb : yb.length = ya.length := by rw [HB.out, negR_length]
            obtain ⟨fs, hfs⟩ := enterTo_ok (acc := xs) (l := yb) 135107988821114880 1099511627776 hupx (by omega) (fun c => by
              have h1 := amtOf_bound (X := 1125899906842624) (by omega) bndW.out c
              have h2 := amtOf_bound (X := 1099511627776) (by omega) bndA.out c
              rw [(enterTo_spec hxs).1 c]; omega) (fun x hx => by
                rw [HB.out] at hx
                obtain ⟨y, hy, rfl⟩ := List.mem_map.1 hx
                have := bndA.out y hy
                simp only; omega) (by omega)
            have fitB : Hid (∀ x ∈ yb, Mon.fits x.2) := fun x hx => by
              rw [HB.out] at hx
              obtain ⟨y, hy, rfl⟩ := List.mem_map.1 hx
              have := bndA.out y hy
              unfold Mon.fits; simp only; omega
            have hund := Lib.hid (undone hup hxs (by rw [← HB.out]; exact hfs))
            have he1 : enter ys ya = .ok xs := by unfold enter; rw [if_pos hr]; exact hxs
            have he2 : Hid (enter xs yb = .ok fs) := by show _ = _; unfold enter; rw [if_pos ((right_up _).2 hupx)]; exact hfs
            have hup' := Lib.hid hup
            have hlf := enterTo_len hfs
            rw [he1] at hT
            obtain ⟨vx, rfl, ownX⟩ := hT
            have rX := ownX.rd
            clear ownX hfs hxs he1 hupx hup hr
            have nxs : xs.length ≤ 120 := by omega
            have nfs : fs.length ≤ 180 := by omega
            have nyb2 : xs.length + yb.length ≤ 180 := by omega
            clear hlf hlx hlb
            obtain ⟨pX, cX, rfl⟩ := rX.shape
            go_wp2_with fail
            with_reducible refine (postEnter _ _ xs yb _ rX rB4 fitX.out fitB.out (by omega)).mono ?_
            rintro e w5 ⟨hT, b5⟩
            rw [he2.out] at hT
            obtain ⟨vf, rfl, ownF⟩ := hT
            have rF := ownF.rd
            have rW5 := rW4.ext b5
            have hb5 := hb4.trans (b5.mono sz4)
            clear ownF rW4 rB4 rX b5 hb4 he2
            obtain ⟨pF, cF, rfl, f_1, f_2, f_3, f_4⟩ := rF.form
            obtain ⟨pW', cW', hsh, w_1, w_2, w_3, w_4⟩ := rW5.form
            simp only [Value.slice.injEq, true_and] at hsh
            obtain ⟨rfl, rfl⟩ := hsh
            unfold maxLen at f_2 w_2
            clear f_3 w_3
            go_wp2_with fail
            go_loopw [14] (fun i wr => ∃ q : Nat, q ≤ fs.length ∧ i = .int .i64 q ∧ ∃ n, wr = w5.drewN n) (fun i _ => fs.length - (intOf i).toNat)
            case atStart => exact ⟨0, by omega, rfl, 0, rfl⟩
            case round =>
              obtain ⟨q, hq, rfl, nq, rfl⟩ := hrel
              by_cases hql : q < fs.length
              · obtain ⟨bf, offf, rfl, fc⟩ := f_4 (by omega)
                have y0 := fc q hql 0 (by decide)
                have y1 := fc q hql 1 (by decide)
                simp only [balE, List.getElem?_cons_zero, List.getElem?_cons_succ, Nat.add_zero, ← Nat.add_assoc] at y0 y1
                have hqi : (q : Int) < (fs.length : Int) := by omega
                have hamt : Hid (fs[q].2 = amtOf ys fs[q].1) := by
                  show _ = _
                  rw [← hund.out.2.1, up_amt hund.out.1 hql]
                obtain ⟨f, hf⟩ : ∃ f, f = fs[q] := ⟨_, rfl⟩
                rw [← hf] at y0 y1 hamt
                clear fc hf
                go_wp2_with fail
                go_loopw [15, 16] (fun n i wr => ∃ k : Nat, k ≤ ys.length ∧ i = .int .i64 k ∧ n = .int .i64 (amtOf (ys.take k) f.1) ∧ ∃ n, wr = w5.drewN n) (fun _ i _ => ys.length - (intOf i).toNat)
                case atStart => exact ⟨0, by omega, rfl, rfl, _, rfl⟩
                case round =>
                  obtain ⟨k, hk, rfl, rfl, nk, rfl⟩ := hrel
                  by_cases hlt : k < ys.length
                  · obtain ⟨bw, offw, rfl, wc⟩ := w_4 (by omega)
                    have z0 := wc k hlt 0 (by decide)
                    have z1 := wc k hlt 1 (by decide)
                    simp only [balE, List.getElem?_cons_zero, List.getElem?_cons_succ, Nat.add_zero, ← Nat.add_assoc] at z0 z1
                    have hki : (k : Int) < (ys.length : Int) := by omega
                    have hats := Lib.hid (amtOf_take_succ hlt f.1)
                    have hbef := Lib.hid (fun h => up_before hup'.out hlt (a := f.1) h)
                    clear wc w_4 f_4
                    by_cases heq : eqB ys[k].1 f.1 = true
                    · have hes : (ys[k].1.toList == f.1.toList) = true := heq
                      have Heq := Lib.hid heq
                      clear heq
                      go_wp2_with fail
                      go_quiet (fail)
                      go_wp2_with fail
                      go_roundw
                      case rel =>
                        refine ⟨k + 1, by omega, by go_num, ?_, _, by first | rfl | exact World.drewN_drewN _ _ _⟩
                        rw [hats.out, hbef.out ((eqB_eq _ _).1 Heq.out), Heq.out]; simp
                      case measure => simp [intOf]; omega
                    · have hes : (ys[k].1.toList == f.1.toList) = false := by simpa [eqB] using heq
                      have Heq : Hid (eqB ys[k].1 f.1 = false) := by show _ = _; simpa using heq
                      clear heq
                      go_wp2_with fail
                      go_quiet (fail)
                      go_wp2_with fail
                      go_roundw
                      case rel =>
                        refine ⟨k + 1, by omega, by go_num, ?_, _, by first | rfl | exact World.drewN_drewN _ _ _⟩
                        rw [hats.out, Heq.out]; simp
                      case measure => simp [intOf]; omega
                  · have hki : ¬ (k : Int) < (ys.length : Int) := by omega
                    rw [show ys.take k = ys from List.take_of_length_le (by omega), ← hamt.out]
                    clear w_4 f_4 hamt
                    go_wp2_with fail
                    go_roundw
                    case rel => exact ⟨q + 1, by omega, by go_num, _, by first | rfl | exact World.drewN_drewN _ _ _⟩
                    case measure => simp [intOf]; omega
              · have hqi : ¬ (q : Int) < (fs.length : Int) := by omega
                have hge : (ys.length : Int) ≤ (fs.length : Int) := by have := hund.out.2.2; omega
                clear w_4 f_4
                have b6 : Below w5.heap.size w5 (w5.drewN nq) := below_drawn _ _ _
                go_wp2_with fail
                with_reducible refine (postRuns_walk _).mono ?_
                rintro e w7 ⟨rfl, b7⟩
                go_wp2_with fail
                go_ret
                exact ⟨rfl, hb5.trans ((b6.trans (b7.mono b6.size)).mono hb5.size)⟩
          · have hr' : rightB ys = false := by simpa using hr
            have he1 : enter ys ya = .error 1 := by unfold enter; rw [if_neg hr]
            rw [he1] at hT
            have hT' : _ := hT
            obtain rfl := hT
            clear he1 hr rB4
            go_wp2_with fail
            with_reducible refine (postRight _ ys _ rW4).mono ?_
            rintro e w6 ⟨rfl, n6, hw6⟩
            rw [hr']
            have b6 : Below w4.heap.size w4 w6 := by rw [hw6]; exact below_drawn _ _ _
            clear hw6
            have hb6 := hb4.trans (b6.mono hb4.size)
            go_wp2_with fail
            with_reducible refine (postRuns_walk _).mono ?_
            rintro e w7 ⟨rfl, b7⟩
            go_wp2_with fail
            go_ret
            exact ⟨rfl, hb6.trans (b7.mono hb6.size)⟩
end Go.Proofs.Ytfimaamndcdofaa
