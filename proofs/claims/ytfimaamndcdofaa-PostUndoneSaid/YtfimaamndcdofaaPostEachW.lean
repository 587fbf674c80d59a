/- The walk of PostEach. -/
import Derived.Test.YtfimaamndcdofaaPostTellsW
import Derived.Test.YtfimaamndcdofaaPostEachP
namespace Go.Proofs.Ytfimaamndcdofaa
open Go Go.RowKit

theorem has_take_succ {l : List Bal} {k : Nat} (h : k < l.length) (a : ByteArray) : has (l.take (k + 1)) a = (has (l.take k) a || eqB l[k].1 a) := by
  rw [List.take_succ_eq_append_getElem h, has_append, has_cons]; simp [has]
theorem amtOf_take_succ {l : List Bal} {k : Nat} (h : k < l.length) (a : ByteArray) : amtOf (l.take (k + 1)) a = amtOf (l.take k) a + (if eqB l[k].1 a then l[k].2 else 0) := by
  rw [List.take_succ_eq_append_getElem h, amtOf_append, amtOf_cons, amtOf_nil]; omega

set_option maxHeartbeats 8000000 in
set_option maxRecDepth 100000 in
theorem postEach_walk (vl : Value) (l : List Bal) (acct : ByteArray) (w : World) (hl : Rd balE w vl l) :
    Calls Try.prog 6 #[vl, .string acct] w fun e w' => e = .returned (.bool true) ∧ Below w.heap.size w w' := by
  obtain ⟨l1, hl1⟩ : ∃ m, m = l.take 60 := ⟨_, rfl⟩
  have nl1 : l1.length ≤ 60 := by rw [hl1, List.length_take]; omega
  have Hl1 := Lib.hid hl1
  clear hl1
  go_enter Try.func6, Try.ntmps6
  go_wp2_with fail
  with_reducible refine (fewCalls _ l _ hl).mono ?_
  rintro e w' ⟨⟨v1, rfl, hv1⟩, rfl⟩
  have hr1 := hv1 w hl
  rw [← Hl1.out] at hr1
  clear hv1 hl Hl1
  have own0 : OwnR balE (w.alloc (.cells #[] 33)) w.heap.size 33 (.slice (some ⟨w.heap.size, 0, none⟩) 0 0) [] := OwnR.litAt balE w #[] _ [] 0 w.heap.size w.heap.size rfl rfl rfl (Nat.zero_le _) (Nat.le_refl _)
  have hs0 : w.heap.size ≤ (w.alloc (.cells #[] 33)).heap.size := by simp
  have hr0 := hr1.ext (below_alloc w (.cells #[] 33))
  go_wp2_with (first
    | (at_builtin; refine wpList_appR (E := balE) tBal rfl rfl own0 rfl hr0 rfl (by simp; omega) hs0 ?_; intro v2 w1 own1 g1' b1; clear g1')
    | fail)
  have own1 : OwnR balE w1 w.heap.size 33 v2 l1 := by simpa using own1
  replace b1 := (below_alloc w _).trans b1
  clear own0 hs0 hr0 hr1
  obtain ⟨pO, cO, rfl⟩ := own1.rd.shape
  go_loopw [6, 7, 8] (fun want there i wr => ∃ (k : Nat) (ys : List Bal), k ≤ l1.length ∧ i = .int .i64 k ∧ OwnR balE wr w.heap.size 33 (.slice pO l1.length cO) ys ∧ ys.length = l1.length ∧ Hid (ys = cutR (-1125899906842624) 1125899906842624 (l1.take k) ++ l1.drop k) ∧ want = .int .i64 (amtOf (cutR (-1125899906842624) 1125899906842624 (l1.take k)) acct) ∧ there = .bool (has (cutR (-1125899906842624) 1125899906842624 (l1.take k)) acct) ∧ Below w.heap.size w wr) (fun _ _ i _ => l1.length - (intOf i).toNat)
  case atStart => exact ⟨0, l1, by omega, rfl, own1, rfl, rfl, rfl, rfl, b1⟩
  case round =>
    obtain ⟨k, ys, hk, rfl, own, hyl, hys, rfl, rfl, hb⟩ := hrel
    clear own1 b1
    by_cases hlt : k < l1.length
    · have hkl : (k : Int) < (l1.length : Int) := by omega
      have hyk : ys[k]'(by omega) = l1[k] := by
        have e : ys[k]? = l1[k]? := by
          rw [hys.out, List.getElem?_append_right (by rw [cutR_length]; simp; omega), cutR_length, List.length_take, Nat.min_eq_left (by omega), Nat.sub_self, List.getElem?_drop, Nat.add_zero]
        rw [List.getElem?_eq_getElem (by omega), List.getElem?_eq_getElem hlt] at e
        exact Option.some.inj e
      have hsu := Lib.hid (cutR_take_succ (lo := -1125899906842624) (hi := 1125899906842624) hlt)
      obtain ⟨gO, cO', hsh, e1, e2, e3, e4⟩ := own.head (by omega)
      rw [hyl] at hsh
      simp only [Value.slice.injEq, true_and] at hsh
      obtain ⟨rfl, rfl⟩ := hsh
      have d0 := own.cellAt hyl.symm k (by omega) 0 (by decide)
      have d1 := own.cellAt hyl.symm k (by omega) 1 (by decide)
      rw [hyk] at d0 d1
      have f1 := own.frozenAt hyl.symm (k * 2 + 1)
      obtain ⟨x, hx⟩ : ∃ x, x = l1[k] := ⟨_, rfl⟩
      rw [← hx] at d0 d1 hsu hyk
      obtain ⟨z, hz⟩ : ∃ z, z = within x.2 (-1125899906842624) 1125899906842624 := ⟨_, rfl⟩
      have zb := within_bounds x.2 (-1125899906842624) 1125899906842624 (by omega)
      rw [← hz] at zb hsu
      obtain ⟨z1, z2⟩ := zb
      obtain ⟨own2, gr2⟩ := own.stored hyl.symm k (by omega) 1 (by decide) (.int .i64 z) rfl (x.1, z) (by rw [hyk]; rfl)
      simp only [balE, List.getElem?_cons_zero, List.getElem?_cons_succ, Nat.add_zero] at d0 d1
      have hab := amtOf_bound (X := 1125899906842624) (by omega) (cutR_bound (lo := -1125899906842624) (hi := 1125899906842624) (by omega) (l := l1.take k)) acct
      rw [cutR_length, List.length_take, Nat.min_eq_left (by omega)] at hab
      have hset : Hid (ys.set k (x.1, z) = cutR (-1125899906842624) 1125899906842624 (l1.take (k + 1)) ++ l1.drop (k + 1)) := by
        show _ = _
        rw [hsu.out, hys.out]
        have hl : (cutR (-1125899906842624) 1125899906842624 (l1.take k)).length = k := by rw [cutR_length, List.length_take]; omega
        rw [List.set_append_right _ _ (by omega), hl, Nat.sub_self, List.drop_eq_getElem_cons hlt, List.set_cons_zero, List.append_assoc]
        rfl
      have Hyl := Lib.hid hyl
      have Hz := Lib.hid hz
      clear hyk hz hx hyl
      generalize hC : cutR (-1125899906842624) 1125899906842624 (l1.take k) = C at *
      have HC := Lib.hid hC
      clear hC
      generalize hA : amtOf C acct = A at *
      have HA := Lib.hid hA
      clear hA
      obtain ⟨hab1, hab2⟩ := hab
      have hk60 : (k : Int) ≤ 60 := by omega
      have hA1 : -67553994410557440 ≤ A := by omega
      have hA2 : A ≤ 67553994410557440 := by omega
      clear hab1 hab2
      by_cases heq : eqB x.1 acct = true
      · have hes : (x.1.toList == acct.toList) = true := heq
        have Heq := Lib.hid heq
        clear heq
        go_wp2_with fail
        with_reducible refine (withinCalls _ _ _ _ (by omega) (by omega) (by omega)).mono ?_
        rintro e w' ⟨rfl, rfl⟩
        rw [← Hz.out]
        go_wp2_with fail
        go_roundw
        case rel =>
          refine ⟨k + 1, ys.set k (x.1, z), by omega, by go_num, own2, by rw [List.length_set]; exact Hyl.out, hset, ?_, ?_, hb.setCell (p := ⟨gO, _, none⟩) e1 _⟩
          · rw [hsu.out, amtOf_append, amtOf_cons, amtOf_nil, HA.out]
            simp only [Heq.out, if_true]; rw [Int.add_zero]
          · rw [hsu.out, has_append, has_cons]
            simp only [Heq.out, Bool.true_or, Bool.or_true]
        case measure => simp [intOf]; omega
      · have hes : (x.1.toList == acct.toList) = false := by simpa [eqB] using heq
        have Heq : Hid (eqB x.1 acct = false) := by show _ = _; simpa using heq
        clear heq
        go_wp2_with fail
        with_reducible refine (withinCalls _ _ _ _ (by omega) (by omega) (by omega)).mono ?_
        rintro e w' ⟨rfl, rfl⟩
        rw [← Hz.out]
        go_wp2_with fail
        go_roundw
        case rel =>
          refine ⟨k + 1, ys.set k (x.1, z), by omega, by go_num, own2, by rw [List.length_set]; exact Hyl.out, hset, ?_, ?_, hb.setCell (p := ⟨gO, _, none⟩) e1 _⟩
          · rw [hsu.out, amtOf_append, amtOf_cons, amtOf_nil, HA.out]
            simp [Heq.out]
          · rw [hsu.out, has_append, has_cons]
            simp [Heq.out, has]
        case measure => simp [intOf]; omega
    · have hk' : k = l1.length := by omega
      have hkl : ¬ (k : Int) < (l1.length : Int) := by omega
      have hY := hys.out
      rw [hk', List.drop_of_length_le (Nat.le_refl _), List.append_nil, List.take_of_length_le (Nat.le_refl _)] at hY
      rw [show l1.take k = l1 from List.take_of_length_le (by omega)]
      clear hys hk
      rw [← hY]
      have bnd : Hid (∀ x ∈ ys, -1125899906842624 ≤ x.2 ∧ x.2 ≤ 1125899906842624) := by show ∀ _, _; rw [hY]; exact cutR_bound (by omega)
      have fit : Hid (∀ x ∈ ys, Mon.fits x.2) := fun x hx => by have := bnd.out x hx; unfold Mon.fits; omega
      clear hY hk'
      rw [← hyl] at own nl1
      have hkl' : ¬ (k : Int) < (ys.length : Int) := by omega
      rw [show (.slice pO l1.length cO : Value) = .slice pO ys.length cO from by rw [hyl]]
      clear hkl hyl hlt
      obtain ⟨all, hall⟩ := enterTo_ok (acc := []) (l := ys) 0 1125899906842624 up_nil (by omega) (fun b => by rw [amtOf_nil]; omega) bnd.out (by omega)
      have Hall := Lib.hid hall
      have hen : Hid (enter [] ys = .ok all) := by show _ = _; unfold enter; rw [if_pos (by rfl)]; exact hall
      have hup : Hid (Up all) := (enterTo_spec hall).2.2.1 up_nil
      have hsp := Lib.hid (enterTo_spec hall)
      have hln := enterTo_len hall
      clear hall
      have ro := own.rd
      have hs := hb.size
      go_wp2_with fail
      with_reducible refine (postEnter _ _ [] ys _ (Rd.nil _) ro (fun y hy => absurd hy (List.not_mem_nil)) fit.out (by simp; omega)).mono ?_
      rintro e w2 ⟨hT, b2⟩
      rw [hen.out] at hT
      obtain ⟨va, rfl, ownA⟩ := hT
      have rA := ownA.rd
      have ro2 := ro.ext b2
      have hb2 := hb.trans (b2.mono hs)
      clear ownA own b2 ro
      go_wp2_with fail
      go_loopw [11, 12] (fun one i wx => ∃ (j : Nat) (acc : List Bal), j ≤ ys.length ∧ i = .int .i64 j ∧ Rd balE wx one acc ∧ Hid (enterTo [] (ys.take j) = .ok acc) ∧ Below w2.heap.size w2 wx) (fun _ i _ => ys.length - (intOf i).toNat)
      case atStart => exact ⟨0, [], by omega, rfl, Rd.nil _, rfl, Below.refl _ _⟩
      case round =>
        obtain ⟨j, acc, hj, rfl, rone, hacc, hbx⟩ := hrel
        have rox := ro2.ext hbx
        by_cases hjl : j < ys.length
        · have hji : (j : Int) < (ys.length : Int) := by omega
          have hj0 : (0 : Int) ≤ (j : Int) := by omega
          have hsl := run_sub tBal (P := Try.prog) rox .i64 .i64 (j : Int) ((j : Int) + 1) j (j + 1) rfl (by omega) (by omega) (by omega)
          have hsr := rox.sub j (j + 1) (by omega) (by omega)
          rw [show (ys.drop j).take (j + 1 - j) = [ys[j]] from by rw [List.drop_eq_getElem_cons hjl, show j + 1 - j = 1 from by omega]; rfl, show balE.sz = 2 from rfl] at hsr
          generalize subV (.slice pO ys.length cO) j (j + 1) 2 = vs at *
          obtain ⟨m, hm⟩ := each_take Hall.out (j + 1)
          have hst := Lib.hid (each_step hjl hacc.out hm)
          have Hm := Lib.hid hm
          have hfa : Hid (∀ y ∈ acc, Mon.fits y.2) := enterTo_fits hacc.out (fun y hy => absurd hy (List.not_mem_nil))
          have hla := enterTo_len hacc.out
          have hfx : Hid (∀ y ∈ [ys[j]], Mon.fits y.2) := fun y hy => by
            simp only [List.mem_singleton] at hy
            rw [hy]; exact fit.out _ (List.getElem_mem hjl)
          have hlb : (acc.length + [ys[j]].length + 1) * 24 ≤ 140737488355328 := by
            rw [List.length_take] at hla
            simp only [List.length_nil, List.length_singleton] at hla ⊢
            omega
          have Hlb := Lib.hid hlb
          clear hm hla hlb
          obtain ⟨po, co, rfl⟩ := rone.shape
          go_wp2_with fail
          with_reducible refine (postEnter _ _ acc [ys[j]] _ rone hsr hfa.out hfx.out Hlb.out).mono ?_
          rintro e w3 ⟨hT, b3⟩
          rw [hst.out] at hT
          obtain ⟨v3, rfl, own3⟩ := hT
          have r3 := own3.rd
          clear own3 rone
          go_wp2_with fail
          go_roundw
          case rel => exact ⟨j + 1, m, by omega, by go_num, r3, Hm, hbx.trans (b3.mono hbx.size)⟩
          case measure => simp [intOf]; omega
        · have hji : ¬ (j : Int) < (ys.length : Int) := by omega
          have hj' : j = ys.length := by omega
          obtain ⟨wx, rfl⟩ : ∃ wx : World, wx = wr := ⟨_, rfl⟩
          have hone := hacc.out
          rw [hj', List.take_of_length_le (Nat.le_refl _), Hall.out] at hone
          have hone' : all = acc := by simpa using hone
          subst hone'
          have rAx := rA.ext hbx
          have hbw := hb2.trans (hbx.mono hb2.size)
          clear hacc hone hj' ro2 rox rA hbx
          obtain ⟨pA, cA, rfl, a1, a2, a3, a4⟩ := rAx.form
          unfold maxLen at a2
          clear a3
          go_wp2_with fail
          go_loopw [15, 16, 17] (fun got hs i wy => ∃ q : Nat, q ≤ all.length ∧ i = .int .i64 q ∧ got = .int .i64 (amtOf (all.take q) acct) ∧ hs = .bool (has (all.take q) acct) ∧ wx = wy) (fun _ _ i _ => all.length - (intOf i).toNat)
          case atStart => exact ⟨0, by omega, rfl, rfl, rfl, rfl⟩
          case round =>
            obtain ⟨q, hq, rfl, rfl, rfl, rfl⟩ := hrel
            by_cases hql : q < all.length
            · obtain ⟨ba, offa, rfl, ac⟩ := a4 (by omega)
              have y0 := ac q hql 0 (by decide)
              have y1 := ac q hql 1 (by decide)
              simp only [balE, List.getElem?_cons_zero, List.getElem?_cons_succ, Nat.add_zero, ← Nat.add_assoc] at y0 y1
              have hqi : (q : Int) < (all.length : Int) := by omega
              have hats := Lib.hid (amtOf_take_succ hql acct)
              have hhts := Lib.hid (has_take_succ hql acct)
              have hbef := Lib.hid (fun h => up_before hup.out hql (a := acct) h)
              clear ac a4
              by_cases heq : eqB all[q].1 acct = true
              · have hes : (all[q].1.toList == acct.toList) = true := heq
                have Heq := Lib.hid heq
                clear heq
                go_wp2_with fail
                go_roundw
                case rel =>
                  refine ⟨q + 1, by omega, by go_num, ?_, ?_, by first | rfl | trivial⟩
                  · rw [hats.out, hbef.out ((eqB_eq _ _).1 Heq.out), Heq.out]; simp
                  · rw [hhts.out, Heq.out, Bool.or_true]
                case measure => simp [intOf]; omega
              · have hes : (all[q].1.toList == acct.toList) = false := by simpa [eqB] using heq
                have Heq : Hid (eqB all[q].1 acct = false) := by show _ = _; simpa using heq
                clear heq
                go_wp2_with fail
                go_roundw
                case rel =>
                  refine ⟨q + 1, by omega, by go_num, ?_, ?_, by first | rfl | trivial⟩
                  · rw [hats.out, Heq.out]; simp
                  · rw [hhts.out, Heq.out, Bool.or_false]
                case measure => simp [intOf]; omega
            · have hqi : ¬ (q : Int) < (all.length : Int) := by omega
              rw [show all.take q = all from List.take_of_length_le (by omega)]
              rw [hsp.out.1 acct, hsp.out.2.1 acct, amtOf_nil, Int.zero_add, show (has [] acct || has ys acct) = has ys acct from rfl]
              generalize amtOf ys acct = A at *
              generalize has ys acct = Hs at *
              obtain ⟨po, co, rfl⟩ := rone.shape
              clear a4
              go_wp2_with fail
              with_reducible refine (sameBal _ _ all all _ rAx rone).mono ?_
              rintro e w5 ⟨rfl, n5, hw5⟩
              rw [decide_eq_true rfl]
              have b5 : Below wx.heap.size wx w5 := by rw [hw5]; exact below_drawn _ _ _
              clear hw5
              have rA5 := rAx.ext b5
              have hb5 := hbw.trans (b5.mono hbw.size)
              go_wp2_with fail
              with_reducible refine (postRight _ all _ rA5).mono ?_
              rintro e w6 ⟨rfl, n6, hw6⟩
              rw [(right_up all).2 hup.out]
              have b6 : Below w5.heap.size w5 w6 := by rw [hw6]; exact below_drawn _ _ _
              clear hw6
              have hb6 := hb5.trans (b6.mono hb5.size)
              go_wp2_with fail
              with_reducible refine (postRuns_walk _).mono ?_
              rintro e w7 ⟨rfl, b7⟩
              go_wp2_with fail
              go_ret
              exact ⟨rfl, hb6.trans (b7.mono hb6.size)⟩
end Go.Proofs.Ytfimaamndcdofaa
