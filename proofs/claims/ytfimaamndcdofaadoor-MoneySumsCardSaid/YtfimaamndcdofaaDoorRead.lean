/- Walks of money.digits, money.Read. -/
import Derived.Test.YtfimaamndcdofaaDoorMonRead
import Derived.Test.YtfimaamndcdofaaDoorMoneyMul2
import Derived.Test.YtfimaamndcdofaaDoorStr
import Derived.Deep.Cut
namespace Go.Proofs.YtfimaamndcdofaaDoor
open Go Go.RowKit

theorem all_take_succ {l : List UInt8} {k : Nat} (h : k < l.length) : (l.take (k + 1)).all Mon.isDig = ((l.take k).all Mon.isDig && Mon.isDig l[k]) := by
  rw [List.take_succ_eq_append_getElem h, List.all_append]; simp

set_option maxHeartbeats 400000 in
theorem moneyDigits (l : List UInt8) (w : World) (hl : l.length ≤ 9223372036854775807) : Calls Tryd.prog 27 #[.string { data := l.toArray }] w fun e w' => e = .returned (.bool (Mon.digs l)) ∧ w = w' := by
  have hsz := str_size l
  go_enter Tryd.func27, Tryd.ntmps27
  go_wp2
  go_loop [6] (fun i => ∃ k : Nat, i = .int .i64 k ∧ k ≤ l.length ∧ Hid ((l.take k).all Mon.isDig = true)) (fun i => l.length - (intOf i).toNat)
  case atStart => exact ⟨0, rfl, by omega, rfl⟩
  case round =>
    obtain ⟨k, rfl, hk, hall⟩ := hrel
    by_cases hlt : k < l.length
    · have hi : (k : Int) < (l.length : Int) := by omega
      have hat := fun h => str_at l k h
      have hsucc := Lib.hid (all_take_succ hlt)
      go_wp2
      · go_ret
        exact ⟨ret_bool (by rw [Mon.digs_false hlt (Mon.isDig_no _ (by omega))]), rfl⟩
      · go_round
        case rel => exact ⟨k + 1, by go_num, by omega, by show _ = true; rw [hsucc.out, hall.out, (Mon.isDig_iff _).2 (by omega)]; rfl⟩
        case measure => simp [intOf]; omega
      · go_ret
        exact ⟨ret_bool (by rw [Mon.digs_false hlt (Mon.isDig_no _ (by omega))]), rfl⟩
    · have hk' : k = l.length := by omega
      subst hk'
      go_wp2
      go_ret
      refine ⟨ret_bool ?_, rfl⟩
      have h := hall.out
      rw [List.take_of_length_le (Nat.le_refl _)] at h
      unfold Mon.digs
      rw [h]
      simp

theorem run_str_to {P : Program} {T : TypeId} (hT : P.underlying T = some .string) (l : List UInt8) (K : Int) (k : Nat) (hK : K = (k : Int)) (hk : k ≤ l.length) (w : World) :
    (Instr.slice T (.string { data := l.toArray }) none (some (.int .i64 K)) none).run P w = .ok (.string { data := (l.take k).toArray }) w := by
  subst hK
  rw [run_slice_string_h w T _ hT .i64 (k : Int) (by omega) (by rw [str_size]; omega), str_extract]
  simp
theorem run_str_from {P : Program} {T : TypeId} (hT : P.underlying T = some .string) (l : List UInt8) (K : Int) (k : Nat) (hK : K = (k : Int)) (hk : k ≤ l.length) (w : World) :
    (Instr.slice T (.string { data := l.toArray }) (some (.int .i64 K)) none none).run P w = .ok (.string { data := (l.drop k).toArray }) w := by
  subst hK
  rw [run_slice_string_l w T _ hT .i64 (k : Int) (by omega) (by rw [str_size]; omega), str_extract, str_size]
  simp
  rw [List.take_of_length_le (by simp)]

theorem rd_neg (r : List UInt8) : Mon.rd (45 :: r) = Mon.rdBody (45 :: r) r true := rfl
theorem rd_pos {x : UInt8} (r : List UInt8) (h : x ≠ 45) : Mon.rd (x :: r) = Mon.rdBody (x :: r) (x :: r) false := by
  have h1 : Mon.neg (x :: r) = false := by unfold Mon.neg; simp [h]
  unfold Mon.rd Mon.body; rw [h1]; rfl
theorem rdBody_short {L t : List UInt8} {b : Bool} (h : t.length < 4) : Mon.rdBody L t b = Mon.noForm := by unfold Mon.rdBody; rw [if_pos h]
theorem rdBody_no {L t : List UInt8} {b : Bool} {k : Nat} (h : t.length = k + 3) (h1 : Mon.form L t k = false) : Mon.rdBody L t b = Mon.noForm := by
  unfold Mon.rdBody; split
  · rfl
  · rw [h, Nat.add_sub_cancel, h1]; rfl
theorem form_dot {L t : List UInt8} {k : Nat} (h : k < t.length) (h1 : t[k] ≠ 46) : Mon.form L t k = false := by
  unfold Mon.form; rw [List.getElem?_eq_getElem h]; simp [h1]
theorem form_d1 {L t : List UInt8} {k : Nat} (h1 : Mon.digs (t.take k) = false) : Mon.form L t k = false := by unfold Mon.form; rw [h1]; simp
theorem rdBody_yes {L t : List UInt8} {b : Bool} {k : Nat} (h : t.length = k + 3) (h1 : Mon.form L t k = true) (hk : 1 ≤ k := by omega) : Mon.rdBody L t b = Mon.told (sgn (Mon.num (Mon.seen t k t.length)) b) := by
  unfold Mon.rdBody
  rw [if_neg (by omega), h, Nat.add_sub_cancel, h1, if_pos rfl, ← h, Mon.seen_all]
theorem form_lead {L t : List UInt8} {k : Nat} {c : UInt8} (hc : t[0]? = some c) (h1 : 1 < k) (h2 : c = 48) : Mon.form L t k = false := by
  subst h2
  unfold Mon.form
  have : t.head? = some 48 := by rw [List.head?_eq_getElem?]; exact hc
  rw [this, decide_eq_true h1]; simp
theorem form_zero {L t : List UInt8} {k : Nat} (hz : (L == [45, 48, 46, 48, 48]) = true) : Mon.form L t k = false := by
  unfold Mon.form; rw [hz]; simp
theorem form_yes {L t : List UInt8} {k : Nat} {c : UInt8} {h : k < t.length} (h0 : t[k] = 46) (_h : k < t.length) (h1 : Mon.digs (t.take k) = true) (h2 : Mon.digs (t.drop (k + 1)) = true) (hc : t[0]? = some c) (hl : ¬ (1 < k ∧ c = 48)) (hz : (L == [45, 48, 46, 48, 48]) = false) : Mon.form L t k = true := by
  unfold Mon.form
  have hh : t.head? = some c := by rw [List.head?_eq_getElem?]; exact hc
  rw [List.getElem?_eq_getElem h, h0, h1, h2, hz, hh]
  have : (decide (1 < k) && (some c == some 48)) = false := by
    rw [Bool.eq_false_iff]; intro hb
    rw [Bool.and_eq_true] at hb
    exact hl ⟨of_decide_eq_true hb.1, by simpa using hb.2⟩
  rw [this]; rfl
theorem form_d2 {L t : List UInt8} {k : Nat} (h1 : Mon.digs (t.drop (k + 1)) = false) : Mon.form L t k = false := by unfold Mon.form; rw [h1]; simp

set_option maxHeartbeats 2000000 in
theorem moneyRead (l : List UInt8) (w : World) (hl : l.length ≤ 140737488355328) : Calls Tryd.prog 18 #[.string { data := l.toArray }] w fun e w' => e = .returned (Mon.rd l) ∧ w = w' := by
  match l, hl with
  | [], hl =>
    go_enter Tryd.func18, Tryd.ntmps18
    go_wp2_with fail
    go_ret2
    exact ⟨rfl, rfl⟩
  | x :: r, hl =>
    have hsl := run_str_from Tryd.underlying9 (45 :: r) 1 1 rfl (by simp)
    rw [show (45 :: r).drop 1 = r from rfl] at hsl
    have hat0 : ∀ (h : 0 < ({ data := (x :: r).toArray } : ByteArray).size), ({ data := (x :: r).toArray } : ByteArray)[0] = x := fun h => str_at _ 0 h
    obtain ⟨V, hV⟩ : ∃ V, Mon.rd (x :: r) = V := ⟨_, rfl⟩
    rw [hV]
    have HV := Lib.hid hV
    clear hV
    go_enter Tryd.func18, Tryd.ntmps18
    rcases (Classical.em (x = 45)) with hx | hx
    · subst hx
      have Hrd := Lib.hid (HV.out.symm.trans (rd_neg r))
      clear HV
      have hz : Hid (((45 :: r) == [45, 48, 46, 48, 48]) = ((45 :: r) == [45, 48, 46, 48, 48])) := rfl
      go_upto_region 5 with (fail)
      clear hat0 hz
      have hlt : r.length ≤ 140737488355328 := by simp at hl; omega
      clear hl
      generalize r = t at *
      by_cases h4 : t.length < 4
      · have hk : (t.length : Int) - 3 < 1 := by omega
        go_wp2_with fail
        go_ret2
        exact ⟨by rw [Hrd.out, rdBody_short h4]; rfl, rfl⟩
      · obtain ⟨k, hk⟩ : ∃ k, t.length = k + 3 := ⟨t.length - 3, by omega⟩
        have hk3 : (t.length : Int) - 3 = (k : Int) := by omega
        have hk1 : 1 ≤ k := by omega
        have hkt : (k : Int) < (t.length : Int) := by omega
        have hkt' : k < t.length := by omega
        have hs1 := run_str_to Tryd.underlying9 t (k : Int) k rfl (by omega)
        have hs2 := run_str_from Tryd.underlying9 t ((k : Int) + 1) (k + 1) (by omega) (by omega)
        have Hk := Lib.hid hk
        clear hk
        have hat := fun h => str_at t k h
        by_cases hdot : t[k] = 46
        · have hd : ((t[k].toNat : Int) != 46) = false := by rw [hdot]; rfl
          have hd0 : ((t[k].toNat : Int) == 46) = true := by rw [hdot]; rfl
          have Hdot := Lib.hid hdot
          clear hdot
          go_wp2_with fail
          with_reducible refine (moneyDigits (t.take k) _ (by rw [List.length_take]; omega)).mono ?_
          rintro e w' ⟨rfl, rfl⟩
          cases hd1 : Mon.digs (t.take k)
          · go_wp2_with fail
            go_ret2
            exact ⟨by rw [Hrd.out, rdBody_no Hk.out (form_d1 hd1)]; rfl, rfl⟩
          · have Hd1 := Lib.hid hd1
            clear hd1
            go_wp2_with fail
            with_reducible refine (moneyDigits (t.drop (k + 1)) _ (by rw [List.length_drop]; omega)).mono ?_
            rintro e w' ⟨rfl, rfl⟩
            cases hd2 : Mon.digs (t.drop (k + 1))
            · go_wp2_with fail
              go_ret2
              exact ⟨by rw [Hrd.out, rdBody_no Hk.out (form_d2 hd2)]; rfl, rfl⟩
            · have Hd2 := Lib.hid hd2
              clear hd2 hs1 hs2
              obtain ⟨c0, hc0⟩ : ∃ c, t[0]? = some c := ⟨t[0], List.getElem?_eq_getElem (by omega)⟩
              have hat0 : ∀ (h : 0 < ({ data := t.toArray } : ByteArray).size), ({ data := t.toArray } : ByteArray)[0] = c0 := fun h => by
                have h1 := str_at t 0 h
                rw [h1]
                have h2 : t[0]'(by omega) = c0 := by rw [List.getElem?_eq_getElem (by omega)] at hc0; exact Option.some.inj hc0
                exact h2
              have Hc0 := Lib.hid hc0
              clear hc0
              by_cases hlead : 1 < k ∧ c0 = 48
              · have q1 : 1 < (k : Int) := by omega
                have q2 : ((c0.toNat : Int) == 48) = true := by rw [hlead.2]; rfl
                go_wp2_with fail
                go_ret2
                exact ⟨by rw [Hrd.out, rdBody_no Hk.out (form_lead Hc0.out hlead.1 hlead.2)]; rfl, rfl⟩
              · have hor : (¬ 1 < (k : Int)) ∨ (1 < (k : Int) ∧ ((c0.toNat : Int) == 48) = false) := by
                  by_cases h1 : 1 < k
                  · refine .inr ⟨by omega, ?_⟩
                    simp; intro h; exact hlead ⟨h1, UInt8.toNat_inj.1 (by show c0.toNat = 48; omega)⟩
                  · exact .inl (by omega)
                have Hlead := Lib.hid hlead
                clear hlead
                cases hz : ((45 :: t) == [45, 48, 46, 48, 48])
                · have Hf := Lib.hid (form_yes Hdot.out hkt' Hd1.out Hd2.out Hc0.out Hlead.out hz)
                  rcases hor with q1 | ⟨q1, q2⟩
                  all_goals
                    go_wp2_with fail
                    go_loop [7, 64] (fun u i => ∃ (j U : Nat), i = .int .i64 j ∧ u = .int .u64 U ∧ j ≤ t.length ∧ U < 18446744073709551616 ∧ Hid (Mon.num (Mon.seen t k j) = U)) (fun _ i => t.length - (intOf i).toNat)
                    case atStart => exact ⟨0, 0, rfl, rfl, by omega, by omega, by show _ = _; rw [Mon.seen_zero]; rfl⟩
                    case round =>
                      obtain ⟨j, U, rfl, rfl, hj, hU, hnum⟩ := hrel
                      by_cases hjn : j < t.length
                      · have hji : (j : Int) < (t.length : Int) := by omega
                        by_cases hjk : j = k
                        · have hje : ((j : Int) == (k : Int)) = true := by simp [hjk]
                          have Hjk := Lib.hid hjk
                          clear hjk
                          go_wp2_with fail
                          go_round
                          case rel =>
                            refine ⟨j + 1, U, by go_num, rfl, by omega, hU, ?_⟩
                            have h1 := hnum.out
                            show _ = _
                            rw [Hjk.out] at h1 ⊢
                            rw [Mon.seen_point t k hkt']; exact h1
                          case measure => simp [intOf]; omega
                        · have hje : ((j : Int) == (k : Int)) = false := by simp; omega
                          obtain ⟨g1, g2⟩ := Mon.dig_at Hd1.out Hd2.out hjn hjk
                          have hatj := fun h => str_at t j h
                          have hsc := Lib.hid (Mon.seen_succ t k j hjn hjk)
                          have h10 := Lib.hid (Mon.seen_ten t k j hjn hjk hkt')
                          by_cases hov : 1152921504606846976 < U
                          · have hov' : (1152921504606846976 : Int) < (U : Int) := by omega
                            go_wp2_with fail
                            go_ret2
                            refine ⟨?_, rfl⟩
                            rw [Hrd.out, rdBody_yes Hk.out Hf.out, Mon.told_no (sgn_fits (by have := h10.out; rw [hnum.out] at this; omega))]
                            rfl
                          · have hov' : (U : Int) ≤ 1152921504606846976 := by omega
                            go_wp2_with fail
                            go_round
                            case rel =>
                              refine ⟨j + 1, 10 * U + (t[j].toNat - 48), by go_num, ?_, by omega, by omega, by show _ = _; rw [hsc.out, Mon.num_snoc, hnum.out]⟩
                              congr 1
                              first | omega | (simp [IntKind.wrap, IntKind.bits, IntKind.signed]; omega)
                            case measure => simp [intOf]; omega
                      · have hjl : j = t.length := by omega
                        have hnl := hnum.out
                        rw [hjl] at hnl
                        have Hnl := Lib.hid hnl
                        clear hnl hjl
                        go_wp2_with fail
                        with_reducible refine (moneySigned U _ _ hU).mono ?_
                        rintro e w' ⟨⟨z, rfl, hz'⟩, rfl⟩
                        have hV : Hid (V = Mon.told (sgn U true)) := by show _ = _; rw [Hrd.out, rdBody_yes Hk.out Hf.out, Hnl.out]
                        by_cases hfit : Mon.fits (sgn U true)
                        · rw [decide_eq_true hfit, hz' hfit]
                          clear hz'
                          go_wp2_with fail
                          go_ret2
                          refine ⟨?_, rfl⟩
                          rw [hV.out, Mon.told_ok hfit]
                          rfl
                        · rw [decide_eq_false hfit]
                          clear hz'
                          go_wp2_with fail
                          go_ret2
                          refine ⟨?_, rfl⟩
                          rw [hV.out, Mon.told_no hfit]
                          rfl
                · rcases hor with q1 | ⟨q1, q2⟩
                  all_goals
                    go_wp2_with fail
                    go_ret2
                    exact ⟨by rw [Hrd.out, rdBody_no Hk.out (form_zero hz)]; rfl, rfl⟩
        · have hd : ((t[k].toNat : Int) != 46) = true := by simp; intro h; exact hdot (UInt8.toNat_inj.1 (by show t[k].toNat = 46; omega))
          go_wp2_with fail
          go_ret2
          exact ⟨by rw [Hrd.out, rdBody_no Hk.out (form_dot hkt' hdot)]; rfl, rfl⟩
    · have hx' : ((x.toNat : Int) == 45) = false := by simp; intro h; exact hx (UInt8.toNat_inj.1 (by show x.toNat = 45; omega))
      have Hrd := Lib.hid (HV.out.symm.trans (rd_pos r hx))
      clear HV
      clear hsl
      go_upto_region 5 with (fail)
      clear hat0
      generalize x :: r = t at *
      by_cases h4 : t.length < 4
      · have hk : (t.length : Int) - 3 < 1 := by omega
        go_wp2_with fail
        go_ret2
        exact ⟨by rw [Hrd.out, rdBody_short h4]; rfl, rfl⟩
      · obtain ⟨k, hk⟩ : ∃ k, t.length = k + 3 := ⟨t.length - 3, by omega⟩
        have hk3 : (t.length : Int) - 3 = (k : Int) := by omega
        have hk1 : 1 ≤ k := by omega
        have hkt : (k : Int) < (t.length : Int) := by omega
        have hkt' : k < t.length := by omega
        have hs1 := run_str_to Tryd.underlying9 t (k : Int) k rfl (by omega)
        have hs2 := run_str_from Tryd.underlying9 t ((k : Int) + 1) (k + 1) (by omega) (by omega)
        have Hk := Lib.hid hk
        clear hk
        have hat := fun h => str_at t k h
        by_cases hdot : t[k] = 46
        · have hd : ((t[k].toNat : Int) != 46) = false := by rw [hdot]; rfl
          have hd0 : ((t[k].toNat : Int) == 46) = true := by rw [hdot]; rfl
          have Hdot := Lib.hid hdot
          clear hdot
          go_wp2_with fail
          with_reducible refine (moneyDigits (t.take k) _ (by rw [List.length_take]; omega)).mono ?_
          rintro e w' ⟨rfl, rfl⟩
          cases hd1 : Mon.digs (t.take k)
          · go_wp2_with fail
            go_ret2
            exact ⟨by rw [Hrd.out, rdBody_no Hk.out (form_d1 hd1)]; rfl, rfl⟩
          · have Hd1 := Lib.hid hd1
            clear hd1
            go_wp2_with fail
            with_reducible refine (moneyDigits (t.drop (k + 1)) _ (by rw [List.length_drop]; omega)).mono ?_
            rintro e w' ⟨rfl, rfl⟩
            cases hd2 : Mon.digs (t.drop (k + 1))
            · go_wp2_with fail
              go_ret2
              exact ⟨by rw [Hrd.out, rdBody_no Hk.out (form_d2 hd2)]; rfl, rfl⟩
            · have Hd2 := Lib.hid hd2
              clear hd2 hs1 hs2
              obtain ⟨c0, hc0⟩ : ∃ c, t[0]? = some c := ⟨t[0], List.getElem?_eq_getElem (by omega)⟩
              have hat0 : ∀ (h : 0 < ({ data := t.toArray } : ByteArray).size), ({ data := t.toArray } : ByteArray)[0] = c0 := fun h => by
                have h1 := str_at t 0 h
                rw [h1]
                have h2 : t[0]'(by omega) = c0 := by rw [List.getElem?_eq_getElem (by omega)] at hc0; exact Option.some.inj hc0
                exact h2
              have Hc0 := Lib.hid hc0
              clear hc0
              by_cases hlead : 1 < k ∧ c0 = 48
              · have q1 : 1 < (k : Int) := by omega
                have q2 : ((c0.toNat : Int) == 48) = true := by rw [hlead.2]; rfl
                go_wp2_with fail
                go_ret2
                exact ⟨by rw [Hrd.out, rdBody_no Hk.out (form_lead Hc0.out hlead.1 hlead.2)]; rfl, rfl⟩
              · have hor : (¬ 1 < (k : Int)) ∨ (1 < (k : Int) ∧ ((c0.toNat : Int) == 48) = false) := by
                  by_cases h1 : 1 < k
                  · refine .inr ⟨by omega, ?_⟩
                    simp; intro h; exact hlead ⟨h1, UInt8.toNat_inj.1 (by show c0.toNat = 48; omega)⟩
                  · exact .inl (by omega)
                have Hlead := Lib.hid hlead
                clear hlead
                cases hz : (t == [45, 48, 46, 48, 48])
                · have Hf := Lib.hid (form_yes Hdot.out hkt' Hd1.out Hd2.out Hc0.out Hlead.out hz)
                  rcases hor with q1 | ⟨q1, q2⟩
                  all_goals
                    go_wp2_with fail
                    go_loop [7, 64] (fun u i => ∃ (j U : Nat), i = .int .i64 j ∧ u = .int .u64 U ∧ j ≤ t.length ∧ U < 18446744073709551616 ∧ Hid (Mon.num (Mon.seen t k j) = U)) (fun _ i => t.length - (intOf i).toNat)
                    case atStart => exact ⟨0, 0, rfl, rfl, by omega, by omega, by show _ = _; rw [Mon.seen_zero]; rfl⟩
                    case round =>
                      obtain ⟨j, U, rfl, rfl, hj, hU, hnum⟩ := hrel
                      by_cases hjn : j < t.length
                      · have hji : (j : Int) < (t.length : Int) := by omega
                        by_cases hjk : j = k
                        · have hje : ((j : Int) == (k : Int)) = true := by simp [hjk]
                          have Hjk := Lib.hid hjk
                          clear hjk
                          go_wp2_with fail
                          go_round
                          case rel =>
                            refine ⟨j + 1, U, by go_num, rfl, by omega, hU, ?_⟩
                            have h1 := hnum.out
                            show _ = _
                            rw [Hjk.out] at h1 ⊢
                            rw [Mon.seen_point t k hkt']; exact h1
                          case measure => simp [intOf]; omega
                        · have hje : ((j : Int) == (k : Int)) = false := by simp; omega
                          obtain ⟨g1, g2⟩ := Mon.dig_at Hd1.out Hd2.out hjn hjk
                          have hatj := fun h => str_at t j h
                          have hsc := Lib.hid (Mon.seen_succ t k j hjn hjk)
                          have h10 := Lib.hid (Mon.seen_ten t k j hjn hjk hkt')
                          by_cases hov : 1152921504606846976 < U
                          · have hov' : (1152921504606846976 : Int) < (U : Int) := by omega
                            go_wp2_with fail
                            go_ret2
                            refine ⟨?_, rfl⟩
                            rw [Hrd.out, rdBody_yes Hk.out Hf.out, Mon.told_no (sgn_fits (by have := h10.out; rw [hnum.out] at this; omega))]
                            rfl
                          · have hov' : (U : Int) ≤ 1152921504606846976 := by omega
                            go_wp2_with fail
                            go_round
                            case rel =>
                              refine ⟨j + 1, 10 * U + (t[j].toNat - 48), by go_num, ?_, by omega, by omega, by show _ = _; rw [hsc.out, Mon.num_snoc, hnum.out]⟩
                              congr 1
                              first | omega | (simp [IntKind.wrap, IntKind.bits, IntKind.signed]; omega)
                            case measure => simp [intOf]; omega
                      · have hjl : j = t.length := by omega
                        have hnl := hnum.out
                        rw [hjl] at hnl
                        have Hnl := Lib.hid hnl
                        clear hnl hjl
                        go_wp2_with fail
                        with_reducible refine (moneySigned U _ _ hU).mono ?_
                        rintro e w' ⟨⟨z, rfl, hz'⟩, rfl⟩
                        have hV : Hid (V = Mon.told (sgn U false)) := by show _ = _; rw [Hrd.out, rdBody_yes Hk.out Hf.out, Hnl.out]
                        by_cases hfit : Mon.fits (sgn U false)
                        · rw [decide_eq_true hfit, hz' hfit]
                          clear hz'
                          go_wp2_with fail
                          go_ret2
                          refine ⟨?_, rfl⟩
                          rw [hV.out, Mon.told_ok hfit]
                          rfl
                        · rw [decide_eq_false hfit]
                          clear hz'
                          go_wp2_with fail
                          go_ret2
                          refine ⟨?_, rfl⟩
                          rw [hV.out, Mon.told_no hfit]
                          rfl
                · rcases hor with q1 | ⟨q1, q2⟩
                  all_goals
                    go_wp2_with fail
                    go_ret2
                    exact ⟨by rw [Hrd.out, rdBody_no Hk.out (form_zero hz)]; rfl, rfl⟩
        · have hd : ((t[k].toNat : Int) != 46) = true := by simp; intro h; exact hdot (UInt8.toNat_inj.1 (by show t[k].toNat = 46; omega))
          go_wp2_with fail
          go_ret2
          exact ⟨by rw [Hrd.out, rdBody_no Hk.out (form_dot hkt' hdot)]; rfl, rfl⟩
end Go.Proofs.YtfimaamndcdofaaDoor
