/- The walk of impostref3.Read. -/
import Derived.Test.YtfimaamndcdofaaDoorRead
import Derived.Test.YtfimaamndcdofaaDoorMonZero
namespace Go.Proofs.YtfimaamndcdofaaDoor
open Go Go.RowKit

set_option maxHeartbeats 2000000 in
theorem refRead (l : List UInt8) (w : World) (hl : l.length ≤ 140737488355328) : Calls Tryd.prog 19 #[.string { data := l.toArray }] w fun e w' => e = .returned (Mon.rd l) ∧ w = w' := by
  match l, hl with
  | [], hl =>
    go_enter Tryd.func19, Tryd.ntmps19
    go_wp2_with fail
    go_ret2
    exact ⟨rfl, rfl⟩
  | x :: r, hl =>
    have hsl := run_str_from Tryd.underlying9 (45 :: r) 1 1 rfl (by simp)
    rw [show (45 :: r).drop 1 = r from rfl] at hsl
    have hat0 : ∀ (h : 0 < ({ data := (x :: r).toArray } : ByteArray).size), ({ data := (x :: r).toArray } : ByteArray)[0] = x := fun h => str_at _ 0 h
    obtain ⟨V, hV⟩ : ∃ V, Mon.rd (x :: r) = V := ⟨_, rfl⟩
    rw [hV]
    have HV := Lib.hid hV
    clear hV
    go_enter Tryd.func19, Tryd.ntmps19
    rcases (Classical.em (x = 45)) with hx | hx
    · subst hx
      have Hrd := Lib.hid (HV.out.symm.trans (rd_neg r))
      clear HV
      go_upto_region 4 with (fail)
      clear hat0
      have hlt : r.length ≤ 140737488355328 := by simp at hl; omega
      clear hl
      generalize r = t at *
      by_cases h4 : t.length < 4
      · have hk : (t.length : Int) < 4 := by omega
        go_wp2_with fail
        go_ret2
        exact ⟨by rw [Hrd.out, rdBody_short h4]; rfl, rfl⟩
      · obtain ⟨k, hk⟩ : ∃ k, t.length = k + 3 := ⟨t.length - 3, by omega⟩
        have hk3 : (t.length : Int) - 3 = (k : Int) := by omega
        have hk1 : 1 ≤ k := by omega
        have hkt : (k : Int) < (t.length : Int) := by omega
        have hkt' : k < t.length := by omega
        have h4' : ¬ (t.length : Int) < 4 := by omega
        have Hk := Lib.hid hk
        clear hk
        have hat := fun h => str_at t k h
        by_cases hdot : t[k] = 46
        · have hd : ((t[k].toNat : Int) != 46) = false := by rw [hdot]; rfl
          have hd0 : ((t[k].toNat : Int) == 46) = true := by rw [hdot]; rfl
          have Hdot := Lib.hid hdot
          clear hdot
          obtain ⟨c0, hc0⟩ : ∃ c, t[0]? = some c := ⟨t[0], List.getElem?_eq_getElem (by omega)⟩
          have hat0 : ∀ (h : 0 < ({ data := t.toArray } : ByteArray).size), ({ data := t.toArray } : ByteArray)[0] = c0 := fun h => by
            have h1 := str_at t 0 h
            rw [h1]
            have h2 : t[0]'(by omega) = c0 := by rw [List.getElem?_eq_getElem (by omega)] at hc0; exact Option.some.inj hc0
            exact h2
          have Hc0 := Lib.hid hc0
          clear hc0
          by_cases hlead : 1 < k ∧ c0 = 48
          · have q1 : 4 < (t.length : Int) := by have := Hk.out; omega
            have q2 : ((c0.toNat : Int) == 48) = true := by rw [hlead.2]; rfl
            go_wp2_with fail
            go_ret2
            exact ⟨by rw [Hrd.out, rdBody_no Hk.out (form_lead Hc0.out hlead.1 hlead.2)]; rfl, rfl⟩
          · have hor : (¬ 4 < (t.length : Int)) ∨ (4 < (t.length : Int) ∧ ((c0.toNat : Int) == 48) = false) := by
              by_cases h1 : 1 < k
              · refine .inr ⟨by have := Hk.out; omega, ?_⟩
                simp; intro h; exact hlead ⟨h1, UInt8.toNat_inj.1 (by show c0.toNat = 48; omega)⟩
              · exact .inl (by have := Hk.out; omega)
            have Hlead := Lib.hid hlead
            clear hlead
            rcases hor with q1 | ⟨q1, q2⟩
            all_goals
              go_wp2_with fail
              go_loop [6, 7, 8] (fun u o i => ∃ (j : Nat) (U : Int) (O : Bool), i = .int .i64 j ∧ u = .int .u64 U ∧ o = .bool O ∧ j ≤ t.length ∧ 0 ≤ U ∧ U < 18446744073709551616 ∧ Hid (Mon.Inv t k j U O)) (fun _ _ i => t.length - (intOf i).toNat)
              case atStart => exact ⟨0, 0, false, rfl, rfl, rfl, by omega, by omega, by omega, by show _ ∧ _ ∧ _; rw [Mon.seen_zero]; exact ⟨fun q hq h => by omega, rfl, fun _ => rfl⟩⟩
              case round =>
                obtain ⟨j, U, O, rfl, rfl, rfl, hj, hU0, hU, hinv⟩ := hrel
                by_cases hjn : j < t.length
                · have hji : (j : Int) < (t.length : Int) := by omega
                  by_cases hjk : j = k
                  · have hje : ((j : Int) == (k : Int)) = true := by simp [hjk]
                    have Hjk := Lib.hid hjk
                    clear hjk
                    go_wp2_with fail
                    go_round
                    case rel =>
                      refine ⟨j + 1, U, O, by go_num, rfl, rfl, by omega, hU0, hU, ?_⟩
                      obtain ⟨i1, i2, i3⟩ := hinv.out
                      show _ ∧ _ ∧ _
                      rw [Hjk.out] at i1 i2 i3 ⊢
                      rw [Mon.seen_point t k hkt']
                      exact ⟨fun q hq h hk => i1 q hq (by omega) hk, i2, i3⟩
                    case measure => simp [intOf]; omega
                  · have hje : ((j : Int) == (k : Int)) = false := by simp; omega
                    have hatj := fun h => str_at t j h
                    by_cases hdg : Mon.isDig t[j] = true
                    · obtain ⟨g1, g2⟩ := (Mon.isDig_iff _).1 hdg
                      have Hdg := Lib.hid hdg
                      have hsc := Lib.hid (Mon.seen_succ t k j hjn hjk)
                      clear hdg
                      go_wp2_with fail
                      · go_round
                        case rel =>
                          refine ⟨j + 1, _, true, by go_num, rfl, rfl, by omega, by rw [IntKind.wrap_u64]; omega, by rw [IntKind.wrap_u64]; omega, Mon.inv_step hjn hjk hinv.out Hdg.out _ _ ?_ (fun h => by cases h)⟩
                          rw [decide_eq_true (by assumption), Bool.or_true]
                        case measure => simp [intOf]; omega
                      · go_round
                        case rel =>
                          refine ⟨j + 1, _, O, by go_num, rfl, rfl, by omega, by omega, by omega, Mon.inv_step hjn hjk hinv.out Hdg.out _ _ ?_ (fun h => rfl)⟩
                          rw [decide_eq_false (by omega), Bool.or_false]
                        case measure => simp [intOf]; omega
                    · have hnd : t[j].toNat < 48 ∨ 57 < t[j].toNat := by
                        by_cases h : t[j].toNat < 48
                        · exact .inl h
                        · right
                          rcases Nat.lt_or_ge 57 t[j].toNat with h2 | h2
                          · exact h2
                          · exact absurd ((Mon.isDig_iff _).2 ⟨by omega, h2⟩) hdg
                      have hnf := Lib.hid (Mon.form_nd (L := 45 :: t) hjn hjk (by simpa using hdg))
                      clear hdg
                      rcases hnd with hnd | hnd
                      all_goals
                        go_wp2_with fail
                        go_ret2
                        exact ⟨by rw [Hrd.out, rdBody_no Hk.out hnf.out]; rfl, rfl⟩
                · have hjl : j = t.length := by omega
                  obtain ⟨i1, i2, i3⟩ := hinv.out
                  rw [hjl] at i1 i2 i3
                  obtain ⟨hd1, hd2⟩ := Mon.digs_parts hk1 Hk.out (fun q hq hk => i1 q hq hq hk)
                  have hz0 := Mon.zero_sign hk1 Hk.out hkt' Hdot.out hd1 hd2 Hc0.out Hlead.out
                  have hV : Hid (V = if Mon.num (Mon.seen t k t.length) = 0 then Mon.noForm else Mon.told (sgn (Mon.num (Mon.seen t k t.length)) true)) := by
                    show _ = _
                    by_cases h0 : Mon.num (Mon.seen t k t.length) = 0
                    · rw [if_pos h0, Hrd.out, rdBody_no Hk.out (form_zero (by rw [hz0, decide_eq_true h0]))]
                    · rw [if_neg h0, Hrd.out, rdBody_yes Hk.out (form_yes Hdot.out hkt' hd1 hd2 Hc0.out Hlead.out (by rw [hz0, decide_eq_false h0]))]
                  clear hz0
                  clear i1 hd1 hd2 hinv
                  generalize Mon.num (Mon.seen t k t.length) = n at *
                  cases O with
                  | true =>
                    have hn : 9223372036854775808 < n := of_decide_eq_true i2.symm
                    have Hn := Lib.hid hn
                    clear i2 i3 hjl hn
                    go_wp2_with fail
                    all_goals
                      go_ret2
                      refine ⟨?_, rfl⟩
                      rw [hV.out, if_neg (by have := Hn.out; omega), Mon.told_no (sgn_fits Hn.out)]
                      rfl
                  | false =>
                    have hn : ¬ 9223372036854775808 < n := of_decide_eq_false i2.symm
                    have hUn := i3 rfl
                    have HUn := Lib.hid hUn
                    have Hn := Lib.hid hn
                    clear i2 i3 hjl hUn hn
                    by_cases hb : U = 0
                    · have hb' : (U == 0) = true := by simp [hb]
                      have Hb := Lib.hid hb
                      clear hb
                      go_wp2_with fail
                      go_ret2
                      refine ⟨?_, rfl⟩
                      rw [hV.out, if_pos (by have h1 := HUn.out; have h2 := Hb.out; omega)]
                      rfl
                    · have hb' : (U == 0) = false := by simp; exact hb
                      have hU1 : 1 ≤ U := by omega
                      have hU2 : U ≤ 9223372036854775808 := by have h1 := HUn.out; have h2 := Hn.out; omega
                      clear hb
                      go_wp2_with fail
                      all_goals
                        go_ret2
                        refine ⟨?_, rfl⟩
                        rw [hV.out, if_neg (by have h1 := HUn.out; omega), Mon.told_ok (by have h1 := HUn.out; have h2 := Hn.out; unfold sgn Mon.fits; simp; omega)]
                        have e : -(U - 1) - 1 = sgn n true := by have h1 := HUn.out; unfold sgn; simp; omega
                        rw [← e]; rfl
        · have hd : ((t[k].toNat : Int) != 46) = true := by simp; intro h; exact hdot (UInt8.toNat_inj.1 (by show t[k].toNat = 46; omega))
          go_wp2_with fail
          go_ret2
          exact ⟨by rw [Hrd.out, rdBody_no Hk.out (form_dot hkt' hdot)]; rfl, rfl⟩
    · have hx' : ((x.toNat : Int) == 45) = false := by simp; intro h; exact hx (UInt8.toNat_inj.1 (by show x.toNat = 45; omega))
      have Hrd := Lib.hid (HV.out.symm.trans (rd_pos r hx))
      clear HV
      clear hsl
      go_upto_region 4 with (fail)
      clear hat0
      generalize x :: r = t at *
      by_cases h4 : t.length < 4
      · have hk : (t.length : Int) < 4 := by omega
        go_wp2_with fail
        go_ret2
        exact ⟨by rw [Hrd.out, rdBody_short h4]; rfl, rfl⟩
      · obtain ⟨k, hk⟩ : ∃ k, t.length = k + 3 := ⟨t.length - 3, by omega⟩
        have hk3 : (t.length : Int) - 3 = (k : Int) := by omega
        have hk1 : 1 ≤ k := by omega
        have hkt : (k : Int) < (t.length : Int) := by omega
        have hkt' : k < t.length := by omega
        have h4' : ¬ (t.length : Int) < 4 := by omega
        have Hk := Lib.hid hk
        clear hk
        have hat := fun h => str_at t k h
        by_cases hdot : t[k] = 46
        · have hd : ((t[k].toNat : Int) != 46) = false := by rw [hdot]; rfl
          have hd0 : ((t[k].toNat : Int) == 46) = true := by rw [hdot]; rfl
          have Hdot := Lib.hid hdot
          clear hdot
          obtain ⟨c0, hc0⟩ : ∃ c, t[0]? = some c := ⟨t[0], List.getElem?_eq_getElem (by omega)⟩
          have hat0 : ∀ (h : 0 < ({ data := t.toArray } : ByteArray).size), ({ data := t.toArray } : ByteArray)[0] = c0 := fun h => by
            have h1 := str_at t 0 h
            rw [h1]
            have h2 : t[0]'(by omega) = c0 := by rw [List.getElem?_eq_getElem (by omega)] at hc0; exact Option.some.inj hc0
            exact h2
          have Hc0 := Lib.hid hc0
          clear hc0
          by_cases hlead : 1 < k ∧ c0 = 48
          · have q1 : 4 < (t.length : Int) := by have := Hk.out; omega
            have q2 : ((c0.toNat : Int) == 48) = true := by rw [hlead.2]; rfl
            go_wp2_with fail
            go_ret2
            exact ⟨by rw [Hrd.out, rdBody_no Hk.out (form_lead Hc0.out hlead.1 hlead.2)]; rfl, rfl⟩
          · have hor : (¬ 4 < (t.length : Int)) ∨ (4 < (t.length : Int) ∧ ((c0.toNat : Int) == 48) = false) := by
              by_cases h1 : 1 < k
              · refine .inr ⟨by have := Hk.out; omega, ?_⟩
                simp; intro h; exact hlead ⟨h1, UInt8.toNat_inj.1 (by show c0.toNat = 48; omega)⟩
              · exact .inl (by have := Hk.out; omega)
            have Hlead := Lib.hid hlead
            clear hlead
            rcases hor with q1 | ⟨q1, q2⟩
            all_goals
              go_wp2_with fail
              go_loop [6, 7, 8] (fun u o i => ∃ (j : Nat) (U : Int) (O : Bool), i = .int .i64 j ∧ u = .int .u64 U ∧ o = .bool O ∧ j ≤ t.length ∧ 0 ≤ U ∧ U < 18446744073709551616 ∧ Hid (Mon.Inv t k j U O)) (fun _ _ i => t.length - (intOf i).toNat)
              case atStart => exact ⟨0, 0, false, rfl, rfl, rfl, by omega, by omega, by omega, by show _ ∧ _ ∧ _; rw [Mon.seen_zero]; exact ⟨fun q hq h => by omega, rfl, fun _ => rfl⟩⟩
              case round =>
                obtain ⟨j, U, O, rfl, rfl, rfl, hj, hU0, hU, hinv⟩ := hrel
                by_cases hjn : j < t.length
                · have hji : (j : Int) < (t.length : Int) := by omega
                  by_cases hjk : j = k
                  · have hje : ((j : Int) == (k : Int)) = true := by simp [hjk]
                    have Hjk := Lib.hid hjk
                    clear hjk
                    go_wp2_with fail
                    go_round
                    case rel =>
                      refine ⟨j + 1, U, O, by go_num, rfl, rfl, by omega, hU0, hU, ?_⟩
                      obtain ⟨i1, i2, i3⟩ := hinv.out
                      show _ ∧ _ ∧ _
                      rw [Hjk.out] at i1 i2 i3 ⊢
                      rw [Mon.seen_point t k hkt']
                      exact ⟨fun q hq h hk => i1 q hq (by omega) hk, i2, i3⟩
                    case measure => simp [intOf]; omega
                  · have hje : ((j : Int) == (k : Int)) = false := by simp; omega
                    have hatj := fun h => str_at t j h
                    by_cases hdg : Mon.isDig t[j] = true
                    · obtain ⟨g1, g2⟩ := (Mon.isDig_iff _).1 hdg
                      have Hdg := Lib.hid hdg
                      have hsc := Lib.hid (Mon.seen_succ t k j hjn hjk)
                      clear hdg
                      go_wp2_with fail
                      · go_round
                        case rel =>
                          refine ⟨j + 1, _, true, by go_num, rfl, rfl, by omega, by rw [IntKind.wrap_u64]; omega, by rw [IntKind.wrap_u64]; omega, Mon.inv_step hjn hjk hinv.out Hdg.out _ _ ?_ (fun h => by cases h)⟩
                          rw [decide_eq_true (by assumption), Bool.or_true]
                        case measure => simp [intOf]; omega
                      · go_round
                        case rel =>
                          refine ⟨j + 1, _, O, by go_num, rfl, rfl, by omega, by omega, by omega, Mon.inv_step hjn hjk hinv.out Hdg.out _ _ ?_ (fun h => rfl)⟩
                          rw [decide_eq_false (by omega), Bool.or_false]
                        case measure => simp [intOf]; omega
                    · have hnd : t[j].toNat < 48 ∨ 57 < t[j].toNat := by
                        by_cases h : t[j].toNat < 48
                        · exact .inl h
                        · right
                          rcases Nat.lt_or_ge 57 t[j].toNat with h2 | h2
                          · exact h2
                          · exact absurd ((Mon.isDig_iff _).2 ⟨by omega, h2⟩) hdg
                      have hnf := Lib.hid (Mon.form_nd (L := t) hjn hjk (by simpa using hdg))
                      clear hdg
                      rcases hnd with hnd | hnd
                      all_goals
                        go_wp2_with fail
                        go_ret2
                        exact ⟨by rw [Hrd.out, rdBody_no Hk.out hnf.out]; rfl, rfl⟩
                · have hjl : j = t.length := by omega
                  obtain ⟨i1, i2, i3⟩ := hinv.out
                  rw [hjl] at i1 i2 i3
                  obtain ⟨hd1, hd2⟩ := Mon.digs_parts hk1 Hk.out (fun q hq hk => i1 q hq hq hk)
                  have hV : Hid (V = Mon.told (sgn (Mon.num (Mon.seen t k t.length)) false)) := by
                    show _ = _
                    rw [Hrd.out, rdBody_yes Hk.out (form_yes Hdot.out hkt' hd1 hd2 Hc0.out Hlead.out (Mon.no_zero hk1 Hk.out (fun q hq hk => i1 q hq hq hk)))]
                  clear i1 hd1 hd2 hinv
                  generalize Mon.num (Mon.seen t k t.length) = n at *
                  cases O with
                  | true =>
                    have hn : 9223372036854775808 < n := of_decide_eq_true i2.symm
                    clear i2 i3 hjl
                    go_wp2_with fail
                    go_ret2
                    refine ⟨?_, rfl⟩
                    rw [hV.out, Mon.told_no (sgn_fits hn)]
                    rfl
                  | false =>
                    have hn : ¬ 9223372036854775808 < n := of_decide_eq_false i2.symm
                    have hUn := i3 rfl
                    have HUn := Lib.hid hUn
                    have Hn := Lib.hid hn
                    clear i2 i3 hjl hUn hn
                    by_cases hb : U ≤ 9223372036854775807
                    · go_wp2_with fail
                      go_ret2
                      refine ⟨?_, rfl⟩
                      rw [hV.out, Mon.told_ok (by have := HUn.out; unfold sgn Mon.fits; simp; omega), HUn.out]
                      rfl
                    · have hb' : (9223372036854775807 : Int) < U := by omega
                      go_wp2_with fail
                      go_ret2
                      refine ⟨?_, rfl⟩
                      rw [hV.out, Mon.told_no (by have := HUn.out; unfold sgn Mon.fits; simp; omega)]
                      rfl
        · have hd : ((t[k].toNat : Int) != 46) = true := by simp; intro h; exact hdot (UInt8.toNat_inj.1 (by show t[k].toNat = 46; omega))
          go_wp2_with fail
          go_ret2
          exact ⟨by rw [Hrd.out, rdBody_no Hk.out (form_dot hkt' hdot)]; rfl, rfl⟩
end Go.Proofs.YtfimaamndcdofaaDoor
