/- Walks: the document's SessionsRight and seat; at. -/
import Derived.Test.YtmchkhofcjgeaaaSesA
namespace Go.Proofs.Ytmchkhofcjgeaaa
open Go Go.RowKit

set_option maxHeartbeats 1000000 in
theorem sesSeat (v : Value) (l : List Ses) (id : Int) (w : World) (hv : Rd sesE w v l) :
    Calls Try.prog 44 #[v, .int .i64 id] w fun e w' => e = .returned (.int .i64 (placeS l id)) ∧ w = w' := by
  obtain ⟨p, cap, rfl, h1, h2, h3, h4⟩ := hv.form
  clear h3 h4
  unfold maxLen at h2
  go_enter Try.func44, Try.ntmps44
  go_wp2
  go_loop [5] (fun i => ∃ k : Nat, k ≤ l.length ∧ i = .int .i64 k ∧ Hid (placeS l id = placeBy (isId id) (l.drop k) k)) (fun i => l.length - (intOf i).toNat)
  case atStart => exact ⟨0, by omega, rfl, rfl⟩
  case round =>
    obtain ⟨k, hk, rfl, hpl⟩ := hrel
    by_cases hlt : k < l.length
    · obtain ⟨b, off, rfl⟩ := Rd.blk hv (by omega)
      obtain ⟨c0, _⟩ := ses5 hv hlt
      have hi : (k : Int) < (l.length : Int) := by omega
      have hhit := Lib.hid (fun h => placeBy_hit (p := isId id) hlt h)
      have hmiss := Lib.hid (fun h => placeBy_miss (p := isId id) hlt h)
      clear hv
      generalize l[k] = s at *
      cases hq : (s.id == id) with
      | true =>
        have Hq : Hid (isId id s = true) := hq
        go_wp2
        go_ret
        exact ⟨ret_int (by rw [hpl.out, hhit.out Hq.out]), rfl⟩
      | false =>
        have Hq : Hid (isId id s = false) := hq
        go_wp2
        go_round
        case rel => exact ⟨k + 1, by omega, by go_num, hpl.out.trans (hmiss.out Hq.out)⟩
        case measure => simp [intOf]; omega
    · go_wp2
      go_ret
      exact ⟨ret_int (by rw [hpl.out, placeBy_end (by omega)]), rfl⟩

theorem ref_cases (a : Int) (s : Ses) (ha : 0 ≤ a) : (okS a s = false ∧ s.id < 1) ∨ (okS a s = false ∧ 1 ≤ s.id ∧ s.last < 0) ∨ (okS a s = false ∧ 1 ≤ s.id ∧ 0 ≤ s.last ∧ 1099511627776 < s.last) ∨ (okS a s = false ∧ 1 ≤ s.id ∧ 0 ≤ s.last ∧ s.last ≤ 1099511627776 ∧ s.id ≤ a) ∨
    (okS a s = false ∧ 1 ≤ s.id ∧ 0 ≤ s.last ∧ s.last ≤ 1099511627776 ∧ a < s.id ∧ s.last = 0 ∧ s.rep ≠ rep0) ∨ (okS a s = true ∧ 1 ≤ s.id ∧ 0 ≤ s.last ∧ s.last ≤ 1099511627776 ∧ a < s.id ∧ s.last = 0 ∧ s.rep = rep0) ∨ (okS a s = true ∧ 1 ≤ s.id ∧ 0 ≤ s.last ∧ s.last ≤ 1099511627776 ∧ a < s.id ∧ s.last ≠ 0) := by
  by_cases h1 : s.id < 1
  · exact .inl ⟨okS_no (.inl (by omega)), h1⟩
  · by_cases h2 : s.last < 0
    · exact .inr (.inl ⟨okS_no (.inr (.inl h2)), by omega, h2⟩)
    · by_cases h3 : 1099511627776 < s.last
      · exact .inr (.inr (.inl ⟨okS_no (.inr (.inr (.inl h3))), by omega, by omega, h3⟩))
      · by_cases h4 : s.id ≤ a
        · exact .inr (.inr (.inr (.inl ⟨okS_no (.inl h4), by omega, by omega, by omega, h4⟩)))
        · by_cases h5 : s.last = 0
          · by_cases h6 : s.rep = rep0
            · exact .inr (.inr (.inr (.inr (.inr (.inl ⟨okS_yes (by omega) (by omega) (by omega) (.inr h6), by omega, by omega, by omega, by omega, h5, h6⟩)))))
            · exact .inr (.inr (.inr (.inr (.inl ⟨okS_no (.inr (.inr (.inr ⟨h5, h6⟩))), by omega, by omega, by omega, by omega, h5, h6⟩))))
          · exact .inr (.inr (.inr (.inr (.inr (.inr ⟨okS_yes (by omega) (by omega) (by omega) (.inl h5), by omega, by omega, by omega, by omega, h5⟩)))))

set_option maxHeartbeats 4000000 in
theorem sesRefRight (v : Value) (l : List Ses) (w : World) (hv : Rd sesE w v l) :
    Calls Try.prog 22 #[v] w fun e w' => e = .returned (.bool (rightS l)) ∧ ∃ n, w' = w.drewN n := by
  obtain ⟨p, cap, rfl, h1, h2, h3, h4⟩ := hv.form
  clear h3 h4
  unfold maxLen at h2
  by_cases h8 : 8 < l.length
  · have h8' : (8 : Int) < (l.length : Int) := by omega
    go_enter Try.func22, Try.ntmps22
    go_wp2
    go_ret
    exact ⟨ret_bool (right_long h8).symm, 0, rfl⟩
  · have h8' : ¬ (8 : Int) < (l.length : Int) := by omega
    go_enter Try.func22, Try.ntmps22
    go_wp2
    go_loopw [3] (fun i wr => ∃ (k : Nat) (a : Int), k ≤ l.length ∧ i = .int .i64 k ∧ Hid (chainS 0 l = chainS a (l.drop k)) ∧ ((k = 0 ∧ a = 0) ∨ (0 < a ∧ ∃ (j : Nat) (h : j < l.length), k = j + 1 ∧ l[j].id = a)) ∧ ∃ n, wr = w.drewN n) (fun i _ => l.length - (intOf i).toNat)
    case atStart => exact ⟨0, 0, by omega, rfl, rfl, .inl ⟨rfl, rfl⟩, 0, rfl⟩
    case round =>
      obtain ⟨k, a, hk, rfl, hch, hpr, n, rfl⟩ := hrel
      by_cases hlt : k < l.length
      · obtain ⟨b, off, rfl⟩ := Rd.blk hv (by omega)
        obtain ⟨c0, c1, c2, c3, c4⟩ := ses5 hv hlt
        have hi : (k : Int) < (l.length : Int) := by omega
        have hi0 : (0 : Int) ≤ (k : Int) := by omega
        have hno := Lib.hid (fun h => right_no hch.out hlt h)
        have hnx := Lib.hid (fun h => right_next hch.out hlt h)
        have hne := neq_rep l[k].rep rep0
        simp only [show rep0.why = 0 from rfl, show rep0.num = 0 from rfl, show rep0.gross = 0 from rfl] at hne
        rcases hpr with ⟨rfl, rfl⟩ | ⟨ha, j, hkl, rfl, hid⟩
        · clear hv
          simp only [Nat.zero_mul, Nat.add_zero] at c0 c1 c2 c3 c4
          generalize hs : l[0] = s at *
          have rfl_id := Lib.hid hs
          clear hs
          rcases ref_cases 0 s (Int.le_refl _) with ⟨hq, t1⟩ | ⟨hq, t1, t2⟩ | ⟨hq, t1, t2, t3⟩ | ⟨hq, t1, t2, t3, t4⟩ | ⟨hq, t1, t2, t3, t4, t5, t6⟩ | ⟨hq, t1, t2, t3, t4, t5, t6⟩ | ⟨hq, t1, t2, t3, t4, t5⟩
          all_goals (have Hq := Lib.hid hq; clear hq)
          · have d1 : decide (s.id < 1) = true := by simp; omega
            go_wp2
            go_quiet (fail)
            go_wp2
            go_ret
            exact ⟨ret_bool (hno.out Hq.out).symm, _, by first | rfl | exact World.drewN_drewN _ _ _⟩
          · have d1 : decide (s.id < 1) = false := by simp; omega
            have d2 : decide (s.last < 0) = true := by simp; omega
            go_wp2
            go_quiet (fail)
            go_wp2
            go_ret
            exact ⟨ret_bool (hno.out Hq.out).symm, _, by first | rfl | exact World.drewN_drewN _ _ _⟩
          · have d1 : decide (s.id < 1) = false := by simp; omega
            have d2 : decide (s.last < 0) = false := by simp; omega
            have d3 : decide (1099511627776 < s.last) = true := by simp; omega
            go_wp2
            go_quiet (fail)
            go_wp2
            go_ret
            exact ⟨ret_bool (hno.out Hq.out).symm, _, by first | rfl | exact World.drewN_drewN _ _ _⟩
          · omega
          · have d1 : decide (s.id < 1) = false := by simp; omega
            have d2 : decide (s.last < 0) = false := by simp; omega
            have d3 : decide (1099511627776 < s.last) = false := by simp; omega
            have d5 : (s.last == 0) = true := by simpa using t5
            rw [decide_eq_false t6] at hne
            clear t5 t6
            go_wp2
            go_quiet (fail)
            go_wp2
            go_ret
            exact ⟨ret_bool (hno.out Hq.out).symm, _, by first | rfl | exact World.drewN_drewN _ _ _⟩
          · have d1 : decide (s.id < 1) = false := by simp; omega
            have d2 : decide (s.last < 0) = false := by simp; omega
            have d3 : decide (1099511627776 < s.last) = false := by simp; omega
            have d5 : (s.last == 0) = true := by simpa using t5
            rw [decide_eq_true t6] at hne
            clear t5 t6
            go_wp2
            go_quiet (fail)
            go_wp2
            go_roundw
            case rel => exact ⟨0 + 1, s.id, by omega, by go_num, hnx.out Hq.out, .inr ⟨by omega, _, hlt, rfl, by rw [rfl_id.out]⟩, _, by first | rfl | exact World.drewN_drewN _ _ _⟩
            case measure => simp [intOf]; omega
          · have d1 : decide (s.id < 1) = false := by simp; omega
            have d2 : decide (s.last < 0) = false := by simp; omega
            have d3 : decide (1099511627776 < s.last) = false := by simp; omega
            have d5 : (s.last == 0) = false := by simpa using t5
            clear t5
            go_wp2
            go_quiet (fail)
            go_wp2
            go_roundw
            case rel => exact ⟨0 + 1, s.id, by omega, by go_num, hnx.out Hq.out, .inr ⟨by omega, _, hlt, rfl, by rw [rfl_id.out]⟩, _, by first | rfl | exact World.drewN_drewN _ _ _⟩
            case measure => simp [intOf]; omega
        · obtain ⟨e0, _⟩ := ses5 hv hkl
          rw [hid] at e0
          have hw : IntKind.i64.wrap ((j : Int) + 1 - 1) = (j : Int) := by rw [IntKind.wrap_i64]; omega
          have hj0 : (0 : Int) ≤ (j : Int) := by omega
          have hjl : (j : Int) < (l.length : Int) := by omega
          clear hv hid
          generalize hs : l[j + 1] = s at *
          have rfl_id := Lib.hid hs
          clear hs
          rcases ref_cases a s (by omega) with ⟨hq, t1⟩ | ⟨hq, t1, t2⟩ | ⟨hq, t1, t2, t3⟩ | ⟨hq, t1, t2, t3, t4⟩ | ⟨hq, t1, t2, t3, t4, t5, t6⟩ | ⟨hq, t1, t2, t3, t4, t5, t6⟩ | ⟨hq, t1, t2, t3, t4, t5⟩
          all_goals (have Hq := Lib.hid hq; clear hq)
          · have d1 : decide (s.id < 1) = true := by simp; omega
            go_wp2
            go_quiet (fail)
            go_wp2
            go_ret
            exact ⟨ret_bool (hno.out Hq.out).symm, _, by first | rfl | exact World.drewN_drewN _ _ _⟩
          · have d1 : decide (s.id < 1) = false := by simp; omega
            have d2 : decide (s.last < 0) = true := by simp; omega
            go_wp2
            go_quiet (fail)
            go_wp2
            go_ret
            exact ⟨ret_bool (hno.out Hq.out).symm, _, by first | rfl | exact World.drewN_drewN _ _ _⟩
          · have d1 : decide (s.id < 1) = false := by simp; omega
            have d2 : decide (s.last < 0) = false := by simp; omega
            have d3 : decide (1099511627776 < s.last) = true := by simp; omega
            go_wp2
            go_quiet (fail)
            go_wp2
            go_ret
            exact ⟨ret_bool (hno.out Hq.out).symm, _, by first | rfl | exact World.drewN_drewN _ _ _⟩
          · have d1 : decide (s.id < 1) = false := by simp; omega
            have d2 : decide (s.last < 0) = false := by simp; omega
            have d3 : decide (1099511627776 < s.last) = false := by simp; omega
            have d4 : decide (s.id ≤ a) = true := by simp; omega
            go_wp2
            go_quiet (fail)
            go_wp2
            go_ret
            exact ⟨ret_bool (hno.out Hq.out).symm, _, by first | rfl | exact World.drewN_drewN _ _ _⟩
          · have d1 : decide (s.id < 1) = false := by simp; omega
            have d2 : decide (s.last < 0) = false := by simp; omega
            have d3 : decide (1099511627776 < s.last) = false := by simp; omega
            have d4 : decide (s.id ≤ a) = false := by simp; omega
            have d5 : (s.last == 0) = true := by simpa using t5
            rw [decide_eq_false t6] at hne
            clear t5 t6
            go_wp2
            go_quiet (fail)
            go_wp2
            go_ret
            exact ⟨ret_bool (hno.out Hq.out).symm, _, by first | rfl | exact World.drewN_drewN _ _ _⟩
          · have d1 : decide (s.id < 1) = false := by simp; omega
            have d2 : decide (s.last < 0) = false := by simp; omega
            have d3 : decide (1099511627776 < s.last) = false := by simp; omega
            have d4 : decide (s.id ≤ a) = false := by simp; omega
            have d5 : (s.last == 0) = true := by simpa using t5
            rw [decide_eq_true t6] at hne
            clear t5 t6
            go_wp2
            go_quiet (fail)
            go_wp2
            go_roundw
            case rel => exact ⟨j + 1 + 1, s.id, by omega, by go_num, hnx.out Hq.out, .inr ⟨by omega, _, hlt, rfl, by rw [rfl_id.out]⟩, _, by first | rfl | exact World.drewN_drewN _ _ _⟩
            case measure => simp [intOf]; omega
          · have d1 : decide (s.id < 1) = false := by simp; omega
            have d2 : decide (s.last < 0) = false := by simp; omega
            have d3 : decide (1099511627776 < s.last) = false := by simp; omega
            have d4 : decide (s.id ≤ a) = false := by simp; omega
            have d5 : (s.last == 0) = false := by simpa using t5
            clear t5
            go_wp2
            go_quiet (fail)
            go_wp2
            go_roundw
            case rel => exact ⟨j + 1 + 1, s.id, by omega, by go_num, hnx.out Hq.out, .inr ⟨by omega, _, hlt, rfl, by rw [rfl_id.out]⟩, _, by first | rfl | exact World.drewN_drewN _ _ _⟩
            case measure => simp [intOf]; omega
      · have hi : ¬ (k : Int) < (l.length : Int) := by omega
        go_wp2
        go_ret
        exact ⟨ret_bool (right_end hch.out (by omega) (by omega)).symm, n, rfl⟩
end Go.Proofs.Ytmchkhofcjgeaaa
