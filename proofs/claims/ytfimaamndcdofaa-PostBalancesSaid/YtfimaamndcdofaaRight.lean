/- The walks of post.Right, impostref8.BookRight. -/
import Derived.Test.YtfimaamndcdofaaBook1
import Derived.Deep.QuietTactic
import Derived.BigQuiet
import Derived.WalkLawsBesides
namespace Go.Proofs.Ytfimaamndcdofaa
open Go Go.RowKit

set_option maxHeartbeats 1000000 in
theorem postRight (v : Value) (l : List Bal) (w : World) (hv : Rd balE w v l) :
    Calls Try.prog 17 #[v] w fun e w' => e = .returned (.bool (rightB l)) ∧ ∃ n, w' = w.drewN n := by
  obtain ⟨p, cap, rfl, h1, h2, h3, h4⟩ := hv.form
  clear hv h3
  unfold maxLen at h2
  go_enter Try.func17, Try.ntmps17
  go_wp2
  go_loopw [3] (fun i wr => ∃ k : Nat, 1 ≤ k ∧ (k ≤ l.length ∨ k = 1) ∧ i = .int .i64 k ∧ Hid (∀ j (h : j + 1 < l.length), j + 1 < k → ltB l[j].1 l[j + 1].1 = true) ∧ ∃ n, wr = w.drewN n) (fun i _ => l.length - (intOf i).toNat)
  case atStart => exact ⟨1, by omega, by omega, rfl, fun j h hj => by omega, 0, rfl⟩
  case round =>
    obtain ⟨k, hk1, hk, rfl, hok, nd, rfl⟩ := hrel
    by_cases hlt : k < l.length
    · obtain ⟨b, off, rfl, hc⟩ := h4 (by omega)
      obtain ⟨j, rfl⟩ : ∃ j, k = j + 1 := ⟨k - 1, by omega⟩
      have hc1 := hc j (by omega) 0 (by decide)
      have hc2 := hc (j + 1) hlt 0 (by decide)
      simp only [balE, List.getElem?_cons_zero, Nat.add_zero] at hc1 hc2
      have hi : ((j : Int) + 1) < (l.length : Int) := by omega
      have hi0 : (0 : Int) ≤ (j : Int) := by omega
      have hi1 : (j : Int) < (l.length : Int) := by omega
      clear h4 hc
      have hw : IntKind.i64.wrap ((j : Int) + 1 - 1) = (j : Int) := by rw [IntKind.wrap_i64]; omega
      go_wp2
      go_quiet (fail)
      go_wp2
      · go_ret
        have hlt' : (!Op.bytesLess l[j].1.toList l[j + 1].1.toList) = true := by assumption
        refine ⟨ret_bool ?_, _, World.drewN_drewN _ _ _⟩
        symm; rw [Bool.eq_false_iff]; intro hr
        have := (rightB_iff l).1 hr j hlt
        unfold ltB at this
        rw [this] at hlt'; cases hlt'
      · go_roundw
        case rel =>
          have hlt' : (!Op.bytesLess l[j].1.toList l[j + 1].1.toList) = false := by assumption
          refine ⟨j + 1 + 1, by omega, by omega, by go_num, fun i h hj => ?_, _, by first | rfl | exact World.drewN_drewN _ _ _⟩
          by_cases e : i = j
          · subst e; unfold ltB; simpa using hlt'
          · exact hok.out i h (by omega)
        case measure => simp [intOf]; omega
    · go_wp2
      go_ret
      exact ⟨ret_bool ((rightB_iff l).2 fun j h => hok.out j h (by omega)).symm, _, rfl⟩

set_option maxHeartbeats 1000000 in
theorem bookRight (v : Value) (l : List Bal) (w : World) (hv : Rd balE w v l) :
    Calls Try.prog 18 #[v] w fun e w' => e = .returned (.bool (rightB l)) ∧ ∃ n, w' = w.drewN n := by
  obtain ⟨p, cap, rfl, h1, h2, h3, h4⟩ := hv.form
  clear hv h3
  unfold maxLen at h2
  go_enter Try.func18, Try.ntmps18
  go_wp2
  go_loopw [3] (fun i wr => ∃ k : Nat, 1 ≤ k ∧ (k ≤ l.length ∨ k = 1) ∧ i = .int .i64 k ∧ Hid (∀ j (h : j + 1 < l.length), j + 1 < k → ltB l[j].1 l[j + 1].1 = true) ∧ ∃ n, wr = w.drewN n) (fun i _ => l.length - (intOf i).toNat)
  case atStart => exact ⟨1, by omega, by omega, rfl, fun j h hj => by omega, 0, rfl⟩
  case round =>
    obtain ⟨k, hk1, hk, rfl, hok, nd, rfl⟩ := hrel
    by_cases hlt : k < l.length
    · obtain ⟨b, off, rfl, hc⟩ := h4 (by omega)
      obtain ⟨j, rfl⟩ : ∃ j, k = j + 1 := ⟨k - 1, by omega⟩
      have hc1 := hc j (by omega) 0 (by decide)
      have hc2 := hc (j + 1) hlt 0 (by decide)
      simp only [balE, List.getElem?_cons_zero, Nat.add_zero] at hc1 hc2
      have hi : ((j : Int) + 1) < (l.length : Int) := by omega
      have hi0 : (0 : Int) ≤ (j : Int) := by omega
      have hi1 : (j : Int) < (l.length : Int) := by omega
      clear h4 hc
      have hw : IntKind.i64.wrap ((j : Int) + 1 - 1) = (j : Int) := by rw [IntKind.wrap_i64]; omega
      go_wp2
      go_quiet (fail)
      go_wp2
      · go_ret
        have hlt' : (!Op.bytesLess l[j].1.toList l[j + 1].1.toList) = true := by assumption
        refine ⟨ret_bool ?_, _, World.drewN_drewN _ _ _⟩
        symm; rw [Bool.eq_false_iff]; intro hr
        have := (rightB_iff l).1 hr j hlt
        unfold ltB at this
        rw [this] at hlt'; cases hlt'
      · go_roundw
        case rel =>
          have hlt' : (!Op.bytesLess l[j].1.toList l[j + 1].1.toList) = false := by assumption
          refine ⟨j + 1 + 1, by omega, by omega, by go_num, fun i h hj => ?_, _, by first | rfl | exact World.drewN_drewN _ _ _⟩
          by_cases e : i = j
          · subst e; unfold ltB; simpa using hlt'
          · exact hok.out i h (by omega)
        case measure => simp [intOf]; omega
    · go_wp2
      go_ret
      exact ⟨ret_bool ((rightB_iff l).2 fun j h => hok.out j h (by omega)).symm, _, rfl⟩
end Go.Proofs.Ytfimaamndcdofaa
