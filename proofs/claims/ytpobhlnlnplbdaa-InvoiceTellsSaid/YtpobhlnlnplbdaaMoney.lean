/- Walks of money's and impostref3's Add, Sub, Mul. -/
import Derived.Test.YtpobhlnlnplbdaaMon
namespace Go.Proofs.Ytpobhlnlnplbdaa
open Go Go.RowKit

theorem ret_told {z a b : Int} (h : (Mon.fits z ∧ a = z ∧ b = 0) ∨ (¬ Mon.fits z ∧ a = 0 ∧ b = 7)) : Ending.returned (.tuple #[.int .i64 a, .int .i64 b]) = .returned (Mon.told z) := by
  rcases h with ⟨h, rfl, rfl⟩ | ⟨h, rfl, rfl⟩
  · rw [Mon.told_ok h]
  · rw [Mon.told_no h]

set_option maxHeartbeats 400000 in
theorem moneyAdd (a b : Int) (w : World) (ha : Mon.fits a) (hb : Mon.fits b) : Calls Try.prog 74 #[.int .i64 a, .int .i64 b] w fun e w' => e = .returned (Mon.told (a + b)) ∧ w = w' := by
  obtain ⟨a1, a2⟩ := ha
  obtain ⟨b1, b2⟩ := hb
  go_enter Try.func74, Try.ntmps74
  go_wp2
  all_goals
    go_ret2
    exact ⟨ret_told (by unfold Mon.fits; omega), rfl⟩

set_option maxHeartbeats 400000 in
theorem moneySub (a b : Int) (w : World) (ha : Mon.fits a) (hb : Mon.fits b) : Calls Try.prog 77 #[.int .i64 a, .int .i64 b] w fun e w' => e = .returned (Mon.told (a - b)) ∧ w = w' := by
  obtain ⟨a1, a2⟩ := ha
  obtain ⟨b1, b2⟩ := hb
  go_enter Try.func77, Try.ntmps77
  go_wp2
  all_goals
    go_ret2
    exact ⟨ret_told (by unfold Mon.fits; omega), rfl⟩

set_option maxHeartbeats 400000 in
theorem refAdd (a b : Int) (w : World) (ha : Mon.fits a) (hb : Mon.fits b) : Calls Try.prog 60 #[.int .i64 a, .int .i64 b] w fun e w' => e = .returned (Mon.told (a + b)) ∧ w = w' := by
  obtain ⟨a1, a2⟩ := ha
  obtain ⟨b1, b2⟩ := hb
  go_enter Try.func60, Try.ntmps60
  go_wp2
  all_goals
    go_ret2
    exact ⟨ret_told (by unfold Mon.fits; omega), rfl⟩

set_option maxHeartbeats 400000 in
theorem refSub (a b : Int) (w : World) (ha : Mon.fits a) (hb : Mon.fits b) : Calls Try.prog 64 #[.int .i64 a, .int .i64 b] w fun e w' => e = .returned (Mon.told (a - b)) ∧ w = w' := by
  obtain ⟨a1, a2⟩ := ha
  obtain ⟨b1, b2⟩ := hb
  go_enter Try.func64, Try.ntmps64
  go_wp2
  all_goals
    go_ret2
    exact ⟨ret_told (by unfold Mon.fits; omega), rfl⟩

end Go.Proofs.Ytpobhlnlnplbdaa
