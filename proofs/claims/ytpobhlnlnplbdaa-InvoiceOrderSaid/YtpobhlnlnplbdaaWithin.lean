/- impostbook.Within: a number brought into lo .. hi. -/
import Derived.Test.YtpobhlnlnplbdaaRows
import Derived.Test.YtpobhlnlnplbdaaBase
namespace Go.Proofs.Ytpobhlnlnplbdaa
open Go Go.RowKit

/-- a number brought into lo .. hi -/
def within (n lo hi : Int) : Int := lo + n % (hi - lo + 1)
theorem within_bounds (n lo hi : Int) (h : lo ≤ hi) : lo ≤ within n lo hi ∧ within n lo hi ≤ hi := by
  unfold within
  have h1 := Int.emod_nonneg n (show hi - lo + 1 ≠ 0 by omega)
  have h2 := Int.emod_lt_of_pos n (show 0 < hi - lo + 1 by omega)
  omega

theorem tmod_mod (n d : Int) (hd : 0 < d) : -d < n.tmod d ∧ n.tmod d < d ∧ (0 ≤ n.tmod d → n % d = n.tmod d) ∧ (n.tmod d < 0 → n % d = n.tmod d + d) := by
  rcases Int.lt_or_le n 0 with hn | hn
  · have e : n.tmod d = -((-n).tmod d) := by rw [Int.neg_tmod]; omega
    have e2 : (-n).tmod d = (-n) % d := Int.tmod_eq_emod_of_nonneg (by omega)
    have h1 := Int.emod_nonneg (-n) (show d ≠ 0 by omega)
    have h2 := Int.emod_lt_of_pos (-n) hd
    have h3 := Int.emod_nonneg n (show d ≠ 0 by omega)
    have h4 := Int.emod_lt_of_pos n hd
    have h5 := Int.emod_add_mul_ediv n d
    have h6 := Int.emod_add_mul_ediv (-n) d
    generalize n.tmod d = t at *
    generalize (-n) % d = s at *
    generalize n % d = r at *
    have h7 : d * (n / d + -n / d) = - (r + s) := by rw [Int.mul_add]; omega
    generalize n / d + -n / d = q at h7
    have h8 : q = 0 ∨ q = -1 := by
      rcases Int.lt_trichotomy q 0 with h | h | h
      · by_cases hq : q = -1
        · exact .inr hq
        · have : d * q ≤ d * (-2) := Int.mul_le_mul_of_nonneg_left (by omega) (by omega)
          omega
      · exact .inl h
      · have : d * 1 ≤ d * q := Int.mul_le_mul_of_nonneg_left (by omega) (by omega)
        omega
    rcases h8 with rfl | rfl <;> omega
  · have e2 : n.tmod d = n % d := Int.tmod_eq_emod_of_nonneg hn
    have h3 := Int.emod_nonneg n (show d ≠ 0 by omega)
    have h4 := Int.emod_lt_of_pos n hd
    omega

set_option maxHeartbeats 400000 in
theorem withinCalls (n lo hi : Int) (w : World) (h0 : -2305843009213693952 ≤ lo) (h1 : lo ≤ hi) (h2 : hi ≤ 2305843009213693952) :
    Calls Try.prog 31 #[.int .i64 n, .int .i64 lo, .int .i64 hi] w fun e w' => e = .returned (.int .i64 (within n lo hi)) ∧ w = w' := by
  obtain ⟨t1, t2, t3, t4⟩ := tmod_mod n (hi - lo + 1) (by omega)
  go_enter Try.func31, Try.ntmps31
  go_wp2
  · go_ret
    exact ⟨ret_int (by unfold within; rw [t4 (by assumption)]; omega), rfl⟩
  · go_ret
    exact ⟨ret_int (by unfold within; rw [t3 (by assumption)]), rfl⟩

end Go.Proofs.Ytpobhlnlnplbdaa
