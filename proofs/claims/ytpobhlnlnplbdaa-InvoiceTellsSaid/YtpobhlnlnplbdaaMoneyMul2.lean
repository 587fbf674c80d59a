/- Walks of money's and impostref3's Mul. -/
import Derived.Test.YtpobhlnlnplbdaaMoneyMul
namespace Go.Proofs.Ytpobhlnlnplbdaa
open Go Go.RowKit

theorem neg_lt (X : Nat) : ((-(X : Int)) < 0) = (0 < X) := propext (by omega)
theorem sgn_mul (a b : Int) : sgn (a.natAbs * b.natAbs) (!(decide (a < 0) == decide (b < 0))) = a * b := by
  unfold sgn
  rcases Int.lt_or_le a 0 with ha | ha <;> rcases Int.lt_or_le b 0 with hb | hb
  · rw [decide_eq_true ha, decide_eq_true hb]
    have h1 : (a.natAbs : Int) = -a := by omega
    have h2 : (b.natAbs : Int) = -b := by omega
    simp only [Int.natCast_mul, h1, h2]; simp [Int.neg_mul, Int.mul_neg]
  · rw [decide_eq_true ha, decide_eq_false (by omega)]
    have h1 : (a.natAbs : Int) = -a := by omega
    have h2 : (b.natAbs : Int) = b := by omega
    simp only [Int.natCast_mul, h1, h2]; simp [Int.neg_mul, Int.mul_neg]
  · rw [decide_eq_false (by omega), decide_eq_true hb]
    have h1 : (a.natAbs : Int) = a := by omega
    have h2 : (b.natAbs : Int) = -b := by omega
    simp only [Int.natCast_mul, h1, h2]; simp [Int.neg_mul, Int.mul_neg]
  · rw [decide_eq_false (by omega), decide_eq_false (by omega)]
    have h1 : (a.natAbs : Int) = a := by omega
    have h2 : (b.natAbs : Int) = b := by omega
    simp only [Int.natCast_mul, h1, h2]; simp [Int.neg_mul, Int.mul_neg]

theorem sgn_fits {u : Nat} {c : Bool} (h : 9223372036854775808 < u) : ¬ Mon.fits (sgn u c) := by
  unfold sgn Mon.fits; cases c <;> simp <;> omega

set_option maxHeartbeats 400000 in
theorem moneyMul (a b : Int) (w : World) (ha : Mon.fits a) (hb : Mon.fits b) : Calls Try.prog 72 #[.int .i64 a, .int .i64 b] w fun e w' => e = .returned (Mon.told (a * b)) ∧ w = w' := by
  go_enter Try.func72, Try.ntmps72
  go_wp2_with fail
  with_reducible refine (moneySize a _ ha).mono ?_
  rintro e w' ⟨rfl, rfl⟩
  go_wp2_with fail
  with_reducible refine (moneySize b _ hb).mono ?_
  rintro e w' ⟨rfl, rfl⟩
  have hs := Lib.hid (sgn_mul a b)
  have hX : a.natAbs ≤ 9223372036854775808 := by unfold Mon.fits at ha; omega
  have hY : b.natAbs ≤ 9223372036854775808 := by unfold Mon.fits at hb; omega
  generalize a.natAbs = X at *
  generalize b.natAbs = Y at *
  go_wp2_with fail
  · go_ret2
    refine ⟨ret_told (.inr ⟨?_, rfl, rfl⟩), rfl⟩
    rw [← hs.out]
    apply sgn_fits
    have h1 : (9223372036854775808 : Int) / (Y : Int) < (X : Int) := by assumption
    rw [Int.ediv_lt_iff_lt_mul (by omega), ← Int.natCast_mul] at h1
    omega
  all_goals
    have hp : X * Y ≤ 9223372036854775808 := by
      first
        | (have h1 : (X : Int) ≤ (9223372036854775808 : Int) / (Y : Int) := by assumption
           rw [Int.le_ediv_iff_mul_le (by omega), ← Int.natCast_mul] at h1
           omega)
        | (have : Y = 0 := by omega
           subst this; simp)
    have hw : IntKind.u64.wrap ((X : Int) * (Y : Int)) = ((X * Y : Nat) : Int) := by rw [IntKind.wrap_u64, ← Int.natCast_mul]; omega
    rw [hw]
    clear hw
    generalize X * Y = u at *
    with_reducible refine (moneySigned u _ _ (by omega)).mono ?_
    rintro e w' ⟨⟨z, rfl, hz⟩, rfl⟩
    rw [hs.out] at hz ⊢
    by_cases hf : Mon.fits (a * b)
    · rw [decide_eq_true hf, hz hf]
      clear hz
      go_wp2
      go_ret2
      exact ⟨ret_told (.inl ⟨hf, rfl, rfl⟩), rfl⟩
    · rw [decide_eq_false hf]
      clear hz
      go_wp2
      go_ret2
      exact ⟨ret_told (.inr ⟨hf, rfl, rfl⟩), rfl⟩

set_option maxHeartbeats 400000 in
theorem refMul (a b : Int) (w : World) (ha : Mon.fits a) (hb : Mon.fits b) : Calls Try.prog 59 #[.int .i64 a, .int .i64 b] w fun e w' => e = .returned (Mon.told (a * b)) ∧ w = w' := by
  go_enter Try.func59, Try.ntmps59
  go_wp2_with fail
  with_reducible refine (refSize a _ ha).mono ?_
  rintro e w' ⟨rfl, rfl⟩
  go_wp2_with fail
  with_reducible refine (refSize b _ hb).mono ?_
  rintro e w' ⟨rfl, rfl⟩
  by_cases h0 : a.natAbs = 0 ∨ b.natAbs = 0
  · have hz : a * b = 0 := by
      rcases h0 with h | h
      · rw [Int.natAbs_eq_zero.1 h]; simp
      · rw [Int.natAbs_eq_zero.1 h]; simp
    have Hz := Lib.hid hz
    have h0' : (((a.natAbs : Int) == 0) = true) ∨ (((a.natAbs : Int) == 0) = false ∧ ((b.natAbs : Int) == 0) = true) := by
      by_cases h : a.natAbs = 0
      · left; simp [h]
      · right; rcases h0 with h0 | h0
        · exact absurd h0 h
        · exact ⟨by simp; omega, by simp [h0]⟩
    generalize a.natAbs = X at *
    generalize b.natAbs = Y at *
    clear h0 hz
    rcases h0' with h | ⟨h, h'⟩
    all_goals
      go_wp2_with fail
      go_ret2
      refine ⟨?_, rfl⟩
      rw [Hz.out]
      exact ret_told (.inl ⟨by decide, rfl, rfl⟩)
  · have hs := Lib.hid (sgn_mul a b)
    have hx0 : ((a.natAbs : Int) == 0) = false := by simp; omega
    have hy0 : ((b.natAbs : Int) == 0) = false := by simp; omega
    have hX : a.natAbs ≤ 9223372036854775808 := by unfold Mon.fits at ha; omega
    have hY : b.natAbs ≤ 9223372036854775808 := by unfold Mon.fits at hb; omega
    have hYp : 0 < b.natAbs := by omega
    generalize a.natAbs = X at *
    generalize b.natAbs = Y at *
    clear h0
    go_wp2_with fail
    all_goals
      go_ret2
      have hs' := hs.out
      have hu : ((X * Y : Nat) : Int) = (X : Int) * (Y : Int) := Int.natCast_mul X Y
      first
        | (rw [show (!(decide (a < 0) == decide (b < 0))) = true from by assumption] at hs'
           simp only [sgn, if_true] at hs'
           first
             | (have h1 : (9223372036854775808 : Int) / (Y : Int) < (X : Int) := by assumption
                rw [Int.ediv_lt_iff_lt_mul (by omega), ← hu] at h1
                generalize a * b = z at *
                exact ⟨ret_told (.inr ⟨by unfold Mon.fits; omega, rfl, rfl⟩), rfl⟩)
             | (have h1 : (X : Int) ≤ (9223372036854775808 : Int) / (Y : Int) := by assumption
                rw [Int.le_ediv_iff_mul_le (by omega), ← hu] at h1
                generalize a * b = z at *
                exact ⟨ret_told (.inl ⟨by unfold Mon.fits; omega, by simp only [wrap64, IntKind.wrap_i64]; omega, rfl⟩), rfl⟩))
        | (rw [show (!(decide (a < 0) == decide (b < 0))) = false from by assumption] at hs'
           simp only [sgn, Bool.false_eq_true, if_false] at hs'
           first
             | (have h1 : (9223372036854775807 : Int) / (Y : Int) < (X : Int) := by assumption
                rw [Int.ediv_lt_iff_lt_mul (by omega), ← hu] at h1
                generalize a * b = z at *
                exact ⟨ret_told (.inr ⟨by unfold Mon.fits; omega, rfl, rfl⟩), rfl⟩)
             | (have h1 : (X : Int) ≤ (9223372036854775807 : Int) / (Y : Int) := by assumption
                rw [Int.le_ediv_iff_mul_le (by omega), ← hu] at h1
                generalize a * b = z at *
                exact ⟨ret_told (.inl ⟨by unfold Mon.fits; omega, by simp only [wrap64, IntKind.wrap_i64]; omega, rfl⟩), rfl⟩))

end Go.Proofs.Ytpobhlnlnplbdaa
