/- Sums of numbers of 64 bits in two words of 64 bits. No program in sight. -/
import Derived.Test.YtfimaamndcdofaaMon
namespace Go.Proofs.Ytfimaamndcdofaa
open Go Go.RowKit
namespace Mon
/-- low and high word of a sum -/
def Words (S hi lo : Int) : Prop := lo = S % 18446744073709551616 ∧ hi = (S / 18446744073709551616) % 18446744073709551616
theorem words_zero : Words 0 0 0 := ⟨rfl, rfl⟩
theorem words_step {S hi lo x y s : Int} (h : Words S hi lo) (hy : y = x % 18446744073709551616) (hs : (0 ≤ x ∧ s = 0) ∨ (x < 0 ∧ s = 18446744073709551615)) (hx : fits x) :
    Words (S + x) ((hi + s + (lo + y + 0) / 18446744073709551616) % 18446744073709551616) ((lo + y + 0) % 18446744073709551616) := by
  obtain ⟨h1, h2⟩ := h
  unfold fits at hx
  constructor
  · omega
  · have h3 := Int.emod_add_mul_ediv S 18446744073709551616
    have h4 := Int.emod_nonneg S (show (18446744073709551616 : Int) ≠ 0 by decide)
    have h5 := Int.emod_lt_of_pos S (show (0 : Int) < 18446744073709551616 by decide)
    rw [← h1] at h3 h4 h5
    have hc : (S + x) / 18446744073709551616 = S / 18446744073709551616 + ((lo + y) / 18446744073709551616) + (if x < 0 then -1 else 0) := by
      generalize S / 18446744073709551616 = q at *
      rcases hs with ⟨hx0, _⟩ | ⟨hx0, _⟩
      · rw [if_neg (by omega)]; omega
      · rw [if_pos hx0]; omega
    rw [hc, h2]
    generalize S / 18446744073709551616 = q at *
    rw [Int.add_zero]
    generalize (lo + y) / 18446744073709551616 = c at *
    rcases hs with ⟨hx0, rfl⟩ | ⟨hx0, rfl⟩
    · rw [if_neg (by omega)]; omega
    · rw [if_pos hx0]; omega
/-- what the two words tell of a sum that is not too great -/
theorem words_low {S hi lo : Int} (h : Words S hi lo) (hS : -170141183460469231731687303715884105728 ≤ S ∧ S < 170141183460469231731687303715884105728) :
    (lo < 9223372036854775808 → (hi = 0 ↔ fits S) ∧ (fits S → lo = S)) ∧ (¬ lo < 9223372036854775808 → (hi = 18446744073709551615 ↔ fits S) ∧ (fits S → lo - 18446744073709551616 = S)) := by
  obtain ⟨h1, h2⟩ := h
  unfold fits
  have h3 := Int.emod_add_mul_ediv S 18446744073709551616
  have h4 := Int.emod_nonneg S (show (18446744073709551616 : Int) ≠ 0 by decide)
  have h5 := Int.emod_lt_of_pos S (show (0 : Int) < 18446744073709551616 by decide)
  rw [← h1] at h3 h4 h5
  clear h1
  generalize S / 18446744073709551616 = q at *
  have hq : -9223372036854775808 ≤ q ∧ q < 9223372036854775808 := by omega
  refine ⟨fun h => ⟨⟨fun h6 => ?_, fun h6 => ?_⟩, fun h6 => ?_⟩, fun h => ⟨⟨fun h6 => ?_, fun h6 => ?_⟩, fun h6 => ?_⟩⟩ <;> omega
end Mon
theorem sum_bound (l : List Int) (h : ∀ x ∈ l, Mon.fits x) : -9223372036854775808 * (l.length : Int) ≤ l.sum ∧ l.sum ≤ 9223372036854775808 * (l.length : Int) := by
  induction l with
  | nil => simp
  | cons x l ih =>
    have h1 := ih (fun y hy => h y (by simp [hy]))
    have h2 := h x (by simp)
    unfold Mon.fits at h2
    simp only [List.sum_cons, List.length_cons]
    omega
theorem sum_take_succ {l : List Int} {k : Nat} (hk : k < l.length) : (l.take (k + 1)).sum = (l.take k).sum + l[k] := by
  rw [List.take_succ_eq_append_getElem hk, List.sum_append]; simp
end Go.Proofs.Ytfimaamndcdofaa
