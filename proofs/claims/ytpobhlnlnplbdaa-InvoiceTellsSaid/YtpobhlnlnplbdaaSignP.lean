/- Names: plain words. -/
import Derived.Test.YtpobhlnlnplbdaaStrOrd
import Derived.Laws.RangeAny
import Derived.Laws.RangeString
namespace Go.Proofs.Ytpobhlnlnplbdaa
open Go Go.RowKit
def letterB (r : Int) : Bool := (decide (97 ≤ r) && decide (r ≤ 122)) || ((decide (65 ≤ r) && decide (r ≤ 90)) || (decide (192 ≤ r) && (decide (r ≤ 591) && (!(r == 215) && !(r == 247)))))
def otherB (r : Int) : Bool := (decide (48 ≤ r) && decide (r ≤ 57)) || (r == 45 || (r == 95 || r == 46))
def nameTo (s : ByteArray) : Nat → Nat → Bool
  | 0, _ => true
  | b + 1, pos => if pos < s.size then (letterB ((Utf8.decode s pos).1 : Nat) || (!(pos == 0) && otherB ((Utf8.decode s pos).1 : Nat))) && nameTo s b (pos + (Utf8.decode s pos).2) else true
def nameB (s : ByteArray) : Bool := decide (1 ≤ s.size) && (decide (s.size ≤ 24) && nameTo s s.size 0)
theorem nameTo_end (s : ByteArray) (b pos : Nat) (h : ¬ pos < s.size) : nameTo s b pos = true := by
  cases b with
  | zero => rfl
  | succ b => rw [nameTo, if_neg h]
theorem nameTo_step (s : ByteArray) (b pos : Nat) (h : pos < s.size) : nameTo s (b + 1) pos = ((letterB ((Utf8.decode s pos).1 : Nat) || (!(pos == 0) && otherB ((Utf8.decode s pos).1 : Nat))) && nameTo s b (pos + (Utf8.decode s pos).2)) := by
  rw [nameTo, if_pos h]
theorem decode_wide (s : ByteArray) (pos : Nat) (h : pos < s.size) : 1 ≤ (Utf8.decode s pos).2 := by
  by_cases ha : (s[pos]'h).toNat < 128
  · rw [decode_ascii s pos h ha]; exact Nat.le_refl _
  · exact (decode_high s pos h (by omega)).2
theorem other_cases (r : Int) : (otherB r = true ∧ 48 ≤ r ∧ r ≤ 57) ∨ (otherB r = true ∧ r = 45) ∨ (otherB r = true ∧ r = 95) ∨ (otherB r = true ∧ r = 46) ∨ (otherB r = false ∧ r < 48 ∧ r ≠ 45 ∧ r ≠ 95 ∧ r ≠ 46) ∨ (otherB r = false ∧ 57 < r ∧ r ≠ 45 ∧ r ≠ 95 ∧ r ≠ 46) := by
  by_cases h1 : r = 45
  · exact .inr (.inl ⟨by subst h1; rfl, h1⟩)
  · by_cases h2 : r = 95
    · exact .inr (.inr (.inl ⟨by subst h2; rfl, h2⟩))
    · by_cases h3 : r = 46
      · exact .inr (.inr (.inr (.inl ⟨by subst h3; rfl, h3⟩)))
      · have e : otherB r = (decide (48 ≤ r) && decide (r ≤ 57)) := by
          unfold otherB
          rw [show (r == 45) = false from by simpa using h1, show (r == 95) = false from by simpa using h2, show (r == 46) = false from by simpa using h3]; simp
        by_cases h4 : r < 48
        · exact .inr (.inr (.inr (.inr (.inl ⟨by rw [e, decide_eq_false (by omega)]; rfl, h4, h1, h2, h3⟩))))
        · by_cases h5 : 57 < r
          · exact .inr (.inr (.inr (.inr (.inr ⟨by rw [e, decide_eq_false (p := r ≤ 57) (by omega), Bool.and_false], h5, h1, h2, h3⟩))))
          · exact .inl ⟨by rw [e, decide_eq_true (by omega), decide_eq_true (by omega)]; rfl, by omega, by omega⟩
theorem nameB_len {s : ByteArray} (h : nameB s = true) : 1 ≤ s.size ∧ s.size ≤ 24 ∧ nameTo s s.size 0 = true := by
  unfold nameB at h; simpa using h
theorem nameB_short {s : ByteArray} (h : s.size < 1) : nameB s = false := by unfold nameB; rw [decide_eq_false (by omega)]; rfl
theorem nameB_long {s : ByteArray} (h : 24 < s.size) : nameB s = false := by unfold nameB; rw [decide_eq_false (p := s.size ≤ 24) (by omega)]; simp
theorem nameB_mid {s : ByteArray} (h : 1 ≤ s.size) (h2 : s.size ≤ 24) : nameB s = nameTo s s.size 0 := by unfold nameB; rw [decide_eq_true h, decide_eq_true h2]; rfl
end Go.Proofs.Ytpobhlnlnplbdaa
