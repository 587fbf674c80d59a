/- Texts of amounts, read: plain. -/
import Derived.Test.YtfimaamndcdofaaDoorMon
import Derived.Test.YtfimaamndcdofaaDoorMoneyMul
namespace Go.Proofs.YtfimaamndcdofaaDoor
open Go Go.RowKit
namespace Mon
def isDig (b : UInt8) : Bool := decide (48 ≤ b.toNat) && decide (b.toNat ≤ 57)
def digs (l : List UInt8) : Bool := l.all isDig && decide (0 < l.length)
def num (l : List UInt8) : Nat := l.foldl (fun u d => 10 * u + (d.toNat - 48)) 0
theorem digs_false {l : List UInt8} {k : Nat} (h : k < l.length) (hd : isDig l[k] = false) : digs l = false := by
  unfold digs
  have : l.all isDig = false := by
    rw [Bool.eq_false_iff]
    intro ha
    have := List.all_eq_true.1 ha l[k] (List.getElem_mem h)
    rw [hd] at this; cases this
  rw [this]; rfl
theorem isDig_iff (b : UInt8) : isDig b = true ↔ 48 ≤ b.toNat ∧ b.toNat ≤ 57 := by unfold isDig; simp
theorem isDig_no (b : UInt8) (h : b.toNat < 48 ∨ 57 < b.toNat) : isDig b = false := by
  rw [Bool.eq_false_iff]; intro ha; have := (isDig_iff b).1 ha; omega
theorem num_snoc (l : List UInt8) (d : UInt8) : num (l ++ [d]) = 10 * num l + (d.toNat - 48) := by unfold num; rw [List.foldl_append]; rfl
theorem num_le_append (l m : List UInt8) : num l ≤ num (l ++ m) := by
  induction m generalizing l with
  | nil => simp
  | cons d m ih =>
    have h1 := ih (l ++ [d])
    rw [num_snoc, List.append_assoc] at h1
    have : [d] ++ m = d :: m := rfl
    rw [this] at h1
    omega
theorem num_ten (l m : List UInt8) (h : m ≠ []) : 10 * num l ≤ num (l ++ m) := by
  match m, h with
  | d :: m, _ =>
    have h1 := num_le_append (l ++ [d]) m
    rw [num_snoc, List.append_assoc] at h1
    have : [d] ++ m = d :: m := rfl
    rw [this] at h1
    omega
/-- the digits read so far: those ahead of place j, but for the point at place k -/
def seen (t : List UInt8) (k j : Nat) : List UInt8 := (t.take j).eraseIdx k
theorem seen_point (t : List UInt8) (k : Nat) (_h : k < t.length) : seen t k (k + 1) = seen t k k := by
  unfold seen
  rw [List.eraseIdx_eq_take_drop_succ, List.eraseIdx_eq_take_drop_succ]
  simp [List.take_take]
  omega
theorem seen_succ (t : List UInt8) (k j : Nat) (h : j < t.length) (hk : j ≠ k) : seen t k (j + 1) = seen t k j ++ [t[j]] := by
  unfold seen
  rw [List.take_succ_eq_append_getElem h]
  rcases Nat.lt_or_ge j k with hl | hl
  · rw [List.eraseIdx_of_length_le (by simp; omega), List.eraseIdx_of_length_le (by simp; omega)]
  · rw [List.eraseIdx_append_of_lt_length (by simp; omega)]
theorem seen_all (t : List UInt8) (k : Nat) : seen t k t.length = t.take k ++ t.drop (k + 1) := by
  unfold seen
  rw [List.take_of_length_le (Nat.le_refl _), List.eraseIdx_eq_take_drop_succ]
theorem digs_get {l : List UInt8} (h : digs l = true) {j : Nat} (hj : j < l.length) : 48 ≤ l[j].toNat ∧ l[j].toNat ≤ 57 := by
  unfold digs at h
  have : l.all isDig = true := by cases hh : l.all isDig <;> simp_all
  exact (isDig_iff _).1 (List.all_eq_true.1 this l[j] (List.getElem_mem hj))
theorem dig_at {t : List UInt8} {k : Nat} (h1 : digs (t.take k) = true) (h2 : digs (t.drop (k + 1)) = true) {j : Nat} (hj : j < t.length) (hk : j ≠ k) : 48 ≤ t[j].toNat ∧ t[j].toNat ≤ 57 := by
  rcases Nat.lt_or_ge j k with hl | hl
  · have := digs_get h1 (j := j) (by simp; omega)
    simpa using this
  · have := digs_get h2 (j := j - (k + 1)) (by simp; omega)
    simp only [List.getElem_drop] at this
    have e : k + 1 + (j - (k + 1)) = j := by omega
    simp only [e] at this; exact this
theorem seen_mono (t : List UInt8) (k i j : Nat) (hk : k < t.length) (hj : j ≤ i) (hi : i ≤ t.length) : num (seen t k j) ≤ num (seen t k i) := by
  induction i with
  | zero => obtain rfl : j = 0 := by omega
            exact Nat.le_refl _
  | succ i ih =>
    by_cases hji : j = i + 1
    · subst hji; exact Nat.le_refl _
    · have h := ih (by omega) (by omega)
      by_cases hik : i = k
      · subst hik; rw [seen_point t i hk]; exact h
      · rw [seen_succ t k i (by omega) hik]
        exact Nat.le_trans h (num_le_append _ _)
theorem seen_ten (t : List UInt8) (k j : Nat) (h : j < t.length) (hk : j ≠ k) (hkt : k < t.length) : 10 * num (seen t k j) ≤ num (seen t k t.length) := by
  have h1 := seen_mono t k t.length (j + 1) hkt (by omega) (Nat.le_refl _)
  rw [seen_succ t k j h hk] at h1
  exact Nat.le_trans (num_ten _ _ (by simp)) h1
theorem seen_zero (t : List UInt8) (k : Nat) : seen t k 0 = [] := by unfold seen; simp
def neg (l : List UInt8) : Bool := l.head? == some 45
def body (l : List UInt8) : List UInt8 := if neg l then l.tail else l
def form (l t : List UInt8) (k : Nat) : Bool := (t[k]? == some 46) && digs (t.take k) && digs (t.drop (k + 1)) && !(decide (1 < k) && (t.head? == some 48)) && !(l == [45, 48, 46, 48, 48])
def noForm : Value := .tuple #[.int .i64 0, .int .i64 4]
/-- what a text without its sign tells -/
def rdBody (l t : List UInt8) (b : Bool) : Value := if t.length < 4 then noForm else if form l t (t.length - 3) then told (sgn (num (t.take (t.length - 3) ++ t.drop (t.length - 3 + 1))) b) else noForm
def rd (l : List UInt8) : Value := rdBody l (body l) (neg l)
end Mon
end Go.Proofs.YtfimaamndcdofaaDoor
