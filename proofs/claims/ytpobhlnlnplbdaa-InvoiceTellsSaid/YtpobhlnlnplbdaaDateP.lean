/- Days: the plain law (chapter 6's, as far as chapter 7 needs it): how many lie ahead; they rise with the day, and tell it. -/
import Derived.Test.YtpobhlnlnplbdaaBase
namespace Go.Proofs.Ytpobhlnlnplbdaa
open Go Go.RowKit
structure Day where
  y : Int
  m : Int
  d : Int
deriving DecidableEq
def leapB (y : Int) : Bool := y % 4 == 0 && (y % 100 != 0 || y % 400 == 0)
def lenM (y m : Int) : Int := if m = 2 then (if leapB y = true then 29 else 28) else if m = 4 ∨ m = 6 ∨ m = 9 ∨ m = 11 then 30 else 31
def rightD (d : Day) : Bool := decide (1 ≤ d.y) && (decide (d.y ≤ 9999) && (decide (1 ≤ d.m) && (decide (d.m ≤ 12) && (decide (1 ≤ d.d) && decide (d.d ≤ lenM d.y d.m)))))
/-- the days of the first k months -/
def sumM (y : Int) : Nat → Int
  | 0 => 0
  | k + 1 => sumM y k + lenM y ((k : Int) + 1)
def aheadY (y : Int) : Int := 365 * (y - 1) + (y - 1) / 4 - (y - 1) / 100 + (y - 1) / 400
def daysD (d : Day) : Int := if rightD d = true then aheadY d.y + sumM d.y (d.m - 1).toNat + d.d - 1 else -1
theorem rightD_iff (d : Day) : rightD d = true ↔ 1 ≤ d.y ∧ d.y ≤ 9999 ∧ 1 ≤ d.m ∧ d.m ≤ 12 ∧ 1 ≤ d.d ∧ d.d ≤ lenM d.y d.m := by unfold rightD; simp
theorem lenM_range (y m : Int) : 28 ≤ lenM y m ∧ lenM y m ≤ 31 := by
  unfold lenM; split
  · split <;> omega
  · split <;> omega
theorem sumM_mono (y : Int) (k : Nat) : ∀ j, sumM y k ≤ sumM y (k + j)
  | 0 => Int.le_refl _
  | j + 1 => by
    have h := sumM_mono y k j
    have h2 := lenM_range y (((k + j : Nat) : Int) + 1)
    show sumM y k ≤ sumM y (k + j) + lenM y (((k + j : Nat) : Int) + 1)
    omega
theorem sumM_year (y : Int) : sumM y 12 = if leapB y = true then 366 else 365 := by
  cases hl : leapB y <;> simp [sumM, lenM, hl]
theorem aheadY_succ (y : Int) (_h : 1 ≤ y) : aheadY (y + 1) = aheadY y + if leapB y = true then 366 else 365 := by
  unfold aheadY leapB
  split
  · rename_i h1
    simp at h1
    omega
  · rename_i h1
    simp at h1
    omega
theorem aheadY_mono {y : Int} (h : 1 ≤ y) : ∀ j : Nat, aheadY y ≤ aheadY (y + j)
  | 0 => by simp
  | j + 1 => by
    have h1 := aheadY_mono h j
    have h2 := aheadY_succ (y + j) (by omega)
    have e : y + ((j + 1 : Nat) : Int) = y + j + 1 := by omega
    rw [e, h2]; split <;> omega
theorem days_lt_of {a b : Day} (ha : rightD a = true) (hb : rightD b = true) (h : a.y < b.y ∨ a.y = b.y ∧ (a.m < b.m ∨ a.m = b.m ∧ a.d < b.d)) : daysD a < daysD b := by
  unfold daysD
  rw [if_pos ha, if_pos hb]
  obtain ⟨a1, a2, a3, a4, a5, a6⟩ := (rightD_iff a).1 ha
  obtain ⟨b1, b2, b3, b4, b5, b6⟩ := (rightD_iff b).1 hb
  have hstep : sumM a.y ((a.m - 1).toNat + 1) = sumM a.y (a.m - 1).toNat + lenM a.y a.m := by
    show _ + lenM a.y ((((a.m - 1).toNat : Nat) : Int) + 1) = _
    rw [show (((a.m - 1).toNat : Nat) : Int) + 1 = a.m from by omega]
  rcases h with h | ⟨h, h2⟩
  · have h1 := sumM_mono a.y ((a.m - 1).toNat + 1) (12 - ((a.m - 1).toNat + 1))
    rw [show (a.m - 1).toNat + 1 + (12 - ((a.m - 1).toNat + 1)) = 12 from by omega, sumM_year] at h1
    have h3 := aheadY_succ a.y a1
    have h4 := aheadY_mono (y := a.y + 1) (by omega) (b.y - (a.y + 1)).toNat
    rw [show a.y + 1 + (((b.y - (a.y + 1)).toNat : Nat) : Int) = b.y from by omega] at h4
    have h5 := sumM_mono b.y 0 (b.m - 1).toNat
    rw [Nat.zero_add] at h5
    have h6 : sumM b.y 0 = 0 := rfl
    omega
  · rw [← h]
    rcases h2 with h2 | ⟨h2, h3⟩
    · have h1 := sumM_mono a.y ((a.m - 1).toNat + 1) ((b.m - 1).toNat - ((a.m - 1).toNat + 1))
      rw [show (a.m - 1).toNat + 1 + ((b.m - 1).toNat - ((a.m - 1).toNat + 1)) = (b.m - 1).toNat from by omega] at h1
      omega
    · rw [h2]; omega
theorem days_inj {a b : Day} (ha : rightD a = true) (hb : rightD b = true) (h : daysD a = daysD b) : a = b := by
  have h1 := days_lt_of ha hb
  have h2 := days_lt_of hb ha
  have e1 : a.y = b.y := by
    rcases Int.lt_trichotomy a.y b.y with x | x | x
    · have := h1 (.inl x); omega
    · exact x
    · have := h2 (.inl x); omega
  have e2 : a.m = b.m := by
    rcases Int.lt_trichotomy a.m b.m with x | x | x
    · have := h1 (.inr ⟨e1, .inl x⟩); omega
    · exact x
    · have := h2 (.inr ⟨e1.symm, .inl x⟩); omega
  have e3 : a.d = b.d := by
    rcases Int.lt_trichotomy a.d b.d with x | x | x
    · have := h1 (.inr ⟨e1, .inr ⟨e2, x⟩⟩); omega
    · exact x
    · have := h2 (.inr ⟨e1.symm, .inr ⟨e2.symm, x⟩⟩); omega
  cases a; cases b; simp at e1 e2 e3; subst e1; subst e2; subst e3; rfl
theorem days_range {d : Day} (h : rightD d = true) : 0 ≤ daysD d ∧ daysD d ≤ 3652058 := by
  unfold daysD
  rw [if_pos h]
  obtain ⟨a1, a2, a3, a4, a5, a6⟩ := (rightD_iff d).1 h
  have hstep : sumM d.y ((d.m - 1).toNat + 1) = sumM d.y (d.m - 1).toNat + lenM d.y d.m := by
    show _ + lenM d.y ((((d.m - 1).toNat : Nat) : Int) + 1) = _
    rw [show (((d.m - 1).toNat : Nat) : Int) + 1 = d.m from by omega]
  have h1 := sumM_mono d.y ((d.m - 1).toNat + 1) (12 - ((d.m - 1).toNat + 1))
  rw [show (d.m - 1).toNat + 1 + (12 - ((d.m - 1).toNat + 1)) = 12 from by omega, sumM_year] at h1
  have h3 := aheadY_succ d.y a1
  have h4 := aheadY_mono (y := d.y + 1) (by omega) (9999 - d.y).toNat
  rw [show d.y + 1 + (((9999 - d.y).toNat : Nat) : Int) = 10000 from by omega] at h4
  have h7 := aheadY_mono (y := 1) (by omega) (d.y - 1).toNat
  rw [show (1 : Int) + (((d.y - 1).toNat : Nat) : Int) = d.y from by omega] at h7
  have h5 := sumM_mono d.y 0 (d.m - 1).toNat
  rw [Nat.zero_add] at h5
  have h6 : sumM d.y 0 = 0 := rfl
  have h8 : aheadY 1 = 0 := by decide
  have h9 : aheadY 10000 = 3652059 := by decide
  omega
end Go.Proofs.Ytpobhlnlnplbdaa
