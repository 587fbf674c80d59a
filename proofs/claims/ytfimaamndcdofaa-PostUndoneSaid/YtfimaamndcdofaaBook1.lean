/- Books: plain words on lists of balances. -/
import Derived.Test.YtfimaamndcdofaaBal
namespace Go.Proofs.Ytfimaamndcdofaa
open Go Go.RowKit
abbrev Bal := ByteArray × Int
/-- Go's order of texts -/
def ltB (a b : ByteArray) : Bool := Op.bytesLess a.toList b.toList
def eqB (a b : ByteArray) : Bool := a.toList == b.toList
/-- rising names -/
def rightB : List Bal → Bool
  | a :: b :: r => ltB a.1 b.1 && rightB (b :: r)
  | _ => true
theorem rightB_iff (l : List Bal) : rightB l = true ↔ ∀ j (h : j + 1 < l.length), ltB l[j].1 l[j + 1].1 = true := by
  induction l with
  | nil => simp [rightB]
  | cons a r ih =>
    cases r with
    | nil => simp [rightB]
    | cons b r =>
      unfold rightB
      rw [Bool.and_eq_true, ih]
      constructor
      · rintro ⟨h1, h2⟩ j hj
        cases j with
        | zero => exact h1
        | succ j => exact h2 j (by simpa using hj)
      · intro h
        exact ⟨h 0 (by simp), fun j hj => h (j + 1) (by simpa using hj)⟩
end Go.Proofs.Ytfimaamndcdofaa
