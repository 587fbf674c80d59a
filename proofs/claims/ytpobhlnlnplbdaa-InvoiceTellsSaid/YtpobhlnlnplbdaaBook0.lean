/- What the walks of package impostbook share. -/
import Derived.Test.YtpobhlnlnplbdaaRds2
import Derived.Deep.QuietTactic
import Derived.BigQuiet
import Derived.Laws.StructEq
namespace Go.Proofs.Ytpobhlnlnplbdaa
open Go Go.RowKit

/-- the list, and eighty marks behind it -/
def roomyL {α : Type} (l : List α) (x : α) : List α := l ++ List.replicate 80 x
theorem roomyL_length {α : Type} (l : List α) (x : α) : (roomyL l x).length = l.length + 80 := by simp [roomyL]
def fillL {α : Type} (l : List α) (x z : α) (n k : Nat) : List α := l ++ (List.replicate (k - l.length) x ++ List.replicate (n - k) z)
theorem fillL_set {α : Type} (l : List α) (x z : α) (n k : Nat) (h1 : l.length ≤ k) (h2 : k < n) : (fillL l x z n k).set k x = fillL l x z n (k + 1) := by
  have e1 : k + 1 - l.length = (k - l.length) + 1 := by omega
  have e2 : n - k = (n - (k + 1)) + 1 := by omega
  unfold fillL
  rw [List.set_append_right _ _ h1, List.set_append_right _ _ (by simp), e1, e2, List.replicate_succ' (n := k - l.length) (a := x), List.replicate_succ (n := n - (k + 1)) (a := z)]
  simp
theorem fillL_length {α : Type} (l : List α) (x z : α) (n k : Nat) (h1 : l.length ≤ k) (h2 : k ≤ n) : (fillL l x z n k).length = n := by simp [fillL]; omega

theorem roomyL_of {α : Type} {lf lw : List α} {x : α} (hlen : lf.length = lw.length + 80) (h1 : lf.take lw.length = lw) (h2 : ∀ i (h : i < lf.length), lw.length ≤ i → lf[i] = x) : lf = roomyL lw x := by
  have e : lf = lf.take lw.length ++ lf.drop lw.length := (List.take_append_drop _ _).symm
  rw [e, h1]; unfold roomyL
  congr 1
  apply List.ext_getElem (by simp; omega)
  intro i a b
  simp only [List.getElem_drop, List.getElem_replicate]
  exact h2 _ _ (by omega)

end Go.Proofs.Ytpobhlnlnplbdaa
