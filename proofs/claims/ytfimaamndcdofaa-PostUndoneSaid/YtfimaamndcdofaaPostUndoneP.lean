/- PostUndone: the plain law. -/
import Derived.Test.YtfimaamndcdofaaPostEachP
namespace Go.Proofs.Ytfimaamndcdofaa
open Go Go.RowKit

/-- rows taken off 0 -/
def negR (l : List Bal) : List Bal := l.map fun x => (x.1, -x.2)
theorem negR_length (l : List Bal) : (negR l).length = l.length := by simp [negR]
theorem amtOf_neg (l : List Bal) (a : ByteArray) : amtOf (negR l) a = - amtOf l a := by
  induction l with
  | nil => rfl
  | cons x l ih =>
    show amtOf ((x.1, -x.2) :: negR l) a = _
    rw [amtOf_cons, amtOf_cons, ih]
    simp only
    split <;> omega
theorem negR_take_succ {l : List Bal} {k : Nat} (h : k < l.length) : negR (l.take (k + 1)) = negR (l.take k) ++ [(l[k].1, -l[k].2)] := by
  unfold negR; rw [List.take_succ_eq_append_getElem h, List.map_append]; rfl
theorem cut_names (lo hi : Int) (l : List Bal) : (cutR lo hi l).map (·.1) = l.map (·.1) := by unfold cutR; rw [List.map_map]; rfl
theorem cut_up (lo hi : Int) (l : List Bal) : Up (cutR lo hi l) ↔ Up l := by
  unfold Up cutR
  rw [List.pairwise_map]
/-- each account has what it had -/
theorem undone {was a x y : List Bal} (hu : Up was) (h1 : enterTo was a = .ok x) (h2 : enterTo x (negR a) = .ok y) : Up y ∧ (∀ c, amtOf y c = amtOf was c) ∧ was.length ≤ y.length := by
  obtain ⟨a1, _, a3, _, a5⟩ := enterTo_spec h1
  obtain ⟨b1, _, b3, _, b5⟩ := enterTo_spec h2
  refine ⟨b3 (a3 hu), fun c => ?_, Nat.le_trans a5 b5⟩
  rw [b1, a1, amtOf_neg]; omega
end Go.Proofs.Ytfimaamndcdofaa
