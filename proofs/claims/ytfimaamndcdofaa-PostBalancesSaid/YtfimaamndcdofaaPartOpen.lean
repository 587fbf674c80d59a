/- What an argument that is a slice of parts reads as. -/
import Derived.Test.YtfimaamndcdofaaPostOpen
namespace Go.Proofs.Ytfimaamndcdofaa
open Go Go.RowKit Go.ChangeShapes Go.WideShapes Go.ChangeAt Go.Deep Go.Joins
theorem open_parts {H : Type} {enc : TypeId × Value → H} {W : World} {base : Nat} {v : Value} {d : DataW H} {p : List MemPlace} {ts : List TypeId} {ds : List (DataW H)} (j : Nat)
    (ht : ts[j]? = some 28) (hd : ds[j]? = some d) (hok : Value.okWide Try.prog W .any base 28 v) (h : DataW.Trod enc Try.prog W 0 (fun _ => true) true 28 v d p)
    (hsz : (DataW.weightsEach Try.prog ts ds).all (· ≤ reachBytes) = true) : ∃ l : List Part, Rd partE W v l := by
  obtain ⟨l, h1, _⟩ := open_rd partE Try.underlying28 (by kernel_rfl) (PartG Try.prog 27) elem_part hok h
  exact ⟨l, h1⟩
end Go.Proofs.Ytfimaamndcdofaa
