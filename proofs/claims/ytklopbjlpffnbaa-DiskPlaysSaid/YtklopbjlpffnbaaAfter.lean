/- A region that draws its order, whose operations read old memory and whose callees write none of it (they may make memory): one walk of the text's order, in the class of all worlds behind a given one. -/
import Derived.Test.YtklopbjlpffnbaaBase
import Derived.BigQuiet
namespace Go.Proofs.Ytklopbjlpffnbaa
open Go Go.RowKit

/-- a world behind W that has all of W's blocks as they were -/
def After (W : World) : Type := { w' : World // Below W.heap.size W w' }
instance {W : World} : Nonempty (After W) := ⟨⟨W, Below.refl _ _⟩⟩
theorem After.same {W : World} (x : After W) : (∃ y : After W, x.1 = y.1) = True := eq_true ⟨x, rfl⟩
theorem wp_region_after {P : Program} {id : Nat} {Q : Exit → Act → World → Prop} {a : Act} {W : World} {l : List Oper} (hm : P.follows .mixedOrders = true) (hB : Region.lexB .any l.toArray = true)
    (h : wpQuiet P l.toArray (fun w' => ∃ x : After W, w' = x.1) (fun a' => ∀ w', (∃ x : After W, w' = x.1) → Q .normal a' w') l a) : (Code.region id l.toArray true).wp P Q a W :=
  wp_region_quiet (C := fun w' => ∃ x : After W, w' = x.1) hm hB ⟨⟨W.drew, below_drew _ _⟩, rfl⟩ (by simpa using h)
theorem After.call {P : Program} {f : FuncId} {args : Array Value} {W : World} {v : Value} (x : After W)
    (h : Calls P f args x.1 fun e w' => e = .returned v ∧ Below x.1.heap.size x.1 w') : Calls P f args x.1 fun e w' => e = .returned v ∧ ∃ y : After W, w' = y.1 :=
  h.mono fun _ w' ⟨he, hb⟩ => ⟨he, ⟨w', x.2.trans (hb.mono x.2.size)⟩, rfl⟩
end Go.Proofs.Ytklopbjlpffnbaa
