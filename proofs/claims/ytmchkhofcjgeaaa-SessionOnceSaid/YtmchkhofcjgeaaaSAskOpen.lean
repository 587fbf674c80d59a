/- What an argument of SessionOnce reads as. -/
import Derived.Test.YtmchkhofcjgeaaaSesOpen
import Derived.Test.YtmchkhofcjgeaaaSesOnce
namespace Go.Proofs.Ytmchkhofcjgeaaa
open Go Go.RowKit Go.ChangeShapes Go.WideShapes Go.ChangeAt Go.Deep Go.Joins
theorem list_n4 {cs : List Value} (h : cs.length = 4) : ∃ a b c d, cs = [a, b, c, d] := by
  match cs, h with
  | [a, b, c, d], _ => exact ⟨a, b, c, d, rfl⟩
theorem elem_sask {H : Type} {enc : TypeId × Value → H} {W : World} (fuel : Nat) (cs : List Value) (y : DataW H × List MemPlace) (h : DataW.trod enc Try.prog W 0 (fun _ => true) true fuel 45 cs = some y) :
    ∃ x : SAsk, cs = saskE.enc x ∧ True := by
  have hu := Try.underlying45
  obtain ⟨xs, n, rfl, rfl, hlen, hxl, hf⟩ := DataW.trod_struct hu h
  obtain ⟨a, b, c, d, rfl⟩ := list_n4 (hlen.trans (by kernel_rfl))
  have k3 : Try.prog.cellsOf 3 = 1 := by kernel_rfl
  have h0 : DataW.trod enc Try.prog W 0 (fun _ => true) true n 3 (([a, b, c, d].drop 0).take (Try.prog.cellsOf 3)) = xs[0]? := hf 0 _ rfl
  have h1 : DataW.trod enc Try.prog W 0 (fun _ => true) true n 3 (([a, b, c, d].drop 1).take (Try.prog.cellsOf 3)) = xs[1]? := hf 1 _ rfl
  have h2 : DataW.trod enc Try.prog W 0 (fun _ => true) true n 3 (([a, b, c, d].drop 2).take (Try.prog.cellsOf 3)) = xs[2]? := hf 2 _ rfl
  have h3 : DataW.trod enc Try.prog W 0 (fun _ => true) true n 3 (([a, b, c, d].drop 3).take (Try.prog.cellsOf 3)) = xs[3]? := hf 3 _ rfl
  rw [k3] at h0 h1 h2 h3
  simp only [List.drop_zero, List.take_succ_cons, List.take_zero, List.drop_succ_cons] at h0 h1 h2 h3
  have hx0 : xs[0]? = some (xs[0]'(by rw [hxl]; decide)) := List.getElem?_eq_getElem _
  have hx1 : xs[1]? = some (xs[1]'(by rw [hxl]; decide)) := List.getElem?_eq_getElem _
  have hx2 : xs[2]? = some (xs[2]'(by rw [hxl]; decide)) := List.getElem?_eq_getElem _
  have hx3 : xs[3]? = some (xs[3]'(by rw [hxl]; decide)) := List.getElem?_eq_getElem _
  obtain ⟨z0, e0, _, _⟩ := DataW.trod_int Try.underlying3 (h0.trans hx0)
  obtain ⟨z1, e1, _, _⟩ := DataW.trod_int Try.underlying3 (h1.trans hx1)
  obtain ⟨z2, e2, _, _⟩ := DataW.trod_int Try.underlying3 (h2.trans hx2)
  obtain ⟨z3, e3, _, _⟩ := DataW.trod_int Try.underlying3 (h3.trans hx3)
  simp only [List.cons.injEq, and_true] at e0 e1 e2 e3
  subst e0; subst e1; subst e2; subst e3
  exact ⟨⟨z0, z1, z2, z3⟩, rfl, trivial⟩
theorem open_sasks {H : Type} {enc : TypeId × Value → H} {W : World} {base : Nat} {v : Value} {d : DataW H} {p : List MemPlace} {ts : List TypeId} {ds : List (DataW H)} (j : Nat)
    (ht : ts[j]? = some 40) (hd : ds[j]? = some d) (hok : Value.okWide Try.prog W .any base 40 v) (h : DataW.Trod enc Try.prog W 0 (fun _ => true) true 40 v d p)
    (hsz : (DataW.weightsEach Try.prog ts ds).all (· ≤ reachBytes) = true) : ∃ l : List SAsk, Rd saskE W v l := by
  obtain ⟨l, h1, _⟩ := open_rd saskE Try.underlying40 (by kernel_rfl) (fun _ _ => True) elem_sask hok h
  exact ⟨l, h1⟩
end Go.Proofs.Ytmchkhofcjgeaaa
