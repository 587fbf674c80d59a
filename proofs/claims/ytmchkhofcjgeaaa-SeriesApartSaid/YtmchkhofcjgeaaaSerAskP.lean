/- Chapter 10's calls, as the laws ask them. -/
import Derived.Test.YtmchkhofcjgeaaaSesA
namespace Go.Proofs.Ytmchkhofcjgeaaa
open Go Go.RowKit
structure RAsk where
  kind : Int
  name : Int
  limit : Int
def raskE : Enc RAsk := ⟨3, fun x => [.int .i64 x.kind, .int .i64 x.name, .int .i64 x.limit], fun _ => rfl, fun x v hv => by simp only [List.mem_cons, List.not_mem_nil, or_false] at hv; rcases hv with rfl | rfl | rfl <;> rfl, by decide⟩
theorem rask3 {w : World} {b off n c : Nat} {l : List RAsk} (h : Rd raskE w (.slice (some ⟨b, off, none⟩) n c) l) {k : Nat} (hk : k < l.length) :
    w.cell? ⟨b, off + k * 3, none⟩ = some (.int .i64 l[k].kind) ∧ w.cell? ⟨b, off + k * 3 + 1, none⟩ = some (.int .i64 l[k].name) ∧ w.cell? ⟨b, off + k * 3 + 2, none⟩ = some (.int .i64 l[k].limit) :=
  ⟨h.at_ hk 0 (by decide), h.at_ hk 1 (by decide), h.at_ hk 2 (by decide)⟩
end Go.Proofs.Ytmchkhofcjgeaaa
