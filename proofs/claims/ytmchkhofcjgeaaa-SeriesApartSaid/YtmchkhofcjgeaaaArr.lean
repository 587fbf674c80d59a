/- Arrays of numbers and truth values that a function keeps in a variable. -/
import Derived.Test.YtmchkhofcjgeaaaRds2
namespace Go.Proofs.Ytmchkhofcjgeaaa
open Go Go.RowKit

def arrI (n : Nat) (f : Nat → Int) : Array Value := ((List.range n).map fun i => Value.int .i64 (f i)).toArray
def arrB (n : Nat) (f : Nat → Bool) : Array Value := ((List.range n).map fun i => Value.bool (f i)).toArray
def updF {α : Type} (f : Nat → α) (k : Nat) (x : α) : Nat → α := fun i => if i = k then x else f i
theorem updF_same {α : Type} (f : Nat → α) (k : Nat) (x : α) : updF f k x k = x := by simp [updF]
theorem updF_other {α : Type} (f : Nat → α) (k : Nat) (x : α) {i : Nat} (h : i ≠ k) : updF f k x i = f i := by simp [updF, h]
theorem arrI_get {n : Nat} {f : Nat → Int} {k : Nat} (h : k < n) : (arrI n f)[k]? = some (.int .i64 (f k)) := by
  unfold arrI; rw [List.getElem?_toArray, List.getElem?_map, List.getElem?_range h]; rfl
theorem arrB_get {n : Nat} {f : Nat → Bool} {k : Nat} (h : k < n) : (arrB n f)[k]? = some (.bool (f k)) := by
  unfold arrB; rw [List.getElem?_toArray, List.getElem?_map, List.getElem?_range h]; rfl
theorem arrI_set {n : Nat} {f : Nat → Int} {k : Nat} {x : Int} : (arrI n f).setIfInBounds k (.int .i64 x) = arrI n (updF f k x) := by
  unfold arrI; rw [List.setIfInBounds_toArray]; congr 1
  apply List.ext_getElem (by simp)
  intro i h1 h2
  rw [List.getElem_set]
  simp only [List.getElem_map, List.getElem_range]
  by_cases h : k = i
  · subst h; rw [if_pos rfl, updF_same]
  · rw [if_neg h, updF_other _ _ _ (fun e => h e.symm)]
theorem arrB_set {n : Nat} {f : Nat → Bool} {k : Nat} {x : Bool} : (arrB n f).setIfInBounds k (.bool x) = arrB n (updF f k x) := by
  unfold arrB; rw [List.setIfInBounds_toArray]; congr 1
  apply List.ext_getElem (by simp)
  intro i h1 h2
  rw [List.getElem_set]
  simp only [List.getElem_map, List.getElem_range]
  by_cases h : k = i
  · subst h; rw [if_pos rfl, updF_same]
  · rw [if_neg h, updF_other _ _ _ (fun e => h e.symm)]
theorem Blk.cellI {w : World} {N n : Nat} {f : Nat → Int} {t : TypeId} (h : Blk w N (arrI n f) t) {k : Nat} (hk : k < n) : w.cell? ⟨N, k, none⟩ = some (.int .i64 (f k)) := h.cell k _ (arrI_get hk)
theorem Blk.cellB {w : World} {N n : Nat} {f : Nat → Bool} {t : TypeId} (h : Blk w N (arrB n f) t) {k : Nat} (hk : k < n) : w.cell? ⟨N, k, none⟩ = some (.bool (f k)) := h.cell k _ (arrB_get hk)
theorem Blk.setI {w : World} {N n : Nat} {f : Nat → Int} {t : TypeId} (h : Blk w N (arrI n f) t) (k : Nat) (x : Int) : Blk (w.setCell ⟨N, k, none⟩ (.int .i64 x)) N (arrI n (updF f k x)) t := by rw [← arrI_set]; exact h.set k _
theorem Blk.setB {w : World} {N n : Nat} {f : Nat → Bool} {t : TypeId} (h : Blk w N (arrB n f) t) (k : Nat) (x : Bool) : Blk (w.setCell ⟨N, k, none⟩ (.bool x)) N (arrB n (updF f k x)) t := by rw [← arrB_set]; exact h.set k _
theorem Blk.away {w : World} {g : Nat} {cs : Array Value} {t : TypeId} (h : Blk w g cs t) {p : Addr} (hp : g ≠ p.block) (u : Value) : Blk (w.setCell p u) g cs t := (Below.heap_setCell w p u g hp).trans h
end Go.Proofs.Ytmchkhofcjgeaaa
