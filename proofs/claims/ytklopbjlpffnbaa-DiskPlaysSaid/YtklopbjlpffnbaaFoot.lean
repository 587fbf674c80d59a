/- What a call may change, by the numbers of blocks: for objects that lie in several blocks and live on. -/
import Derived.Test.YtklopbjlpffnbaaRds2
namespace Go.Proofs.Ytklopbjlpffnbaa
open Go Go.RowKit
/-- w' is w but for the blocks of F, and new ones -/
structure Chg (F : Nat → Prop) (w w' : World) : Prop where
  os : w'.os = w.os
  tape : w'.tape = w.tape
  output : w'.output = w.output
  size : w.heap.size ≤ w'.heap.size
  block : ∀ k, k < w.heap.size → ¬ F k → w'.heap[k]? = w.heap[k]?
section
variable {F G : Nat → Prop} {w w' w'' : World}
theorem Chg.refl (F : Nat → Prop) (w : World) : Chg F w w := ⟨rfl, rfl, rfl, Nat.le_refl _, fun _ _ _ => rfl⟩
theorem Chg.trans (h : Chg F w w') (h2 : Chg G w' w'') (hg : ∀ k, k < w.heap.size → G k → F k) : Chg F w w'' :=
  ⟨h2.os.trans h.os, h2.tape.trans h.tape, h2.output.trans h.output, Nat.le_trans h.size h2.size,
    fun k hk hn => (h2.block k (Nat.lt_of_lt_of_le hk h.size) (fun hG => hn (hg k hk hG))).trans (h.block k hk hn)⟩
theorem Chg.step (h : Chg F w w') (h2 : Chg F w' w'') : Chg F w w'' := h.trans h2 fun _ _ h => h
theorem Chg.mono (h : Chg F w w') (hg : ∀ k, k < w.heap.size → F k → G k) : Chg G w w' := ⟨h.os, h.tape, h.output, h.size, fun k hk hn => h.block k hk (fun hF => hn (hg k hk hF))⟩
theorem Chg.of_below (h : Below w.heap.size w w') : Chg F w w' := ⟨h.os, h.tape, h.output, h.size, fun k hk _ => h.block k hk⟩
theorem Chg.of_grown {row : Option Nat} (h : w.grownBy w' row) (hr : ∀ k, row = some k → F k) : Chg F w w' := ⟨h.os, h.tape, h.output, h.size, fun k hk hn => h.block k hk (fun e => hn (hr k e.symm))⟩
theorem Chg.alloc (h : Chg F w w') (o : Obj) : Chg F w (w'.alloc o) := h.step (.of_below (below_alloc w' o))
theorem Chg.drew (h : Chg F w w') : Chg F w w'.drew := ⟨h.os, h.tape, h.output, h.size, h.block⟩
theorem Chg.drewN (h : Chg F w w') (n : Nat) : Chg F w (w'.drewN n) := ⟨h.os, h.tape, h.output, h.size, h.block⟩
theorem Chg.setCell (h : Chg F w w') {p : Addr} (hp : F p.block) (u : Value) : Chg F w (w'.setCell p u) :=
  h.trans (G := F) ⟨rfl, rfl, rfl, by simp [World.setCell], fun k _ hn => Below.heap_setCell _ _ _ _ (fun e => hn (e ▸ hp))⟩ fun _ _ h => h
theorem Chg.below {B : Nat} (h : Chg F w w') (hB : ∀ k, F k → B ≤ k) (hw : B ≤ w.heap.size) : Below B w w' :=
  ⟨h.os, h.tape, h.output, h.size, fun k hk => h.block k (by omega) (fun hF => by have := hB k hF; omega)⟩
theorem Chg.toBelow (h : Chg (fun _ => False) w w') : Below w.heap.size w w' := ⟨h.os, h.tape, h.output, h.size, fun k hk => h.block k hk id⟩
theorem Chg.blk (h : Chg F w w') {g : Nat} {cs : Array Value} {t : TypeId} (hb : Blk w g cs t) (hg : ¬ F g) : Blk w' g cs t := by
  have hl := hb.lt
  unfold Blk at *
  rw [h.block g hl hg]; exact hb
theorem Chg.own (h : Chg F w w') {B : Nat} {e : TypeId} {sz n : Nat} {v : Value} {xs : List Value} (ho : Own w B e sz v n xs) (hv : ∀ k, v.ownBlock = some k → ¬ F k) : Own w' B e sz v n xs := by
  refine ⟨⟨ho.1.1, ?_⟩, ho.2⟩
  rcases ho.1.2 with hn | ⟨g, cap, cur, rfl, hb, hgg, rest⟩
  · exact .inl hn
  · refine .inr ⟨g, cap, cur, rfl, hb, ?_, rest⟩
    rw [h.block g (Array.getElem?_eq_some_iff.1 hgg).1 (hv g rfl)]
    exact hgg
theorem Chg.ownR {α : Type} {E : Enc α} (h : Chg F w w') {B : Nat} {e : TypeId} {v : Value} {l : List α} (ho : OwnR E w B e v l) (hv : ∀ k, v.ownBlock = some k → ¬ F k) : OwnR E w' B e v l := h.own ho hv
theorem Chg.ownB (h : Chg F w w') {B : Nat} {e : TypeId} {v : Value} {l : List UInt8} (ho : OwnB w B e v l) (hv : ∀ k, v.ownBlock = some k → ¬ F k) : OwnB w' B e v l := h.own ho hv
theorem Chg.cells (h : Chg F w w') {sz n : Nat} {v : Value} {cs : List Value} (hc : Cells w sz v n cs) (hv : ∀ k, v.ownBlock = some k → ¬ F k) : Cells w' sz v n cs := by
  obtain ⟨h1, h0, p, cap, rfl, h2, h3, h4, h5⟩ := hc
  refine ⟨h1, h0, p, cap, rfl, h2, h3, h4, fun a ha hn => ⟨(h5 a ha hn).1, fun i u hu => ?_⟩⟩
  subst ha
  have hq := (h5 a rfl hn).2 i u hu
  have hlt := World.block_lt_of_cell? w _ hq
  have hb := World.cell?_of_block (a := ⟨a.block, a.off + i, none⟩) (h.block a.block hlt (hv a.block rfl))
  exact hb.trans hq
theorem Cells.empty {sz : Nat} {v : Value} {n : Nat} (h : Cells w sz v n []) (hsz : 0 < sz) : Cells w' sz v n [] := by
  obtain ⟨h1, h0, p, cap, rfl, h2, h3, h4, h5⟩ := h
  have hn : n = 0 := by
    rcases Nat.eq_zero_or_pos n with h | h
    · exact h
    · have := Nat.mul_pos h hsz; simp at h1; omega
  subst hn
  exact ⟨by simp, by simp, p, cap, rfl, h2, h3, h4, fun a _ h => by omega⟩
theorem Chg.cellsE (h : Chg F w w') {sz n : Nat} {v : Value} {cs : List Value} (hsz : 0 < sz) (hc : Cells w sz v n cs) (hv : cs ≠ [] → ∀ k, v.ownBlock = some k → ¬ F k) : Cells w' sz v n cs := by
  by_cases he : cs = []
  · subst he; exact hc.empty hsz
  · exact h.cells hc (hv he)
end
end Go.Proofs.Ytklopbjlpffnbaa
