/- What the walks of slices.Delete share: one element out of a row of the call's own. -/
import Derived.Test.YtklopbjlpffnbaaIns0
import Derived.Test.YtklopbjlpffnbaaRds2
import Derived.Deep.RegionLaw
namespace Go.Proofs.Ytklopbjlpffnbaa
open Go Go.RowKit
theorem run_sl_btw {P : Program} {t e : TypeId} {sz bytes : Nat} (T : SlT P t e sz bytes) (g n cap : Nat) (k k' : IntKind) (I J : Int) (i j : Nat) (hI : I = (i : Int)) (hJ : J = (j : Int)) (hij : i ≤ j) (hj : j ≤ cap) (hic : i < cap) (w : World) :
    (Instr.slice t (.slice (some ⟨g, 0, none⟩) n cap) (some (.int k I)) (some (.int k' J)) none).run P w = .ok (.slice (some ⟨g, i * sz, none⟩) (j - i) (cap - i)) w := by
  subst hI; subst hJ
  obtain ⟨q, z, hq, hz, hs, hby, hzs⟩ := T.info
  have hne : ¬ cap = i := by omega
  simp [Instr.slice, run_underlying T.under, Instr.sliceBounds, Instr.sliceBound, asIntOf, hij, hj, hne, sizeOf, typeInfo, hq, hs, Addr.add]
  exact fun h => h.symm
section
variable {α : Type} {E : Enc α}
theorem zero_all (E : Enc α) (z0 : α) (z : Array Value) (hz : E.enc z0 = z.toList) (n : Nat) : (Builtin.zeroCells z n).toList = E.all (List.replicate n z0) := by
  have hl : z.size = E.sz := by have := E.len z0; rw [hz] at this; simpa using this
  rw [← made_all E z0 z hz n]
  unfold Builtin.zeroCells madeCells
  rw [hl]
theorem run_clearR {P : Program} {t e : TypeId} {bytes : Nat} (T : SlT P t e E.sz bytes) (z0 : α) (z : Value) (hv : ∀ w, (zeroValue e).run P w = .ok z w) (hz : E.enc z0 = z.cells.toList) (ty : TypeId) (g o c : Nat) (w : World)
    (hc : ∀ j, j < E.sz → (w.cell? ⟨g, o + j, none⟩).isSome = true) (hf : ∀ j, j < E.sz → w.frozen? ⟨g, o + j, none⟩ = false) :
    (Builtin.clear_ #[t] ty #[.slice (some ⟨g, o, none⟩) 1 c]).run P w = .ok (.tuple #[]) (w.setCells g o (E.enc z0)) := by
  have hzc : (Builtin.zeroCells z.cells 1).toList = E.enc z0 := by rw [zero_all E z0 z.cells hz 1]; simp [Enc.all]
  have hst := run_storeCells_cells (P := P) g o (E.enc z0) 0 w (by rw [E.len]; simpa using hc) (by rw [E.len]; simpa using hf) (E.one z0)
  simp only [Nat.add_zero] at hst
  simp [Builtin.clear_, run_underlying T.under, hv, hzc, hst]
theorem Own.cut {w : World} {B : Nat} {e : TypeId} {sz g n cap : Nat} {xs : List Value} (h : Own w B e sz (.slice (some ⟨g, 0, none⟩) n cap) n xs) (m : Nat) (hm : m ≤ n) : Own w B e sz (.slice (some ⟨g, 0, none⟩) m cap) m (xs.take (m * sz)) := by
  have hk : m * sz ≤ n * sz := Nat.mul_le_mul_right _ hm
  obtain ⟨⟨h1, h2⟩, h3⟩ := h
  refine ⟨⟨by rw [List.length_take]; omega, ?_⟩, fun u hu => h3 u (List.mem_of_mem_take hu)⟩
  rcases h2 with ⟨h', _⟩ | ⟨g', cap', cur, h', hb, hg, hn, hcm, hcs, ht⟩
  · simp at h'
  · simp only [Value.slice.injEq, Option.some.injEq, Addr.mk.injEq, and_true, true_and] at h'
    obtain ⟨rfl, rfl⟩ := h'
    exact .inr ⟨g, cap, cur, rfl, hb, hg, by omega, hcm, hcs, by rw [← ht, List.take_take, Nat.min_eq_left hk]⟩
theorem del_cells (E : Enc α) (l : List α) (k m : Nat) (hl : l.length = k + 1 + m) (zs : List Value) :
    (putAt (putAt (E.all l) (k * E.sz) (E.all (l.drop (k + 1)))) ((k + m) * E.sz) zs).take ((k + m) * E.sz) = E.all (l.take k ++ l.drop (k + 1)) := by
  have hk : (E.all (l.take k)).length = k * E.sz := by rw [E.all_length, List.length_take, Nat.min_eq_left (by omega)]
  have hd : (E.all (l.drop (k + 1))).length = m * E.sz := by rw [E.all_length, List.length_drop, hl]; congr 1; omega
  have hn : (E.all l).length = (k + 1 + m) * E.sz := by rw [E.all_length, hl]
  have e1 : (k + m) * E.sz = k * E.sz + m * E.sz := Nat.add_mul _ _ _
  have e2 : (k + 1 + m) * E.sz = k * E.sz + E.sz + m * E.sz := by rw [Nat.add_mul, Nat.add_mul, Nat.one_mul]
  apply List.ext_getElem?
  intro i
  rw [List.getElem?_take, E.all_append]
  by_cases hi : i < (k + m) * E.sz
  · rw [if_pos hi, putAt_get, if_neg (by omega), putAt_get, hd, hn]
    by_cases h2 : i < k * E.sz
    · rw [if_neg (by omega), List.getElem?_append_left (by omega), ← E.all_take, List.getElem?_take, if_pos h2]
    · rw [if_pos (by omega), List.getElem?_append_right (by omega), hk]
  · rw [if_neg hi, List.getElem?_eq_none]
    rw [List.length_append]; omega
end
end Go.Proofs.Ytklopbjlpffnbaa
