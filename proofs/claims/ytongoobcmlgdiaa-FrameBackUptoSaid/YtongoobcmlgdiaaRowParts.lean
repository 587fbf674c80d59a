/- What a [][]byte argument reads as. -/
import Derived.Test.YtongoobcmlgdiaaRow
import Derived.Test.YtongoobcmlgdiaaSum
import Derived.Deep.Slices
namespace Go.Proofs.Ytongoobcmlgdiaa
open Go Go.RowKit Go.ChangeShapes Go.WideShapes Go.ChangeAt Go.Deep

/-- bytes, by the reading alone -/
theorem open_bytes_trod {H : Type} {enc : TypeId × Value → H} {P : Program} {W : World} {t e : TypeId} {v : Value} {fuel : Nat} {d : DataW H} {p : List MemPlace}
    (hu : P.underlying t = some (.slice e)) (he : P.underlying e = some (.int .u8)) (hc : P.cellsOf e = 1)
    (h : DataW.trod enc P W 0 (fun _ => true) true fuel t [v] = some (d, p)) : ∃ l : List UInt8, Bytes W v l ∧ DLen d l.length := by
  have hsh : ∃ a len cap, v = .slice a len cap := by
    rcases open_slice hu h with ⟨hcs, _⟩ | ⟨a, len, cap, _, _, _, _, hcs, _⟩
    · exact ⟨none, 0, 0, by simpa using hcs⟩
    · exact ⟨some a, len, cap, by simpa using hcs⟩
  obtain ⟨a, len, cap, rfl⟩ := hsh
  have hf : DataW.trod enc P W 0 (fun _ => true) true fuel t (Value.slice a len cap).cells.toList = some (d, p) := by simpa [Value.cells] using h
  rcases open_ints hu he hc hf with ⟨hcs, hx⟩ | ⟨x, l, c, zs, hcs, _, hl, hm, hz, hx, hcell, hwz⟩
  · simp [Value.cells] at hcs
    obtain ⟨rfl, rfl, rfl⟩ := hcs
    simp only [Prod.mk.injEq] at hx
    exact ⟨[], Bytes.nil W, .inl ⟨hx.1, rfl⟩⟩
  · simp [Value.cells] at hcs
    obtain ⟨rfl, rfl, rfl⟩ := hcs
    simp only [Prod.mk.injEq] at hx
    simp at hz
    obtain ⟨l, h1, h2⟩ := bytes_of_ints hl hm hz hcell hwz
    refine ⟨l, h1, .inr ⟨_, _, hx.1, ?_⟩⟩
    rw [h2]; simp [lits]; omega

def DSum {H : Type} (d : DataW H) (ls : List (List UInt8)) : Prop := ((ls.map (·.length + 1)).sum + 1 ≤ Rows.uptoBulk d)

theorem bulkAll_append {H : Type} (l r : List (DataW H)) : Rows.uptoBulkAll (l ++ r) = Rows.uptoBulkAll l + Rows.uptoBulkAll r := by
  induction l with
  | nil => simp [Rows.uptoBulkAll]
  | cons x l ih => simp only [List.cons_append, Rows.uptoBulkAll, ih]; omega
theorem bulkAll_sum {H : Type} (n : Nat) (D : Nat → DataW H) (f : Nat → Nat) (h : ∀ i, i < n → f i ≤ Rows.uptoBulk (D i)) : ((List.range n).map f).sum ≤ Rows.uptoBulkAll ((List.range n).map D) := by
  induction n with
  | zero => simp [Rows.uptoBulkAll]
  | succ n ih =>
    rw [List.range_succ, List.map_append, List.map_append, List.sum_append, bulkAll_append]
    have h1 := ih (fun i hi => h i (by omega))
    have h2 := h n (by omega)
    simp only [List.map_cons, List.map_nil, List.sum_cons, List.sum_nil, Rows.uptoBulkAll]
    omega

theorem open_parts {H : Type} {enc : TypeId × Value → H} {P : Program} {W : World} {t e b : TypeId} {base : Nat} {v : Value} {d : DataW H} {p : List MemPlace}
    (hu : P.underlying t = some (.slice e)) (he : P.underlying e = some (.slice b)) (hb : P.underlying b = some (.int .u8)) (hc : P.cellsOf e = 1) (hcb : P.cellsOf b = 1) (hok : Value.okWide P W .any base t v)
    (h : DataW.Trod enc P W 0 (fun _ => true) true t v d p) : ∃ ls : List (List UInt8), Parts W v ls ∧ DSum d ls := by
  obtain ⟨a, len, cap, rfl⟩ := okWide_slice hu hok
  obtain ⟨fuel, hf⟩ := h
  have hf' : DataW.trod enc P W 0 (fun _ => true) true fuel t [.slice a len cap] = some (d, p) := by simpa [Value.cells] using hf
  rcases open_slice1 hu hc hf' with ⟨hcs, hx⟩ | ⟨x, l, c, m, n, V, D, Pl, hcs, _, hl, hm, hmm, hx, hall⟩
  · simp at hcs
    obtain ⟨rfl, rfl, rfl⟩ := hcs
    simp only [Prod.mk.injEq] at hx
    exact ⟨[], ⟨[], Cells.nil W 1, rfl, fun i v l h => by simp at h⟩, by unfold DSum; rw [hx.1]; simp [Rows.uptoBulk]⟩
  · simp at hcs
    obtain ⟨rfl, rfl, rfl⟩ := hcs
    simp at hmm; subst hmm
    simp only [Prod.mk.injEq] at hx
    have hch : ∀ i, i < len → ∃ li : List UInt8, Bytes W (V i) li ∧ DLen (D i) li.length := fun i hi => open_bytes_trod he hb hcb (hall i (by omega)).2
    have hF : ∃ F : Nat → List UInt8, ∀ i, i < len → Bytes W (V i) (F i) ∧ DLen (D i) (F i).length := by
      refine ⟨fun i => if hi : i < len then (hch i hi).choose else [], fun i hi => ?_⟩
      simp only [dif_pos hi]; exact (hch i hi).choose_spec
    obtain ⟨F, hF⟩ := hF
    refine ⟨(List.range len).map F, ⟨(List.range len).map V, ?_, by simp, fun i v' l' hv hl' => ?_⟩, ?_⟩
    · refine ⟨by simp, fun u hu => ?_, some x, m, by simp, by simpa using hl, hm, fun h => (by cases h), fun ad ha hn => ?_⟩
      · obtain ⟨i, hi, rfl⟩ := List.mem_map.1 hu
        obtain ⟨q, c, hq⟩ := (hF i (List.mem_range.1 hi)).1.shape
        rw [hq]; rfl
      · cases ha
        simp at hn
        have hs : x.spot = none := by
          have := (hall 0 (by omega)).1
          rw [show x.add 0 = x from by simp [Addr.add]] at this
          unfold World.cell? at this
          split at this
          · by_cases hsp : x.spot.isSome = true
            · rw [if_pos hsp] at this; cases this
            · simpa using hsp
          · cases this
        refine ⟨hs, fun i u hu => ?_⟩
        simp only [List.getElem?_map, List.getElem?_range] at hu
        by_cases hi : i < len
        · simp [hi] at hu; subst hu
          have := (hall i (by omega)).1
          rw [addr_add x hs] at this; exact this
        · simp [hi] at hu
    · by_cases hi : i < len
      · simp [hi] at hv hl'; subst hv; subst hl'; exact (hF i hi).1
      · simp [hi] at hv
    · unfold DSum
      rw [hx.1]
      have h1 := bulkAll_sum len D (fun i => (F i).length + 1) (fun i hi => bulk_dlen (hF i hi).2)
      simp only [Rows.uptoBulk, List.map_map]
      have h2 : (List.map ((fun x => x.length + 1) ∘ F) (List.range len)).sum = (List.map (fun i => (F i).length + 1) (List.range len)).sum := rfl
      omega

theorem open_parts_upto {H : Type} {enc : TypeId × Value → H} {P : Program} {W : World} {t e b : TypeId} {base : Nat} {v : Value} {d : DataW H} {p : List MemPlace} {B : Nat}
    (hu : P.underlying t = some (.slice e)) (he : P.underlying e = some (.slice b)) (hb : P.underlying b = some (.int .u8)) (hc : P.cellsOf e = 1) (hcb : P.cellsOf b = 1) (hok : Value.okWide P W .any base t v)
    (h : DataW.Trod enc P W 0 (fun _ => true) true t v d p) (hB : Rows.uptoBulk d + B ≤ 1048576) : ∃ ls : List (List UInt8), Parts W v ls ∧ (ls.map (·.length + 1)).sum ≤ 1048576 := by
  obtain ⟨ls, h1, h2⟩ := open_parts hu he hb hc hcb hok h
  exact ⟨ls, h1, by unfold DSum at h2; omega⟩
end Go.Proofs.Ytongoobcmlgdiaa
