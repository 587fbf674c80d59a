/- What an argument that is a slice of anything reads as ('Rd'), element by element; and what the reach says of what lies in it. -/
import Derived.Test.YtklopbjlpffnbaaRdRow
import Derived.Deep.Slices
namespace Go.Proofs.Ytklopbjlpffnbaa
open Go Go.RowKit Go.ChangeShapes Go.WideShapes Go.ChangeAt Go.Deep

/-- an element's data is among the slice's -/
def InSlice {H : Type} (P : Program) (t e : TypeId) (d dx : DataW H) : Prop := ∀ n ∈ dx.weights P e, n ∈ d.weights P t
theorem weightsAll_mem {H : Type} {P : Program} {e : TypeId} {l : List (DataW H)} {d : DataW H} (hd : d ∈ l) : ∀ n ∈ d.weights P e, n ∈ DataW.weightsAll P e l := by
  intro n hn
  induction l with
  | nil => cases hd
  | cons x l ih =>
    simp only [DataW.weightsAll, List.mem_append]
    rcases List.mem_cons.1 hd with rfl | h
    · exact .inl hn
    · exact .inr (ih h)

theorem open_rd_core {α : Type} (E : Enc α) {H : Type} {enc : TypeId × Value → H} {P : Program} {W : World} {t e : TypeId} {fuel0 : Nat} {cs0 : List Value} {y0 : DataW H × List MemPlace}
    (hu : P.underlying t = some (.slice e)) (hC : P.cellsOf e = E.sz) (G : α → DataW H → Prop)
    (elem : ∀ fuel cs y, DataW.trod enc P W 0 (fun _ => true) true fuel e cs = some y → ∃ x, cs = E.enc x ∧ G x y.1)
    (hf : DataW.trod enc P W 0 (fun _ => true) true fuel0 t cs0 = some y0) :
    ∃ (v : Value) (l : List α), cs0 = [v] ∧ Rd E W v l ∧ DLen y0.1 l.length ∧ ∀ x ∈ l, ∃ dx, G x dx ∧ InSlice P t e y0.1 dx := by
  rcases open_slice hu hf with ⟨hcs, hx⟩ | ⟨a, len0, cap0, m, n, D, Pl, hcs, _, hl, hm, hmm, hx, hi⟩
  · subst hx
    exact ⟨_, [], hcs, Rd.nil W, .inl ⟨rfl, rfl⟩, by simp⟩
  · subst hx
    simp at hmm
    have hlm : len0 ≤ m := by omega
    have hel : ∀ i, i < len0 → ∃ x, G x (D i) ∧ ∀ j, j < E.sz → W.cell? (a.add (i * E.sz + j)) = (E.enc x)[j]? := fun i hlt => by
      obtain ⟨cs', hc, ht⟩ := hi i (by omega)
      obtain ⟨x, rfl, hg⟩ := elem _ _ _ ht
      rw [hC] at hc
      obtain ⟨_, _, hat⟩ := World.cells?_some hc
      exact ⟨x, hg, fun j hj => by rw [← Go.Deep.add_add]; exact hat j hj⟩
    have hex : ∃ l : List α, l.length = len0 ∧ ∀ i (h : i < l.length), G l[i] (D i) ∧ ∀ j, j < E.sz → W.cell? (a.add (i * E.sz + j)) = (E.enc l[i])[j]? := by
      clear hi hmm hl hm hlm hf hcs
      induction len0 with
      | zero => exact ⟨[], rfl, fun i h => by simp at h⟩
      | succ k ih =>
        obtain ⟨l, h1, h2⟩ := ih (fun i hlt => hel i (by omega))
        obtain ⟨x, h3, h4⟩ := hel k (by omega)
        refine ⟨l ++ [x], by simp [h1], fun i hlt => ?_⟩
        by_cases hik : i < l.length
        · rw [List.getElem_append_left hik]; exact h2 i hik
        · obtain rfl : i = k := by simp at hlt; omega
          rw [List.getElem_append_right (by omega)]
          simp only [h1, Nat.sub_self, List.getElem_cons_zero]
          exact ⟨h3, h4⟩
    obtain ⟨l, h1, h2⟩ := hex
    refine ⟨_, l, hcs, ?_, .inr ⟨_, _, rfl, by simp [h1]⟩, fun x hx' => ?_⟩
    · unfold Rd
      rw [h1]
      refine ⟨by rw [E.all_length, h1], E.all_oneCell _, some a, cap0, rfl, hl, hm, fun h => (by cases h), fun a' ha hn => ?_⟩
      cases ha
      have hpos := E.pos
      have h0 : 0 < l.length := by omega
      have hs : a.spot = none := by
        have h3 := (h2 0 h0).2 0 hpos
        have hj : 0 < (E.enc l[0]).length := by rw [E.len]; exact hpos
        rw [List.getElem?_eq_getElem hj, Nat.zero_mul, Nat.zero_add] at h3
        exact spot_none h3
      refine ⟨hs, fun i u hu' => ?_⟩
      have hlt := (List.getElem?_eq_some_iff.1 hu').1
      rw [E.all_length] at hlt
      have hdm := Nat.div_add_mod i E.sz
      have hq : i / E.sz < l.length := by rw [Nat.div_lt_iff_lt_mul hpos]; exact hlt
      have hr := Nat.mod_lt i hpos
      have h3 := (h2 (i / E.sz) hq).2 (i % E.sz) hr
      have h4 := E.all_get l (i / E.sz) hq (i % E.sz) hr
      rw [Nat.mul_comm, hdm] at h4
      rw [Nat.mul_comm, hdm, ← h4, hu', addr_add a hs] at h3
      exact h3
    · obtain ⟨i, hlt, rfl⟩ := List.getElem_of_mem hx'
      refine ⟨D i, (h2 i hlt).1, fun n hn => ?_⟩
      simp only [DataW.weights, hu, List.mem_cons, List.mem_append]
      exact .inr (.inl (weightsAll_mem (List.mem_map.2 ⟨i, by simp; omega, rfl⟩) n hn))

theorem open_rd {α : Type} (E : Enc α) {H : Type} {enc : TypeId × Value → H} {P : Program} {W : World} {t e : TypeId} {base : Nat} {v : Value} {d : DataW H} {p : List MemPlace}
    (hu : P.underlying t = some (.slice e)) (hC : P.cellsOf e = E.sz) (G : α → DataW H → Prop)
    (elem : ∀ fuel cs y, DataW.trod enc P W 0 (fun _ => true) true fuel e cs = some y → ∃ x, cs = E.enc x ∧ G x y.1)
    (hok : Value.okWide P W .any base t v) (h : DataW.Trod enc P W 0 (fun _ => true) true t v d p) :
    ∃ l : List α, Rd E W v l ∧ DLen d l.length ∧ ∀ x ∈ l, ∃ dx, G x dx ∧ InSlice P t e d dx := by
  obtain ⟨a0, len0, cap0, rfl⟩ := okWide_slice hu hok
  obtain ⟨fuel, hf⟩ := h
  obtain ⟨v', l, hcs, h1, h2, h3⟩ := open_rd_core E hu hC G elem hf
  have e1 : v' = .slice a0 len0 cap0 := by simpa [Value.cells] using hcs.symm
  subst e1
  exact ⟨l, h1, h2, h3⟩

/-- what a string's length is bound by -/
theorem weigh_string {H : Type} {P : Program} {t : TypeId} {s : ByteArray} : s.size ∈ (DataW.lit (.string s.data.toList) : DataW H).weights P t := by
  simp only [DataW.weights, List.mem_singleton]
  exact (Array.length_toList (xs := s.data)).symm
theorem weigh_field {H : Type} {P : Program} {t : TypeId} {fs : Array Field} {parts : List (DataW H)} (hs : P.underlying t = some (.struct fs)) {j : Nat} {f : Field} {d : DataW H} (hf : fs[j]? = some f) (hd : parts[j]? = some d) : ∀ n ∈ d.weights P f.type, n ∈ (DataW.agg parts).weights P t := by
  intro n hn
  simp only [DataW.weights, hs]
  exact DataW.weights_mem_each (j := j) (by rw [List.getElem?_map, ← Array.getElem?_toList] at *; simp [hf]) hd n hn
theorem reach_of {H : Type} {P : Program} {ts : List TypeId} {ds : List (DataW H)} (h : (DataW.weightsEach P ts ds).all (· ≤ reachBytes) = true) {j : Nat} {t : TypeId} {d : DataW H} (ht : ts[j]? = some t) (hd : ds[j]? = some d) {n : Nat} (hn : n ∈ d.weights P t) : n ≤ 140737488351232 := by
  have := List.all_eq_true.1 h _ (DataW.weights_mem_each ht hd n hn)
  have h2 := of_decide_eq_true this
  exact h2
end Go.Proofs.Ytklopbjlpffnbaa
