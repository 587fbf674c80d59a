/- What arguments that are slices read as, as lists ('Rd'). -/
import Derived.Test.YtklopbjlpffnbaaRow
import Derived.Test.YtklopbjlpffnbaaRds
namespace Go.Proofs.Ytklopbjlpffnbaa
open Go Go.RowKit Go.ChangeShapes Go.WideShapes Go.ChangeAt

theorem spot_none {W : World} {x : Addr} {v : Value} (h : W.cell? (x.add 0) = some v) : x.spot = none := by
  rw [show x.add 0 = x from by simp [Addr.add]] at h
  unfold World.cell? at h
  split at h
  · by_cases hsp : x.spot.isSome = true
    · rw [if_pos hsp] at h; cases h
    · simpa using hsp
  · cases h

theorem open_ints1 {H : Type} {enc : TypeId × Value → H} {P : Program} {W : World} {t e : TypeId} {base : Nat} {v : Value} {d : DataW H} {p : List MemPlace}
    (hu : P.underlying t = some (.slice e)) (he : P.underlying e = some (.int .i64)) (hc : P.cellsOf e = 1) (hok : Value.okWide P W .any base t v)
    (h : DataW.Trod enc P W 0 (fun _ => true) true t v d p) : ∃ l : List Int, Rd intsE W v l ∧ (∀ x ∈ l, -9223372036854775808 ≤ x ∧ x ≤ 9223372036854775807) ∧ DLen d l.length := by
  obtain ⟨a, len, cap, rfl⟩ := okWide_slice hu hok
  obtain ⟨fuel, hf⟩ := h
  rcases open_ints hu he hc hf with ⟨hcs, hx⟩ | ⟨x, l, c, zs, hcs, _, hl, hm, hz, hx, hcell, hwz⟩
  · simp [Value.cells] at hcs
    obtain ⟨rfl, rfl, rfl⟩ := hcs
    simp only [Prod.mk.injEq] at hx
    exact ⟨[], Rd.nil W, by simp, .inl ⟨hx.1, rfl⟩⟩
  · simp [Value.cells] at hcs
    obtain ⟨rfl, rfl, rfl⟩ := hcs
    simp only [Prod.mk.injEq] at hx
    simp at hz
    have hlen : (zs.take len).length = len := by rw [List.length_take]; omega
    refine ⟨zs.take len, ?_, fun y hy => ?_, .inr ⟨_, _, hx.1, ?_⟩⟩
    · unfold Rd
      rw [hlen]
      refine ⟨by rw [intsE.all_length, hlen], intsE.all_oneCell _, some x, cap, rfl, hl, hm, fun h => (by cases h), fun a ha hn => ?_⟩
      cases ha
      have hs := spot_none (hcell 0 (by omega))
      refine ⟨hs, fun i u hu => ?_⟩
      have hi : i < len := by
        have := (List.getElem?_eq_some_iff.1 hu).1
        rw [intsE.all_length, hlen] at this; simpa [intsE] using this
      have e1 := intsE.all_get (zs.take len) i (by omega) 0 Nat.one_pos
      simp only [intsE, Nat.mul_one, Nat.add_zero] at e1
      have hu' : (Enc.all intsE (zs.take len))[i]? = some u := hu
      simp only [intsE] at hu'
      rw [e1] at hu'
      simp at hu'
      subst hu'
      have := hcell i (by omega)
      rw [addr_add x hs] at this
      rw [this]
      simp [List.getD, show i < zs.length from by omega]
    · have := hwz y (List.mem_of_mem_take hy)
      simp [Lit.wf, IntKind.min, IntKind.max, IntKind.bits, IntKind.signed] at this; omega
    · rw [hlen]; simp [lits]; omega
end Go.Proofs.Ytklopbjlpffnbaa
