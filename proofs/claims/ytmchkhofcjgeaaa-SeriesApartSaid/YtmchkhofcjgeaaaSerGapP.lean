/- What the law SeriesGapless keeps of the series in its own arrays. -/
import Derived.Test.YtmchkhofcjgeaaaSerLaw
import Derived.Test.YtmchkhofcjgeaaaArr
namespace Go.Proofs.Ytmchkhofcjgeaaa
open Go Go.RowKit

def arrS (n : Nat) (f : Nat → ByteArray) : Array Value := ((List.range n).map fun i => Value.string (f i)).toArray
theorem arrS_get {n : Nat} {f : Nat → ByteArray} {k : Nat} (h : k < n) : (arrS n f)[k]? = some (.string (f k)) := by
  unfold arrS; rw [List.getElem?_toArray, List.getElem?_map, List.getElem?_range h]; rfl
theorem Blk.cellS {w : World} {N n : Nat} {f : Nat → ByteArray} {t : TypeId} (h : Blk w N (arrS n f) t) {k : Nat} (hk : k < n) : w.cell? ⟨N, k, none⟩ = some (.string (f k)) := h.cell k _ (arrS_get hk)
def nmS : Nat → ByteArray
  | 0 => { data := #[97] }
  | 1 => { data := #[98] }
  | 2 => { data := #[82, 111, 116] }
  | _ => { data := #[122, 45, 57] }
theorem nmS_inj0 : ∀ i < 4, ∀ j < 4, nmS i = nmS j → i = j := by decide
theorem nmS_inj {i j : Nat} (hi : i < 4) (hj : j < 4) (h : nmS i = nmS j) : i = j := nmS_inj0 i hi j hj h
theorem nmS_all : ∀ i ∈ List.range 4, nameB (nmS i) = true := by decide +kernel
theorem nmS_name {i : Nat} (h : i < 4) : nameB (nmS i) = true := nmS_all i (List.mem_range.2 h)

structure GapP (ls : List Srs) (la lm : Nat → Int) (op sh : Nat → Bool) : Prop where
  right : RightQ ls
  few : ls.length ≤ (op 0).toNat + (op 1).toNat + (op 2).toNat + (op 3).toNat
  has : ∀ k, k < 4 → getR ls (nmS k) = if op k = true then some ⟨nmS k, la k + 1, lm k, sh k⟩ else none
  new : ∀ k, op k = false → la k = 0 ∧ sh k = false
theorem GapP.start : GapP [] (fun _ => 0) (fun _ => 0) (fun _ => false) (fun _ => false) := ⟨RightQ.nil, by simp, fun k _ => rfl, fun _ _ => ⟨rfl, rfl⟩⟩
theorem GapP.len {ls : List Srs} {la lm : Nat → Int} {op sh : Nat → Bool} (h : GapP ls la lm op sh) : ls.length < 8 := by
  have := h.few
  have b : ∀ x : Bool, x.toNat ≤ 1 := fun x => by cases x <;> decide
  have := b (op 0); have := b (op 1); have := b (op 2); have := b (op 3)
  omega
theorem GapP.opened {ls m : List Srs} {la lm : Nat → Int} {op sh : Nat → Bool} (h : GapP ls la lm op sh) {q : Nat} (hq : q < 4) (ho : op q = false) {lim : Int} (hR : RightQ m) (hl : m.length = ls.length + 1)
    (hm : ∀ x, getR m x = if x = nmS q then some ⟨nmS q, 1, lim, false⟩ else getR ls x) : GapP m la (updF lm q lim) (updF op q true) sh := by
  refine ⟨hR, ?_, fun k hk => ?_, fun k hk => ?_⟩
  · have hf := h.few
    have e : (updF op q true 0).toNat + (updF op q true 1).toNat + (updF op q true 2).toNat + (updF op q true 3).toNat = (op 0).toNat + (op 1).toNat + (op 2).toNat + (op 3).toNat + 1 := by
      match q, hq, ho with
      | 0, _, ho => simp [updF, ho]; omega
      | 1, _, ho => simp [updF, ho]; omega
      | 2, _, ho => simp [updF, ho]; omega
      | 3, _, ho => simp [updF, ho]
    omega
  · rw [hm]
    by_cases e : k = q
    · subst e
      obtain ⟨a, b⟩ := h.new k ho
      rw [if_pos rfl, updF_same, updF_same, if_pos rfl, a, b]; rfl
    · rw [if_neg (fun x => e (nmS_inj hk hq x)), updF_other _ _ _ e, updF_other _ _ _ e]; exact h.has k hk
  · by_cases e : k = q
    · subst e; rw [updF_same] at hk; cases hk
    · rw [updF_other _ _ _ e] at hk; exact h.new k hk
theorem GapP.shutted {ls m : List Srs} {la lm : Nat → Int} {op sh : Nat → Bool} (h : GapP ls la lm op sh) {q : Nat} (hq : q < 4) (ho : op q = true) (hR : RightQ m) (hl : m.length = ls.length)
    (hm : ∀ x, getR m x = if x = nmS q then some ⟨nmS q, la q + 1, lm q, true⟩ else getR ls x) : GapP m la lm op (updF sh q true) := by
  refine ⟨hR, by rw [hl]; exact h.few, fun k hk => ?_, fun k hk => ?_⟩
  · rw [hm]
    by_cases e : k = q
    · subst e; rw [if_pos rfl, updF_same, if_pos ho]
    · rw [if_neg (fun x => e (nmS_inj hk hq x)), updF_other _ _ _ e]; exact h.has k hk
  · have e : k ≠ q := fun e => by subst e; rw [ho] at hk; cases hk
    rw [updF_other _ _ _ e]; exact h.new k hk
theorem GapP.taken {ls m : List Srs} {la lm : Nat → Int} {op sh : Nat → Bool} (h : GapP ls la lm op sh) {q : Nat} (hq : q < 4) (ho : op q = true) (hR : RightQ m) (hl : m.length = ls.length)
    (hm : ∀ x, getR m x = if x = nmS q then some ⟨nmS q, la q + 1 + 1, lm q, sh q⟩ else getR ls x) : GapP m (updF la q (la q + 1)) lm op sh := by
  refine ⟨hR, by rw [hl]; exact h.few, fun k hk => ?_, fun k hk => ?_⟩
  · rw [hm]
    by_cases e : k = q
    · subst e; rw [if_pos rfl, updF_same, if_pos ho]
    · rw [if_neg (fun x => e (nmS_inj hk hq x)), updF_other _ _ _ e]; exact h.has k hk
  · have e : k ≠ q := fun e => by subst e; rw [ho] at hk; cases hk
    rw [updF_other _ _ _ e]; exact h.new k hk
theorem GapP.bounds {ls : List Srs} {la lm : Nat → Int} {op sh : Nat → Bool} (h : GapP ls la lm op sh) {q : Nat} (hq : q < 4) (ho : op q = true) : 0 ≤ la q ∧ la q ≤ 1099511627776 ∧ lm q ≤ 1099511627776 ∧ 1 ≤ lm q := by
  have hg := h.has q hq
  rw [if_pos ho] at hg
  obtain ⟨a, b, c, d⟩ := numR_iff.1 (h.right.good _ (getR_some hg).1).2
  simp only at a b c d
  exact ⟨by omega, by omega, b, a⟩
end Go.Proofs.Ytmchkhofcjgeaaa
