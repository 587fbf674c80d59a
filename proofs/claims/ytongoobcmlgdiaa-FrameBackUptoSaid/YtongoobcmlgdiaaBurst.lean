/- Bits turned within 32 that lie one behind the other: the sum sees them. No program in sight. -/
import Derived.Test.YtongoobcmlgdiaaBits
namespace Go.Proofs.Ytongoobcmlgdiaa
open Go Go.RowKit
namespace Crc

def bitAt (l : List UInt8) (i : Nat) : Bool := (l.getD (i / 8) 0).toNat.testBit (i % 8)
/-- one bit turned -/
def flip (l : List UInt8) (i : Nat) : List UInt8 := l.set (i / 8) (l.getD (i / 8) 0 ^^^ UInt8.ofNat (2 ^ (i % 8)))
theorem flip_length (l : List UInt8) (i : Nat) : (flip l i).length = l.length := by simp [flip]
theorem bit_flip (l : List UInt8) (i j : Nat) (hi : i < 8 * l.length) : bitAt (flip l i) j = (bitAt l j ^^ decide (j = i)) := by
  unfold bitAt flip
  by_cases h : j / 8 = i / 8
  · have hl : i / 8 < l.length := by omega
    rw [h]
    simp only [List.getD_eq_getElem?_getD, List.getElem?_set_self hl, Option.getD_some, UInt8.toNat_xor, Nat.testBit_xor]
    congr 1
    have : (UInt8.ofNat (2 ^ (i % 8))).toNat = 2 ^ (i % 8) := by
      rw [UInt8.toNat_ofNat']
      have : 2 ^ (i % 8) < 2 ^ 8 := Nat.pow_lt_pow_right (by omega) (by omega)
      exact Nat.mod_eq_of_lt this
    rw [this, Nat.testBit_two_pow]
    have : (i % 8 = j % 8) ↔ j = i := by omega
    simp [this]
  · have hne : decide (j = i) = false := by simp; intro h'; exact h (by rw [h'])
    rw [hne]
    simp only [List.getD_eq_getElem?_getD, List.getElem?_set_ne (fun e => h e.symm), Bool.xor_false]

/-- what k rounds of the turning do -/
structure Turned (l : List UInt8) (a : Nat) (burst k : Nat) (l' : List UInt8) : Prop where
  len : l'.length = l.length
  bit : ∀ i, i < 8 * l.length → bitAt l' i = (bitAt l i ^^ (decide (a ≤ i) && (decide (i < a + k) && burst.testBit (i - a))))
def tur (a burst n8 k : Nat) : Bool := (List.range k).any fun j => burst.testBit j && decide (a + j < n8)
theorem Turned.zero (l : List UInt8) (a burst : Nat) : Turned l a burst 0 l := ⟨rfl, fun i _ => by
  have : (decide (a ≤ i) && (decide (i < a + 0) && burst.testBit (i - a))) = false := by
    by_cases h : a ≤ i
    · have : decide (i < a + 0) = false := by simp; omega
      rw [this]; simp
    · simp [h]
  rw [this]; simp⟩
theorem tur_zero (a burst n8 : Nat) : tur a burst n8 0 = false := rfl
theorem tur_succ (a burst n8 k : Nat) : tur a burst n8 (k + 1) = (tur a burst n8 k || (burst.testBit k && decide (a + k < n8))) := by
  unfold tur; rw [List.range_succ, List.any_append]; simp
theorem Turned.yes {l l' : List UInt8} {a burst k : Nat} (h : Turned l a burst k l') (hb : burst.testBit k = true) (hk : a + k < 8 * l.length) : Turned l a burst (k + 1) (flip l' (a + k)) := by
  refine ⟨by rw [flip_length, h.len], fun i hi => ?_⟩
  rw [bit_flip _ _ _ (by rw [h.len]; exact hk), h.bit i hi, Bool.xor_assoc]
  congr 1
  by_cases h1 : i = a + k
  · subst h1
    have e1 : decide (a + k < a + k) = false := by simp
    have e2 : decide (a + k < a + (k + 1)) = true := by simp
    have e3 : a + k - a = k := by omega
    rw [e1, e2, e3, hb]; simp
  · have e1 : decide (i = a + k) = false := by simp [h1]
    have e2 : decide (i < a + (k + 1)) = decide (i < a + k) := by congr 1; apply propext; omega
    rw [e1, e2]; simp
theorem Turned.no {l l' : List UInt8} {a burst k : Nat} (h : Turned l a burst k l') (hb : burst.testBit k = false ∨ 8 * l.length ≤ a + k) : Turned l a burst (k + 1) l' := by
  refine ⟨h.len, fun i hi => ?_⟩
  rw [h.bit i hi]
  congr 1
  by_cases h1 : i = a + k
  · subst h1
    have e1 : decide (a + k < a + k) = false := by simp
    have e3 : a + k - a = k := by omega
    rcases hb with hb | hb
    · rw [e1, e3, hb]; simp
    · omega
  · have e2 : decide (i < a + (k + 1)) = decide (i < a + k) := by congr 1; apply propext; omega
    rw [e2]

theorem bitsOf_length (l : List UInt8) : (bitsOf l).length = 8 * l.length := by
  unfold bitsOf; induction l with
  | nil => rfl
  | cons x l ih => rw [List.flatMap_cons, List.length_append, ih]; simp [bits8]; omega
theorem bitsOf_get (l : List UInt8) (i : Nat) (h : i < 8 * l.length) : (bitsOf l)[i]'(by rw [bitsOf_length]; exact h) = bitAt l i := by
  induction l generalizing i with
  | nil => simp at h
  | cons x l ih =>
    have e : bitsOf (x :: l) = bits8 x ++ bitsOf l := by unfold bitsOf; rw [List.flatMap_cons]
    simp only [e]
    by_cases h8 : i < 8
    · rw [List.getElem_append_left (by simp [bits8]; omega)]
      unfold bitAt
      have h1 : i / 8 = 0 := by omega
      have h2 : i % 8 = i := by omega
      rw [h1, h2]
      have : i = 0 ∨ i = 1 ∨ i = 2 ∨ i = 3 ∨ i = 4 ∨ i = 5 ∨ i = 6 ∨ i = 7 := by omega
      rcases this with rfl | rfl | rfl | rfl | rfl | rfl | rfl | rfl <;> simp [bits8]
    · simp only [List.length_cons] at h
      rw [List.getElem_append_right (by simp [bits8]; omega)]
      have hl : (bits8 x).length = 8 := by simp [bits8]
      simp only [hl]
      rw [ih (i - 8) (by omega)]
      unfold bitAt
      have h1 : i / 8 = (i - 8) / 8 + 1 := by omega
      have h2 : i % 8 = (i - 8) % 8 := by omega
      rw [h1, h2]; simp

theorem fold_turned {l l' : List UInt8} {a burst : Nat} (h : Turned l a burst 32 l') (s : BitVec 32) : fold s l = fold s l' ↔ tur a burst (8 * l.length) 32 = false := by
  have hlen : (bitsOf l).length = (bitsOf l').length := by rw [bitsOf_length, bitsOf_length, h.len]
  have hx : fold s l ^^^ fold s l' = foldBits 0#32 (List.zipWith xor (bitsOf l) (bitsOf l')) := by
    rw [fold_bits, fold_bits, ← foldBits_xor _ _ _ _ hlen, BitVec.xor_self]
  have hiff : fold s l = fold s l' ↔ foldBits 0#32 (List.zipWith xor (bitsOf l) (bitsOf l')) = 0#32 := by
    rw [← hx]
    constructor
    · intro e; rw [e, BitVec.xor_self]
    · intro e
      have := congrArg (· ^^^ fold s l') e
      simp only [BitVec.xor_assoc, BitVec.xor_self] at this
      simpa using this
  rw [hiff]
  by_cases ha : a < 8 * l.length
  · let m := min 32 (8 * l.length - a)
    have hm : m = min 32 (8 * l.length - a) := rfl
    have hz : List.zipWith xor (bitsOf l) (bitsOf l') = List.replicate a false ++ (List.range m).map (fun j => burst.testBit j) ++ List.replicate (8 * l.length - a - m) false := by
      apply List.ext_getElem
      · simp [bitsOf_length, h.len]; omega
      · intro i h1 h2
        have hi : i < 8 * l.length := by
          rw [List.length_zipWith, bitsOf_length] at h1; omega
        rw [List.getElem_zipWith, bitsOf_get l i hi, bitsOf_get l' i (by rw [h.len]; exact hi), h.bit i hi, ← Bool.xor_assoc, Bool.xor_self, Bool.false_xor]
        by_cases c1 : i < a
        · rw [List.getElem_append_left (by simp; omega), List.getElem_append_left (by simp; omega)]
          simp; intro h'; omega
        · by_cases c2 : i < a + m
          · rw [List.getElem_append_left (by simp; omega), List.getElem_append_right (by simp; omega)]
            simp
            have e1 : a ≤ i := by omega
            have e2 : i < a + 32 := by omega
            simp [e1, e2]
          · rw [List.getElem_append_right (by simp; omega)]
            simp
            intro _ h'; omega
    rw [hz, foldBits_window _ _ _ (by simp; omega)]
    unfold tur
    constructor
    · intro hall
      rw [List.any_eq_false]
      intro j hj
      simp at hj ⊢
      intro hb
      rcases Nat.lt_or_ge j m with hjm | hjm
      · have := hall (burst.testBit j) (List.mem_map.2 ⟨j, List.mem_range.2 hjm, rfl⟩)
        rw [hb] at this; cases this
      · omega
    · intro hall b hb
      obtain ⟨j, hj, rfl⟩ := List.mem_map.1 hb
      rw [List.any_eq_false] at hall
      have hj := List.mem_range.1 hj
      have := hall j (List.mem_range.2 (by omega))
      simp at this
      by_cases hbj : burst.testBit j = true
      · have := this hbj; omega
      · simpa using hbj
  · have h1 : tur a burst (8 * l.length) 32 = false := by
      unfold tur; rw [List.any_eq_false]; intro j _; simp; intro _; omega
    rw [h1]
    have hz : List.zipWith xor (bitsOf l) (bitsOf l') = List.replicate (8 * l.length) false ++ [] ++ List.replicate 0 false := by
      apply List.ext_getElem
      · simp [bitsOf_length, h.len]
      · intro i h1 h2
        have hi : i < 8 * l.length := by
          rw [List.length_zipWith, bitsOf_length] at h1; omega
        rw [List.getElem_zipWith, bitsOf_get l i hi, bitsOf_get l' i (by rw [h.len]; exact hi), h.bit i hi, ← Bool.xor_assoc, Bool.xor_self, Bool.false_xor]
        simp; intro h'; omega
    rw [hz, foldBits_window _ _ _ (by simp)]
    simp

/-- sealed bytes are those whose sum, their own four bytes with them, comes to one number -/
theorem opens_iff (l : List UInt8) (h : 4 ≤ l.length) : opens l = true ↔ fold (inv 0#32) l = steps 32 (inv 0#32) := by
  have hsplit : l = cut l ++ tail l := (List.take_append_drop _ _).symm
  obtain ⟨x0, x1, x2, x3, hx⟩ := four_of (tail l) (by unfold tail; simp; omega)
  have hf : fold (inv 0#32) l = steps 32 (fold (inv 0#32) (cut l) ^^^ num (tail l)) := by
    conv => lhs; rw [hsplit]
    have e1 : fold (inv 0#32) (cut l ++ tail l) = fold (fold (inv 0#32) (cut l)) (tail l) := List.foldl_append
    rw [e1, fold_bits _ (tail l), foldBits_num _ _ (by rw [bitsOf_length, hx]; simp), bitsOf_length, hx]
    congr 2
    have hn : bitsOf [x0, x1, x2, x3] = bits8 x0 ++ (bits8 x1 ++ (bits8 x2 ++ (bits8 x3 ++ []))) := rfl
    have happ : ∀ (a b : List Bool), num2 (a ++ b) = num2 a ^^^ (num2 b <<< a.length) := by
      intro a b
      induction a with
      | nil => simp [num2]
      | cons x a ih =>
        rw [List.cons_append, num2_cons, num2_cons, ih, BitVec.xor_assoc]
        congr 1
        rw [List.length_cons]
        apply BitVec.eq_of_getLsbD_eq
        intro i hi
        simp only [BitVec.getLsbD_shiftLeft, BitVec.getLsbD_xor]
        by_cases c : i < 1
        · simp [c]; intro _; omega
        · simp [c]
          by_cases c2 : i - 1 < a.length
          · have : i < a.length + 1 := by omega
            simp [c2, this, hi]
          · have h1 : ¬ i < a.length + 1 := by omega
            have h2 : i - 1 - a.length = i - (a.length + 1) := by omega
            have h3 : i - 1 < 32 := by omega
            simp [c2, h1, h2, hi, h3]
    rw [hn, happ, happ, happ, happ, num2_bits8, num2_bits8, num2_bits8, num2_bits8]
    have hl8 : ∀ x, (bits8 x).length = 8 := fun x => rfl
    simp only [hl8, num2]
    show _ = num4 x0 x1 x2 x3
    apply BitVec.eq_of_toNat_eq
    rw [num4_toNat]
    have b0 := x0.toNat_lt; have b1 := x1.toNat_lt; have b2 := x2.toNat_lt; have b3 := x3.toNat_lt
    have j : ∀ (x : UInt8) (r : BitVec 32) (R : Nat), r.toNat = R → R < 16777216 → (x.toBitVec.setWidth 32 ^^^ r <<< 8).toNat = x.toNat + 256 * R := by
      intro x r R hr hR
      have hx := x.toNat_lt
      rw [BitVec.toNat_xor, BitVec.toNat_shiftLeft, hr, BitVec.toNat_setWidth]
      have e1 : x.toBitVec.toNat % 2 ^ 32 = x.toNat := Nat.mod_eq_of_lt (by show x.toNat < _; omega)
      have e2 : R <<< 8 % 2 ^ 32 = 256 * R := by rw [Nat.shiftLeft_eq]; omega
      rw [e1, e2]
      have e3 : x.toNat ^^^ 256 * R = 256 * R + x.toNat := by
        rw [Nat.xor_comm]
        have : 256 * R ^^^ x.toNat = 256 * R ||| x.toNat := by
          apply Nat.eq_of_testBit_eq
          intro i
          rw [Nat.testBit_xor, Nat.testBit_or]
          by_cases hi : i < 8
          · have : (256 * R).testBit i = false := by
              rw [show 256 * R = 2 ^ 8 * R from rfl, Nat.testBit_two_pow_mul]; simp; intro h; omega
            rw [this]; simp
          · have : x.toNat.testBit i = false := Nat.testBit_lt_two_pow (Nat.lt_of_lt_of_le hx (Nat.pow_le_pow_right (by omega) (by omega : 8 ≤ i)))
            rw [this]; simp
        rw [this, nat_join 8 _ _ (by omega) (by omega)]
      rw [e3]; omega
    rw [j x0 _ (x1.toNat + 256 * (x2.toNat + 256 * (x3.toNat + 256 * 0))) ?_ (by omega)]
    · omega
    · refine j x1 _ _ ?_ (by omega)
      refine j x2 _ _ ?_ (by omega)
      exact j x3 _ _ (by simp) (by omega)
  rw [hf]
  unfold opens
  rw [decide_eq_true h]
  simp only [Bool.true_and, decide_eq_true_eq]
  unfold on
  have hinv : ∀ x : BitVec 32, inv x = x ^^^ inv 0#32 := by
    intro x
    have : inv 0#32 = BitVec.allOnes 32 := by decide
    rw [this, BitVec.xor_allOnes]; rfl
  generalize fold (inv 0#32) (cut l) = F at *
  generalize num (tail l) = N at *
  have hxx : ∀ x y : BitVec 32, x ^^^ (x ^^^ y) = y := fun x y => by rw [← BitVec.xor_assoc, BitVec.xor_self]; simp
  constructor
  · intro e; rw [← e, hinv F, hxx]
  · intro e
    have := steps_inj e
    rw [hinv F, ← this, hxx]

theorem opens_turned {p l' : List UInt8} {a burst : Nat} (h : Turned (seal' p) a burst 32 l') : opens l' = !tur a burst (8 * (p.length + 4)) 32 := by
  have h1 := (opens_iff (seal' p) (by rw [seal_length]; omega)).1 (opens_seal p)
  have h2 := opens_iff l' (by rw [h.len, seal_length]; omega)
  have h3 := fold_turned h (inv 0#32)
  rw [seal_length, h1] at h3
  cases ht : tur a burst (8 * (p.length + 4)) 32
  · exact h2.2 (h3.2 ht).symm
  · rw [ht] at h3
    have : ¬ opens l' = true := fun h => by have := h3.1 (h2.1 h).symm; cases this
    simpa using this
theorem on_turned {l l' : List UInt8} {a burst : Nat} (h : Turned l a burst 32 l') (c : BitVec 32) : decide (on c l = on c l') = !tur a burst (8 * l.length) 32 := by
  have h3 := fold_turned h (inv c)
  have h4 : on c l = on c l' ↔ fold (inv c) l = fold (inv c) l' := by
    unfold on
    constructor
    · intro e; have := congrArg inv e; rwa [inv_inv, inv_inv] at this
    · intro e; rw [e]
  cases ht : tur a burst (8 * l.length) 32
  · exact decide_eq_true (h4.2 (h3.2 ht))
  · rw [ht] at h3; exact decide_eq_false (fun h => by have := h3.1 (h4.1 h); cases this)

end Crc
end Go.Proofs.Ytongoobcmlgdiaa
