/- The sum, bit by bit: it is linear, its step can be undone, and so texts that differ within 32 bits have different sums. No program in sight. -/
import Derived.Test.YtongoobcmlgdiaaCrc
namespace Go.Proofs.Ytongoobcmlgdiaa
open Go Go.RowKit
namespace Crc

theorem low_toNat (x : BitVec 32) : (low x).toNat = x.toNat % 2 := by
  unfold low; rw [BitVec.toNat_and]; show x.toNat &&& 1 = _; rw [Nat.and_one_is_mod]
theorem low_one (x : BitVec 32) : (low x).toNat = 1 ↔ x.getLsbD 0 = true := by
  rw [low_toNat, BitVec.getLsbD, Nat.testBit_zero]; simp
theorem step_eq (x : BitVec 32) : step x = (x >>> 1) ^^^ (if x.getLsbD 0 then poly else 0#32) := by
  unfold step half turn
  by_cases h : x.getLsbD 0 = true
  · rw [if_pos ((low_one x).2 h), if_pos h]
  · rw [if_neg (fun h' => h ((low_one x).1 h')), if_neg h]; simp
theorem step_xor (x y : BitVec 32) : step (x ^^^ y) = step x ^^^ step y := by
  simp only [step_eq, BitVec.getLsbD_xor]
  have e : (x ^^^ y) >>> 1 = (x >>> 1) ^^^ (y >>> 1) := by ext i; simp
  rw [e]
  cases x.getLsbD 0 <;> cases y.getLsbD 0 <;> simp
  · rw [BitVec.xor_assoc]
  · rw [BitVec.xor_assoc, BitVec.xor_assoc, BitVec.xor_comm poly]
  · have : ∀ a b c : BitVec 32, a ^^^ c ^^^ (b ^^^ c) = a ^^^ b := fun a b c => by
      rw [BitVec.xor_assoc, ← BitVec.xor_assoc c, BitVec.xor_comm c b, BitVec.xor_assoc b, BitVec.xor_self]; simp
    rw [this]
theorem step_zero : step 0#32 = 0#32 := by decide
/-- the top bit of the step tells the bit that went -/
theorem step_top (x : BitVec 32) : (step x).getLsbD 31 = x.getLsbD 0 := by
  rw [step_eq, BitVec.getLsbD_xor]
  have e : (x >>> 1).getLsbD 31 = false := by simp
  rw [e]
  by_cases h : x.getLsbD 0 = true
  · rw [if_pos h, h]; decide
  · rw [if_neg h]; rw [Bool.not_eq_true] at h; rw [h]; decide
theorem step_eq_zero {x : BitVec 32} (h : step x = 0#32) : x = 0#32 := by
  have h1 := step_top x
  rw [h] at h1
  have h0 : x.getLsbD 0 = false := by rw [← h1]; decide
  rw [step_eq, h0] at h
  simp at h
  apply BitVec.eq_of_getLsbD_eq
  intro i hi
  cases i with
  | zero => rw [h0]; simp
  | succ j =>
    have := congrArg (fun y => y.getLsbD j) h
    simp at this
    rw [Nat.add_comm]; simpa using this
theorem steps_xor (n : Nat) (x y : BitVec 32) : steps n (x ^^^ y) = steps n x ^^^ steps n y := by
  induction n with
  | zero => rfl
  | succ n ih => simp only [steps, ih, step_xor]
theorem steps_eq_zero {n : Nat} {x : BitVec 32} (h : steps n x = 0#32) : x = 0#32 := by
  induction n with
  | zero => exact h
  | succ n ih => exact ih (step_eq_zero h)
theorem steps_inj {n : Nat} {x y : BitVec 32} (h : steps n x = steps n y) : x = y := by
  have : steps n (x ^^^ y) = 0#32 := by rw [steps_xor, h, BitVec.xor_self]
  have := steps_eq_zero this
  have e : x ^^^ y ^^^ y = 0#32 ^^^ y := by rw [this]
  rw [BitVec.xor_assoc, BitVec.xor_self] at e
  simpa using e
theorem steps_succ' (n : Nat) (x : BitVec 32) : steps (n + 1) x = steps n (step x) := by
  induction n with
  | zero => rfl
  | succ n ih => show step (steps (n + 1) x) = _; rw [ih]; rfl
theorem steps_add (m n : Nat) (x : BitVec 32) : steps (m + n) x = steps m (steps n x) := by
  induction m with
  | zero => simp [steps]
  | succ m ih => rw [show m + 1 + n = (m + n) + 1 from by omega]; simp only [steps, ih]

/-- one bit more -/
def one (b : Bool) : BitVec 32 := if b then 1#32 else 0#32
def bit (s : BitVec 32) (b : Bool) : BitVec 32 := step (s ^^^ one b)
def foldBits (s : BitVec 32) (l : List Bool) : BitVec 32 := l.foldl bit s
def num2 : List Bool → BitVec 32
  | [] => 0#32
  | b :: l => one b ^^^ (num2 l <<< 1)

theorem num2_cons (b : Bool) (l : List Bool) : num2 (b :: l) = one b ^^^ (num2 l <<< 1) := rfl
theorem num2_high (l : List Bool) (i : Nat) (h : l.length ≤ i) : (num2 l).getLsbD i = false := by
  induction l generalizing i with
  | nil => simp [num2]
  | cons b l ih =>
    simp at h
    unfold num2 one
    rw [BitVec.getLsbD_xor, BitVec.getLsbD_shiftLeft]
    have h1 : (if b = true then 1#32 else 0#32).getLsbD i = false := by
      cases b
      · simp
      · simp; omega
    rw [h1]
    cases i with
    | zero => simp
    | succ j => simp; intro _; exact ih j (by omega)
theorem step_shift (x : BitVec 32) (h : x.getLsbD 31 = false) : step (x <<< 1) = x := by
  rw [step_eq]
  have h0 : (x <<< 1).getLsbD 0 = false := by simp
  rw [h0]; simp
  apply BitVec.eq_of_getLsbD_eq
  intro i hi
  simp
  by_cases h31 : i = 31
  · subst h31; rw [h]; simp
  · intro _; omega
theorem foldBits_num (s : BitVec 32) (l : List Bool) (h : l.length ≤ 32) : foldBits s l = steps l.length (s ^^^ num2 l) := by
  induction l generalizing s with
  | nil => simp [foldBits, num2, steps]
  | cons b l ih =>
    simp at h
    have := ih (bit s b) (by omega)
    unfold foldBits at this ⊢
    rw [List.foldl_cons, this, List.length_cons, steps_succ']
    congr 1
    rw [num2_cons]; unfold bit
    rw [← BitVec.xor_assoc, step_xor (s ^^^ one b), step_shift _ (num2_high l 31 (by omega))]
theorem foldBits_append (s : BitVec 32) (a b : List Bool) : foldBits s (a ++ b) = foldBits (foldBits s a) b := List.foldl_append
theorem foldBits_xor (s t : BitVec 32) (a b : List Bool) (h : a.length = b.length) : foldBits (s ^^^ t) (List.zipWith xor a b) = foldBits s a ^^^ foldBits t b := by
  induction a generalizing s t b with
  | nil => cases b <;> simp_all [foldBits]
  | cons x a ih =>
    cases b with
    | nil => simp at h
    | cons y b =>
      simp at h
      have e : bit (s ^^^ t) (xor x y) = bit s x ^^^ bit t y := by
        unfold bit; rw [← step_xor]
        congr 1
        have : one (xor x y) = one x ^^^ one y := by cases x <;> cases y <;> rfl
        rw [this]
        rw [BitVec.xor_assoc, BitVec.xor_assoc, ← BitVec.xor_assoc t, BitVec.xor_comm t (one x), BitVec.xor_assoc (one x)]
      have := ih (bit s x) (bit t y) b h
      unfold foldBits at this ⊢
      simp only [List.zipWith_cons_cons, List.foldl_cons]
      rw [e, this]
theorem foldBits_zeros (s : BitVec 32) (n : Nat) : foldBits s (List.replicate n false) = steps n s := by
  induction n generalizing s with
  | zero => rfl
  | succ n ih =>
    have := ih (bit s false)
    unfold foldBits at this ⊢
    rw [List.replicate_succ, List.foldl_cons, this, steps_succ']
    simp [bit, one]
theorem steps_zero (n : Nat) : steps n 0#32 = 0#32 := by
  induction n with
  | zero => rfl
  | succ n ih => simp [steps, ih, step_zero]
theorem num2_eq_zero {l : List Bool} (h : l.length ≤ 32) (hz : num2 l = 0#32) : ∀ b ∈ l, b = false := by
  induction l with
  | nil => simp
  | cons b l ih =>
    simp at h
    have h0 : (num2 (b :: l)).getLsbD 0 = b := by
      unfold num2 one; rw [BitVec.getLsbD_xor]; cases b <;> simp
    rw [hz] at h0
    have hb : b = false := by rw [← h0]; simp
    subst hb
    have h1 : num2 l <<< 1 = 0#32 := by unfold num2 one at hz; simpa using hz
    have h2 : num2 l = 0#32 := by
      rw [← step_shift (num2 l) (num2_high l 31 (by omega)), h1, step_zero]
    intro c hc
    rcases List.mem_cons.1 hc with rfl | hc
    · rfl
    · exact ih (by omega) h2 c hc
theorem num2_zeros (n : Nat) : num2 (List.replicate n false) = 0#32 := by
  induction n with
  | zero => rfl
  | succ n ih => rw [List.replicate_succ]; unfold num2; rw [ih]; decide

/-- a difference within 32 bits, one behind the other, is seen -/
theorem foldBits_window (a : Nat) (w : List Bool) (b : Nat) (hw : w.length ≤ 32) :
    foldBits 0#32 (List.replicate a false ++ w ++ List.replicate b false) = 0#32 ↔ ∀ x ∈ w, x = false := by
  rw [foldBits_append, foldBits_append, foldBits_zeros, foldBits_zeros, steps_zero, foldBits_num _ _ hw]
  simp only [BitVec.zero_xor]
  constructor
  · intro h; exact num2_eq_zero hw (steps_eq_zero (steps_eq_zero h))
  · intro h
    have : w = List.replicate w.length false := List.eq_replicate_iff.2 ⟨rfl, h⟩
    rw [this, num2_zeros, steps_zero, steps_zero]

/-- a byte's bits, the lowest first -/
def bits8 (x : UInt8) : List Bool := [x.toNat.testBit 0, x.toNat.testBit 1, x.toNat.testBit 2, x.toNat.testBit 3, x.toNat.testBit 4, x.toNat.testBit 5, x.toNat.testBit 6, x.toNat.testBit 7]
def bitsOf (l : List UInt8) : List Bool := l.flatMap bits8
theorem num2_bits8 (x : UInt8) : num2 (bits8 x) = x.toBitVec.setWidth 32 := by
  have : ∀ y : Fin 256, num2 (bits8 (UInt8.ofNat y.val)) = (UInt8.ofNat y.val).toBitVec.setWidth 32 := by decide +kernel
  have h := this ⟨x.toNat, x.toNat_lt⟩
  simpa using h
theorem byte_bits (s : BitVec 32) (x : UInt8) : byte s x = foldBits s (bits8 x) := by
  rw [foldBits_num _ _ (by simp [bits8]), num2_bits8]; rfl
theorem fold_bits (s : BitVec 32) (l : List UInt8) : fold s l = foldBits s (bitsOf l) := by
  unfold fold bitsOf
  induction l generalizing s with
  | nil => rfl
  | cons x l ih => rw [List.flatMap_cons, foldBits_append, ← byte_bits, List.foldl_cons, ih]

end Crc
end Go.Proofs.Ytongoobcmlgdiaa
