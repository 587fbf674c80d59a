/- The sum of 32 bits as a plain function on bytes, and the walk's words for its steps. No program in sight. The sum, bit by bit: it is linear, its step can be undone, and so texts that differ within 32 bits have different sums. No program in sight. Bits turned within 32 that lie one behind the other: the sum sees them. No program in sight. -/
import Derived.Test.YtgpgcnmnfnnkjaaDoorGWalCuts0
set_option linter.unusedVariables false
set_option linter.unusedSimpArgs false
section
namespace Go.Proofs.YtgpgcnmnfnnkjaaDoor
open Go Go.RowKit

namespace Crc
def poly : BitVec 32 := 0xEB31D82E#32
def inv (x : BitVec 32) : BitVec 32 := ~~~x
def low (x : BitVec 32) : BitVec 32 := x &&& 1#32
def half (x : BitVec 32) : BitVec 32 := x >>> 1
def turn (x : BitVec 32) : BitVec 32 := x ^^^ poly
def mix (s : BitVec 32) (x : UInt8) : BitVec 32 := s ^^^ x.toBitVec.setWidth 32
def step (s : BitVec 32) : BitVec 32 := if (low s).toNat = 1 then turn (half s) else half s
def steps : Nat → BitVec 32 → BitVec 32
  | 0, s => s
  | n + 1, s => step (steps n s)
def byte (s : BitVec 32) (x : UInt8) : BitVec 32 := steps 8 (mix s x)
def fold (s : BitVec 32) (l : List UInt8) : BitVec 32 := l.foldl byte s
def on (c : BitVec 32) (l : List UInt8) : BitVec 32 := inv (fold (inv c) l)
/-- the sum of parts, one behind the other -/
def parts (c : BitVec 32) (ls : List (List UInt8)) : BitVec 32 := ls.foldl on c

theorem inv_inv (x : BitVec 32) : inv (inv x) = x := by simp [inv]
theorem on_nil (c : BitVec 32) : on c [] = c := inv_inv c
theorem on_append (c : BitVec 32) (a b : List UInt8) : on c (a ++ b) = on (on c a) b := by
  unfold on fold; rw [List.foldl_append, inv_inv]
theorem parts_flat (c : BitVec 32) (ls : List (List UInt8)) : parts c ls = on c ls.flatten := by
  induction ls generalizing c with
  | nil => simp [parts, on_nil]
  | cons a ls ih => rw [List.flatten_cons, on_append, ← ih]; rfl
theorem fold_snoc (s : BitVec 32) (l : List UInt8) (k : Nat) (h : k < l.length) : fold s (l.take (k + 1)) = byte (fold s (l.take k)) l[k] := by
  unfold fold; rw [List.take_succ_eq_append_getElem h, List.foldl_append]; rfl
theorem parts_snoc (c : BitVec 32) (ls : List (List UInt8)) (k : Nat) (h : k < ls.length) : parts c (ls.take (k + 1)) = on (parts c (ls.take k)) ls[k] := by
  unfold parts; rw [List.take_succ_eq_append_getElem h, List.foldl_append]; rfl

/-- one of a number's four bytes -/
def b (k : Nat) (c : BitVec 32) : UInt8 := UInt8.ofNat (c.toNat / 2 ^ (8 * k))
/-- the lowest first -/
def le4 (c : BitVec 32) : List UInt8 := [b 0 c, b 1 c, b 2 c, b 3 c]
/-- four bytes' number -/
def num4 (a b c d : UInt8) : BitVec 32 := BitVec.ofNat 32 (a.toNat + 256 * b.toNat + 65536 * c.toNat + 16777216 * d.toNat)
def num (l : List UInt8) : BitVec 32 := num4 (l.getD 0 0) (l.getD 1 0) (l.getD 2 0) (l.getD 3 0)

theorem b_toNat (k : Nat) (c : BitVec 32) : (b k c).toNat = c.toNat / 2 ^ (8 * k) % 256 := by simp [b]
theorem num4_toNat (a b c d : UInt8) : (num4 a b c d).toNat = a.toNat + 256 * b.toNat + 65536 * c.toNat + 16777216 * d.toNat := by
  have := a.toNat_lt; have := b.toNat_lt; have := c.toNat_lt; have := d.toNat_lt
  unfold num4; rw [BitVec.toNat_ofNat, Nat.mod_eq_of_lt (by omega)]
theorem num_le4 (c : BitVec 32) : num (le4 c) = c := by
  apply BitVec.eq_of_toNat_eq
  simp only [num, le4, List.getD_cons_zero, List.getD_cons_succ]
  rw [num4_toNat]; simp only [b_toNat]
  have := c.isLt
  omega

/-- what Seal makes, and what Open tells -/
def seal' (p : List UInt8) : List UInt8 := p ++ le4 (on 0#32 p)
def cut (l : List UInt8) : List UInt8 := l.take (l.length - 4)
def tail (l : List UInt8) : List UInt8 := l.drop (l.length - 4)
def opens (l : List UInt8) : Bool := decide (4 ≤ l.length) && decide (on 0#32 (cut l) = num (tail l))
def open' (l : List UInt8) : List UInt8 := if opens l then cut l else []
theorem le4_length (c : BitVec 32) : (le4 c).length = 4 := rfl
theorem seal_length (p : List UInt8) : (seal' p).length = p.length + 4 := by unfold seal'; rw [List.length_append, le4_length]
theorem cut_seal (p : List UInt8) : cut (seal' p) = p := by unfold cut; rw [seal_length]; unfold seal'; simp
theorem tail_seal (p : List UInt8) : tail (seal' p) = le4 (on 0#32 p) := by unfold tail; rw [seal_length]; unfold seal'; simp
theorem opens_seal (p : List UInt8) : opens (seal' p) = true := by
  unfold opens; rw [cut_seal, tail_seal, num_le4, seal_length]; simp
theorem open_seal (p : List UInt8) : open' (seal' p) = p := by unfold open'; rw [opens_seal, cut_seal]; rfl
end Crc

theorem xor_u32 (x y : BitVec 32) : bits .xor .u32 (x.toNat : Int) (y.toNat : Int) = ((x ^^^ y).toNat : Int) := by
  rw [u32_xor_nat _ _ x.isLt y.isLt, BitVec.toNat_xor]
theorem not_u32 (x : BitVec 32) : bits .xor .u32 IntKind.u32.max (x.toNat : Int) = ((Crc.inv x).toNat : Int) := by
  have h : IntKind.u32.max = ((-1#32).toNat : Int) := by decide
  rw [h, xor_u32]
  unfold Crc.inv; rw [BitVec.xor_comm, show (-1#32) = BitVec.allOnes 32 from by decide, BitVec.xor_allOnes]
theorem mod_u8 (x : UInt8) : ((x.toNat : Nat) : Int) % 4294967296 = (x.toNat : Int) := by have := x.toNat_lt; omega
theorem mix_u32 (x : BitVec 32) (y : UInt8) : bits .xor .u32 (x.toNat : Int) (y.toNat : Int) = ((Crc.mix x y).toNat : Int) := by
  have h : (y.toNat : Int) = ((y.toBitVec.setWidth 32).toNat : Int) := by have := y.toNat_lt; simp
  rw [h, xor_u32]; rfl
theorem turn_u32 (x : BitVec 32) : bits .xor .u32 (x.toNat : Int) 3945912366 = ((Crc.turn x).toNat : Int) := xor_u32 x Crc.poly
theorem low_u32 (x : BitVec 32) : bits .and .u32 (x.toNat : Int) 1 = ((Crc.low x).toNat : Int) := by
  have h : (1 : Int) = ((1#32).toNat : Int) := rfl
  rw [h, u32_and_nat _ _ x.isLt (1#32).isLt, ← BitVec.toNat_and]; rfl
theorem half_u32 (x : BitVec 32) : (x.toNat : Int) / 2 = ((Crc.half x).toNat : Int) := by
  unfold Crc.half; simp [Nat.shiftRight_eq_div_pow]
theorem le4_cells (c : BitVec 32) : [Value.int .u8 ((c.toNat : Int) % 256), .int .u8 ((c.toNat : Int) / 256 % 256), .int .u8 ((c.toNat : Int) / 65536 % 256), .int .u8 ((c.toNat : Int) / 16777216)] = (Crc.le4 c).map byteV := by
  have := c.isLt
  simp only [Crc.le4, List.map_cons, List.map_nil, byteV, Crc.b_toNat, List.cons.injEq, Value.int.injEq, true_and, and_true]
  refine ⟨?_, ?_, ?_, ?_⟩ <;> omega
theorem num_u32 (a b c d : UInt8) : bits .or .u32 (bits .or .u32 (bits .or .u32 (a.toNat : Int) ((b.toNat : Int) * 256 % 4294967296)) ((c.toNat : Int) * 65536 % 4294967296)) ((d.toNat : Int) * 16777216 % 4294967296) = ((Crc.num4 a b c d).toNat : Int) := by
  have ha := a.toNat_lt; have hb := b.toNat_lt; have hc := c.toNat_lt; have hd := d.toNat_lt
  have e1 : (b.toNat : Int) * 256 % 4294967296 = ((b.toNat * 256 : Nat) : Int) := by omega
  have e2 : (c.toNat : Int) * 65536 % 4294967296 = ((c.toNat * 65536 : Nat) : Int) := by omega
  have e3 : (d.toNat : Int) * 16777216 % 4294967296 = ((d.toNat * 16777216 : Nat) : Int) := by omega
  have j1 : a.toNat ||| b.toNat * 256 = a.toNat + b.toNat * 256 := by rw [Nat.or_comm, nat_join 8 _ _ (by omega) (by omega)]; omega
  have j2 : (a.toNat + b.toNat * 256) ||| c.toNat * 65536 = a.toNat + b.toNat * 256 + c.toNat * 65536 := by rw [Nat.or_comm, nat_join 16 _ _ (by omega) (by omega)]; omega
  have j3 : (a.toNat + b.toNat * 256 + c.toNat * 65536) ||| d.toNat * 16777216 = a.toNat + b.toNat * 256 + c.toNat * 65536 + d.toNat * 16777216 := by rw [Nat.or_comm, nat_join 24 _ _ (by omega) (by omega)]; omega
  rw [e1, e2, e3, u32_or_nat _ _ (by omega) (by omega), j1, u32_or_nat _ _ (by omega) (by omega), j2, u32_or_nat _ _ (by omega) (by omega), j3, Crc.num4_toNat]
  omega
theorem flip_u8 (x : UInt8) : (255 - (x.toNat : Int)) % 256 = ((255 - x).toNat : Int) := by
  have h := x.toNat_lt
  have e : (255 - x).toNat = 255 - x.toNat := by
    rw [UInt8.toNat_sub_of_le]
    · rfl
    · rw [UInt8.le_iff_toNat_le]; show x.toNat ≤ 255; omega
  rw [e]; omega
attribute [go_sem] num_u32 flip_u8
attribute [go_sem] not_u32 mod_u8 mix_u32 turn_u32 low_u32 half_u32

end Go.Proofs.YtgpgcnmnfnnkjaaDoor
end

section
namespace Go.Proofs.YtgpgcnmnfnnkjaaDoor
open Go Go.RowKit
namespace Crc

theorem low_toNat (x : BitVec 32) : (low x).toNat = x.toNat % 2 := by
  unfold low; rw [BitVec.toNat_and]; show x.toNat &&& 1 = _; rw [Nat.and_one_is_mod]
theorem low_one (x : BitVec 32) : (low x).toNat = 1 ↔ x.getLsbD 0 = true := by
  rw [low_toNat, BitVec.getLsbD, Nat.testBit_zero]; simp
theorem step_eq (x : BitVec 32) : step x = (x >>> 1) ^^^ (if x.getLsbD 0 then poly else 0#32) := by
  unfold step half turn
  by_cases h : x.getLsbD 0 = true
  · rw [if_pos ((low_one x).2 h), if_pos h]
  · rw [if_neg (fun h' => h ((low_one x).1 h')), if_neg h]; simp
theorem step_xor (x y : BitVec 32) : step (x ^^^ y) = step x ^^^ step y := by
  simp only [step_eq, BitVec.getLsbD_xor]
  have e : (x ^^^ y) >>> 1 = (x >>> 1) ^^^ (y >>> 1) := by ext i; simp
  rw [e]
  cases x.getLsbD 0 <;> cases y.getLsbD 0 <;> simp
  · rw [BitVec.xor_assoc]
  · rw [BitVec.xor_assoc, BitVec.xor_assoc, BitVec.xor_comm poly]
  · have : ∀ a b c : BitVec 32, a ^^^ c ^^^ (b ^^^ c) = a ^^^ b := fun a b c => by
      rw [BitVec.xor_assoc, ← BitVec.xor_assoc c, BitVec.xor_comm c b, BitVec.xor_assoc b, BitVec.xor_self]; simp
    rw [this]
theorem step_zero : step 0#32 = 0#32 := by decide
/-- the top bit of the step tells the bit that went -/
theorem step_top (x : BitVec 32) : (step x).getLsbD 31 = x.getLsbD 0 := by
  rw [step_eq, BitVec.getLsbD_xor]
  have e : (x >>> 1).getLsbD 31 = false := by simp
  rw [e]
  by_cases h : x.getLsbD 0 = true
  · rw [if_pos h, h]; decide
  · rw [if_neg h]; rw [Bool.not_eq_true] at h; rw [h]; decide
theorem step_eq_zero {x : BitVec 32} (h : step x = 0#32) : x = 0#32 := by
  have h1 := step_top x
  rw [h] at h1
  have h0 : x.getLsbD 0 = false := by rw [← h1]; decide
  rw [step_eq, h0] at h
  simp at h
  apply BitVec.eq_of_getLsbD_eq
  intro i hi
  cases i with
  | zero => rw [h0]; simp
  | succ j =>
    have := congrArg (fun y => y.getLsbD j) h
    simp at this
    rw [Nat.add_comm]; simpa using this
theorem steps_xor (n : Nat) (x y : BitVec 32) : steps n (x ^^^ y) = steps n x ^^^ steps n y := by
  induction n with
  | zero => rfl
  | succ n ih => simp only [steps, ih, step_xor]
theorem steps_eq_zero {n : Nat} {x : BitVec 32} (h : steps n x = 0#32) : x = 0#32 := by
  induction n with
  | zero => exact h
  | succ n ih => exact ih (step_eq_zero h)
theorem steps_inj {n : Nat} {x y : BitVec 32} (h : steps n x = steps n y) : x = y := by
  have : steps n (x ^^^ y) = 0#32 := by rw [steps_xor, h, BitVec.xor_self]
  have := steps_eq_zero this
  have e : x ^^^ y ^^^ y = 0#32 ^^^ y := by rw [this]
  rw [BitVec.xor_assoc, BitVec.xor_self] at e
  simpa using e
theorem steps_succ' (n : Nat) (x : BitVec 32) : steps (n + 1) x = steps n (step x) := by
  induction n with
  | zero => rfl
  | succ n ih => show step (steps (n + 1) x) = _; rw [ih]; rfl
theorem steps_add (m n : Nat) (x : BitVec 32) : steps (m + n) x = steps m (steps n x) := by
  induction m with
  | zero => simp [steps]
  | succ m ih => rw [show m + 1 + n = (m + n) + 1 from by omega]; simp only [steps, ih]

/-- one bit more -/
def one (b : Bool) : BitVec 32 := if b then 1#32 else 0#32
def bit (s : BitVec 32) (b : Bool) : BitVec 32 := step (s ^^^ one b)
def foldBits (s : BitVec 32) (l : List Bool) : BitVec 32 := l.foldl bit s
def num2 : List Bool → BitVec 32
  | [] => 0#32
  | b :: l => one b ^^^ (num2 l <<< 1)

theorem num2_cons (b : Bool) (l : List Bool) : num2 (b :: l) = one b ^^^ (num2 l <<< 1) := rfl
theorem num2_high (l : List Bool) (i : Nat) (h : l.length ≤ i) : (num2 l).getLsbD i = false := by
  induction l generalizing i with
  | nil => simp [num2]
  | cons b l ih =>
    simp at h
    unfold num2 one
    rw [BitVec.getLsbD_xor, BitVec.getLsbD_shiftLeft]
    have h1 : (if b = true then 1#32 else 0#32).getLsbD i = false := by
      cases b
      · simp
      · simp; omega
    rw [h1]
    cases i with
    | zero => simp
    | succ j => simp; intro _; exact ih j (by omega)
theorem step_shift (x : BitVec 32) (h : x.getLsbD 31 = false) : step (x <<< 1) = x := by
  rw [step_eq]
  have h0 : (x <<< 1).getLsbD 0 = false := by simp
  rw [h0]; simp
  apply BitVec.eq_of_getLsbD_eq
  intro i hi
  simp
  by_cases h31 : i = 31
  · subst h31; rw [h]; simp
  · intro _; omega
theorem foldBits_num (s : BitVec 32) (l : List Bool) (h : l.length ≤ 32) : foldBits s l = steps l.length (s ^^^ num2 l) := by
  induction l generalizing s with
  | nil => simp [foldBits, num2, steps]
  | cons b l ih =>
    simp at h
    have := ih (bit s b) (by omega)
    unfold foldBits at this ⊢
    rw [List.foldl_cons, this, List.length_cons, steps_succ']
    congr 1
    rw [num2_cons]; unfold bit
    rw [← BitVec.xor_assoc, step_xor (s ^^^ one b), step_shift _ (num2_high l 31 (by omega))]
theorem foldBits_append (s : BitVec 32) (a b : List Bool) : foldBits s (a ++ b) = foldBits (foldBits s a) b := List.foldl_append
theorem foldBits_xor (s t : BitVec 32) (a b : List Bool) (h : a.length = b.length) : foldBits (s ^^^ t) (List.zipWith xor a b) = foldBits s a ^^^ foldBits t b := by
  induction a generalizing s t b with
  | nil => cases b <;> simp_all [foldBits]
  | cons x a ih =>
    cases b with
    | nil => simp at h
    | cons y b =>
      simp at h
      have e : bit (s ^^^ t) (xor x y) = bit s x ^^^ bit t y := by
        unfold bit; rw [← step_xor]
        congr 1
        have : one (xor x y) = one x ^^^ one y := by cases x <;> cases y <;> rfl
        rw [this]
        rw [BitVec.xor_assoc, BitVec.xor_assoc, ← BitVec.xor_assoc t, BitVec.xor_comm t (one x), BitVec.xor_assoc (one x)]
      have := ih (bit s x) (bit t y) b h
      unfold foldBits at this ⊢
      simp only [List.zipWith_cons_cons, List.foldl_cons]
      rw [e, this]
theorem foldBits_zeros (s : BitVec 32) (n : Nat) : foldBits s (List.replicate n false) = steps n s := by
  induction n generalizing s with
  | zero => rfl
  | succ n ih =>
    have := ih (bit s false)
    unfold foldBits at this ⊢
    rw [List.replicate_succ, List.foldl_cons, this, steps_succ']
    simp [bit, one]
theorem steps_zero (n : Nat) : steps n 0#32 = 0#32 := by
  induction n with
  | zero => rfl
  | succ n ih => simp [steps, ih, step_zero]
theorem num2_eq_zero {l : List Bool} (h : l.length ≤ 32) (hz : num2 l = 0#32) : ∀ b ∈ l, b = false := by
  induction l with
  | nil => simp
  | cons b l ih =>
    simp at h
    have h0 : (num2 (b :: l)).getLsbD 0 = b := by
      unfold num2 one; rw [BitVec.getLsbD_xor]; cases b <;> simp
    rw [hz] at h0
    have hb : b = false := by rw [← h0]; simp
    subst hb
    have h1 : num2 l <<< 1 = 0#32 := by unfold num2 one at hz; simpa using hz
    have h2 : num2 l = 0#32 := by
      rw [← step_shift (num2 l) (num2_high l 31 (by omega)), h1, step_zero]
    intro c hc
    rcases List.mem_cons.1 hc with rfl | hc
    · rfl
    · exact ih (by omega) h2 c hc
theorem num2_zeros (n : Nat) : num2 (List.replicate n false) = 0#32 := by
  induction n with
  | zero => rfl
  | succ n ih => rw [List.replicate_succ]; unfold num2; rw [ih]; decide

/-- a difference within 32 bits, one behind the other, is seen -/
theorem foldBits_window (a : Nat) (w : List Bool) (b : Nat) (hw : w.length ≤ 32) :
    foldBits 0#32 (List.replicate a false ++ w ++ List.replicate b false) = 0#32 ↔ ∀ x ∈ w, x = false := by
  rw [foldBits_append, foldBits_append, foldBits_zeros, foldBits_zeros, steps_zero, foldBits_num _ _ hw]
  simp only [BitVec.zero_xor]
  constructor
  · intro h; exact num2_eq_zero hw (steps_eq_zero (steps_eq_zero h))
  · intro h
    have : w = List.replicate w.length false := List.eq_replicate_iff.2 ⟨rfl, h⟩
    rw [this, num2_zeros, steps_zero, steps_zero]

/-- a byte's bits, the lowest first -/
def bits8 (x : UInt8) : List Bool := [x.toNat.testBit 0, x.toNat.testBit 1, x.toNat.testBit 2, x.toNat.testBit 3, x.toNat.testBit 4, x.toNat.testBit 5, x.toNat.testBit 6, x.toNat.testBit 7]
def bitsOf (l : List UInt8) : List Bool := l.flatMap bits8
theorem num2_bits8 (x : UInt8) : num2 (bits8 x) = x.toBitVec.setWidth 32 := by
  have : ∀ y : Fin 256, num2 (bits8 (UInt8.ofNat y.val)) = (UInt8.ofNat y.val).toBitVec.setWidth 32 := by decide +kernel
  have h := this ⟨x.toNat, x.toNat_lt⟩
  simpa using h
theorem byte_bits (s : BitVec 32) (x : UInt8) : byte s x = foldBits s (bits8 x) := by
  rw [foldBits_num _ _ (by simp [bits8]), num2_bits8]; rfl
theorem fold_bits (s : BitVec 32) (l : List UInt8) : fold s l = foldBits s (bitsOf l) := by
  unfold fold bitsOf
  induction l generalizing s with
  | nil => rfl
  | cons x l ih => rw [List.flatMap_cons, foldBits_append, ← byte_bits, List.foldl_cons, ih]

end Crc
end Go.Proofs.YtgpgcnmnfnnkjaaDoor
end

section
namespace Go.Proofs.YtgpgcnmnfnnkjaaDoor
open Go Go.RowKit
namespace Crc

def bitAt (l : List UInt8) (i : Nat) : Bool := (l.getD (i / 8) 0).toNat.testBit (i % 8)
/-- one bit turned -/
def flip (l : List UInt8) (i : Nat) : List UInt8 := l.set (i / 8) (l.getD (i / 8) 0 ^^^ UInt8.ofNat (2 ^ (i % 8)))
theorem flip_length (l : List UInt8) (i : Nat) : (flip l i).length = l.length := by simp [flip]
theorem bit_flip (l : List UInt8) (i j : Nat) (hi : i < 8 * l.length) : bitAt (flip l i) j = (bitAt l j ^^ decide (j = i)) := by
  unfold bitAt flip
  by_cases h : j / 8 = i / 8
  · have hl : i / 8 < l.length := by omega
    rw [h]
    simp only [List.getD_eq_getElem?_getD, List.getElem?_set_self hl, Option.getD_some, UInt8.toNat_xor, Nat.testBit_xor]
    congr 1
    have : (UInt8.ofNat (2 ^ (i % 8))).toNat = 2 ^ (i % 8) := by
      rw [UInt8.toNat_ofNat']
      have : 2 ^ (i % 8) < 2 ^ 8 := Nat.pow_lt_pow_right (by omega) (by omega)
      exact Nat.mod_eq_of_lt this
    rw [this, Nat.testBit_two_pow]
    have : (i % 8 = j % 8) ↔ j = i := by omega
    simp [this]
  · have hne : decide (j = i) = false := by simp; intro h'; exact h (by rw [h'])
    rw [hne]
    simp only [List.getD_eq_getElem?_getD, List.getElem?_set_ne (fun e => h e.symm), Bool.xor_false]

/-- what k rounds of the turning do -/
structure Turned (l : List UInt8) (a : Nat) (burst k : Nat) (l' : List UInt8) : Prop where
  len : l'.length = l.length
  bit : ∀ i, i < 8 * l.length → bitAt l' i = (bitAt l i ^^ (decide (a ≤ i) && (decide (i < a + k) && burst.testBit (i - a))))
def tur (a burst n8 k : Nat) : Bool := (List.range k).any fun j => burst.testBit j && decide (a + j < n8)
theorem Turned.zero (l : List UInt8) (a burst : Nat) : Turned l a burst 0 l := ⟨rfl, fun i _ => by
  have : (decide (a ≤ i) && (decide (i < a + 0) && burst.testBit (i - a))) = false := by
    by_cases h : a ≤ i
    · have : decide (i < a + 0) = false := by simp; omega
      rw [this]; simp
    · simp [h]
  rw [this]; simp⟩
theorem tur_zero (a burst n8 : Nat) : tur a burst n8 0 = false := rfl
theorem tur_succ (a burst n8 k : Nat) : tur a burst n8 (k + 1) = (tur a burst n8 k || (burst.testBit k && decide (a + k < n8))) := by
  unfold tur; rw [List.range_succ, List.any_append]; simp
theorem Turned.yes {l l' : List UInt8} {a burst k : Nat} (h : Turned l a burst k l') (hb : burst.testBit k = true) (hk : a + k < 8 * l.length) : Turned l a burst (k + 1) (flip l' (a + k)) := by
  refine ⟨by rw [flip_length, h.len], fun i hi => ?_⟩
  rw [bit_flip _ _ _ (by rw [h.len]; exact hk), h.bit i hi, Bool.xor_assoc]
  congr 1
  by_cases h1 : i = a + k
  · subst h1
    have e1 : decide (a + k < a + k) = false := by simp
    have e2 : decide (a + k < a + (k + 1)) = true := by simp
    have e3 : a + k - a = k := by omega
    rw [e1, e2, e3, hb]; simp
  · have e1 : decide (i = a + k) = false := by simp [h1]
    have e2 : decide (i < a + (k + 1)) = decide (i < a + k) := by congr 1; apply propext; omega
    rw [e1, e2]; simp
theorem Turned.no {l l' : List UInt8} {a burst k : Nat} (h : Turned l a burst k l') (hb : burst.testBit k = false ∨ 8 * l.length ≤ a + k) : Turned l a burst (k + 1) l' := by
  refine ⟨h.len, fun i hi => ?_⟩
  rw [h.bit i hi]
  congr 1
  by_cases h1 : i = a + k
  · subst h1
    have e1 : decide (a + k < a + k) = false := by simp
    have e3 : a + k - a = k := by omega
    rcases hb with hb | hb
    · rw [e1, e3, hb]; simp
    · omega
  · have e2 : decide (i < a + (k + 1)) = decide (i < a + k) := by congr 1; apply propext; omega
    rw [e2]

theorem bitsOf_length (l : List UInt8) : (bitsOf l).length = 8 * l.length := by
  unfold bitsOf; induction l with
  | nil => rfl
  | cons x l ih => rw [List.flatMap_cons, List.length_append, ih]; simp [bits8]; omega
theorem bitsOf_get (l : List UInt8) (i : Nat) (h : i < 8 * l.length) : (bitsOf l)[i]'(by rw [bitsOf_length]; exact h) = bitAt l i := by
  induction l generalizing i with
  | nil => simp at h
  | cons x l ih =>
    have e : bitsOf (x :: l) = bits8 x ++ bitsOf l := by unfold bitsOf; rw [List.flatMap_cons]
    simp only [e]
    by_cases h8 : i < 8
    · rw [List.getElem_append_left (by simp [bits8]; omega)]
      unfold bitAt
      have h1 : i / 8 = 0 := by omega
      have h2 : i % 8 = i := by omega
      rw [h1, h2]
      have : i = 0 ∨ i = 1 ∨ i = 2 ∨ i = 3 ∨ i = 4 ∨ i = 5 ∨ i = 6 ∨ i = 7 := by omega
      rcases this with rfl | rfl | rfl | rfl | rfl | rfl | rfl | rfl <;> simp [bits8]
    · simp only [List.length_cons] at h
      rw [List.getElem_append_right (by simp [bits8]; omega)]
      have hl : (bits8 x).length = 8 := by simp [bits8]
      simp only [hl]
      rw [ih (i - 8) (by omega)]
      unfold bitAt
      have h1 : i / 8 = (i - 8) / 8 + 1 := by omega
      have h2 : i % 8 = (i - 8) % 8 := by omega
      rw [h1, h2]; simp

theorem fold_turned {l l' : List UInt8} {a burst : Nat} (h : Turned l a burst 32 l') (s : BitVec 32) : fold s l = fold s l' ↔ tur a burst (8 * l.length) 32 = false := by
  have hlen : (bitsOf l).length = (bitsOf l').length := by rw [bitsOf_length, bitsOf_length, h.len]
  have hx : fold s l ^^^ fold s l' = foldBits 0#32 (List.zipWith xor (bitsOf l) (bitsOf l')) := by
    rw [fold_bits, fold_bits, ← foldBits_xor _ _ _ _ hlen, BitVec.xor_self]
  have hiff : fold s l = fold s l' ↔ foldBits 0#32 (List.zipWith xor (bitsOf l) (bitsOf l')) = 0#32 := by
    rw [← hx]
    constructor
    · intro e; rw [e, BitVec.xor_self]
    · intro e
      have := congrArg (· ^^^ fold s l') e
      simp only [BitVec.xor_assoc, BitVec.xor_self] at this
      simpa using this
  rw [hiff]
  by_cases ha : a < 8 * l.length
  · let m := min 32 (8 * l.length - a)
    have hm : m = min 32 (8 * l.length - a) := rfl
    have hz : List.zipWith xor (bitsOf l) (bitsOf l') = List.replicate a false ++ (List.range m).map (fun j => burst.testBit j) ++ List.replicate (8 * l.length - a - m) false := by
      apply List.ext_getElem
      · simp [bitsOf_length, h.len]; omega
      · intro i h1 h2
        have hi : i < 8 * l.length := by
          rw [List.length_zipWith, bitsOf_length] at h1; omega
        rw [List.getElem_zipWith, bitsOf_get l i hi, bitsOf_get l' i (by rw [h.len]; exact hi), h.bit i hi, ← Bool.xor_assoc, Bool.xor_self, Bool.false_xor]
        by_cases c1 : i < a
        · rw [List.getElem_append_left (by simp; omega), List.getElem_append_left (by simp; omega)]
          simp; intro h'; omega
        · by_cases c2 : i < a + m
          · rw [List.getElem_append_left (by simp; omega), List.getElem_append_right (by simp; omega)]
            simp
            have e1 : a ≤ i := by omega
            have e2 : i < a + 32 := by omega
            simp [e1, e2]
          · rw [List.getElem_append_right (by simp; omega)]
            simp
            intro _ h'; omega
    rw [hz, foldBits_window _ _ _ (by simp; omega)]
    unfold tur
    constructor
    · intro hall
      rw [List.any_eq_false]
      intro j hj
      simp at hj ⊢
      intro hb
      rcases Nat.lt_or_ge j m with hjm | hjm
      · have := hall (burst.testBit j) (List.mem_map.2 ⟨j, List.mem_range.2 hjm, rfl⟩)
        rw [hb] at this; cases this
      · omega
    · intro hall b hb
      obtain ⟨j, hj, rfl⟩ := List.mem_map.1 hb
      rw [List.any_eq_false] at hall
      have hj := List.mem_range.1 hj
      have := hall j (List.mem_range.2 (by omega))
      simp at this
      by_cases hbj : burst.testBit j = true
      · have := this hbj; omega
      · simpa using hbj
  · have h1 : tur a burst (8 * l.length) 32 = false := by
      unfold tur; rw [List.any_eq_false]; intro j _; simp; intro _; omega
    rw [h1]
    have hz : List.zipWith xor (bitsOf l) (bitsOf l') = List.replicate (8 * l.length) false ++ [] ++ List.replicate 0 false := by
      apply List.ext_getElem
      · simp [bitsOf_length, h.len]
      · intro i h1 h2
        have hi : i < 8 * l.length := by
          rw [List.length_zipWith, bitsOf_length] at h1; omega
        rw [List.getElem_zipWith, bitsOf_get l i hi, bitsOf_get l' i (by rw [h.len]; exact hi), h.bit i hi, ← Bool.xor_assoc, Bool.xor_self, Bool.false_xor]
        simp; intro h'; omega
    rw [hz, foldBits_window _ _ _ (by simp)]
    simp

/-- sealed bytes are those whose sum, their own four bytes with them, comes to one number -/
theorem opens_iff (l : List UInt8) (h : 4 ≤ l.length) : opens l = true ↔ fold (inv 0#32) l = steps 32 (inv 0#32) := by
  have hsplit : l = cut l ++ tail l := (List.take_append_drop _ _).symm
  obtain ⟨x0, x1, x2, x3, hx⟩ := four_of (tail l) (by unfold tail; simp; omega)
  have hf : fold (inv 0#32) l = steps 32 (fold (inv 0#32) (cut l) ^^^ num (tail l)) := by
    conv => lhs; rw [hsplit]
    have e1 : fold (inv 0#32) (cut l ++ tail l) = fold (fold (inv 0#32) (cut l)) (tail l) := List.foldl_append
    rw [e1, fold_bits _ (tail l), foldBits_num _ _ (by rw [bitsOf_length, hx]; simp), bitsOf_length, hx]
    congr 2
    have hn : bitsOf [x0, x1, x2, x3] = bits8 x0 ++ (bits8 x1 ++ (bits8 x2 ++ (bits8 x3 ++ []))) := rfl
    have happ : ∀ (a b : List Bool), num2 (a ++ b) = num2 a ^^^ (num2 b <<< a.length) := by
      intro a b
      induction a with
      | nil => simp [num2]
      | cons x a ih =>
        rw [List.cons_append, num2_cons, num2_cons, ih, BitVec.xor_assoc]
        congr 1
        rw [List.length_cons]
        apply BitVec.eq_of_getLsbD_eq
        intro i hi
        simp only [BitVec.getLsbD_shiftLeft, BitVec.getLsbD_xor]
        by_cases c : i < 1
        · simp [c]; intro _; omega
        · simp [c]
          by_cases c2 : i - 1 < a.length
          · have : i < a.length + 1 := by omega
            simp [c2, this, hi]
          · have h1 : ¬ i < a.length + 1 := by omega
            have h2 : i - 1 - a.length = i - (a.length + 1) := by omega
            have h3 : i - 1 < 32 := by omega
            simp [c2, h1, h2, hi, h3]
    rw [hn, happ, happ, happ, happ, num2_bits8, num2_bits8, num2_bits8, num2_bits8]
    have hl8 : ∀ x, (bits8 x).length = 8 := fun x => rfl
    simp only [hl8, num2]
    show _ = num4 x0 x1 x2 x3
    apply BitVec.eq_of_toNat_eq
    rw [num4_toNat]
    have b0 := x0.toNat_lt; have b1 := x1.toNat_lt; have b2 := x2.toNat_lt; have b3 := x3.toNat_lt
    have j : ∀ (x : UInt8) (r : BitVec 32) (R : Nat), r.toNat = R → R < 16777216 → (x.toBitVec.setWidth 32 ^^^ r <<< 8).toNat = x.toNat + 256 * R := by
      intro x r R hr hR
      have hx := x.toNat_lt
      rw [BitVec.toNat_xor, BitVec.toNat_shiftLeft, hr, BitVec.toNat_setWidth]
      have e1 : x.toBitVec.toNat % 2 ^ 32 = x.toNat := Nat.mod_eq_of_lt (by show x.toNat < _; omega)
      have e2 : R <<< 8 % 2 ^ 32 = 256 * R := by rw [Nat.shiftLeft_eq]; omega
      rw [e1, e2]
      have e3 : x.toNat ^^^ 256 * R = 256 * R + x.toNat := by
        rw [Nat.xor_comm]
        have : 256 * R ^^^ x.toNat = 256 * R ||| x.toNat := by
          apply Nat.eq_of_testBit_eq
          intro i
          rw [Nat.testBit_xor, Nat.testBit_or]
          by_cases hi : i < 8
          · have : (256 * R).testBit i = false := by
              rw [show 256 * R = 2 ^ 8 * R from rfl, Nat.testBit_two_pow_mul]; simp; intro h; omega
            rw [this]; simp
          · have : x.toNat.testBit i = false := Nat.testBit_lt_two_pow (Nat.lt_of_lt_of_le hx (Nat.pow_le_pow_right (by omega) (by omega : 8 ≤ i)))
            rw [this]; simp
        rw [this, nat_join 8 _ _ (by omega) (by omega)]
      rw [e3]; omega
    rw [j x0 _ (x1.toNat + 256 * (x2.toNat + 256 * (x3.toNat + 256 * 0))) ?_ (by omega)]
    · omega
    · refine j x1 _ _ ?_ (by omega)
      refine j x2 _ _ ?_ (by omega)
      exact j x3 _ _ (by simp) (by omega)
  rw [hf]
  unfold opens
  rw [decide_eq_true h]
  simp only [Bool.true_and, decide_eq_true_eq]
  unfold on
  have hinv : ∀ x : BitVec 32, inv x = x ^^^ inv 0#32 := by
    intro x
    have : inv 0#32 = BitVec.allOnes 32 := by decide
    rw [this, BitVec.xor_allOnes]; rfl
  generalize fold (inv 0#32) (cut l) = F at *
  generalize num (tail l) = N at *
  have hxx : ∀ x y : BitVec 32, x ^^^ (x ^^^ y) = y := fun x y => by rw [← BitVec.xor_assoc, BitVec.xor_self]; simp
  constructor
  · intro e; rw [← e, hinv F, hxx]
  · intro e
    have := steps_inj e
    rw [hinv F, ← this, hxx]

theorem opens_turned {p l' : List UInt8} {a burst : Nat} (h : Turned (seal' p) a burst 32 l') : opens l' = !tur a burst (8 * (p.length + 4)) 32 := by
  have h1 := (opens_iff (seal' p) (by rw [seal_length]; omega)).1 (opens_seal p)
  have h2 := opens_iff l' (by rw [h.len, seal_length]; omega)
  have h3 := fold_turned h (inv 0#32)
  rw [seal_length, h1] at h3
  cases ht : tur a burst (8 * (p.length + 4)) 32
  · exact h2.2 (h3.2 ht).symm
  · rw [ht] at h3
    have : ¬ opens l' = true := fun h => by have := h3.1 (h2.1 h).symm; cases this
    simpa using this
theorem on_turned {l l' : List UInt8} {a burst : Nat} (h : Turned l a burst 32 l') (c : BitVec 32) : decide (on c l = on c l') = !tur a burst (8 * l.length) 32 := by
  have h3 := fold_turned h (inv c)
  have h4 : on c l = on c l' ↔ fold (inv c) l = fold (inv c) l' := by
    unfold on
    constructor
    · intro e; have := congrArg inv e; rwa [inv_inv, inv_inv] at this
    · intro e; rw [e]
  cases ht : tur a burst (8 * l.length) 32
  · exact decide_eq_true (h4.2 (h3.2 ht))
  · rw [ht] at h3; exact decide_eq_false (fun h => by have := h3.1 (h4.1 h); cases this)

end Crc
end Go.Proofs.YtgpgcnmnfnnkjaaDoor
end
