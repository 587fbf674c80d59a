/- The sum of 32 bits as a plain function on bytes, and the walk's words for its steps. No program in sight. -/
import Derived.Test.YtongoobcmlgdiaaBase
namespace Go.Proofs.Ytongoobcmlgdiaa
open Go Go.RowKit

namespace Crc
def poly : BitVec 32 := 0xEB31D82E#32
def inv (x : BitVec 32) : BitVec 32 := ~~~x
def low (x : BitVec 32) : BitVec 32 := x &&& 1#32
def half (x : BitVec 32) : BitVec 32 := x >>> 1
def turn (x : BitVec 32) : BitVec 32 := x ^^^ poly
def mix (s : BitVec 32) (x : UInt8) : BitVec 32 := s ^^^ x.toBitVec.setWidth 32
def step (s : BitVec 32) : BitVec 32 := if (low s).toNat = 1 then turn (half s) else half s
def steps : Nat → BitVec 32 → BitVec 32
  | 0, s => s
  | n + 1, s => step (steps n s)
def byte (s : BitVec 32) (x : UInt8) : BitVec 32 := steps 8 (mix s x)
def fold (s : BitVec 32) (l : List UInt8) : BitVec 32 := l.foldl byte s
def on (c : BitVec 32) (l : List UInt8) : BitVec 32 := inv (fold (inv c) l)
/-- the sum of parts, one behind the other -/
def parts (c : BitVec 32) (ls : List (List UInt8)) : BitVec 32 := ls.foldl on c

theorem inv_inv (x : BitVec 32) : inv (inv x) = x := by simp [inv]
theorem on_nil (c : BitVec 32) : on c [] = c := inv_inv c
theorem on_append (c : BitVec 32) (a b : List UInt8) : on c (a ++ b) = on (on c a) b := by
  unfold on fold; rw [List.foldl_append, inv_inv]
theorem parts_flat (c : BitVec 32) (ls : List (List UInt8)) : parts c ls = on c ls.flatten := by
  induction ls generalizing c with
  | nil => simp [parts, on_nil]
  | cons a ls ih => rw [List.flatten_cons, on_append, ← ih]; rfl
theorem fold_snoc (s : BitVec 32) (l : List UInt8) (k : Nat) (h : k < l.length) : fold s (l.take (k + 1)) = byte (fold s (l.take k)) l[k] := by
  unfold fold; rw [List.take_succ_eq_append_getElem h, List.foldl_append]; rfl
theorem parts_snoc (c : BitVec 32) (ls : List (List UInt8)) (k : Nat) (h : k < ls.length) : parts c (ls.take (k + 1)) = on (parts c (ls.take k)) ls[k] := by
  unfold parts; rw [List.take_succ_eq_append_getElem h, List.foldl_append]; rfl

/-- one of a number's four bytes -/
def b (k : Nat) (c : BitVec 32) : UInt8 := UInt8.ofNat (c.toNat / 2 ^ (8 * k))
/-- the lowest first -/
def le4 (c : BitVec 32) : List UInt8 := [b 0 c, b 1 c, b 2 c, b 3 c]
/-- four bytes' number -/
def num4 (a b c d : UInt8) : BitVec 32 := BitVec.ofNat 32 (a.toNat + 256 * b.toNat + 65536 * c.toNat + 16777216 * d.toNat)
def num (l : List UInt8) : BitVec 32 := num4 (l.getD 0 0) (l.getD 1 0) (l.getD 2 0) (l.getD 3 0)

theorem b_toNat (k : Nat) (c : BitVec 32) : (b k c).toNat = c.toNat / 2 ^ (8 * k) % 256 := by simp [b]
theorem num4_toNat (a b c d : UInt8) : (num4 a b c d).toNat = a.toNat + 256 * b.toNat + 65536 * c.toNat + 16777216 * d.toNat := by
  have := a.toNat_lt; have := b.toNat_lt; have := c.toNat_lt; have := d.toNat_lt
  unfold num4; rw [BitVec.toNat_ofNat, Nat.mod_eq_of_lt (by omega)]
theorem num_le4 (c : BitVec 32) : num (le4 c) = c := by
  apply BitVec.eq_of_toNat_eq
  simp only [num, le4, List.getD_cons_zero, List.getD_cons_succ]
  rw [num4_toNat]; simp only [b_toNat]
  have := c.isLt
  omega

/-- what Seal makes, and what Open tells -/
def seal' (p : List UInt8) : List UInt8 := p ++ le4 (on 0#32 p)
def cut (l : List UInt8) : List UInt8 := l.take (l.length - 4)
def tail (l : List UInt8) : List UInt8 := l.drop (l.length - 4)
def opens (l : List UInt8) : Bool := decide (4 ≤ l.length) && decide (on 0#32 (cut l) = num (tail l))
def open' (l : List UInt8) : List UInt8 := if opens l then cut l else []
theorem le4_length (c : BitVec 32) : (le4 c).length = 4 := rfl
theorem seal_length (p : List UInt8) : (seal' p).length = p.length + 4 := by unfold seal'; rw [List.length_append, le4_length]
theorem cut_seal (p : List UInt8) : cut (seal' p) = p := by unfold cut; rw [seal_length]; unfold seal'; simp
theorem tail_seal (p : List UInt8) : tail (seal' p) = le4 (on 0#32 p) := by unfold tail; rw [seal_length]; unfold seal'; simp
theorem opens_seal (p : List UInt8) : opens (seal' p) = true := by
  unfold opens; rw [cut_seal, tail_seal, num_le4, seal_length]; simp
theorem open_seal (p : List UInt8) : open' (seal' p) = p := by unfold open'; rw [opens_seal, cut_seal]; rfl
end Crc

theorem xor_u32 (x y : BitVec 32) : bits .xor .u32 (x.toNat : Int) (y.toNat : Int) = ((x ^^^ y).toNat : Int) := by
  rw [u32_xor_nat _ _ x.isLt y.isLt, BitVec.toNat_xor]
theorem not_u32 (x : BitVec 32) : bits .xor .u32 IntKind.u32.max (x.toNat : Int) = ((Crc.inv x).toNat : Int) := by
  have h : IntKind.u32.max = ((-1#32).toNat : Int) := by decide
  rw [h, xor_u32]
  unfold Crc.inv; rw [BitVec.xor_comm, show (-1#32) = BitVec.allOnes 32 from by decide, BitVec.xor_allOnes]
theorem mod_u8 (x : UInt8) : ((x.toNat : Nat) : Int) % 4294967296 = (x.toNat : Int) := by have := x.toNat_lt; omega
theorem mix_u32 (x : BitVec 32) (y : UInt8) : bits .xor .u32 (x.toNat : Int) (y.toNat : Int) = ((Crc.mix x y).toNat : Int) := by
  have h : (y.toNat : Int) = ((y.toBitVec.setWidth 32).toNat : Int) := by have := y.toNat_lt; simp
  rw [h, xor_u32]; rfl
theorem turn_u32 (x : BitVec 32) : bits .xor .u32 (x.toNat : Int) 3945912366 = ((Crc.turn x).toNat : Int) := xor_u32 x Crc.poly
theorem low_u32 (x : BitVec 32) : bits .and .u32 (x.toNat : Int) 1 = ((Crc.low x).toNat : Int) := by
  have h : (1 : Int) = ((1#32).toNat : Int) := rfl
  rw [h, u32_and_nat _ _ x.isLt (1#32).isLt, ← BitVec.toNat_and]; rfl
theorem half_u32 (x : BitVec 32) : (x.toNat : Int) / 2 = ((Crc.half x).toNat : Int) := by
  unfold Crc.half; simp [Nat.shiftRight_eq_div_pow]
theorem le4_cells (c : BitVec 32) : [Value.int .u8 ((c.toNat : Int) % 256), .int .u8 ((c.toNat : Int) / 256 % 256), .int .u8 ((c.toNat : Int) / 65536 % 256), .int .u8 ((c.toNat : Int) / 16777216)] = (Crc.le4 c).map byteV := by
  have := c.isLt
  simp only [Crc.le4, List.map_cons, List.map_nil, byteV, Crc.b_toNat, List.cons.injEq, Value.int.injEq, true_and, and_true]
  refine ⟨?_, ?_, ?_, ?_⟩ <;> omega
theorem num_u32 (a b c d : UInt8) : bits .or .u32 (bits .or .u32 (bits .or .u32 (a.toNat : Int) ((b.toNat : Int) * 256 % 4294967296)) ((c.toNat : Int) * 65536 % 4294967296)) ((d.toNat : Int) * 16777216 % 4294967296) = ((Crc.num4 a b c d).toNat : Int) := by
  have ha := a.toNat_lt; have hb := b.toNat_lt; have hc := c.toNat_lt; have hd := d.toNat_lt
  have e1 : (b.toNat : Int) * 256 % 4294967296 = ((b.toNat * 256 : Nat) : Int) := by omega
  have e2 : (c.toNat : Int) * 65536 % 4294967296 = ((c.toNat * 65536 : Nat) : Int) := by omega
  have e3 : (d.toNat : Int) * 16777216 % 4294967296 = ((d.toNat * 16777216 : Nat) : Int) := by omega
  have j1 : a.toNat ||| b.toNat * 256 = a.toNat + b.toNat * 256 := by rw [Nat.or_comm, nat_join 8 _ _ (by omega) (by omega)]; omega
  have j2 : (a.toNat + b.toNat * 256) ||| c.toNat * 65536 = a.toNat + b.toNat * 256 + c.toNat * 65536 := by rw [Nat.or_comm, nat_join 16 _ _ (by omega) (by omega)]; omega
  have j3 : (a.toNat + b.toNat * 256 + c.toNat * 65536) ||| d.toNat * 16777216 = a.toNat + b.toNat * 256 + c.toNat * 65536 + d.toNat * 16777216 := by rw [Nat.or_comm, nat_join 24 _ _ (by omega) (by omega)]; omega
  rw [e1, e2, e3, u32_or_nat _ _ (by omega) (by omega), j1, u32_or_nat _ _ (by omega) (by omega), j2, u32_or_nat _ _ (by omega) (by omega), j3, Crc.num4_toNat]
  omega
theorem flip_u8 (x : UInt8) : (255 - (x.toNat : Int)) % 256 = ((255 - x).toNat : Int) := by
  have h := x.toNat_lt
  have e : (255 - x).toNat = 255 - x.toNat := by
    rw [UInt8.toNat_sub_of_le]
    · rfl
    · rw [UInt8.le_iff_toNat_le]; show x.toNat ≤ 255; omega
  rw [e]; omega
attribute [go_sem] num_u32 flip_u8
attribute [go_sem] not_u32 mod_u8 mix_u32 turn_u32 low_u32 half_u32

end Go.Proofs.Ytongoobcmlgdiaa
