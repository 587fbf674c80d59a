/- Frames as plain functions on bytes: one put behind others, the next one read. No program in sight. -/
import Derived.Test.YtongoobcmlgdiaaBurst
namespace Go.Proofs.Ytongoobcmlgdiaa
open Go Go.RowKit
namespace Frm
def head (p : List UInt8) : List UInt8 := Crc.le4 (BitVec.ofNat 32 p.length)
def none' (p : List UInt8) : Bool := decide (p.length < 1) || decide (131072 < p.length)
/-- a payload's frame; none of an empty one, none of one that is too long -/
def one (p : List UInt8) : List UInt8 := if none' p then [] else head p ++ p ++ Crc.le4 (Crc.on 0#32 (head p ++ p))
def put (b p : List UInt8) : List UInt8 := b ++ one p
/-- how long a payload the frame's beginning tells -/
def len (r : List UInt8) : Nat := (Crc.num r).toNat
/-- what is wrong with the frame at the beginning; 0: nothing -/
def err (r : List UInt8) : Nat :=
  if r.length < 4 then 3 else if len r = 0 ∨ 131072 < len r then 4 else if r.length < len r + 8 then 3
  else if Crc.on 0#32 (r.take (4 + len r)) = Crc.num (r.drop (4 + len r)) then 0 else 6
def pay (r : List UInt8) : List UInt8 := (r.drop 4).take (len r)
def errAt (b : List UInt8) (a : Int) : Nat := if a < 0 ∨ (b.length : Int) < a then 1 else err (b.drop a.toNat)
def payAt (b : List UInt8) (a : Int) : List UInt8 := if errAt b a = 0 then pay (b.drop a.toNat) else []
def toAt (b : List UInt8) (a : Int) : Int := if errAt b a = 0 then a + 8 + len (b.drop a.toNat) else 0
theorem err_ok {r : List UInt8} (h : err r = 0) : 0 < len r ∧ len r ≤ 131072 ∧ len r + 8 ≤ r.length ∧ Crc.on 0#32 (r.take (4 + len r)) = Crc.num (r.drop (4 + len r)) := by
  unfold err at h
  by_cases h1 : r.length < 4
  · rw [if_pos h1] at h; cases h
  · rw [if_neg h1] at h
    by_cases h2 : len r = 0 ∨ 131072 < len r
    · rw [if_pos h2] at h; cases h
    · rw [if_neg h2] at h
      by_cases h3 : r.length < len r + 8
      · rw [if_pos h3] at h; cases h
      · rw [if_neg h3] at h
        by_cases h4 : Crc.on 0#32 (r.take (4 + len r)) = Crc.num (r.drop (4 + len r))
        · exact ⟨by omega, by omega, by omega, h4⟩
        · rw [if_neg h4] at h; cases h
theorem pay_length {r : List UInt8} (h : err r = 0) : (pay r).length = len r := by
  obtain ⟨_, _, h3, _⟩ := err_ok h
  unfold pay; rw [List.length_take, List.length_drop]; omega

/-- all that is whole from a place on, and where that ends -/
def scan : Nat → List UInt8 → List (List UInt8) × Nat
  | 0, _ => ([], 0)
  | f + 1, r => if err r = 0 then let s := scan f (r.drop (len r + 8)); (pay r :: s.1, len r + 8 + s.2) else ([], 0)
/-- more fuel changes nothing -/
theorem scan_fuel (f g : Nat) (r : List UInt8) (hf : r.length < f) (hg : r.length < g) : scan f r = scan g r := by
  induction f generalizing g r with
  | zero => omega
  | succ f ih =>
    cases g with
    | zero => omega
    | succ g =>
      unfold scan
      by_cases h : err r = 0
      · rw [if_pos h, if_pos h]
        obtain ⟨_, _, h3, _⟩ := err_ok h
        rw [ih g (r.drop (len r + 8)) (by rw [List.length_drop]; omega) (by rw [List.length_drop]; omega)]
      · rw [if_neg h, if_neg h]
def all (r : List UInt8) : List (List UInt8) × Nat := scan (r.length + 1) r
theorem all_ok {r : List UInt8} (h : err r = 0) : all r = (pay r :: (all (r.drop (len r + 8))).1, len r + 8 + (all (r.drop (len r + 8))).2) := by
  obtain ⟨_, _, h3, _⟩ := err_ok h
  unfold all
  rw [scan, if_pos h]
  rw [scan_fuel r.length ((r.drop (len r + 8)).length + 1) _ (by rw [List.length_drop]; omega) (by omega)]
theorem all_bad {r : List UInt8} (h : err r ≠ 0) : all r = ([], 0) := by unfold all; rw [scan, if_neg h]

theorem num_append {l m : List UInt8} (h : 4 ≤ l.length) : Crc.num (l ++ m) = Crc.num l := by
  match l, h with
  | a :: b :: c :: d :: l, _ => rfl
theorem num_take {l : List UInt8} {k : Nat} (h : 4 ≤ k) (h4 : 4 ≤ l.length) : Crc.num (l.take k) = Crc.num l := by
  conv => rhs; rw [← List.take_append_drop k l]
  rw [num_append (by rw [List.length_take]; omega)]
end Frm
end Go.Proofs.Ytongoobcmlgdiaa
