/- Frames put are found again; cut or turned ones are not. No program in sight. Frames one behind the other, cut off anywhere: those that are whole are found. No program in sight. -/
import Derived.Test.YtgpgcnmnfnnkjaaGreatDoorGStoreCuts4
set_option linter.unusedVariables false
set_option linter.unusedSimpArgs false
section
namespace Go.Proofs.YtgpgcnmnfnnkjaaGreatDoor
open Go Go.RowKit
namespace Frm

theorem one_none {p : List UInt8} (h : none' p = true) : one p = [] := by unfold one; rw [h]; rfl
theorem none_iff (p : List UInt8) : none' p = false ↔ 1 ≤ p.length ∧ p.length ≤ 131072 := by
 unfold none'
 by_cases h1 : p.length < 1
 · rw [decide_eq_true h1]; simp; omega
 · rw [decide_eq_false h1]
   by_cases h2 : 131072 < p.length
   · rw [decide_eq_true h2]; simp; omega
   · rw [decide_eq_false h2]; simp; omega
theorem one_some {p : List UInt8} (h : none' p = false) : one p = Crc.seal' (head p ++ p) := by
 unfold one Crc.seal'; rw [h]; rfl
theorem head_length (p : List UInt8) : (head p).length = 4 := rfl
theorem one_length {p : List UInt8} (h : none' p = false) : (one p).length = p.length + 8 := by
 rw [one_some h, Crc.seal_length, List.length_append, head_length]; omega
theorem one_shape {p : List UInt8} (h : none' p = false) : one p = head p ++ (p ++ Crc.le4 (Crc.on 0#32 (head p ++ p))) := by
 rw [one_some h]; unfold Crc.seal'; rw [List.append_assoc]
theorem num_head (p : List UInt8) (hp : p.length ≤ 131072) (r : List UInt8) : len (head p ++ r) = p.length := by
 unfold len head
 rw [num_append (by rw [Crc.le4_length]; omega), Crc.num_le4, BitVec.toNat_ofNat, Nat.mod_eq_of_lt (by omega)]

theorem whole {p : List UInt8} (h : none' p = false) (r : List UInt8) : err (one p ++ r) = 0 ∧ len (one p ++ r) = p.length ∧ pay (one p ++ r) = p ∧ (one p ++ r).drop (p.length + 8) = r := by
 obtain ⟨h1, h2⟩ := (none_iff p).1 h
 have hs := one_shape h
 have hol := one_length h
 have hlen : len (one p ++ r) = p.length := by rw [hs, List.append_assoc]; exact num_head p h2 _
 have hle := Crc.le4_length (Crc.on 0#32 (head p ++ p))
 refine ⟨?_, hlen, ?_, ?_⟩
 · unfold err
   have ht : (one p ++ r).length = p.length + 8 + r.length := by rw [List.length_append, hol]
   rw [if_neg (by omega), if_neg (by omega), if_neg (by omega), hlen]
   have e1 : (one p ++ r).take (4 + p.length) = head p ++ p := by
    rw [hs, ← List.append_assoc, List.append_assoc]
    rw [List.take_left' (by rw [List.length_append, head_length])]
   have e2 : (one p ++ r).drop (4 + p.length) = Crc.le4 (Crc.on 0#32 (head p ++ p)) ++ r := by
    rw [hs, ← List.append_assoc, List.append_assoc]
    rw [List.drop_left' (by rw [List.length_append, head_length])]
   rw [e1, e2, num_append (by rw [hle]; omega), Crc.num_le4, if_pos rfl]
 · unfold pay
   rw [hlen, hs]
   have e2 : (head p ++ (p ++ Crc.le4 (Crc.on 0#32 (head p ++ p))) ++ r).drop 4 = p ++ (Crc.le4 (Crc.on 0#32 (head p ++ p)) ++ r) := by
    rw [List.append_assoc, List.drop_left' (head_length p), List.append_assoc]
   rw [e2, List.take_left' rfl]
 · rw [List.drop_left' hol]
theorem cut {p : List UInt8} (h : none' p = false) (k : Nat) (hk : k < p.length + 8) : err ((one p).take k) ≠ 0 := by
 obtain ⟨h1, h2⟩ := (none_iff p).1 h
 have hol := one_length h
 have hl : ((one p).take k).length = k := by rw [List.length_take]; omega
 unfold err
 by_cases h4 : k < 4
 · rw [if_pos (by omega)]; omega
 · have hlen : len ((one p).take k) = p.length := by
    have : len ((one p).take k) = len (one p) := by unfold len; rw [num_take (by omega) (by omega)]
    rw [this, one_shape h]; exact num_head p h2 _
   rw [if_neg (by omega), if_neg (by omega), if_pos (by omega)]; omega

end Frm
end Go.Proofs.YtgpgcnmnfnnkjaaGreatDoor
end

section
namespace Go.Proofs.YtgpgcnmnfnnkjaaGreatDoor
open Go Go.RowKit
namespace Frm

def cat (K : List (List UInt8)) : List UInt8 := K.flatMap one
def good (K : List (List UInt8)) : Prop := ∀ p ∈ K, none' p = false
end Frm
end Go.Proofs.YtgpgcnmnfnnkjaaGreatDoor
end
