/- Frames put are found again; cut or turned ones are not. No program in sight. -/
import Derived.Test.YtongoobcmlgdiaaFrm
namespace Go.Proofs.Ytongoobcmlgdiaa
open Go Go.RowKit
namespace Frm

theorem one_none {p : List UInt8} (h : none' p = true) : one p = [] := by unfold one; rw [h]; rfl
theorem none_iff (p : List UInt8) : none' p = false ↔ 1 ≤ p.length ∧ p.length ≤ 131072 := by
  unfold none'
  by_cases h1 : p.length < 1
  · rw [decide_eq_true h1]; simp; omega
  · rw [decide_eq_false h1]
    by_cases h2 : 131072 < p.length
    · rw [decide_eq_true h2]; simp; omega
    · rw [decide_eq_false h2]; simp; omega
theorem one_some {p : List UInt8} (h : none' p = false) : one p = Crc.seal' (head p ++ p) := by
  unfold one Crc.seal'; rw [h]; rfl
theorem head_length (p : List UInt8) : (head p).length = 4 := rfl
theorem one_length {p : List UInt8} (h : none' p = false) : (one p).length = p.length + 8 := by
  rw [one_some h, Crc.seal_length, List.length_append, head_length]; omega
theorem one_shape {p : List UInt8} (h : none' p = false) : one p = head p ++ (p ++ Crc.le4 (Crc.on 0#32 (head p ++ p))) := by
  rw [one_some h]; unfold Crc.seal'; rw [List.append_assoc]
theorem num_head (p : List UInt8) (hp : p.length ≤ 131072) (r : List UInt8) : len (head p ++ r) = p.length := by
  unfold len head
  rw [num_append (by rw [Crc.le4_length]; omega), Crc.num_le4, BitVec.toNat_ofNat, Nat.mod_eq_of_lt (by omega)]

/-- a frame that is whole -/
theorem whole {p : List UInt8} (h : none' p = false) (r : List UInt8) : err (one p ++ r) = 0 ∧ len (one p ++ r) = p.length ∧ pay (one p ++ r) = p ∧ (one p ++ r).drop (p.length + 8) = r := by
  obtain ⟨h1, h2⟩ := (none_iff p).1 h
  have hs := one_shape h
  have hol := one_length h
  have hlen : len (one p ++ r) = p.length := by rw [hs, List.append_assoc]; exact num_head p h2 _
  have hle := Crc.le4_length (Crc.on 0#32 (head p ++ p))
  refine ⟨?_, hlen, ?_, ?_⟩
  · unfold err
    have ht : (one p ++ r).length = p.length + 8 + r.length := by rw [List.length_append, hol]
    rw [if_neg (by omega), if_neg (by omega), if_neg (by omega), hlen]
    have e1 : (one p ++ r).take (4 + p.length) = head p ++ p := by
      rw [hs, ← List.append_assoc, List.append_assoc]
      rw [List.take_left' (by rw [List.length_append, head_length])]
    have e2 : (one p ++ r).drop (4 + p.length) = Crc.le4 (Crc.on 0#32 (head p ++ p)) ++ r := by
      rw [hs, ← List.append_assoc, List.append_assoc]
      rw [List.drop_left' (by rw [List.length_append, head_length])]
    rw [e1, e2, num_append (by rw [hle]; omega), Crc.num_le4, if_pos rfl]
  · unfold pay
    rw [hlen, hs]
    have e2 : (head p ++ (p ++ Crc.le4 (Crc.on 0#32 (head p ++ p))) ++ r).drop 4 = p ++ (Crc.le4 (Crc.on 0#32 (head p ++ p)) ++ r) := by
      rw [List.append_assoc, List.drop_left' (head_length p), List.append_assoc]
    rw [e2, List.take_left' rfl]
  · rw [List.drop_left' hol]
theorem all_whole {p : List UInt8} (h : none' p = false) (r : List UInt8) : all (one p ++ r) = (p :: (all r).1, p.length + 8 + (all r).2) := by
  obtain ⟨h1, h2, h3, h4⟩ := whole h r
  rw [all_ok h1, h2, h3, h4]
theorem all_nil : all [] = ([], 0) := by decide

/-- a frame cut off -/
theorem cut {p : List UInt8} (h : none' p = false) (k : Nat) (hk : k < p.length + 8) : err ((one p).take k) ≠ 0 := by
  obtain ⟨h1, h2⟩ := (none_iff p).1 h
  have hol := one_length h
  have hl : ((one p).take k).length = k := by rw [List.length_take]; omega
  unfold err
  by_cases h4 : k < 4
  · rw [if_pos (by omega)]; omega
  · have hlen : len ((one p).take k) = p.length := by
      have : len ((one p).take k) = len (one p) := by unfold len; rw [num_take (by omega) (by omega)]
      rw [this, one_shape h]; exact num_head p h2 _
    rw [if_neg (by omega), if_neg (by omega), if_pos (by omega)]; omega

/-- what stands ahead of the bits that are turned stays; behind it they are turned likewise -/
theorem turned_drop {l l' : List UInt8} {a burst k : Nat} (h : Crc.Turned l a burst k l') (n : Nat) (hn : 8 * n ≤ a) (hl : n ≤ l.length) : l'.take n = l.take n ∧ Crc.Turned (l.drop n) (a - 8 * n) burst k (l'.drop n) := by
  have hb : ∀ i, i < 8 * l.length → i < a → Crc.bitAt l' i = Crc.bitAt l i := fun i hi hia => by
    rw [h.bit i hi]
    have : decide (a ≤ i) = false := by simp; omega
    rw [this]; simp
  have hbyte : ∀ i, i < l.length → 8 * i + 8 ≤ a → l'.getD i 0 = l.getD i 0 := fun i hi hia => by
    apply UInt8.toNat_inj.1
    apply Nat.eq_of_testBit_eq
    intro j
    by_cases hj : j < 8
    · have := hb (8 * i + j) (by omega) (by omega)
      unfold Crc.bitAt at this
      rw [show (8 * i + j) / 8 = i from by omega, show (8 * i + j) % 8 = j from by omega] at this
      exact this
    · rw [Nat.testBit_lt_two_pow (Nat.lt_of_lt_of_le (UInt8.toNat_lt _) (Nat.pow_le_pow_right (by omega) (by omega : 8 ≤ j))),
        Nat.testBit_lt_two_pow (Nat.lt_of_lt_of_le (UInt8.toNat_lt _) (Nat.pow_le_pow_right (by omega) (by omega : 8 ≤ j)))]
  refine ⟨?_, ⟨by rw [List.length_drop, List.length_drop, h.len], fun i hi => ?_⟩⟩
  · apply List.ext_getElem
    · rw [List.length_take, List.length_take, h.len]
    · intro i h1 h2
      rw [List.length_take] at h1 h2
      rw [List.getElem_take, List.getElem_take]
      have := hbyte i (by omega) (by omega)
      rw [List.getD_eq_getElem?_getD, List.getD_eq_getElem?_getD, List.getElem?_eq_getElem (by omega), List.getElem?_eq_getElem (by omega)] at this
      exact this
  · rw [List.length_drop] at hi
    have e : ∀ m : List UInt8, Crc.bitAt (m.drop n) i = Crc.bitAt m (8 * n + i) := fun m => by
      unfold Crc.bitAt
      rw [show (8 * n + i) / 8 = n + i / 8 from by omega, show (8 * n + i) % 8 = i % 8 from by omega]
      simp only [List.getD_eq_getElem?_getD, List.getElem?_drop]
    rw [e, e, h.bit (8 * n + i) (by omega)]
    congr 1
    have e1 : decide (a ≤ 8 * n + i) = decide (a - 8 * n ≤ i) := by congr 1; apply propext; omega
    have e2 : decide (8 * n + i < a + k) = decide (i < a - 8 * n + k) := by congr 1; apply propext; omega
    have e3 : 8 * n + i - a = i - (a - 8 * n) := by omega
    rw [e1, e2, e3]

/-- a frame with bits turned behind its first four bytes -/
theorem err_turned {q q' : List UInt8} (h : none' q = false) {a burst : Nat} (ha : 32 ≤ a) (ht : Crc.Turned (one q) a burst 32 q') :
    (err q' = 0 ↔ Crc.tur a burst (8 * (q.length + 8)) 32 = false) ∧ len q' = q.length ∧ q'.length = q.length + 8 := by
  obtain ⟨h1, h2⟩ := (none_iff q).1 h
  have hol := one_length h
  have hlq : q'.length = q.length + 8 := by rw [ht.len, hol]
  have h4 := (turned_drop ht 4 (by omega) (by omega)).1
  have hlen : len q' = q.length := by
    have e1 : len q' = len (q'.take 4) := by unfold len; rw [num_take (by omega) (by omega)]
    have e2 : len ((one q).take 4) = len (one q) := by unfold len; rw [num_take (by omega) (by omega)]
    rw [e1, h4, e2, one_shape h]; exact num_head q h2 _
  refine ⟨?_, hlen, hlq⟩
  have ho := Crc.opens_turned (p := head q ++ q) (by rw [← one_some h]; exact ht)
  rw [show (head q ++ q).length + 4 = q.length + 8 from by rw [List.length_append, head_length]; omega] at ho
  have hop : Crc.opens q' = decide (Crc.on 0#32 (q'.take (4 + q.length)) = Crc.num (q'.drop (4 + q.length))) := by
    unfold Crc.opens Crc.cut Crc.tail
    rw [decide_eq_true (by omega : 4 ≤ q'.length), show q'.length - 4 = 4 + q.length from by omega]; simp
  unfold err
  rw [if_neg (by omega), if_neg (by omega), if_neg (by omega), hlen]
  rw [hop] at ho
  by_cases hc : Crc.on 0#32 (q'.take (4 + q.length)) = Crc.num (q'.drop (4 + q.length))
  · rw [if_pos hc]; rw [decide_eq_true hc] at ho
    cases ht' : Crc.tur a burst (8 * (q.length + 8)) 32
    · simp
    · rw [ht'] at ho; simp at ho
  · rw [if_neg hc]; rw [decide_eq_false hc] at ho
    cases ht' : Crc.tur a burst (8 * (q.length + 8)) 32
    · rw [ht'] at ho; simp at ho
    · simp

/-- what is found in a frame, and another one behind it that is turned -/
theorem all_turned {p q l' : List UInt8} (h : none' q = false) {a burst : Nat} (ha : 8 * ((one p).length + 4) ≤ a) (ht : Crc.Turned (one p ++ one q) a burst 32 l') :
    if Crc.tur a burst (8 * ((one p).length + (q.length + 8))) 32 then all l' = (if none' p then [] else [p], (one p).length) else (all l').2 = (one p).length + (q.length + 8) := by
  have hol := one_length h
  obtain ⟨h1, h2⟩ := turned_drop ht (one p).length (by omega) (by rw [List.length_append]; omega)
  rw [List.take_left' rfl] at h1
  rw [List.drop_left' rfl] at h2
  obtain ⟨e1, e2, e3⟩ := err_turned h (by omega) h2
  have hsplit : l' = one p ++ l'.drop (one p).length := by conv => lhs; rw [← List.take_append_drop (one p).length l', h1]
  have htur : Crc.tur a burst (8 * ((one p).length + (q.length + 8))) 32 = Crc.tur (a - 8 * (one p).length) burst (8 * (q.length + 8)) 32 := by
    unfold Crc.tur
    congr 1; funext j
    congr 1
    congr 1; apply propext; omega
  rw [htur]
  generalize l'.drop (one p).length = q' at *
  subst hsplit
  have hap : all (one p ++ q') = ((if none' p then [] else [p]) ++ (all q').1, (one p).length + (all q').2) := by
    cases hp : none' p
    · rw [all_whole hp, one_length hp]; simp
    · rw [one_none hp]; simp
  cases htr : Crc.tur (a - 8 * (one p).length) burst (8 * (q.length + 8)) 32
  · rw [if_neg (by simp)]
    have hz := e1.2 htr
    rw [hap, all_ok hz, e2]
    have : q'.drop (q.length + 8) = [] := List.drop_of_length_le (by omega)
    rw [this, all_nil]; omega
  · rw [if_pos rfl]
    have hz : err q' ≠ 0 := fun h => by have := e1.1 h; rw [htr] at this; cases this
    rw [hap, all_bad hz]; simp

end Frm
end Go.Proofs.Ytongoobcmlgdiaa
