/- The write-ahead log, plain law: what is read stays right; where a segment ends. Frames put are found again; cut or turned ones are not. No program in sight. Frames one behind the other, cut off anywhere: those that are whole are found. No program in sight. -/
import Derived.Test.YtgpgcnmnfnnkjaaDoorGWalCuts16
import Derived.Test.YtgpgcnmnfnnkjaaDoorGWalCuts19
set_option linter.unusedVariables false
set_option linter.unusedSimpArgs false
section
namespace Go.Proofs.YtgpgcnmnfnnkjaaDoor
open Go Go.RowKit Go.PlainAid
theorem SgOk.step {s t : Sg} {p : List UInt8} (ok : SgOk s) (h : takeS s p = some t) : SgOk t := by
  unfold takeS at h
  cases hp : parseR p with
  | none => rw [hp] at h; cases h
  | some x =>
    rw [hp] at h
    replace h : stepS s x = some t := h
    cases x with
    | beg g =>
      have hs : g.snap = sNone := by
        unfold parseR at hp
        dsimp only at hp
        split at hp
        · unfold recBeg ended at hp
          dsimp only at hp
          split at hp
          · cases hp; rfl
          · cases hp
        · split at hp
          · unfold recEty ended at hp; dsimp only at hp; split at hp <;> cases hp
          · split at hp
            · unfold ended at hp; split at hp <;> cases hp
            · split at hp
              · unfold recVot ended at hp; dsimp only at hp; split at hp <;> cases hp
              · split at hp
                · unfold recCut ended at hp; split at hp <;> cases hp
                · cases hp
      replace h : beganS s g = some t := h
      unfold beganS at h
      split at h
      · rename_i hc
        cases h
        exact ⟨fun _ => hc.2, fun hw => rfl, hs⟩
      · cases h
    | ety x =>
      replace h : (if s.begun = true then grownS s x else none) = some t := h
      split at h
      · rename_i hb; exact (ok.grown hb h).1
      · cases h
    | rdy =>
      replace h : doneS s = some t := h
      unfold doneS at h
      split at h
      · rename_i hc; cases h; exact ⟨fun _ => ok.bare hc.1, fun _ => hc.1, ok.snap⟩
      · cases h
    | vot a b =>
      replace h : votedS s a b = some t := h
      unfold votedS at h
      split at h
      · rename_i hc
        cases h
        refine ⟨fun hb => ?_, ok.wh, ok.snap⟩
        have hb1 := ok.bare (ok.wh hc.1)
        obtain ⟨hh, hl, hli, hlo⟩ := (bareH_iff _).1 hb1
        have hh' := (headOk_iff _).1 hh
        rw [bareH_iff, headOk_iff]
        dsimp only
        exact ⟨⟨by omega, by omega, by omega, by omega, hh'.2.2.2.2.1, hh'.2.2.2.2.2.1, hh'.2.2.2.2.2.2.1, hh'.2.2.2.2.2.2.2.1, hh'.2.2.2.2.2.2.2.2.1, by omega, hh'.2.2.2.2.2.2.2.2.2.2⟩, hl, hli, logOk_mono hlo hc.2.1⟩
      · cases h
    | cut n => exact (ok.shorter (show shorterS s n = some t from h)).1
theorem SgOk.size {s : Sg} (ok : SgOk s) (n : Nat) : SgOk { s with size := n } := ⟨ok.bare, ok.wh, ok.snap⟩
theorem SgOk.read : ∀ (f : Nat) (b : List UInt8) (s : Sg), SgOk s → SgOk (readS f b s)
  | 0, _, _, h => h
  | f + 1, b, s, h => by
    rw [readS]
    split
    · split
      · rename_i t ht; exact SgOk.read f b _ ((h.step ht).size _)
      · exact h
    · exact h
theorem readSeg_ok (b : List UInt8) : SgOk (readSeg b) := SgOk.read _ _ _ SgOk.zero
/-- a frame that is there ends inside -/
theorem frm_in {b : List UInt8} {a : Nat} (ha : a ≤ b.length) (h : Frm.errAt b a = 0) : ∃ n : Nat, Frm.toAt b a = (n : Int) ∧ a + 9 ≤ n ∧ n ≤ b.length ∧ (Frm.payAt b a).length ≤ 131072 := by
  have h2 : Frm.err (b.drop a) = 0 := by unfold Frm.errAt at h; rw [if_neg (by omega)] at h; simpa using h
  obtain ⟨e1, e2, e3, _⟩ := Frm.err_ok h2
  rw [List.length_drop] at e3
  refine ⟨a + 8 + Frm.len (b.drop a), ?_, by omega, by omega, ?_⟩
  · unfold Frm.toAt; rw [if_pos h]; simp
  · unfold Frm.payAt; rw [if_pos h]; simp only [Int.toNat_natCast]; rw [Frm.pay_length h2]; exact e2
theorem readS_stop {f : Nat} {b : List UInt8} {s : Sg} (h : Frm.errAt b s.size ≠ 0) : readS f b s = s := by
  cases f with
  | zero => rfl
  | succ f => rw [readS, if_neg h]
theorem readS_no {f : Nat} {b : List UInt8} {s : Sg} (h : Frm.errAt b s.size = 0) (ht : takeS s (Frm.payAt b s.size) = none) : readS f b s = s := by
  cases f with
  | zero => rfl
  | succ f => rw [readS, if_pos h, ht]
theorem readS_go {f : Nat} {b : List UInt8} {s t : Sg} (h : Frm.errAt b s.size = 0) (ht : takeS s (Frm.payAt b s.size) = some t) : readS (f + 1) b s = readS f b { t with size := (Frm.toAt b s.size).toNat } := by rw [readS, if_pos h, ht]
theorem stepS_size {s t : Sg} {x : Rec} (h : stepS s x = some t) : t.size = s.size := by
  cases x with
  | beg g => replace h : beganS s g = some t := h; unfold beganS at h; split at h <;> cases h; rfl
  | ety x =>
    replace h : (if s.begun = true then grownS s x else none) = some t := h
    split at h
    · unfold grownS at h; split at h <;> cases h; rfl
    · cases h
  | rdy => replace h : doneS s = some t := h; unfold doneS at h; split at h <;> cases h; rfl
  | vot a b => replace h : votedS s a b = some t := h; unfold votedS at h; split at h <;> cases h; rfl
  | cut n => replace h : shorterS s n = some t := h; unfold shorterS at h; split at h <;> cases h; rfl
theorem takeS_size {s t : Sg} {p : List UInt8} (h : takeS s p = some t) : t.size = s.size := by
  unfold takeS at h
  cases hp : parseR p with
  | none => rw [hp] at h; cases h
  | some x => rw [hp] at h; exact stepS_size h
end Go.Proofs.YtgpgcnmnfnnkjaaDoor
end

section
namespace Go.Proofs.YtgpgcnmnfnnkjaaDoor
open Go Go.RowKit
namespace Frm

theorem one_none {p : List UInt8} (h : none' p = true) : one p = [] := by unfold one; rw [h]; rfl
theorem none_iff (p : List UInt8) : none' p = false ↔ 1 ≤ p.length ∧ p.length ≤ 131072 := by
  unfold none'
  by_cases h1 : p.length < 1
  · rw [decide_eq_true h1]; simp; omega
  · rw [decide_eq_false h1]
    by_cases h2 : 131072 < p.length
    · rw [decide_eq_true h2]; simp; omega
    · rw [decide_eq_false h2]; simp; omega
theorem one_some {p : List UInt8} (h : none' p = false) : one p = Crc.seal' (head p ++ p) := by
  unfold one Crc.seal'; rw [h]; rfl
theorem head_length (p : List UInt8) : (head p).length = 4 := rfl
theorem one_length {p : List UInt8} (h : none' p = false) : (one p).length = p.length + 8 := by
  rw [one_some h, Crc.seal_length, List.length_append, head_length]; omega
theorem one_shape {p : List UInt8} (h : none' p = false) : one p = head p ++ (p ++ Crc.le4 (Crc.on 0#32 (head p ++ p))) := by
  rw [one_some h]; unfold Crc.seal'; rw [List.append_assoc]
theorem num_head (p : List UInt8) (hp : p.length ≤ 131072) (r : List UInt8) : len (head p ++ r) = p.length := by
  unfold len head
  rw [num_append (by rw [Crc.le4_length]; omega), Crc.num_le4, BitVec.toNat_ofNat, Nat.mod_eq_of_lt (by omega)]

/-- a frame that is whole -/
theorem whole {p : List UInt8} (h : none' p = false) (r : List UInt8) : err (one p ++ r) = 0 ∧ len (one p ++ r) = p.length ∧ pay (one p ++ r) = p ∧ (one p ++ r).drop (p.length + 8) = r := by
  obtain ⟨h1, h2⟩ := (none_iff p).1 h
  have hs := one_shape h
  have hol := one_length h
  have hlen : len (one p ++ r) = p.length := by rw [hs, List.append_assoc]; exact num_head p h2 _
  have hle := Crc.le4_length (Crc.on 0#32 (head p ++ p))
  refine ⟨?_, hlen, ?_, ?_⟩
  · unfold err
    have ht : (one p ++ r).length = p.length + 8 + r.length := by rw [List.length_append, hol]
    rw [if_neg (by omega), if_neg (by omega), if_neg (by omega), hlen]
    have e1 : (one p ++ r).take (4 + p.length) = head p ++ p := by
      rw [hs, ← List.append_assoc, List.append_assoc]
      rw [List.take_left' (by rw [List.length_append, head_length])]
    have e2 : (one p ++ r).drop (4 + p.length) = Crc.le4 (Crc.on 0#32 (head p ++ p)) ++ r := by
      rw [hs, ← List.append_assoc, List.append_assoc]
      rw [List.drop_left' (by rw [List.length_append, head_length])]
    rw [e1, e2, num_append (by rw [hle]; omega), Crc.num_le4, if_pos rfl]
  · unfold pay
    rw [hlen, hs]
    have e2 : (head p ++ (p ++ Crc.le4 (Crc.on 0#32 (head p ++ p))) ++ r).drop 4 = p ++ (Crc.le4 (Crc.on 0#32 (head p ++ p)) ++ r) := by
      rw [List.append_assoc, List.drop_left' (head_length p), List.append_assoc]
    rw [e2, List.take_left' rfl]
  · rw [List.drop_left' hol]
theorem all_whole {p : List UInt8} (h : none' p = false) (r : List UInt8) : all (one p ++ r) = (p :: (all r).1, p.length + 8 + (all r).2) := by
  obtain ⟨h1, h2, h3, h4⟩ := whole h r
  rw [all_ok h1, h2, h3, h4]
theorem all_nil : all [] = ([], 0) := by decide

/-- a frame cut off -/
theorem cut {p : List UInt8} (h : none' p = false) (k : Nat) (hk : k < p.length + 8) : err ((one p).take k) ≠ 0 := by
  obtain ⟨h1, h2⟩ := (none_iff p).1 h
  have hol := one_length h
  have hl : ((one p).take k).length = k := by rw [List.length_take]; omega
  unfold err
  by_cases h4 : k < 4
  · rw [if_pos (by omega)]; omega
  · have hlen : len ((one p).take k) = p.length := by
      have : len ((one p).take k) = len (one p) := by unfold len; rw [num_take (by omega) (by omega)]
      rw [this, one_shape h]; exact num_head p h2 _
    rw [if_neg (by omega), if_neg (by omega), if_pos (by omega)]; omega

/-- what stands ahead of the bits that are turned stays; behind it they are turned likewise -/
theorem turned_drop {l l' : List UInt8} {a burst k : Nat} (h : Crc.Turned l a burst k l') (n : Nat) (hn : 8 * n ≤ a) (hl : n ≤ l.length) : l'.take n = l.take n ∧ Crc.Turned (l.drop n) (a - 8 * n) burst k (l'.drop n) := by
  have hb : ∀ i, i < 8 * l.length → i < a → Crc.bitAt l' i = Crc.bitAt l i := fun i hi hia => by
    rw [h.bit i hi]
    have : decide (a ≤ i) = false := by simp; omega
    rw [this]; simp
  have hbyte : ∀ i, i < l.length → 8 * i + 8 ≤ a → l'.getD i 0 = l.getD i 0 := fun i hi hia => by
    apply UInt8.toNat_inj.1
    apply Nat.eq_of_testBit_eq
    intro j
    by_cases hj : j < 8
    · have := hb (8 * i + j) (by omega) (by omega)
      unfold Crc.bitAt at this
      rw [show (8 * i + j) / 8 = i from by omega, show (8 * i + j) % 8 = j from by omega] at this
      exact this
    · rw [Nat.testBit_lt_two_pow (Nat.lt_of_lt_of_le (UInt8.toNat_lt _) (Nat.pow_le_pow_right (by omega) (by omega : 8 ≤ j))),
        Nat.testBit_lt_two_pow (Nat.lt_of_lt_of_le (UInt8.toNat_lt _) (Nat.pow_le_pow_right (by omega) (by omega : 8 ≤ j)))]
  refine ⟨?_, ⟨by rw [List.length_drop, List.length_drop, h.len], fun i hi => ?_⟩⟩
  · apply List.ext_getElem
    · rw [List.length_take, List.length_take, h.len]
    · intro i h1 h2
      rw [List.length_take] at h1 h2
      rw [List.getElem_take, List.getElem_take]
      have := hbyte i (by omega) (by omega)
      rw [List.getD_eq_getElem?_getD, List.getD_eq_getElem?_getD, List.getElem?_eq_getElem (by omega), List.getElem?_eq_getElem (by omega)] at this
      exact this
  · rw [List.length_drop] at hi
    have e : ∀ m : List UInt8, Crc.bitAt (m.drop n) i = Crc.bitAt m (8 * n + i) := fun m => by
      unfold Crc.bitAt
      rw [show (8 * n + i) / 8 = n + i / 8 from by omega, show (8 * n + i) % 8 = i % 8 from by omega]
      simp only [List.getD_eq_getElem?_getD, List.getElem?_drop]
    rw [e, e, h.bit (8 * n + i) (by omega)]
    congr 1
    have e1 : decide (a ≤ 8 * n + i) = decide (a - 8 * n ≤ i) := by congr 1; apply propext; omega
    have e2 : decide (8 * n + i < a + k) = decide (i < a - 8 * n + k) := by congr 1; apply propext; omega
    have e3 : 8 * n + i - a = i - (a - 8 * n) := by omega
    rw [e1, e2, e3]

/-- a frame with bits turned behind its first four bytes -/
theorem err_turned {q q' : List UInt8} (h : none' q = false) {a burst : Nat} (ha : 32 ≤ a) (ht : Crc.Turned (one q) a burst 32 q') :
    (err q' = 0 ↔ Crc.tur a burst (8 * (q.length + 8)) 32 = false) ∧ len q' = q.length ∧ q'.length = q.length + 8 := by
  obtain ⟨h1, h2⟩ := (none_iff q).1 h
  have hol := one_length h
  have hlq : q'.length = q.length + 8 := by rw [ht.len, hol]
  have h4 := (turned_drop ht 4 (by omega) (by omega)).1
  have hlen : len q' = q.length := by
    have e1 : len q' = len (q'.take 4) := by unfold len; rw [num_take (by omega) (by omega)]
    have e2 : len ((one q).take 4) = len (one q) := by unfold len; rw [num_take (by omega) (by omega)]
    rw [e1, h4, e2, one_shape h]; exact num_head q h2 _
  refine ⟨?_, hlen, hlq⟩
  have ho := Crc.opens_turned (p := head q ++ q) (by rw [← one_some h]; exact ht)
  rw [show (head q ++ q).length + 4 = q.length + 8 from by rw [List.length_append, head_length]; omega] at ho
  have hop : Crc.opens q' = decide (Crc.on 0#32 (q'.take (4 + q.length)) = Crc.num (q'.drop (4 + q.length))) := by
    unfold Crc.opens Crc.cut Crc.tail
    rw [decide_eq_true (by omega : 4 ≤ q'.length), show q'.length - 4 = 4 + q.length from by omega]; simp
  unfold err
  rw [if_neg (by omega), if_neg (by omega), if_neg (by omega), hlen]
  rw [hop] at ho
  by_cases hc : Crc.on 0#32 (q'.take (4 + q.length)) = Crc.num (q'.drop (4 + q.length))
  · rw [if_pos hc]; rw [decide_eq_true hc] at ho
    cases ht' : Crc.tur a burst (8 * (q.length + 8)) 32
    · simp
    · rw [ht'] at ho; simp at ho
  · rw [if_neg hc]; rw [decide_eq_false hc] at ho
    cases ht' : Crc.tur a burst (8 * (q.length + 8)) 32
    · rw [ht'] at ho; simp at ho
    · simp

/-- what is found in a frame, and another one behind it that is turned -/
theorem all_turned {p q l' : List UInt8} (h : none' q = false) {a burst : Nat} (ha : 8 * ((one p).length + 4) ≤ a) (ht : Crc.Turned (one p ++ one q) a burst 32 l') :
    if Crc.tur a burst (8 * ((one p).length + (q.length + 8))) 32 then all l' = (if none' p then [] else [p], (one p).length) else (all l').2 = (one p).length + (q.length + 8) := by
  have hol := one_length h
  obtain ⟨h1, h2⟩ := turned_drop ht (one p).length (by omega) (by rw [List.length_append]; omega)
  rw [List.take_left' rfl] at h1
  rw [List.drop_left' rfl] at h2
  obtain ⟨e1, e2, e3⟩ := err_turned h (by omega) h2
  have hsplit : l' = one p ++ l'.drop (one p).length := by conv => lhs; rw [← List.take_append_drop (one p).length l', h1]
  have htur : Crc.tur a burst (8 * ((one p).length + (q.length + 8))) 32 = Crc.tur (a - 8 * (one p).length) burst (8 * (q.length + 8)) 32 := by
    unfold Crc.tur
    congr 1; funext j
    congr 1
    congr 1; apply propext; omega
  rw [htur]
  generalize l'.drop (one p).length = q' at *
  subst hsplit
  have hap : all (one p ++ q') = ((if none' p then [] else [p]) ++ (all q').1, (one p).length + (all q').2) := by
    cases hp : none' p
    · rw [all_whole hp, one_length hp]; simp
    · rw [one_none hp]; simp
  cases htr : Crc.tur (a - 8 * (one p).length) burst (8 * (q.length + 8)) 32
  · rw [if_neg (by simp)]
    have hz := e1.2 htr
    rw [hap, all_ok hz, e2]
    have : q'.drop (q.length + 8) = [] := List.drop_of_length_le (by omega)
    rw [this, all_nil]; omega
  · rw [if_pos rfl]
    have hz : err q' ≠ 0 := fun h => by have := e1.1 h; rw [htr] at this; cases this
    rw [hap, all_bad hz]; simp

end Frm
end Go.Proofs.YtgpgcnmnfnnkjaaDoor
end

section
namespace Go.Proofs.YtgpgcnmnfnnkjaaDoor
open Go Go.RowKit
namespace Frm

def cat (K : List (List UInt8)) : List UInt8 := K.flatMap one
def good (K : List (List UInt8)) : Prop := ∀ p ∈ K, none' p = false
theorem cat_snoc (K : List (List UInt8)) (p : List UInt8) : cat (K ++ [p]) = cat K ++ one p := by unfold cat; simp
theorem good_snoc {K : List (List UInt8)} {p : List UInt8} (h : good K) (hp : none' p = false) : good (K ++ [p]) := by
  intro q hq
  rcases List.mem_append.1 hq with h1 | h1
  · exact h q h1
  · simp at h1; subst h1; exact hp

/-- where the frames end -/
def endsOf (K : List (List UInt8)) : List Nat := (List.range K.length).map fun j => (cat (K.take (j + 1))).length
theorem endsOf_length (K : List (List UInt8)) : (endsOf K).length = K.length := by simp [endsOf]
theorem endsOf_get (K : List (List UInt8)) (j : Nat) (hj : j < (endsOf K).length) : (endsOf K)[j] = (cat (K.take (j + 1))).length := by simp [endsOf]
theorem endsOf_snoc (K : List (List UInt8)) (p : List UInt8) : endsOf (K ++ [p]) = endsOf K ++ [(cat K).length + (one p).length] := by
  unfold endsOf
  rw [List.length_append, List.length_singleton, List.range_succ, List.map_append]
  congr 1
  · apply List.map_congr_left
    intro j hj
    rw [List.take_append_of_le_length (by have := List.mem_range.1 hj; omega)]
  · simp only [List.map_cons, List.map_nil]
    rw [List.take_of_length_le (by simp), cat_snoc, List.length_append]
theorem cat_take_le (K : List (List UInt8)) (n : Nat) : (cat (K.take n)).length ≤ (cat K).length := by
  have : cat K = cat (K.take n) ++ cat (K.drop n) := by unfold cat; rw [← List.flatMap_append, List.take_append_drop]
  rw [this, List.length_append]; omega

theorem all_cut {K : List (List UInt8)} (h : good K) (k n : Nat) (hn : n ≤ K.length) (h1 : (cat (K.take n)).length ≤ k) (h2 : n < K.length → k < (cat (K.take (n + 1))).length) :
    all ((cat K).take k) = (K.take n, (cat (K.take n)).length) := by
  induction K generalizing k n with
  | nil => simp only [cat, List.flatMap_nil, List.take_nil]; exact all_nil
  | cons p K ih =>
    have hp := h p (by simp)
    have hol := one_length hp
    have hc : cat (p :: K) = one p ++ cat K := rfl
    have hK : good K := fun q hq => h q (by simp [hq])
    cases n with
    | zero =>
      have hk : k < p.length + 8 := by
        have := h2 (by simp)
        have e : cat (List.take (0 + 1) (p :: K)) = one p := by unfold cat; simp
        rw [e, hol] at this; exact this
      rw [hc, List.take_append_of_le_length (by omega)]
      rw [all_bad (cut hp k hk)]; rfl
    | succ n =>
      have e1 : ∀ m, cat ((p :: K).take (m + 1)) = one p ++ cat (K.take m) := fun m => rfl
      rw [e1, List.length_append] at h1
      rw [e1, List.length_append] at h2
      have := ih hK (k - (one p).length) n (by simpa using hn) (by omega) (fun hh => by have := h2 (by simpa using hh); omega)
      rw [hc, List.take_append, List.take_of_length_le (by omega), all_whole hp, this, e1, List.length_append, hol]
      rfl
end Frm
end Go.Proofs.YtgpgcnmnfnnkjaaDoor
end
