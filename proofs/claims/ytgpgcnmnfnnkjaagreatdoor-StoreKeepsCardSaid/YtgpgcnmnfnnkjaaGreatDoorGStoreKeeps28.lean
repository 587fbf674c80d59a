/- Segments' names and numbers, plain: each is told by the other. Which segment counts, plain. Walks of package wal: a Wal in memory; Hard, same. -/
import Derived.Test.YtgpgcnmnfnnkjaaGreatDoorGStoreKeeps27
import Derived.Test.YtgpgcnmnfnnkjaaGreatDoorGStoreKeeps12
import Derived.Test.YtgpgcnmnfnnkjaaGreatDoorGStoreKeeps20
import Derived.Test.YtgpgcnmnfnnkjaaGreatDoorGStoreKeeps21
import Derived.Test.YtgpgcnmnfnnkjaaGreatDoorGStoreKeeps22
set_option linter.unusedVariables false
set_option linter.unusedSimpArgs false
section
namespace Go.Proofs.YtgpgcnmnfnnkjaaGreatDoor
open Go Go.RowKit Go.PlainAid
theorem valW_snoc (l : List UInt8) (c : UInt8) (n : Nat) : valW (l ++ [c]) n = 10 * valW l n + (c.toNat - 48) := by unfold valW; rw [List.foldl_append]; rfl
theorem digsW_val : ∀ (l : List UInt8) (n : Nat), (∀ c ∈ l, digB c = true) → digsW l n = valW l n
 | [], _, _ => rfl
 | c :: r, n, h => by
  rw [digsW, if_pos (h c (by simp)), digsW_val r _ fun x hx => h x (by simp [hx])]; rfl
theorem digsW_zero : ∀ (l : List UInt8) (n : Nat), (∃ c ∈ l, digB c = false) → digsW l n = 0
 | [], _, h => by obtain ⟨c, hc, _⟩ := h; cases hc
 | c :: r, n, h => by
  rw [digsW]; split
  · rename_i hc
    refine digsW_zero r _ ?_
    obtain ⟨x, hx, h2⟩ := h
    rcases List.mem_cons.1 hx with rfl | hx
    · rw [hc] at h2; cases h2
    · exact ⟨x, hx, h2⟩
  · rfl
theorem ofNat_digW {d : Nat} (h : d < 10) : (UInt8.ofNat (48 + d)).toNat = 48 + d := by simp; omega
theorem head_appW {a b : List UInt8} (h : a ≠ []) : (a ++ b).head? = a.head? := by
 cases a with
 | nil => exact absurd rfl h
 | cons x r => rfl
theorem decW_val (q : Nat) : valW (Lib.decDigits q) 0 = q := by
 induction q using Nat.strongRecOn with
 | _ q ih =>
  rw [Lib.decDigits]
  split
  · unfold valW; simp; omega
  · rw [valW_snoc, ih (q / 10) (by omega), ofNat_digW (by omega)]; omega
theorem decW_all (q : Nat) : ∀ x ∈ Lib.decDigits q, digB x = true := by
 induction q using Nat.strongRecOn with
 | _ q ih =>
  rw [Lib.decDigits]
  split
  · intro x hx
    simp only [List.mem_singleton] at hx
    subst hx
    rw [digB_iff, ofNat_digW (by omega)]; omega
  · intro x hx
    rcases List.mem_append.1 hx with hx | hx
    · exact ih (q / 10) (by omega) x hx
    · simp only [List.mem_singleton] at hx
      subst hx
      rw [digB_iff, ofNat_digW (by omega)]; omega
theorem decW_pos (q : Nat) : 0 < (Lib.decDigits q).length := by rw [Lib.decDigits]; split <;> simp
theorem decW_head (q : Nat) : 0 < q → (Lib.decDigits q).head? ≠ some 48 := by
 induction q using Nat.strongRecOn with
 | _ q ih =>
  intro hq
  rw [Lib.decDigits]
  split
  · rename_i h
    intro e
    simp only [List.head?_cons, Option.some.injEq] at e
    have := ofNat_digW h
    rw [e] at this
    have : (48 : UInt8).toNat = 48 := rfl
    omega
  · have hp := decW_pos (q / 10)
    rw [head_appW (by intro e; rw [e] at hp; simp at hp)]
    exact ih (q / 10) (by omega) (by omega)
theorem valW_zero : ∀ (l : List UInt8) (n : Nat), (∀ x ∈ l, digB x = true) → valW l n = 0 → n = 0 ∧ ∀ x ∈ l, x = 48
 | [], n, _, h => ⟨h, fun x hx => by cases hx⟩
 | c :: r, n, hd, h => by
  obtain ⟨h1, h2⟩ := valW_zero r (10 * n + (c.toNat - 48)) (fun x hx => hd x (by simp [hx])) h
  have hc := (digB_iff c).1 (hd c (by simp))
  refine ⟨by omega, fun x hx => ?_⟩
  rcases List.mem_cons.1 hx with rfl | hx
  · have : x.toNat = 48 := by omega
    exact UInt8.toNat_inj.1 (by rw [this]; rfl)
  · exact h2 x hx
theorem decW_of (d : List UInt8) (h : ∀ x ∈ d, digB x = true) (hp : 0 < d.length) (hh : d.head? ≠ some 48) : Lib.decDigits (valW d 0) = d := by
 obtain ⟨n, hn⟩ : ∃ n, d.length = n := ⟨_, rfl⟩
 induction n generalizing d with
 | zero => omega
 | succ n ih =>
  rcases List.eq_nil_or_concat d with e | ⟨d', c, e⟩
  · subst e; simp at hp
  · rw [List.concat_eq_append] at e
    subst e
    have hc := (digB_iff c).1 (h c (by simp))
    have ec : UInt8.ofNat (48 + (c.toNat - 48)) = c := by rw [show 48 + (c.toNat - 48) = c.toNat from by omega]; simp
    by_cases hd : d' = []
    · subst hd
      have e1 : valW ([] ++ [c]) 0 = c.toNat - 48 := by unfold valW; simp
      rw [e1, Lib.decDigits, dif_pos (by omega), ec]; rfl
    · have hl : 0 < d'.length := List.length_pos_iff.2 hd
      rw [head_appW hd] at hh
      have ih' := ih d' (fun x hx => h x (by simp [hx])) hl hh (by simp at hn; omega)
      have hpos : valW d' 0 ≠ 0 := by
       intro h0
       obtain ⟨_, hz⟩ := valW_zero d' 0 (fun x hx => h x (by simp [hx])) h0
       match d', hd with
       | x :: r, _ => exact hh (by rw [hz x (by simp)]; rfl)
      rw [valW_snoc, Lib.decDigits, dif_neg (by omega), show (10 * valW d' 0 + (c.toNat - 48)) / 10 = valW d' 0 from by omega, show (10 * valW d' 0 + (c.toNat - 48)) % 10 = c.toNat - 48 from by omega, ih', ec]
theorem decW_inj {a b : Nat} (h : Lib.decDigits a = Lib.decDigits b) : a = b := by rw [← decW_val a, ← decW_val b, h]
def okN (n : Nat) : Prop := 0 < n ∧ n ≤ 99999999999999
theorem nameW_bytes (n : Nat) : bytesOf (nameW n) = hdW ++ Lib.decDigits n := by unfold bytesOf nameW; simp
theorem nameW_inj {a b : Nat} (h : nameW a = nameW b) : a = b := by
 have e : bytesOf (nameW a) = bytesOf (nameW b) := by rw [h]
 rw [nameW_bytes, nameW_bytes] at e
 exact decW_inj (List.append_cancel_left e)
theorem nameW_ne {a b : Nat} (h : a ≠ b) : nameW a ≠ nameW b := fun e => h (nameW_inj e)
theorem bytes_size (s : ByteArray) : (bytesOf s).length = s.size := by simp [bytesOf]
theorem dec_few {n : Nat} (h : n ≤ 99999999999999) : (Lib.decDigits n).length ≤ 14 := digits_le 13 n (by have : (10 : Nat) ^ 14 = 100000000000000 := by decide
                                                                                                         omega)
theorem numW_name {n : Nat} (h : okN n) : numW (nameW n) = n := by
 have hb := nameW_bytes n
 have hs : (nameW n).size = 4 + (Lib.decDigits n).length := by rw [← bytes_size, hb, List.length_append]; rfl
 have hp := decW_pos n
 have hf := dec_few h.2
 unfold numW
 have h1 : (bytesOf (nameW n)).take 4 = hdW := by rw [hb]; rfl
 have h2 : (bytesOf (nameW n)).drop 4 = Lib.decDigits n := by rw [hb]; rfl
 have h3 : (bytesOf (nameW n))[4]? = (Lib.decDigits n).head? := by rw [← List.head?_drop, h2]
 rw [if_neg, h2, digsW_val _ _ (decW_all n), decW_val]
 rintro (q | q | q | q)
 · omega
 · exact q h1
 · omega
 · rw [h3] at q; exact decW_head n h.1 q
theorem name_num {s : ByteArray} (h : numW s ≠ 0) : okN (numW s) ∧ s = nameW (numW s) := by
 refine ⟨⟨by omega, by have := numW_lt s; omega⟩, ?_⟩
 unfold numW at h ⊢
 split at h
 · exact absurd rfl h
 · rename_i hc
   rw [if_neg hc]
   have c1 : 4 < s.size := by
    rcases Nat.lt_or_ge 4 s.size with h1 | h1
    · exact h1
    · exact absurd (.inl h1) hc
   have c2 : (bytesOf s).take 4 = hdW := by
    by_cases h1 : (bytesOf s).take 4 = hdW
    · exact h1
    · exact absurd (.inr (.inl h1)) hc
   have c3 : (bytesOf s)[4]? ≠ some 48 := fun h1 => hc (.inr (.inr (.inr h1)))
   have hall : ∀ x ∈ (bytesOf s).drop 4, digB x = true := fun x hx => by
    cases hd : digB x with
    | true => rfl
    | false => exact absurd (digsW_zero _ _ ⟨x, hx, hd⟩) h
   have hlen : ((bytesOf s).drop 4).length = s.size - 4 := by rw [List.length_drop, bytes_size]
   have hhd : ((bytesOf s).drop 4).head? ≠ some 48 := by rw [List.head?_drop]; exact c3
   rw [digsW_val _ _ hall]
   have e := decW_of _ hall (by omega) hhd
   have e2 : bytesOf s = hdW ++ Lib.decDigits (valW ((bytesOf s).drop 4) 0) := by rw [e, ← c2, List.take_append_drop]
   rw [← ofBytes_of s]
   conv => lhs; rw [e2]
   rfl
theorem allB_of {s : ByteArray} (h : ∀ x ∈ bytesOf s, 33 ≤ x.toNat ∧ x.toNat ≤ 126) : ∀ n k, k + n ≤ s.size → allB s n k = true
 | 0, _, _ => rfl
 | n + 1, k, hk => by
  rw [allB, allB_of h n (k + 1) (by omega), Bool.and_true]
  have hlt : k < s.size := by omega
  have hm : s[k]'hlt ∈ bytesOf s := by
   unfold bytesOf
   rw [Array.mem_toList_iff]
   exact Array.getElem_mem (xs := s.data) hlt
  have := h _ hm
  have e : bt s k = ((s[k]'hlt).toNat : Int) := by unfold bt; rw [dif_pos hlt]
  unfold okB
  rw [e, decide_eq_true (by omega), decide_eq_true (by omega)]; rfl
theorem namedD_all {s : ByteArray} (h : ∀ x ∈ bytesOf s, 33 ≤ x.toNat ∧ x.toNat ≤ 126) (h1 : 1 ≤ s.size) (h2 : s.size ≤ 24) : namedD s = true := by
 unfold namedD
 rw [decide_eq_true h1, decide_eq_true h2, allB_of h _ 0 (by omega)]; rfl
theorem namedD_name {n : Nat} (h : n ≤ 99999999999999) : namedD (nameW n) = true := by
 have hb := nameW_bytes n
 have hs : (nameW n).size = 4 + (Lib.decDigits n).length := by rw [← bytes_size, hb, List.length_append]; rfl
 have hf := dec_few h
 have hall : ∀ x ∈ bytesOf (nameW n), 33 ≤ x.toNat ∧ x.toNat ≤ 126 := fun x hx => by
  rw [hb] at hx
  rcases List.mem_append.1 hx with hx | hx
  · simp only [hdW, List.mem_cons, List.not_mem_nil, or_false] at hx
    rcases hx with rfl | rfl | rfl | rfl <;> decide
  · have := (digB_iff x).1 (decW_all n x hx); omega
 exact namedD_all hall (by omega) (by omega)
end Go.Proofs.YtgpgcnmnfnnkjaaGreatDoor
end

section
namespace Go.Proofs.YtgpgcnmnfnnkjaaGreatDoor
open Go Go.RowKit Go.PlainAid
theorem insW_mem (out : List Nat) (n x : Nat) : x ∈ insW out n ↔ x = n ∨ x ∈ out := by
 unfold insW
 constructor
 · intro h
   rcases List.mem_append.1 h with h | h
   · exact .inr (List.mem_of_mem_take h)
   · rcases List.mem_cons.1 h with h | h
     · exact .inl h
     · exact .inr (List.mem_of_mem_drop h)
 · intro h
   rcases h with rfl | h
   · simp
   · rw [← List.take_append_drop (posR out n out.length) out] at h
     rcases List.mem_append.1 h with h | h
     · exact List.mem_append.2 (.inl h)
     · exact List.mem_append.2 (.inr (List.mem_cons_of_mem _ h))
theorem segs_mem : ∀ (l : List ByteArray) (out : List Nat) (n : Nat), n ∈ l.foldl segStep out ↔ n ∈ out ∨ (n ≠ 0 ∧ ∃ s ∈ l, numW s = n)
 | [], out, n => by simp
 | s :: l, out, n => by
  rw [List.foldl_cons, segs_mem l]
  unfold segStep
  constructor
  · rintro (h | ⟨h0, t, ht, hn⟩)
    · split at h
      · exact .inl h
      · rename_i hz
        rcases (insW_mem _ _ _).1 h with rfl | h
        · exact .inr ⟨hz, s, by simp, rfl⟩
        · exact .inl h
    · exact .inr ⟨h0, t, by simp [ht], hn⟩
  · rintro (h | ⟨h0, t, ht, hn⟩)
    · split
      · exact .inl h
      · exact .inl ((insW_mem _ _ _).2 (.inr h))
    · rcases List.mem_cons.1 ht with rfl | ht
      · rw [if_neg (by rw [hn]; exact h0)]
        exact .inl ((insW_mem _ _ _).2 (.inl hn.symm))
      · exact .inr ⟨h0, t, ht, hn⟩
theorem posR_spec (out : List Nat) (n : Nat) : ∀ k, (∀ i, posR out n k ≤ i → i < k → n < out.getD i 0) ∧ (0 < posR out n k → out.getD (posR out n k - 1) 0 ≤ n)
 | 0 => ⟨fun i h1 h2 => by omega, fun h => by simp [posR] at h⟩
 | k + 1 => by
  obtain ⟨h1, h2⟩ := posR_spec out n k
  rw [posR]
  split
  · rename_i hc
    refine ⟨fun i i1 i2 => ?_, h2⟩
    by_cases e : i = k
    · subst e; exact hc
    · exact h1 i i1 (by omega)
  · rename_i hc
    exact ⟨fun i i1 i2 => by omega, fun _ => by rw [Nat.add_sub_cancel]; omega⟩
def RiseN (l : List Nat) : Prop := l.Pairwise (· ≤ ·)
theorem getD_at {l : List Nat} {i : Nat} (h : i < l.length) : l.getD i 0 = l[i] := by rw [List.getD_eq_getElem?_getD, List.getElem?_eq_getElem h]; rfl
theorem insW_rise {out : List Nat} (h : RiseN out) (n : Nat) : RiseN (insW out n) := by
 obtain ⟨h1, h2⟩ := posR_spec out n out.length
 have hle := posR_le out n out.length
 unfold insW RiseN at *
 generalize posR out n out.length = p at *
 have hp := h
 rw [List.pairwise_iff_getElem] at hp
 rw [List.pairwise_append]
 have hlo : ∀ a ∈ out.take p, a ≤ n := fun a ha => by
  obtain ⟨i, hi, rfl⟩ := List.getElem_of_mem ha
  rw [List.length_take] at hi
  rw [List.getElem_take]
  have h3 := h2 (by omega)
  rw [getD_at (by omega)] at h3
  by_cases e : i = p - 1
  · subst e; exact h3
  · exact Nat.le_trans (hp i (p - 1) (by omega) (by omega) (by omega)) h3
 have hhi : ∀ b ∈ out.drop p, n ≤ b := fun b hb => by
  obtain ⟨i, hi, rfl⟩ := List.getElem_of_mem hb
  rw [List.length_drop] at hi
  rw [List.getElem_drop]
  have := h1 (p + i) (by omega) (by omega)
  rw [getD_at (by omega)] at this
  omega
 refine ⟨h.sublist (List.take_sublist _ _), List.pairwise_cons.2 ⟨hhi, h.sublist (List.drop_sublist _ _)⟩, fun a ha b hb => ?_⟩
 rcases List.mem_cons.1 hb with rfl | hb
 · exact hlo a ha
 · exact Nat.le_trans (hlo a ha) (hhi b hb)
theorem segs_rise : ∀ (l : List ByteArray) (out : List Nat), RiseN out → RiseN (l.foldl segStep out)
 | [], out, h => h
 | s :: l, out, h => by
  rw [List.foldl_cons]
  refine segs_rise l _ ?_
  unfold segStep
  split
  · exact h
  · exact insW_rise h _
def segsD (d : Dk) : List Nat := segsW (d.fs.map (·.name))
theorem get_mem {l : List Fil} {s : ByteArray} : getF l s ≠ none ↔ ∃ f ∈ l, f.name = s := by
 constructor
 · intro h
   cases hf : getF l s with
   | none => exact absurd hf h
   | some f =>
    obtain ⟨j, hj, _, e, en⟩ := get_at hf
    exact ⟨f, e ▸ List.getElem_mem hj, en⟩
 · rintro ⟨f, hf, rfl⟩ h
   exact get_none h f hf rfl
theorem segs_iff (d : Dk) (n : Nat) : n ∈ segsD d ↔ okN n ∧ getF d.fs (nameW n) ≠ none := by
 unfold segsD segsW
 rw [segs_mem, get_mem]
 constructor
 · rintro (h | ⟨h0, s, hs, hn⟩)
   · cases h
   · obtain ⟨f, hf, rfl⟩ := List.mem_map.1 hs
     have hz : numW f.name ≠ 0 := by rw [hn]; exact h0
     obtain ⟨h1, h2⟩ := name_num hz
     rw [hn] at h1 h2
     exact ⟨h1, f, hf, h2⟩
 · rintro ⟨h1, f, hf, e⟩
   exact .inr ⟨by have := h1.1; omega, f.name, List.mem_map.2 ⟨f, hf, rfl⟩, by rw [e]; exact numW_name h1⟩
theorem fileW_get (d : Dk) (n : Nat) : fileW d n = ((getF d.fs (nameW n)).map (·.data)).getD [] := by unfold fileW; rw [read_getF]
theorem fileW_some {d : Dk} {n : Nat} {f : Fil} (h : getF d.fs (nameW n) = some f) : fileW d n = f.data := by rw [fileW_get, h]; rfl
theorem pickW_spec (d : Dk) (n : Nat) : ∀ (l : List Nat), n ∈ l → (l.Pairwise fun a b => b ≤ a) → (readSeg (fileW d n)).whole = true → (∀ k ∈ l, n < k → (readSeg (fileW d k)).whole = false) → pickW d l = some (n, readSeg (fileW d n))
 | [], h, _, _, _ => by cases h
 | k :: r, h, hs, hw, hno => by
  rw [show pickW d (k :: r) = if (readSeg (fileW d k)).whole then some (k, readSeg (fileW d k)) else pickW d r from rfl]
  rw [List.pairwise_cons] at hs
  by_cases e : k = n
  · subst e; rw [if_pos hw]
  · have hr : n ∈ r := by
     rcases List.mem_cons.1 h with h | h
     · exact absurd h.symm e
     · exact h
    have hlt := hs.1 n hr
    rw [if_neg (by rw [hno k (by simp) (by omega)]; decide)]
    exact pickW_spec d n r hr hs.2 hw fun x hx => hno x (by simp [hx])
theorem pickN_spec {d : Dk} {n : Nat} (hn : okN n) {f : Fil} (hf : getF d.fs (nameW n) = some f) (hw : (readSeg f.data).whole = true) (hno : ∀ k, okN k → n < k → ∀ g, getF d.fs (nameW k) = some g → (readSeg g.data).whole = false) : pickN d = (n, readSeg f.data) := by
 have e := fileW_some hf
 have h1 : n ∈ (segsD d).reverse := List.mem_reverse.2 ((segs_iff d n).2 ⟨hn, by rw [hf]; simp⟩)
 have h2 : (segsD d).reverse.Pairwise fun a b => b ≤ a := List.pairwise_reverse.2 (segs_rise _ [] List.Pairwise.nil)
 have h3 := pickW_spec d n _ h1 h2 (by rw [e]; exact hw) fun k hk hlt => by
  obtain ⟨k1, k2⟩ := (segs_iff d k).1 (List.mem_reverse.1 hk)
  cases hg : getF d.fs (nameW k) with
  | none => exact absurd hg k2
  | some g => rw [fileW_some hg]; exact hno k k1 hlt g hg
 unfold pickN
 show (pickW d (segsD d).reverse).getD (0, sg0) = _
 rw [h3, e]; rfl
end Go.Proofs.YtgpgcnmnfnnkjaaGreatDoor
end

section
namespace Go.Proofs.YtgpgcnmnfnnkjaaGreatDoor
open Go Go.RowKit Go.PlainAid BigFrame
attribute [local go_sem] After.same
@[reducible] def walA (g : Nat) (ws : Wl) (v : Value) : Array Value := #[.pointer (some ⟨g, 0, none⟩), .int .i64 (ws.n : Int), .int .i64 ws.h.term, .int .i64 ws.h.vote, .int .i64 ws.h.base, .int .i64 ws.h.bterm, .int .i64 ws.h.members, .string ws.h.snap, v, .bool ws.down]
structure WalV (w : World) (X : Nat → Prop) (g gw : Nat) (v : Value) (ws : Wl) : Prop where
 blk : Blk w gw (walA g ws v) 100
 log : Rd etyE w v ws.h.log
 inX : X gw
 lX : ∀ k, v.ownBlock = some k → X k
 off : v.ownBlock ≠ some gw
 few : ws.h.log.length ≤ 200
 num : ws.n ≤ 99999999999999
section
variable {w0 w w' : World} {X Y : Nat → Prop} {g gw : Nat} {v : Value} {ws : Wl} {d d' : Dk}
theorem WalV.c0 (h : WalV w X g gw v ws) : w.cell? ⟨gw, 0, none⟩ = some (.pointer (some ⟨g, 0, none⟩)) := h.blk.cell 0 _ rfl
theorem WalV.c1 (h : WalV w X g gw v ws) : w.cell? ⟨gw, 1, none⟩ = some (.int .i64 (ws.n : Int)) := h.blk.cell 1 _ rfl
theorem WalV.c2 (h : WalV w X g gw v ws) : w.cell? ⟨gw, 2, none⟩ = some (.int .i64 ws.h.term) := h.blk.cell 2 _ rfl
theorem WalV.c3 (h : WalV w X g gw v ws) : w.cell? ⟨gw, 3, none⟩ = some (.int .i64 ws.h.vote) := h.blk.cell 3 _ rfl
theorem WalV.c4 (h : WalV w X g gw v ws) : w.cell? ⟨gw, 4, none⟩ = some (.int .i64 ws.h.base) := h.blk.cell 4 _ rfl
theorem WalV.c5 (h : WalV w X g gw v ws) : w.cell? ⟨gw, 5, none⟩ = some (.int .i64 ws.h.bterm) := h.blk.cell 5 _ rfl
theorem WalV.c6 (h : WalV w X g gw v ws) : w.cell? ⟨gw, 6, none⟩ = some (.int .i64 ws.h.members) := h.blk.cell 6 _ rfl
theorem WalV.c7 (h : WalV w X g gw v ws) : w.cell? ⟨gw, 7, none⟩ = some (.string ws.h.snap) := h.blk.cell 7 _ rfl
theorem WalV.c8 (h : WalV w X g gw v ws) : w.cell? ⟨gw, 8, none⟩ = some v := h.blk.cell 8 _ rfl
theorem WalV.c9 (h : WalV w X g gw v ws) : w.cell? ⟨gw, 9, none⟩ = some (.bool ws.down) := h.blk.cell 9 _ rfl
theorem WalV.chg {G : Nat → Prop} (h : WalV w X g gw v ws) (hc : Chg G w w') (hG : ∀ k, X k → ¬ G k) : WalV w' X g gw v ws :=
 ⟨hc.blk h.blk (hG _ h.inX), hc.cells h.log (fun k hk => hG k (h.lX k hk)), h.inX, h.lX, h.off, h.few, h.num⟩
theorem WalV.keep (h : WalV w X g gw v ws) (hc : Chg (Gx w0 X) w w') : WalV w' X g gw v ws := h.chg hc fun k hk hG => hG.2 hk
theorem WalV.ext (h : WalV w X g gw v ws) (hb : Below w.heap.size w w') : WalV w' X g gw v ws := h.chg (G := fun _ => False) (.of_below hb) fun _ _ => id
end

set_option maxRecDepth 8000 in
set_option maxHeartbeats 2000000 in
theorem walHard {w : World} {X : Nat → Prop} {g gw : Nat} {v : Value} {ws : Wl} (h : WalV w X g gw v ws) :
 Calls Tryz.prog 21 #[.pointer (some ⟨gw, 0, none⟩)] w fun e w' => ∃ v', e = .returned (hrdA (bareOf ws.h) v') ∧ OwnR etyE w' w.heap.size 73 v' ws.h.log ∧ Below w.heap.size w w' := by
 obtain ⟨p, cap, rfl⟩ := h.log.shape
 have hgw := h.blk.lt
 have ca := below_alloc w (.cells #[.int .i64 0, .int .i64 0, .int .i64 0, .int .i64 0, .int .i64 0, .string ⟨#[]⟩, .slice none 0 0] 24)
 have kz := Blk.new w #[.int .i64 0, .int .i64 0, .int .i64 0, .int .i64 0, .int .i64 0, .string ⟨#[]⟩, .slice none 0 0] 24
 have h2 := h.ext ca
 have hfew := h.few
 have q0 := h.c0
 have q1 := h.c1
 have q2 := h.c2
 have q3 := h.c3
 have q4 := h.c4
 have q5 := h.c5
 have q6 := h.c6
 have q7 := h.c7
 have q8 := h.c8
 have q9 := h.c9
 have hcall := walCopied ws.h (.slice p ws.h.log.length cap) (w.alloc (.cells #[.int .i64 0, .int .i64 0, .int .i64 0, .int .i64 0, .int .i64 0, .string ⟨#[]⟩, .slice none 0 0] 24)) h2.log (by omega)
 clear h2
 go_enter Tryz.func21, Tryz.ntmps21
 go_wp2_with fail
 refine hcall.mono ?_
 rintro e w3 ⟨v3, rfl, own3, b3⟩
 obtain ⟨p3, c3, rfl⟩ := own3.rd.shape
 have kz3 := kz.ext b3
 have b03 := ca.trans (b3.mono (by simp))
 have y0 := kz3.cell 0 _ rfl
 have z0 := kz3.frozen 0
 have y1 := kz3.cell 1 _ rfl
 have z1 := kz3.frozen 1
 have y2 := kz3.cell 2 _ rfl
 have z2 := kz3.frozen 2
 have y3 := kz3.cell 3 _ rfl
 have z3 := kz3.frozen 3
 have y4 := kz3.cell 4 _ rfl
 have z4 := kz3.frozen 4
 have y5 := kz3.cell 5 _ rfl
 have z5 := kz3.frozen 5
 have y6 := kz3.cell 6 _ rfl
 have z6 := kz3.frozen 6
 have hsz1 : (w.alloc (.cells #[.int .i64 0, .int .i64 0, .int .i64 0, .int .i64 0, .int .i64 0, .string ⟨#[]⟩, .slice none 0 0] 24)).heap.size = w.heap.size + 1 := by simp
 have hfar : ∀ k, (Value.slice p3 ws.h.log.length c3).ownBlock = some k → ¬ k = w.heap.size := fun k hk e => by have := (own3.lt k hk).1; omega
 have own4 := own3.base (show w.heap.size ≤ _ by omega)
 clear hcall kz kz3
 go_wp2_with fail
 have hc := ((((((((Chg.refl (fun k => k = w.heap.size) w3).setCell (p := ⟨w.heap.size, 0, none⟩) rfl (.int .i64 ws.h.term)).setCell (p := ⟨w.heap.size, 1, none⟩) rfl (.int .i64 ws.h.vote)).setCell (p := ⟨w.heap.size, 2, none⟩) rfl (.int .i64 ws.h.base)).setCell (p := ⟨w.heap.size, 3, none⟩) rfl (.int .i64 ws.h.bterm)).setCell (p := ⟨w.heap.size, 4, none⟩) rfl (.int .i64 ws.h.members)).setCell (p := ⟨w.heap.size, 5, none⟩) rfl (.string ⟨#[]⟩)).setCell (p := ⟨w.heap.size, 6, none⟩) rfl (.slice p3 ws.h.log.length c3))
 refine bodyPost_ret (v := hrdA (bareOf ws.h) (.slice p3 ws.h.log.length c3)) (by simp [results, Tryz.results21, go_sem, *]) rfl ?_
 exact ⟨_, rfl, hc.ownR own4 hfar, b03.trans (hc.below (B := w.heap.size) (fun k hk => by rw [hk]; exact Nat.le_refl _) b03.size)⟩

theorem sameW_iff (x h : Hrd) : sameW x h = true ↔ (h.term = x.term ∧ h.vote = x.vote ∧ h.base = x.base ∧ h.bterm = x.bterm ∧ h.members = x.members ∧ h.log.length = x.log.length ∧ commonE h.log x.log = h.log.length) := by
 unfold sameW; simp only [Bool.and_eq_true, decide_eq_true_eq, and_assoc]
theorem no_of {b : Bool} {P : Prop} (hi : b = true ↔ P) (h : ¬ P) : false = b := by
 cases b
 · rfl
 · exact absurd (hi.1 rfl) h
set_option maxRecDepth 8000 in
set_option maxHeartbeats 4000000 in
theorem walSame {w : World} {X : Nat → Prop} {g gw : Nat} {v : Value} {ws : Wl} (hw : WalV w X g gw v ws) (h : Hrd) (u : Value) (hu : Rd etyE w u h.log) :
 Calls Tryz.prog 70 #[.pointer (some ⟨gw, 0, none⟩), hrdA h u] w fun e w' => e = .returned (.bool (sameW ws.h h)) ∧ Below w.heap.size w w' := by
 obtain ⟨p, cap, rfl⟩ := hu.shape
 obtain ⟨q, caq, rfl⟩ := hw.log.shape
 have hgw := hw.blk.lt
 have hgw2 : gw < w.heap.size + 1 := by omega
 have q2 := hw.c2
 have q3 := hw.c3
 have q4 := hw.c4
 have q5 := hw.c5
 have q6 := hw.c6
 have q7 := hw.c7
 have q8 := hw.c8
 have bW : Below w.heap.size w ((w.alloc (.cells #[.int .i64 h.term, .int .i64 h.vote, .int .i64 h.base, .int .i64 h.bterm, .int .i64 h.members, .string h.snap, .slice p h.log.length cap] 24)).alloc (.cells #[.int .i64 ws.h.term, .int .i64 ws.h.vote, .int .i64 ws.h.base, .int .i64 ws.h.bterm, .int .i64 ws.h.members, .string ws.h.snap, .slice q ws.h.log.length caq] 24)) := (below_alloc _ _).trans ((below_alloc _ _).mono (by simp))
 have kA := (Blk.new w #[.int .i64 h.term, .int .i64 h.vote, .int .i64 h.base, .int .i64 h.bterm, .int .i64 h.members, .string h.snap, .slice p h.log.length cap] 24).ext (below_alloc _ (.cells #[.int .i64 ws.h.term, .int .i64 ws.h.vote, .int .i64 ws.h.base, .int .i64 ws.h.bterm, .int .i64 ws.h.members, .string ws.h.snap, .slice q ws.h.log.length caq] 24))
 have kB := Blk.new (w.alloc (.cells #[.int .i64 h.term, .int .i64 h.vote, .int .i64 h.base, .int .i64 h.bterm, .int .i64 h.members, .string h.snap, .slice p h.log.length cap] 24)) #[.int .i64 ws.h.term, .int .i64 ws.h.vote, .int .i64 ws.h.base, .int .i64 ws.h.bterm, .int .i64 ws.h.members, .string ws.h.snap, .slice q ws.h.log.length caq] 24
 rw [show (w.alloc (.cells #[.int .i64 h.term, .int .i64 h.vote, .int .i64 h.base, .int .i64 h.bterm, .int .i64 h.members, .string h.snap, .slice p h.log.length cap] 24)).heap.size = w.heap.size + 1 from by simp] at kB
 have hiff := sameW_iff ws.h h
 have hz0 : ∀ z : After ((w.alloc (.cells #[.int .i64 h.term, .int .i64 h.vote, .int .i64 h.base, .int .i64 h.bterm, .int .i64 h.members, .string h.snap, .slice p h.log.length cap] 24)).alloc (.cells #[.int .i64 ws.h.term, .int .i64 ws.h.vote, .int .i64 ws.h.base, .int .i64 ws.h.bterm, .int .i64 ws.h.members, .string ws.h.snap, .slice q ws.h.log.length caq] 24)), z.1.cell? ⟨w.heap.size, 6, none⟩ = some (.slice p h.log.length cap) := fun z => (kA.ext z.2).cell 6 _ rfl
 have hz1 : ∀ z : After ((w.alloc (.cells #[.int .i64 h.term, .int .i64 h.vote, .int .i64 h.base, .int .i64 h.bterm, .int .i64 h.members, .string h.snap, .slice p h.log.length cap] 24)).alloc (.cells #[.int .i64 ws.h.term, .int .i64 ws.h.vote, .int .i64 ws.h.base, .int .i64 ws.h.bterm, .int .i64 ws.h.members, .string ws.h.snap, .slice q ws.h.log.length caq] 24)), z.1.cell? ⟨w.heap.size + 1, 6, none⟩ = some (.slice q ws.h.log.length caq) := fun z => (kB.ext z.2).cell 6 _ rfl
 have hcl : ∀ z : After ((w.alloc (.cells #[.int .i64 h.term, .int .i64 h.vote, .int .i64 h.base, .int .i64 h.bterm, .int .i64 h.members, .string h.snap, .slice p h.log.length cap] 24)).alloc (.cells #[.int .i64 ws.h.term, .int .i64 ws.h.vote, .int .i64 ws.h.base, .int .i64 ws.h.bterm, .int .i64 ws.h.members, .string ws.h.snap, .slice q ws.h.log.length caq] 24)), Calls Tryz.prog 103 #[.slice p h.log.length cap, .slice q ws.h.log.length caq] z.1 fun e w' => e = .returned (.int .i64 (commonE h.log ws.h.log : Nat)) ∧ ∃ y : After ((w.alloc (.cells #[.int .i64 h.term, .int .i64 h.vote, .int .i64 h.base, .int .i64 h.bterm, .int .i64 h.members, .string h.snap, .slice p h.log.length cap] 24)).alloc (.cells #[.int .i64 ws.h.term, .int .i64 ws.h.vote, .int .i64 ws.h.base, .int .i64 ws.h.bterm, .int .i64 ws.h.members, .string ws.h.snap, .slice q ws.h.log.length caq] 24)), w' = y.1 := fun z => z.call (walCommon _ _ _ _ z.1 ((hu.ext bW).ext z.2) ((hw.log.ext bW).ext z.2))
 have Hiff := Lib.hid hiff
 clear hiff kA kB hu hw
 generalize sameW ws.h h = R at *
 by_cases e0 : h.term = ws.h.term
 case neg =>
  have n0 : (h.term != ws.h.term) = true := by simpa using e0
  have Hr := Lib.hid (no_of Hiff.out (fun hh => e0 hh.1))
  clear e0 hz0 hz1 hcl Hiff
  go_enter Tryz.func70, Tryz.ntmps70
  go_wp2
  go_ret
  exact ⟨ret_bool Hr.out, bW⟩
 have n0 : (h.term != ws.h.term) = false := by simpa using e0
 have E0 := Lib.hid e0
 clear e0
 by_cases e1 : h.vote = ws.h.vote
 case neg =>
  have n1 : (h.vote != ws.h.vote) = true := by simpa using e1
  have Hr := Lib.hid (no_of Hiff.out (fun hh => e1 hh.2.1))
  clear e1 hz0 hz1 hcl Hiff
  go_enter Tryz.func70, Tryz.ntmps70
  go_wp2
  go_ret
  exact ⟨ret_bool Hr.out, bW⟩
 have n1 : (h.vote != ws.h.vote) = false := by simpa using e1
 have E1 := Lib.hid e1
 clear e1
 by_cases e2 : h.base = ws.h.base
 case neg =>
  have n2 : (h.base != ws.h.base) = true := by simpa using e2
  have Hr := Lib.hid (no_of Hiff.out (fun hh => e2 hh.2.2.1))
  clear e2 hz0 hz1 hcl Hiff
  go_enter Tryz.func70, Tryz.ntmps70
  go_wp2
  go_ret
  exact ⟨ret_bool Hr.out, bW⟩
 have n2 : (h.base != ws.h.base) = false := by simpa using e2
 have E2 := Lib.hid e2
 clear e2
 by_cases e3 : h.bterm = ws.h.bterm
 case neg =>
  have n3 : (h.bterm != ws.h.bterm) = true := by simpa using e3
  have Hr := Lib.hid (no_of Hiff.out (fun hh => e3 hh.2.2.2.1))
  clear e3 hz0 hz1 hcl Hiff
  go_enter Tryz.func70, Tryz.ntmps70
  go_wp2
  go_ret
  exact ⟨ret_bool Hr.out, bW⟩
 have n3 : (h.bterm != ws.h.bterm) = false := by simpa using e3
 have E3 := Lib.hid e3
 clear e3
 by_cases e4 : h.members = ws.h.members
 case neg =>
  have n4 : (h.members != ws.h.members) = true := by simpa using e4
  have Hr := Lib.hid (no_of Hiff.out (fun hh => e4 hh.2.2.2.2.1))
  clear e4 hz0 hz1 hcl Hiff
  go_enter Tryz.func70, Tryz.ntmps70
  go_wp2
  go_ret
  exact ⟨ret_bool Hr.out, bW⟩
 have n4 : (h.members != ws.h.members) = false := by simpa using e4
 have E4 := Lib.hid e4
 clear e4
 by_cases hl : h.log.length = ws.h.log.length
 · have hl1 : ((h.log.length : Int) == (ws.h.log.length : Int)) = true := by simp [hl]
   by_cases hc : commonE h.log ws.h.log = h.log.length
   · have hc1 : ((commonE h.log ws.h.log : Nat) : Int) == (h.log.length : Int) := by simp [hc]
     have Hr := Lib.hid (Hiff.out.2 ⟨E0.out, E1.out, E2.out, E3.out, E4.out, hl, hc⟩)
     clear hl hc Hiff
     generalize commonE h.log ws.h.log = C at *
     go_enter Tryz.func70, Tryz.ntmps70
     go_wp2_with fail
     generalize (w.alloc (.cells #[.int .i64 h.term, .int .i64 h.vote, .int .i64 h.base, .int .i64 h.bterm, .int .i64 h.members, .string h.snap, .slice p h.log.length cap] 24)).alloc (.cells #[.int .i64 ws.h.term, .int .i64 ws.h.vote, .int .i64 ws.h.base, .int .i64 ws.h.bterm, .int .i64 ws.h.members, .string ws.h.snap, .slice q ws.h.log.length caq] 24) = W at *
     refine wp_region_after (by kernel_rfl) (by kernel_rfl) ?_
     repeat (go_big_quiet_step (exact hcl _))
     refine wpQuiet_nil ?_
     rintro w7 ⟨⟨w8, c7⟩, hw⟩
     obtain rfl : w7 = w8 := hw
     have hb7 := bW.trans (c7.mono bW.size)
     clear hcl hz0 hz1
     go_wp2_with fail
     go_ret
     exact ⟨ret_bool Hr.out.symm, hb7⟩
   · have hc1 : (((commonE h.log ws.h.log : Nat) : Int) == (h.log.length : Int)) = false := by simp; omega
     have Hr := Lib.hid (no_of Hiff.out (fun hh => hc hh.2.2.2.2.2.2))
     clear hl hc Hiff
     generalize commonE h.log ws.h.log = C at *
     go_enter Tryz.func70, Tryz.ntmps70
     go_wp2_with fail
     generalize (w.alloc (.cells #[.int .i64 h.term, .int .i64 h.vote, .int .i64 h.base, .int .i64 h.bterm, .int .i64 h.members, .string h.snap, .slice p h.log.length cap] 24)).alloc (.cells #[.int .i64 ws.h.term, .int .i64 ws.h.vote, .int .i64 ws.h.base, .int .i64 ws.h.bterm, .int .i64 ws.h.members, .string ws.h.snap, .slice q ws.h.log.length caq] 24) = W at *
     refine wp_region_after (by kernel_rfl) (by kernel_rfl) ?_
     repeat (go_big_quiet_step (exact hcl _))
     refine wpQuiet_nil ?_
     rintro w7 ⟨⟨w8, c7⟩, hw⟩
     obtain rfl : w7 = w8 := hw
     have hb7 := bW.trans (c7.mono bW.size)
     clear hcl hz0 hz1
     go_wp2_with fail
     go_ret
     exact ⟨ret_bool Hr.out, hb7⟩
 · have hl1 : ((h.log.length : Int) == (ws.h.log.length : Int)) = false := by simp; omega
   have Hr := Lib.hid (no_of Hiff.out (fun hh => hl hh.2.2.2.2.2.1))
   clear hl Hiff
   go_enter Tryz.func70, Tryz.ntmps70
   go_wp2_with fail
   generalize (w.alloc (.cells #[.int .i64 h.term, .int .i64 h.vote, .int .i64 h.base, .int .i64 h.bterm, .int .i64 h.members, .string h.snap, .slice p h.log.length cap] 24)).alloc (.cells #[.int .i64 ws.h.term, .int .i64 ws.h.vote, .int .i64 ws.h.base, .int .i64 ws.h.bterm, .int .i64 ws.h.members, .string ws.h.snap, .slice q ws.h.log.length caq] 24) = W at *
   refine wp_region_after (by kernel_rfl) (by kernel_rfl) ?_
   repeat (go_big_quiet_step (exact hcl _))
   refine wpQuiet_nil ?_
   rintro w7 ⟨⟨w8, c7⟩, hw⟩
   obtain rfl : w7 = w8 := hw
   have hb7 := bW.trans (c7.mono bW.size)
   clear hcl hz0 hz1
   go_wp2_with fail
   go_ret
   exact ⟨ret_bool Hr.out, hb7⟩
end Go.Proofs.YtgpgcnmnfnnkjaaGreatDoor
end
