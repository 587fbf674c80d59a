/- Walks of package sum: On, Of, Seal, Open give what Crc says, for any bytes (Seal: of at most 2^47 - 8 places). -/
import Derived.Test.YtongoobcmlgdiaaProg
import Derived.Test.YtongoobcmlgdiaaCrc
import Derived.BigQuiet
import Derived.Deep.QuietTactic
namespace Go.Proofs.Ytongoobcmlgdiaa
open Go Go.RowKit

theorem tBytes : SlT Try.prog 22 5 1 1 := SlT.mk' (z := .int .u8 0) Try.underlying22 (by kernel_rfl) (by kernel_rfl) (by decide) (by decide)

set_option maxHeartbeats 400000 in
theorem sumOn (c : BitVec 32) (v : Value) (l : List UInt8) (w : World) (hb : Bytes w v l) :
   Calls Try.prog 16 #[.int .u32 (c.toNat : Int), v] w fun e w' => e = .returned (.int .u32 ((Crc.on c l).toNat : Int)) ∧ w = w' := by
  obtain ⟨p, cap, rfl, h1, h2, h3, h4⟩ := hb.form
  unfold maxLen at h2
  clear hb
  go_enter Try.func16, Try.ntmps16
  go_wp2
  go_loop [5, 13] (fun s i => ∃ k : Nat, k ≤ l.length ∧ i = .int .i64 k ∧ s = .int .u32 ((Crc.fold (Crc.inv c) (l.take k)).toNat : Int)) (fun _ i => l.length - (intOf i).toNat)
  case atStart => exact ⟨0, by omega, rfl, rfl⟩
  case round =>
    obtain ⟨k, hk, rfl, rfl⟩ := hrel
    by_cases hlt : k < l.length
    · obtain ⟨b, off, rfl, hc⟩ := h4 (by omega)
      replace hc := hc k hlt
      clear h3 h4
      have hsn := Lib.hid (Crc.fold_snoc (Crc.inv c) l k hlt)
      go_wp2
      generalize Crc.fold (Crc.inv c) (List.take k l) = s0 at *
      generalize l[k] = x at *
      go_loop [5, 21] (fun s j => ∃ m : Nat, m ≤ 8 ∧ j = .int .i64 m ∧ s = .int .u32 ((Crc.steps m (Crc.mix s0 x)).toNat : Int)) (fun _ j => 8 - (intOf j).toNat)
      case atStart => exact ⟨0, by omega, rfl, rfl⟩
      case round =>
        obtain ⟨m, hm, rfl, rfl⟩ := hrel
        by_cases hlm : m < 8
        · generalize hs : Crc.steps m (Crc.mix s0 x) = t
          have Hs := Lib.hid hs
          clear hs
          by_cases hb : (((Crc.low t).toNat : Int) == 1) = true
          · go_wp2
            go_round
            case rel => exact ⟨m + 1, by omega, by go_num, by simp [Crc.steps, Hs.out, Crc.step]; simp at hb; rw [if_pos (by omega)]⟩
            case measure => simp [intOf]; omega
          · have hb' : (((Crc.low t).toNat : Int) == 1) = false := by simpa using hb
            clear hb
            go_wp2
            go_round
            case rel => exact ⟨m + 1, by omega, by go_num, by simp [Crc.steps, Hs.out, Crc.step]; simp at hb'; rw [if_neg (by omega)]⟩
            case measure => simp [intOf]; omega
        · have : m = 8 := by omega
          subst this
          go_wp2
          go_round
          case rel => exact ⟨k + 1, by omega, by go_num, by rw [hsn.out]; rfl⟩
          case measure => simp [intOf]; omega
    · go_wp2
      go_ret
      exact ⟨by rw [List.take_of_length_le (by omega)]; rfl, rfl⟩

/-- a slice of slices of bytes -/
def Parts (w : World) (v : Value) (ls : List (List UInt8)) : Prop :=
  ∃ vs : List Value, Cells w 1 v ls.length vs ∧ vs.length = ls.length ∧ ∀ (i : Nat) (v : Value) (l : List UInt8), vs[i]? = some v → ls[i]? = some l → Bytes w v l

set_option maxHeartbeats 400000 in
theorem sumOf (v : Value) (ls : List (List UInt8)) (w : World) (hb : Parts w v ls) :
   Calls Try.prog 15 #[v] w fun e w' => e = .returned (.int .u32 ((Crc.parts 0#32 ls).toNat : Int)) ∧ w = w' := by
  obtain ⟨vs, hb, hl, hbs⟩ := hb
  obtain ⟨p, cap, rfl, h1, h2, h3, h4⟩ := hb.form
  unfold maxLen at h2
  have Hl := Lib.hid hl
  clear hb hl
  go_enter Try.func15, Try.ntmps15
  go_wp2
  go_loop [3, 8] (fun s i => ∃ k : Nat, k ≤ ls.length ∧ i = .int .i64 k ∧ s = .int .u32 ((Crc.parts 0#32 (ls.take k)).toNat : Int)) (fun _ i => ls.length - (intOf i).toNat)
  case atStart => exact ⟨0, by omega, rfl, rfl⟩
  case round =>
    obtain ⟨k, hk, rfl, rfl⟩ := hrel
    by_cases hlt : k < ls.length
    · obtain ⟨b, off, rfl, hc⟩ := h4 (by omega)
      have hkv : k < vs.length := by rw [Hl.out]; exact hlt
      replace hc := hc k vs[k] (by simp)
      have hb := hbs k vs[k] ls[k] (by simp) (by simp)
      clear h3 h4 hbs
      have hsn := Lib.hid (Crc.parts_snoc 0#32 ls k hlt)
      generalize Crc.parts 0#32 (ls.take k) = s0 at *
      generalize vs[k] = x at *
      go_wp2_with fail
      with_reducible refine (sumOn s0 x ls[k] _ hb).mono ?_
      rintro e w' ⟨rfl, rfl⟩
      go_wp2
      go_round
      case rel => exact ⟨k + 1, by omega, by go_num, by rw [hsn.out]⟩
      case measure => simp [intOf]; omega
    · go_wp2
      go_ret
      exact ⟨by rw [List.take_of_length_le (by omega)]; rfl, rfl⟩

theorem parts_one {w : World} {v : Value} {l : List UInt8} (h : Bytes w v l) (B : Nat) (hB : B = w.heap.size) (e : TypeId) :
    Parts (w.alloc (.cells #[v] e)) (.slice (some ⟨B, 0, none⟩) 1 1) [l] := by
  subst hB
  have hx : Below w.heap.size w (w.alloc (.cells #[v] e)) := (Below.refl _ _).alloc (Nat.le_refl _) _
  have h1 := World.ownsRow_lit (base := 0) (e := e) (size := 1) w #[v] 1 (by simp) (by unfold maxLen; omega) rfl
  have hv : v.oneCell' = true := by obtain ⟨p, cap, rfl, _⟩ := h.form; rfl
  refine ⟨[v], Own.cells ⟨h1, by simpa using hv⟩, rfl, fun i v' l' hv hl => ?_⟩
  match i, hv, hl with
  | 0, hv, hl =>
    simp at hv hl; subst hv; subst hl
    exact h.ext hx

/-- values that read as lists of bytes, one by one -/
def BytesAll (w : World) : List Value → List (List UInt8) → Prop
  | [], [] => True
  | v :: vs, l :: ls => Bytes w v l ∧ BytesAll w vs ls
  | _, _ => False
theorem BytesAll.get {w : World} : ∀ {vs : List Value} {ls : List (List UInt8)}, BytesAll w vs ls → vs.length = ls.length ∧ ∀ (i : Nat) (v : Value) (l : List UInt8), vs[i]? = some v → ls[i]? = some l → Bytes w v l
  | [], [], _ => ⟨rfl, fun i v l h => by simp at h⟩
  | v :: vs, l :: ls, h => by
    obtain ⟨h1, h2⟩ := BytesAll.get h.2
    refine ⟨by simp [h1], fun i v' l' hv hl => ?_⟩
    cases i with
    | zero => simp at hv hl; subst hv; subst hl; exact h.1
    | succ i => exact h2 i v' l' (by simpa using hv) (by simpa using hl)
  | [], _ :: _, h => h.elim
  | _ :: _, [], h => h.elim
theorem parts_lit {w : World} {vs : List Value} {ls : List (List UInt8)} (h : BytesAll w vs ls) (t : TypeId) {B n : Nat} (hB : B = w.heap.size) (hn : n = ls.length) (hm : n ≤ maxLen) :
    Parts (w.alloc (.cells vs.toArray t)) (.slice (some ⟨B, 0, none⟩) n n) ls := by
  subst hB; subst hn
  obtain ⟨h1, h2⟩ := h.get
  have hone : ∀ u ∈ vs, u.oneCell' = true := by
    intro u hu
    obtain ⟨i, hi, rfl⟩ := List.getElem_of_mem hu
    obtain ⟨p, cap, hq⟩ := (h2 i vs[i] (ls[i]'(by omega)) (by simp) (by simp)).shape
    rw [hq]; rfl
  have ho := Own.lit w vs.toArray t (sz := 1) ls.length w.heap.size (by simp; omega) (by simpa using hone) hm (Nat.le_refl _)
  refine ⟨vs, Own.cells (by simpa using ho), h1, fun i v l hv hl => (h2 i v l hv hl).ext (below_alloc _ _)⟩
theorem parts_singleton (l : List UInt8) : Crc.parts 0#32 [l] = Crc.on 0#32 l := rfl
theorem Parts.drew {w : World} {v : Value} {ls : List (List UInt8)} (h : Parts w v ls) : Parts w.drew v ls := h
theorem below_drew (B : Nat) (w : World) : Below B w w.drew := (Below.refl B w).drew
theorem sumOfLd (vs : List Value) (ls : List (List UInt8)) (w : World) (h : BytesAll w vs ls) (B n : Nat) (hB : B = w.heap.size) (hn : n = ls.length) (hm : n ≤ maxLen) (t : TypeId) :
   Calls Try.prog 15 #[.slice (some ⟨B, 0, none⟩) n n] (w.alloc (.cells vs.toArray t)).drew fun e w' => e = .returned (.int .u32 ((Crc.on 0#32 ls.flatten).toNat : Int)) ∧ Below w.heap.size w w' :=
  (sumOf _ ls _ (parts_lit h t hB hn hm).drew).mono fun e w' ⟨h1, h2⟩ => ⟨by rw [h1, Crc.parts_flat], h2 ▸ (below_alloc w _).trans (below_drew _ _)⟩
/-- Of, at a literal row of parts, in the world where that row has just been laid -/
theorem sumOfL (vs : List Value) (ls : List (List UInt8)) (w : World) (h : BytesAll w vs ls) (B n : Nat) (hB : B = w.heap.size) (hn : n = ls.length) (hm : n ≤ maxLen) (t : TypeId) :
   Calls Try.prog 15 #[.slice (some ⟨B, 0, none⟩) n n] (w.alloc (.cells vs.toArray t)) fun e w' => e = .returned (.int .u32 ((Crc.on 0#32 ls.flatten).toNat : Int)) ∧ Below w.heap.size w w' :=
  (sumOf _ ls _ (parts_lit h t hB hn hm)).mono fun e w' ⟨h1, h2⟩ => ⟨by rw [h1, Crc.parts_flat], h2 ▸ below_alloc w _⟩
theorem sumOf1 (v : Value) (l : List UInt8) (w : World) (hb : Bytes w v l) (B : Nat) (hB : B = w.heap.size) (t : TypeId) :
   Calls Try.prog 15 #[.slice (some ⟨B, 0, none⟩) 1 1] (w.alloc (.cells #[v] t)) fun e w' => e = .returned (.int .u32 ((Crc.on 0#32 l).toNat : Int)) ∧ Below w.heap.size w w' :=
  (sumOf _ [l] _ (parts_one hb B hB t)).mono fun e w' ⟨h1, h2⟩ => ⟨h1, h2 ▸ below_alloc w _⟩

set_option maxHeartbeats 400000 in
theorem sumSeal (v : Value) (l : List UInt8) (w : World) (hb : Bytes w v l) (hl : l.length ≤ 140737488355320) :
   Calls Try.prog 14 #[v] w fun e w' => ∃ r, e = .returned r ∧ OwnB w' w.heap.size 5 r (Crc.seal' l) ∧ Below w.heap.size w w' := by
  obtain ⟨p, cap, rfl, h1, h2, h3, h4⟩ := hb.form
  unfold maxLen at h2
  clear h3 h4
  go_enter Try.func14, Try.ntmps14
  go_wp2_with fail
  with_reducible refine (sumOf1 _ l _ hb _ rfl _).mono ?_
  rintro e w1 ⟨rfl, b0⟩
  generalize hc : Crc.on 0#32 l = c
  have Hc := Lib.hid hc
  clear hc
  have hb1 := hb.ext b0
  have hs1 := b0.size
  go_wp2_with (first
    | (at_make; refine wpList_mk tBytes rfl rfl w.heap.size (l.length + 4) rfl rfl (by simp) (by omega) (by unfold maxLen; omega) hs1 ?_; intro v2 w2 own2 g2 b2)
    | (at_builtin; refine wpList_app tBytes rfl rfl own2 rfl (Cells.ext hb1 b2) rfl (by omega) (by have := b2.size; omega) ?_; intro v3 w3 own3 g3 b3; clear own2)
    | (at_builtin; refine wpList_app tBytes rfl rfl (Own.ext own3 (below_alloc _ _)) rfl (Own.cells (Own.lit _ _ _ 4 0 rfl (by simp [Value.oneCell']) (by unfold maxLen; omega) (Nat.zero_le _))) rfl (by omega) (by have := b2.size; have := b3.size; simp; omega) ?_; intro v4 w4 own4 g4 b4; clear own3))
  go_ret
  refine ⟨_, rfl, ?_, ?_⟩
  · simp only [List.nil_append, Nat.zero_add, le4_cells] at own4
    have := OwnB.snoc own4
    unfold Crc.seal'; rw [Hc.out]; exact this
  · exact b0.trans ((b2.mono hs1).trans (b3.trans (((Below.refl _ _).alloc (by have := b2.size; have := b3.size; omega) _).trans b4)))

set_option maxHeartbeats 400000 in
theorem sumOpen (v : Value) (l : List UInt8) (w : World) (hb : Bytes w v l) (hl : l.length ≤ 140737488355320) :
   Calls Try.prog 18 #[v] w fun e w' => ∃ r, e = .returned (.tuple #[r, .bool (Crc.opens l)]) ∧ OwnB w' w.heap.size 5 r (Crc.open' l) ∧ Below w.heap.size w w' := by
  by_cases h4 : l.length < 4
  · obtain ⟨p, cap, rfl, h1, h2, h3, h5⟩ := hb.form
    unfold maxLen at h2
    clear h3 h5
    go_enter Try.func18, Try.ntmps18
    go_wp2
    go_ret2
    have e1 : Crc.opens l = false := by unfold Crc.opens; simp; omega
    refine ⟨_, by rw [e1]; rfl, ?_, Below.refl _ _⟩
    unfold Crc.open'; rw [e1]; exact OwnB.nil _ _ _
  · have ht := run_sub_to tBytes (P := Try.prog) hb .i64 ((l.length : Int) - 4) (l.length - 4) (by omega) (by omega)
    have hf := run_sub_from tBytes (P := Try.prog) hb .i64 ((l.length : Int) - 4) (l.length - 4) (by omega) (by omega)
    have hbt := hb.sub 0 (l.length - 4) (by omega) (by omega)
    have hbf := hb.sub (l.length - 4) l.length (by omega) (by omega)
    obtain ⟨p, cap, rfl⟩ := hb.shape
    generalize subV (.slice p l.length cap) 0 (l.length - 4) 1 = vt at *
    generalize subV (.slice p l.length cap) (l.length - 4) l.length 1 = vf at *
    have e1 : (l.drop (l.length - 4)).take (l.length - (l.length - 4)) = Crc.tail l := by unfold Crc.tail; rw [List.take_of_length_le (by simp)]
    have e2 : (l.drop 0).take (l.length - 4 - 0) = Crc.cut l := rfl
    rw [e1] at hbf; rw [e2] at hbt
    obtain ⟨x0, x1, x2, x3, hx⟩ := four_of (Crc.tail l) (by unfold Crc.tail; simp; omega)
    rw [hx] at hbf
    obtain ⟨bf, of, capf, rfl, f1, f2, c0, c1, c2, c3⟩ := hbf.four
    have Hx := Lib.hid hx
    clear hx e1 e2 hbf
    obtain ⟨pt, capt, rfl⟩ := hbt.shape
    go_enter Try.func18, Try.ntmps18
    go_wp2
    go_quiet (fail)
    go_wp2
    go_quiet (fail)
    go_wp2_with fail
    with_reducible refine (sumOf1 _ (Crc.cut l) _ (hbt.drewN _) w.heap.size (size_drawn _ _).symm _).mono ?_
    rintro e w1 ⟨rfl, b0⟩
    replace b0 : Below w.heap.size w w1 := (below_drawn _ _ _).trans b0
    have hs0 := b0.size
    have hbt1 := hbt.ext b0
    have hcl : (Crc.cut l).length ≤ l.length := by unfold Crc.cut; simp
    have e1 : Crc.opens l = decide (Crc.on 0#32 (Crc.cut l) = Crc.num4 x0 x1 x2 x3) := by unfold Crc.opens; rw [Hx.out, decide_eq_true (by omega : 4 ≤ l.length)]; rfl
    have E1 := Lib.hid e1
    clear e1
    go_wp2_with (at_builtin; refine wpList_app tBytes rfl rfl (Own.nil _ w.heap.size _ _) rfl hbt1 rfl (by omega) hs0 ?_; intro v2 w2 own2 g2 b2)
    · go_ret2
      have hne : ((Crc.on 0#32 (Crc.cut l)).toNat : Int) ≠ ((Crc.num4 x0 x1 x2 x3).toNat : Int) := by
        have h : (((Crc.on 0#32 (Crc.cut l)).toNat : Int) != ((Crc.num4 x0 x1 x2 x3).toNat : Int)) = true := by assumption
        simpa using h
      have e2 : Crc.opens l = false := by rw [E1.out]; simp; intro h; rw [h] at hne; exact hne rfl
      refine ⟨_, by rw [e2]; rfl, ?_, b0⟩
      unfold Crc.open'; rw [e2]; exact OwnB.nil _ _ _
    · go_ret2
      have hne : ((Crc.on 0#32 (Crc.cut l)).toNat : Int) = ((Crc.num4 x0 x1 x2 x3).toNat : Int) := by
        have h : (((Crc.on 0#32 (Crc.cut l)).toNat : Int) != ((Crc.num4 x0 x1 x2 x3).toNat : Int)) = false := by assumption
        simpa using h
      have e2 : Crc.opens l = true := by rw [E1.out]; simp; exact BitVec.eq_of_toNat_eq (by omega)
      refine ⟨_, by rw [e2]; rfl, ?_, b0.trans b2⟩
      unfold Crc.open'; rw [e2]
      simpa [OwnB] using own2

end Go.Proofs.Ytongoobcmlgdiaa
