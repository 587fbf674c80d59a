/- Walks of package wal: bare, Right. Walks of package sum: On, Of, Seal, Open give what Crc says, for any bytes (Seal: of at most 2^47 - 8 places). Walks of package frame: four, number, Put, Next give what Frm says. -/
import Derived.Test.YtgpgcnmnfnnkjaaDoorGWalCuts19
import Derived.Test.YtgpgcnmnfnnkjaaDoorProg
import Derived.Test.YtgpgcnmnfnnkjaaDoorGWalCuts18
import Derived.BigQuiet
import Derived.Deep.QuietTactic
set_option linter.unusedVariables false
set_option linter.unusedSimpArgs false
section
namespace Go.Proofs.YtgpgcnmnfnnkjaaDoor
open Go Go.RowKit Go.PlainAid

theorem lastT_snoc (l : List Ety) (x : Ety) (b : Int) : lastT (l ++ [x]) b = x.term := by unfold lastT; simp
theorem logOk_snoc {l : List Ety} {b t : Int} {k : Nat} (hk : k < l.length) (h : logOk (l.take k) b t = true) : logOk (l.take (k + 1)) b t = fitsE l[k] (lastT (l.take k) b) t := by
  rw [List.take_succ_eq_append_getElem hk, logOk_app, h, Bool.true_and, logOk, logOk, Bool.and_true]
theorem bareH_all (h : Hrd) : bareH h = true ↔ ((0 ≤ h.term ∧ h.term ≤ 1099511627776 ∧ -1 ≤ h.vote ∧ h.vote < 7 ∧ 1 ≤ h.members ∧ h.members ≤ 127 ∧ 0 ≤ h.base ∧ h.base ≤ 1099511627776 ∧ 0 ≤ h.bterm ∧ h.bterm ≤ h.term ∧ (h.bterm = 0 ↔ h.base = 0)) ∧ h.log.length ≤ 200 ∧ (h.log.length : Int) ≤ 1099511627776 - h.base ∧ logOk h.log h.bterm h.term = true) := by
  rw [bareH_iff]
  unfold headOk
  simp only [Bool.and_eq_true, decide_eq_true_eq, beq_iff_eq, and_assoc, decide_eq_decide]
/-- a condition of one of the heads does not hold -/
theorem bare_no {h : Hrd} {b : Bool} (e : bareH h = b) (n : ¬ ((0 ≤ h.term ∧ h.term ≤ 1099511627776 ∧ -1 ≤ h.vote ∧ h.vote < 7 ∧ 1 ≤ h.members ∧ h.members ≤ 127 ∧ 0 ≤ h.base ∧ h.base ≤ 1099511627776 ∧ 0 ≤ h.bterm ∧ h.bterm ≤ h.term ∧ (h.bterm = 0 ↔ h.base = 0)) ∧ h.log.length ≤ 200 ∧ (h.log.length : Int) ≤ 1099511627776 - h.base)) : false = b := by
  subst e
  symm
  rw [Bool.eq_false_iff]
  intro hh
  have h2 := (bareH_all h).1 hh
  exact n ⟨h2.1, h2.2.1, h2.2.2.1⟩
theorem bare_bad {h : Hrd} {b : Bool} (e : bareH h = b) {k : Nat} (n : logOk (h.log.take k) h.bterm h.term = false) : false = b := by
  subst e
  symm
  rw [Bool.eq_false_iff]
  intro hh
  have h2 := logOk_take ((bareH_all h).1 hh).2.2.2 k
  rw [n] at h2; cases h2

set_option maxRecDepth 4000 in
set_option maxHeartbeats 4000000 in
theorem walBare (h : Hrd) (v : Value) (w : World) (hv : Rd etyE w v h.log) :
    Calls Tryd.prog 53 #[hrdA h v] w fun e w' => e = .returned (.bool (bareH h)) ∧ Below w.heap.size w w' := by
  obtain ⟨p, cap, rfl⟩ := hv.shape
  have hmax := hv.le
  unfold maxLen at hmax
  obtain ⟨B, hB⟩ : ∃ B, bareH h = B := ⟨_, rfl⟩
  rw [hB]
  have HB := Lib.hid hB
  have Hok := Lib.hid (fun k => bare_bad hB (k := k))
  have Hyes := Lib.hid (bareH_all h)
  clear hB
  have hxor : (!((h.bterm == 0) == (h.base == 0))) = true ↔ ¬ (h.bterm = 0 ↔ h.base = 0) := by
    have a1 : (h.bterm == 0) = decide (h.bterm = 0) := rfl
    have a2 : (h.base == 0) = decide (h.base = 0) := rfl
    rw [a1, a2]
    by_cases x : h.bterm = 0 <;> by_cases y : h.base = 0 <;> simp [x, y]
  have Hxor := Lib.hid hxor
  clear hxor
  go_enter Tryd.func53, Tryd.ntmps53
  go_wp2
  case' _ => skip
  all_goals first
    | (go_ret
       refine ⟨ret_bool (bare_no HB.out (fun hn => ?_)), below_alloc _ _⟩
       obtain ⟨⟨x1, x2, x3, x4, x5, x6, x7, x8, x9, x10, x11⟩, x12, x13⟩ := hn
       first | omega | (rcases (by assumption : (((h.base < 0 ∨ 1099511627776 < h.base) ∨ h.bterm < 0) ∨ h.term < h.bterm) ∨ (!((h.bterm == 0) == (h.base == 0))) = true) with q | q; omega; exact Hxor.out.1 q x11))
    | skip
  have hq : ((((0 ≤ h.base ∧ h.base ≤ 1099511627776) ∧ 0 ≤ h.bterm) ∧ h.bterm ≤ h.term) ∧ (!((h.bterm == 0) == (h.base == 0))) = false) := by assumption
  have hx : h.bterm = 0 ↔ h.base = 0 := Decidable.not_not.1 (fun hn => by have := Hxor.out.2 hn; rw [hq.2] at this; cases this)
  have hh : (0 ≤ h.term ∧ h.term ≤ 1099511627776 ∧ -1 ≤ h.vote ∧ h.vote < 7 ∧ 1 ≤ h.members ∧ h.members ≤ 127 ∧ 0 ≤ h.base ∧ h.base ≤ 1099511627776 ∧ 0 ≤ h.bterm ∧ h.bterm ≤ h.term ∧ (h.bterm = 0 ↔ h.base = 0)) ∧ h.log.length ≤ 200 ∧ (h.log.length : Int) ≤ 1099511627776 - h.base := ⟨⟨by omega, by omega, by omega, by omega, by omega, by omega, by omega, by omega, by omega, by omega, hx⟩, by omega, by omega⟩
  have Hh := Lib.hid hh
  clear hq hx hh
  have hW : (w.alloc (.cells #[.int .i64 h.term, .int .i64 h.vote, .int .i64 h.base, .int .i64 h.bterm, .int .i64 h.members, .string h.snap, .slice p h.log.length cap] 30)).heap.size = w.heap.size + 1 := by simp
  have cell0 : (w.alloc (.cells #[.int .i64 h.term, .int .i64 h.vote, .int .i64 h.base, .int .i64 h.bterm, .int .i64 h.members, .string h.snap, .slice p h.log.length cap] 30)).cell? ⟨w.heap.size, 0, none⟩ = some (.int .i64 h.term) := (Blk.new w _ _).cell 0 _ rfl
  have hvW := hv.ext (below_alloc w (.cells #[.int .i64 h.term, .int .i64 h.vote, .int .i64 h.base, .int .i64 h.bterm, .int .i64 h.members, .string h.snap, .slice p h.log.length cap] 30))
  have hbW := below_alloc w (.cells #[.int .i64 h.term, .int .i64 h.vote, .int .i64 h.base, .int .i64 h.bterm, .int .i64 h.members, .string h.snap, .slice p h.log.length cap] 30)
  generalize (w.alloc (.cells #[.int .i64 h.term, .int .i64 h.vote, .int .i64 h.base, .int .i64 h.bterm, .int .i64 h.members, .string h.snap, .slice p h.log.length cap] 30)) = W at *
  go_loopw [3, 81] (fun b i wr => ∃ k : Nat, k ≤ h.log.length ∧ i = .int .i64 k ∧ b = .int .i64 (lastT (h.log.take k) h.bterm) ∧ Hid (logOk (h.log.take k) h.bterm h.term = true) ∧ Below W.heap.size W wr) (fun _ i _ => h.log.length - (intOf i).toNat)
  case atStart => exact ⟨0, by omega, rfl, rfl, rfl, Below.refl _ _⟩
  case round =>
    obtain ⟨k, hk, rfl, rfl, hlog, hb⟩ := hrel
    have hbw := hbW.trans (hb.mono (by omega))
    by_cases hlt : k < h.log.length
    · have hvr := hvW.ext hb
      obtain ⟨bb, off, rfl⟩ := Rd.blk hvr (by omega)
      obtain ⟨c0, c1, c2⟩ := ety3 hvr hlt
      have t0 : wr.cell? ⟨w.heap.size, 0, none⟩ = some (.int .i64 h.term) := by rw [hb.cell (p := ⟨w.heap.size, 0, none⟩) (by show w.heap.size < _; omega)]; exact cell0
      have hi : (k : Int) < (h.log.length : Int) := by omega
      have hi0 : (0 : Int) ≤ (k : Int) := by omega
      have hsz := hb.size
      have hsnoc := Lib.hid (logOk_snoc hlt hlog.out)
      have hlast : lastT (h.log.take (k + 1)) h.bterm = (h.log[k]).term := by rw [List.take_succ_eq_append_getElem hlt, lastT_snoc]
      have Hlast := Lib.hid hlast
      have hne : w.heap.size ≠ wr.heap.size := by omega
      clear hlast cell0 hvW hbW
      generalize h.log[k] = x at *
      generalize lastT (h.log.take k) h.bterm = T at *
      have ca := below_alloc wr (.cells #[.int .i64 x.term, .int .i64 x.members, .string x.data] 36)
      have t1 : (wr.alloc (.cells #[.int .i64 x.term, .int .i64 x.members, .string x.data] 36)).cell? ⟨w.heap.size, 0, none⟩ = some (.int .i64 h.term) := by rw [ca.cell (p := ⟨w.heap.size, 0, none⟩) (by show w.heap.size < _; omega)]; exact t0
      go_wp2_with fail
      refine (walFits x T h.term _).mono ?_
      rintro e w2 ⟨rfl, b2⟩
      have b12 := ca.trans (b2.mono (by simp))
      have k0 := (Blk.new wr #[.int .i64 x.term, .int .i64 x.members, .string x.data] 36).ext b2
      have k0 := k0.cell 0 _ rfl
      cases hf : fitsE x T h.term with
      | false =>
        go_wp2_with fail
        go_ret
        exact ⟨ret_bool (Hok.out (k + 1) (by rw [hsnoc.out, hf])), hbw.trans (b12.mono hbw.size)⟩
      | true =>
        go_wp2_with fail
        go_roundw
        case rel => exact ⟨k + 1, by omega, by go_num, by rw [Hlast.out], by show _ = _; rw [hsnoc.out, hf], hb.trans (b12.mono hsz)⟩
        case measure => simp [intOf]; omega
    · have hke : k = h.log.length := by omega
      have hi : ¬ (k : Int) < (h.log.length : Int) := by omega
      have Hk := Lib.hid hke
      clear hke
      go_wp2
      go_ret
      have hl := hlog.out
      rw [Hk.out, List.take_of_length_le (Nat.le_refl _)] at hl
      have hB := Hyes.out.2 ⟨Hh.out.1, Hh.out.2.1, Hh.out.2.2, hl⟩
      rw [HB.out] at hB
      exact ⟨ret_bool hB.symm, hbw⟩
end Go.Proofs.YtgpgcnmnfnnkjaaDoor
end

section
namespace Go.Proofs.YtgpgcnmnfnnkjaaDoor
open Go Go.RowKit

theorem tBytesF : SlT Tryd.prog 64 5 1 1 := SlT.mk' (z := .int .u8 0) Tryd.underlying64 (by kernel_rfl) (by kernel_rfl) (by decide) (by decide)

set_option maxHeartbeats 400000 in
theorem sumOn (c : BitVec 32) (v : Value) (l : List UInt8) (w : World) (hb : Bytes w v l) :
   Calls Tryd.prog 87 #[.int .u32 (c.toNat : Int), v] w fun e w' => e = .returned (.int .u32 ((Crc.on c l).toNat : Int)) ∧ w = w' := by
  obtain ⟨p, cap, rfl, h1, h2, h3, h4⟩ := hb.form
  unfold maxLen at h2
  clear hb
  go_enter Tryd.func87, Tryd.ntmps87
  go_wp2
  go_loop [5, 13] (fun s i => ∃ k : Nat, k ≤ l.length ∧ i = .int .i64 k ∧ s = .int .u32 ((Crc.fold (Crc.inv c) (l.take k)).toNat : Int)) (fun _ i => l.length - (intOf i).toNat)
  case atStart => exact ⟨0, by omega, rfl, rfl⟩
  case round =>
    obtain ⟨k, hk, rfl, rfl⟩ := hrel
    by_cases hlt : k < l.length
    · obtain ⟨b, off, rfl, hc⟩ := h4 (by omega)
      replace hc := hc k hlt
      clear h3 h4
      have hsn := Lib.hid (Crc.fold_snoc (Crc.inv c) l k hlt)
      go_wp2
      generalize Crc.fold (Crc.inv c) (List.take k l) = s0 at *
      generalize l[k] = x at *
      go_loop [5, 21] (fun s j => ∃ m : Nat, m ≤ 8 ∧ j = .int .i64 m ∧ s = .int .u32 ((Crc.steps m (Crc.mix s0 x)).toNat : Int)) (fun _ j => 8 - (intOf j).toNat)
      case atStart => exact ⟨0, by omega, rfl, rfl⟩
      case round =>
        obtain ⟨m, hm, rfl, rfl⟩ := hrel
        by_cases hlm : m < 8
        · generalize hs : Crc.steps m (Crc.mix s0 x) = t
          have Hs := Lib.hid hs
          clear hs
          by_cases hb : (((Crc.low t).toNat : Int) == 1) = true
          · go_wp2
            go_round
            case rel => exact ⟨m + 1, by omega, by go_num, by simp [Crc.steps, Hs.out, Crc.step]; simp at hb; rw [if_pos (by omega)]⟩
            case measure => simp [intOf]; omega
          · have hb' : (((Crc.low t).toNat : Int) == 1) = false := by simpa using hb
            clear hb
            go_wp2
            go_round
            case rel => exact ⟨m + 1, by omega, by go_num, by simp [Crc.steps, Hs.out, Crc.step]; simp at hb'; rw [if_neg (by omega)]⟩
            case measure => simp [intOf]; omega
        · have : m = 8 := by omega
          subst this
          go_wp2
          go_round
          case rel => exact ⟨k + 1, by omega, by go_num, by rw [hsn.out]; rfl⟩
          case measure => simp [intOf]; omega
    · go_wp2
      go_ret
      exact ⟨by rw [List.take_of_length_le (by omega)]; rfl, rfl⟩

/-- a slice of slices of bytes -/
def Parts (w : World) (v : Value) (ls : List (List UInt8)) : Prop :=
  ∃ vs : List Value, Cells w 1 v ls.length vs ∧ vs.length = ls.length ∧ ∀ (i : Nat) (v : Value) (l : List UInt8), vs[i]? = some v → ls[i]? = some l → Bytes w v l

set_option maxHeartbeats 400000 in
theorem sumOf (v : Value) (ls : List (List UInt8)) (w : World) (hb : Parts w v ls) :
   Calls Tryd.prog 70 #[v] w fun e w' => e = .returned (.int .u32 ((Crc.parts 0#32 ls).toNat : Int)) ∧ w = w' := by
  obtain ⟨vs, hb, hl, hbs⟩ := hb
  obtain ⟨p, cap, rfl, h1, h2, h3, h4⟩ := hb.form
  unfold maxLen at h2
  have Hl := Lib.hid hl
  clear hb hl
  go_enter Tryd.func70, Tryd.ntmps70
  go_wp2
  go_loop [3, 8] (fun s i => ∃ k : Nat, k ≤ ls.length ∧ i = .int .i64 k ∧ s = .int .u32 ((Crc.parts 0#32 (ls.take k)).toNat : Int)) (fun _ i => ls.length - (intOf i).toNat)
  case atStart => exact ⟨0, by omega, rfl, rfl⟩
  case round =>
    obtain ⟨k, hk, rfl, rfl⟩ := hrel
    by_cases hlt : k < ls.length
    · obtain ⟨b, off, rfl, hc⟩ := h4 (by omega)
      have hkv : k < vs.length := by rw [Hl.out]; exact hlt
      replace hc := hc k vs[k] (by simp)
      have hb := hbs k vs[k] ls[k] (by simp) (by simp)
      clear h3 h4 hbs
      have hsn := Lib.hid (Crc.parts_snoc 0#32 ls k hlt)
      generalize Crc.parts 0#32 (ls.take k) = s0 at *
      generalize vs[k] = x at *
      go_wp2_with fail
      with_reducible refine (sumOn s0 x ls[k] _ hb).mono ?_
      rintro e w' ⟨rfl, rfl⟩
      go_wp2
      go_round
      case rel => exact ⟨k + 1, by omega, by go_num, by rw [hsn.out]⟩
      case measure => simp [intOf]; omega
    · go_wp2
      go_ret
      exact ⟨by rw [List.take_of_length_le (by omega)]; rfl, rfl⟩

theorem parts_one {w : World} {v : Value} {l : List UInt8} (h : Bytes w v l) (B : Nat) (hB : B = w.heap.size) (e : TypeId) :
    Parts (w.alloc (.cells #[v] e)) (.slice (some ⟨B, 0, none⟩) 1 1) [l] := by
  subst hB
  have hx : Below w.heap.size w (w.alloc (.cells #[v] e)) := (Below.refl _ _).alloc (Nat.le_refl _) _
  have h1 := World.ownsRow_lit (base := 0) (e := e) (size := 1) w #[v] 1 (by simp) (by unfold maxLen; omega) rfl
  have hv : v.oneCell' = true := by obtain ⟨p, cap, rfl, _⟩ := h.form; rfl
  refine ⟨[v], Own.cells ⟨h1, by simpa using hv⟩, rfl, fun i v' l' hv hl => ?_⟩
  match i, hv, hl with
  | 0, hv, hl =>
    simp at hv hl; subst hv; subst hl
    exact h.ext hx

/-- values that read as lists of bytes, one by one -/
def BytesAll (w : World) : List Value → List (List UInt8) → Prop
  | [], [] => True
  | v :: vs, l :: ls => Bytes w v l ∧ BytesAll w vs ls
  | _, _ => False
theorem BytesAll.get {w : World} : ∀ {vs : List Value} {ls : List (List UInt8)}, BytesAll w vs ls → vs.length = ls.length ∧ ∀ (i : Nat) (v : Value) (l : List UInt8), vs[i]? = some v → ls[i]? = some l → Bytes w v l
  | [], [], _ => ⟨rfl, fun i v l h => by simp at h⟩
  | v :: vs, l :: ls, h => by
    obtain ⟨h1, h2⟩ := BytesAll.get h.2
    refine ⟨by simp [h1], fun i v' l' hv hl => ?_⟩
    cases i with
    | zero => simp at hv hl; subst hv; subst hl; exact h.1
    | succ i => exact h2 i v' l' (by simpa using hv) (by simpa using hl)
  | [], _ :: _, h => h.elim
  | _ :: _, [], h => h.elim
theorem parts_lit {w : World} {vs : List Value} {ls : List (List UInt8)} (h : BytesAll w vs ls) (t : TypeId) {B n : Nat} (hB : B = w.heap.size) (hn : n = ls.length) (hm : n ≤ maxLen) :
    Parts (w.alloc (.cells vs.toArray t)) (.slice (some ⟨B, 0, none⟩) n n) ls := by
  subst hB; subst hn
  obtain ⟨h1, h2⟩ := h.get
  have hone : ∀ u ∈ vs, u.oneCell' = true := by
    intro u hu
    obtain ⟨i, hi, rfl⟩ := List.getElem_of_mem hu
    obtain ⟨p, cap, hq⟩ := (h2 i vs[i] (ls[i]'(by omega)) (by simp) (by simp)).shape
    rw [hq]; rfl
  have ho := Own.lit w vs.toArray t (sz := 1) ls.length w.heap.size (by simp; omega) (by simpa using hone) hm (Nat.le_refl _)
  refine ⟨vs, Own.cells (by simpa using ho), h1, fun i v l hv hl => (h2 i v l hv hl).ext (below_alloc _ _)⟩
theorem parts_singleton (l : List UInt8) : Crc.parts 0#32 [l] = Crc.on 0#32 l := rfl
theorem Parts.drew {w : World} {v : Value} {ls : List (List UInt8)} (h : Parts w v ls) : Parts w.drew v ls := h
theorem sumOfLd (vs : List Value) (ls : List (List UInt8)) (w : World) (h : BytesAll w vs ls) (B n : Nat) (hB : B = w.heap.size) (hn : n = ls.length) (hm : n ≤ maxLen) (t : TypeId) :
   Calls Tryd.prog 70 #[.slice (some ⟨B, 0, none⟩) n n] (w.alloc (.cells vs.toArray t)).drew fun e w' => e = .returned (.int .u32 ((Crc.on 0#32 ls.flatten).toNat : Int)) ∧ Below w.heap.size w w' :=
  (sumOf _ ls _ (parts_lit h t hB hn hm).drew).mono fun e w' ⟨h1, h2⟩ => ⟨by rw [h1, Crc.parts_flat], h2 ▸ (below_alloc w _).trans (below_drew _ _)⟩
/-- Of, at a literal row of parts, in the world where that row has just been laid -/
theorem sumOfL (vs : List Value) (ls : List (List UInt8)) (w : World) (h : BytesAll w vs ls) (B n : Nat) (hB : B = w.heap.size) (hn : n = ls.length) (hm : n ≤ maxLen) (t : TypeId) :
   Calls Tryd.prog 70 #[.slice (some ⟨B, 0, none⟩) n n] (w.alloc (.cells vs.toArray t)) fun e w' => e = .returned (.int .u32 ((Crc.on 0#32 ls.flatten).toNat : Int)) ∧ Below w.heap.size w w' :=
  (sumOf _ ls _ (parts_lit h t hB hn hm)).mono fun e w' ⟨h1, h2⟩ => ⟨by rw [h1, Crc.parts_flat], h2 ▸ below_alloc w _⟩
theorem sumOf1 (v : Value) (l : List UInt8) (w : World) (hb : Bytes w v l) (B : Nat) (hB : B = w.heap.size) (t : TypeId) :
   Calls Tryd.prog 70 #[.slice (some ⟨B, 0, none⟩) 1 1] (w.alloc (.cells #[v] t)) fun e w' => e = .returned (.int .u32 ((Crc.on 0#32 l).toNat : Int)) ∧ Below w.heap.size w w' :=
  (sumOf _ [l] _ (parts_one hb B hB t)).mono fun e w' ⟨h1, h2⟩ => ⟨h1, h2 ▸ below_alloc w _⟩

end Go.Proofs.YtgpgcnmnfnnkjaaDoor
end

section
namespace Go.Proofs.YtgpgcnmnfnnkjaaDoor
open Go Go.RowKit

set_option maxHeartbeats 400000 in
theorem frameFour (c : BitVec 32) (C : Int) (hC : C = (c.toNat : Int)) (w : World) : Calls Tryd.prog 88 #[.int .u32 C] w fun e w' => ∃ r, e = .returned r ∧ OwnB w' w.heap.size 5 r (Crc.le4 c) ∧ Below w.heap.size w w' := by
  subst hC
  go_enter Tryd.func88, Tryd.ntmps88
  go_wp2
  go_ret
  refine ⟨_, rfl, ?_, below_alloc _ _⟩
  have h := Own.lit w #[.int .u8 ((c.toNat : Int) % 256), .int .u8 ((c.toNat : Int) / 256 % 256), .int .u8 ((c.toNat : Int) / 65536 % 256), .int .u8 ((c.toNat : Int) / 16777216)] 5 (sz := 1) 4 w.heap.size rfl (by simp [Value.oneCell']) (by unfold maxLen; omega) (Nat.le_refl _)
  exact OwnB.of h (by rfl) (le4_cells c)

theorem four_split (l : List UInt8) (h : 4 ≤ l.length) : ∃ x0 x1 x2 x3 r, l = x0 :: x1 :: x2 :: x3 :: r := by
  match l, h with
  | a :: b :: c :: d :: r, _ => exact ⟨a, b, c, d, r, rfl⟩
theorem Bytes.four' {w : World} {v : Value} {x0 x1 x2 x3 : UInt8} {r : List UInt8} (h : Bytes w v (x0 :: x1 :: x2 :: x3 :: r)) : ∃ b off cap, v = .slice (some ⟨b, off, none⟩) (r.length + 4) cap ∧ r.length + 4 ≤ cap ∧ cap ≤ maxLen ∧
    w.cell? ⟨b, off, none⟩ = some (.int .u8 (x0.toNat : Int)) ∧ w.cell? ⟨b, off + 1, none⟩ = some (.int .u8 (x1.toNat : Int)) ∧ w.cell? ⟨b, off + 2, none⟩ = some (.int .u8 (x2.toNat : Int)) ∧ w.cell? ⟨b, off + 3, none⟩ = some (.int .u8 (x3.toNat : Int)) := by
  obtain ⟨p, cap, rfl, h1, h2, h3, h4⟩ := h.form
  simp at h1
  obtain ⟨b, off, rfl, hc⟩ := h4 (by simp)
  exact ⟨b, off, cap, rfl, h1, h2, hc 0 (by simp), hc 1 (by simp), hc 2 (by simp), hc 3 (by simp)⟩

set_option maxHeartbeats 400000 in
theorem frameNumber (v : Value) (l : List UInt8) (w : World) (hv : Bytes w v l) (hl : 4 ≤ l.length) : Calls Tryd.prog 69 #[v] w fun e w' => e = .returned (.int .u32 ((Crc.num l).toNat : Int)) ∧ ∃ n, w' = w.drewN n := by
  obtain ⟨x0, x1, x2, x3, r, rfl⟩ := four_split l hl
  obtain ⟨b, off, cap, rfl, h1, h2, c0, c1, c2, c3⟩ := hv.four'
  have e : Crc.num (x0 :: x1 :: x2 :: x3 :: r) = Crc.num4 x0 x1 x2 x3 := rfl
  rw [e]
  clear hl e hv
  unfold maxLen at h2
  have i0 : (0 : Int) < (r.length : Int) + 4 := by omega
  have i1 : (1 : Int) < (r.length : Int) + 4 := by omega
  have i2 : (2 : Int) < (r.length : Int) + 4 := by omega
  have i3 : (3 : Int) < (r.length : Int) + 4 := by omega
  go_enter Tryd.func69, Tryd.ntmps69
  go_wp2
  go_quiet (fail)
  go_wp2
  go_ret
  exact ⟨rfl, _, rfl⟩

theorem ofNat_u32 (n : Nat) (h : n < 4294967296) : (n : Int) = ((BitVec.ofNat 32 n).toNat : Int) := by
  rw [BitVec.toNat_ofNat, Nat.mod_eq_of_lt h]

set_option maxHeartbeats 1000000 in
theorem framePut (v u : Value) (b p : List UInt8) (w : World) (hv : Bytes w v b) (hu : Bytes w u p) (hb : b.length ≤ 70368744177664) (hp : p.length ≤ 70368744177664) :
    Calls Tryd.prog 78 #[v, u] w fun e w' => ∃ r, e = .returned r ∧ OwnB w' w.heap.size 5 r (Frm.put b p) ∧ Below w.heap.size w w' := by
  obtain ⟨p0, c0, rfl⟩ := hv.shape
  obtain ⟨q0, d0, rfl⟩ := hu.shape
  by_cases hn : Frm.none' p = true
  · have hn' : p.length < 1 ∨ 131072 < p.length := by unfold Frm.none' at hn; simpa using hn
    go_enter Tryd.func78, Tryd.ntmps78
    have hfin : Frm.put b p = b := by unfold Frm.put Frm.one; rw [hn]; simp
    rw [hfin]
    clear hn hfin
    rcases hn' with hn | hn
    all_goals
      go_wp2_with (first
        | (at_make; refine wpList_mk tBytesF rfl rfl w.heap.size (b.length + 8 + p.length) rfl rfl (by simp) (by omega) (by unfold maxLen; omega) (Nat.le_refl _) ?_; intro v2 w2 own2 g2 b2)
        | (at_builtin; refine wpList_app tBytesF rfl rfl own2 rfl (Cells.ext hv b2) rfl (by omega) b2.size ?_; intro v3 w3 own3 g3 b3; clear own2))
      go_ret
      exact ⟨_, rfl, OwnB.of own3 (by simp) (by simp), b2.trans b3⟩
  · have hn' : 1 ≤ p.length ∧ p.length ≤ 131072 := by
      have h : ¬ (p.length < 1 ∨ 131072 < p.length) := fun h => hn (by unfold Frm.none'; simpa using h)
      omega
    obtain ⟨hp1, hp2⟩ := hn'
    have hfin : Frm.put b p = b ++ (Frm.head p ++ p ++ Crc.le4 (Crc.on 0#32 (Frm.head p ++ p))) := by unfold Frm.put Frm.one; rw [if_neg hn]
    rw [hfin]
    clear hn hfin
    have hmod : (p.length : Int) % 4294967296 = (p.length : Int) := by omega
    go_enter Tryd.func78, Tryd.ntmps78
    go_wp2_with (first
      | (at_make; refine wpList_mk tBytesF rfl rfl w.heap.size (b.length + 8 + p.length) rfl rfl (by simp) (by omega) (by unfold maxLen; omega) (Nat.le_refl _) ?_; intro v2 w2 own2 g2 b2)
      | (at_builtin; refine wpList_app tBytesF rfl rfl own2 rfl (Cells.ext hv b2) rfl (by omega) b2.size ?_; intro v3 w3 own3 g3 b3; clear own2; replace own3 := OwnB.of (l := b) own3 (by simp) (by simp); replace b3 := b2.trans b3; clear b2 g2 g3)
      | fail)
    have lt3 := own3.lt
    with_reducible refine (frameFour (BitVec.ofNat 32 p.length) _ (ofNat_u32 _ (by omega)) _).mono ?_
    rintro e w4 ⟨h, rfl, ownh, b4⟩
    replace own3 := own3.ext b4
    have b04 := b3.trans (b4.mono b3.size)
    have hsz := b04.size
    have hle4 : (Crc.le4 (BitVec.ofNat 32 p.length)).length = 4 := rfl
    have hhead : Crc.le4 (BitVec.ofNat 32 p.length) = Frm.head p := rfl
    rw [hhead] at ownh hle4
    generalize hhd : Frm.head p = hd at *
    have Hhd := Lib.hid hhd
    clear hhead hhd
    obtain ⟨gh, ch, rfl, hgh1, hgh2, _, _⟩ := ownh.head (by omega)
    rw [hle4] at ownh ⊢
    have hcell : Cells w4 1 (.slice (some ⟨gh, 0, none⟩) 4 ch) 4 (hd.map byteV) := by have := Own.cells ownh; rw [hle4] at this; exact this
    have Hle := Lib.hid hle4
    clear hle4
    go_wp2_with (first
      | (at_builtin; refine wpList_appW tBytesF rfl rfl own3 rfl hcell rfl (by omega) hsz ?_; intro v5 w5 own5 g5 b5 at5)
      | (at_builtin; refine wpList_appW tBytesF rfl rfl own5 rfl (Cells.ext hu (b04.trans b5)) rfl (by omega) (by have := b5.size; omega) ?_; intro v6 w6 own6 g6 b6 at6)
      | fail)
    have n3 : ∀ k, v3.ownBlock = some k → k ≠ gh := fun k hk => by have := lt3 k hk; omega
    have n5 : ∀ k, v5.ownBlock = some k → k ≠ gh := fun k hk => by
      rcases at5 with h | h
      · exact n3 k (h ▸ hk)
      · rw [h] at hk; cases hk; omega
    have n6 : ∀ k, v6.ownBlock = some k → k ≠ gh := fun k hk => by
      rcases at6 with h | h
      · exact n5 k (h ▸ hk)
      · rw [h] at hk; cases hk; have := b5.size; omega
    have ownh5 := ownh.aside g5 n3
    have ownh6 := ownh5.aside g6 n5
    have b06 := b04.trans (b5.trans b6)
    have lt6 := Own.lt own6
    with_reducible refine (sumOfL [_, _] [hd, p] _ ?_ _ 2 rfl ?_ ?_ _).mono ?_
    · have := ownh6.bytes
      exact ⟨this, hu.ext b06, trivial⟩
    · rfl
    · unfold maxLen; decide
    rintro e w7 ⟨rfl, b7⟩
    have own7 := Own.ext own6 b7
    have b07 := b06.trans (b7.mono b06.size)
    go_wp2_with fail
    with_reducible refine (frameFour _ _ rfl _).mono ?_
    rintro e w8 ⟨h8, rfl, ownh8, b8⟩
    have own8 := Own.ext own7 b8
    have b08 := b07.trans (b8.mono b07.size)
    obtain ⟨p8, c8, rfl⟩ := ownh8.bytes.shapeN (Crc.le4_length _)
    have hcell8 := Own.cells ownh8
    rw [Crc.le4_length] at hcell8
    have hsz8 := b08.size
    go_wp2_with (first
      | (at_builtin; refine wpList_app tBytesF rfl rfl own8 rfl hcell8 rfl (by omega) hsz8 ?_; intro v9 w9 own9 g9 b9)
      | fail)
    go_ret
    refine ⟨_, rfl, OwnB.of own9 ?_ ?_, b08.trans b9⟩
    · rw [Hhd.out]; simp [Hle.out, Crc.le4]; omega
    · rw [Hhd.out]; simp [List.map_append]

set_option maxHeartbeats 1000000 in
theorem frameNext1 (v : Value) (b : List UInt8) (at' : Int) (w : World) (hv : Bytes w v b) (hb : b.length ≤ 70368744177664) (h : at' < 0 ∨ (b.length : Int) < at') :
    Calls Tryd.prog 49 #[v, .int .i64 at'] w fun e w' => ∃ r, e = .returned (.tuple #[r, .int .i64 (Frm.toAt b at'), .int .i64 (Frm.errAt b at' : Nat)]) ∧ OwnB w' w.heap.size 5 r (Frm.payAt b at') ∧ Below w.heap.size w w' := by
  obtain ⟨p0, c0, rfl⟩ := hv.shape
  have e1 : Frm.errAt b at' = 1 := by unfold Frm.errAt; rw [if_pos h]
  have e2 : Frm.toAt b at' = 0 := by unfold Frm.toAt; rw [e1]; rfl
  have e3 : Frm.payAt b at' = [] := by unfold Frm.payAt; rw [e1]; rfl
  rw [e1, e2, e3]
  clear e1 e2 e3
  rcases h with h | h
  · go_enter Tryd.func49, Tryd.ntmps49
    go_wp2
    go_ret3
    exact ⟨_, rfl, OwnB.nil _ _ _, Below.refl _ _⟩
  · have h0 : ¬ at' < 0 := by omega
    go_enter Tryd.func49, Tryd.ntmps49
    go_wp2
    go_ret3
    exact ⟨_, rfl, OwnB.nil _ _ _, Below.refl _ _⟩

end Go.Proofs.YtgpgcnmnfnnkjaaDoor
end
