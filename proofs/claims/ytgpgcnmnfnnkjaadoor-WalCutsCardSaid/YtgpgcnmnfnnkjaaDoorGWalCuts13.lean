/- The write-ahead log, plain words: entries, Hards, what is read of a segment. Walks of package pack: more, Num, Text; append of a string's bytes. -/
import Derived.Test.YtgpgcnmnfnnkjaaDoorGWalCuts12
import Derived.Test.YtgpgcnmnfnnkjaaDoorRows
import Derived.Test.YtgpgcnmnfnnkjaaDoorGWalCuts2
import Derived.BigQuiet
import Derived.Lib.AppendStr
import Derived.Laws.Bits64b
import Derived.Laws.BitsAllLaws
set_option linter.unusedVariables false
set_option linter.unusedSimpArgs false
section
namespace Go.Proofs.YtgpgcnmnfnnkjaaDoor
/-- an entry; a Hard -/
structure Ety where
  term : Int
  members : Int
  data : ByteArray
structure Hrd where
  term : Int
  vote : Int
  base : Int
  bterm : Int
  members : Int
  snap : ByteArray
  log : List Ety
def bytesOf (s : ByteArray) : List UInt8 := s.data.toList
def ofBytes (l : List UInt8) : ByteArray := ⟨l.toArray⟩
theorem ofBytes_of (s : ByteArray) : ofBytes (bytesOf s) = s := rfl
theorem bytesOf_of (l : List UInt8) : bytesOf (ofBytes l) = l := rfl
def sNone : ByteArray := ⟨#[]⟩
def hrd0 : Hrd := ⟨0, 0, 0, 0, 0, sNone, []⟩
/-- may an entry stand behind one of a term, in a node's term? -/
def fitsE (x : Ety) (behind term : Int) : Bool :=
  decide (1 ≤ x.term) && decide (behind ≤ x.term) && decide (x.term ≤ term) && decide (0 ≤ x.members) && decide (x.members ≤ 127) && decide (x.data.size ≤ 1100) && (decide (x.members = 0) || decide (x.data.size = 0))
def logOk : List Ety → Int → Int → Bool
  | [], _, _ => true
  | x :: r, behind, term => fitsE x behind term && logOk r x.term term
def lastT (l : List Ety) (behind : Int) : Int := match l.getLast? with
  | some x => x.term
  | none => behind
theorem logOk_app (term : Int) : ∀ (l m : List Ety) (b : Int), logOk (l ++ m) b term = (logOk l b term && logOk m (lastT l b) term)
  | [], m, b => by simp [logOk, lastT]
  | x :: r, m, b => by
    rw [List.cons_append, logOk, logOk, logOk_app term r m x.term, Bool.and_assoc]
    congr 2
    cases r with
    | nil => rfl
    | cons y r => rfl
theorem logOk_take {term b : Int} {l : List Ety} (h : logOk l b term = true) (k : Nat) : logOk (l.take k) b term = true := by
  rw [← List.take_append_drop k l, logOk_app, Bool.and_eq_true] at h
  exact h.1
/-- may a Hard be, its snapshot aside? -/
def headOk (h : Hrd) : Bool :=
  decide (0 ≤ h.term) && decide (h.term ≤ 1099511627776) && decide (-1 ≤ h.vote) && decide (h.vote < 7) && decide (1 ≤ h.members) && decide (h.members ≤ 127) &&
  decide (0 ≤ h.base) && decide (h.base ≤ 1099511627776) && decide (0 ≤ h.bterm) && decide (h.bterm ≤ h.term) && (decide (h.bterm = 0) == decide (h.base = 0))
def bareH (h : Hrd) : Bool := headOk h && decide (h.log.length ≤ 200) && decide ((h.log.length : Int) ≤ 1099511627776 - h.base) && logOk h.log h.bterm h.term
def rightH (h : Hrd) : Bool := bareH h && (decide (h.snap.size = 0) == decide (h.base = 0)) && decide (h.snap.size ≤ 65536)
/-- what is read of a segment -/
structure Sg where
  h : Hrd
  begun : Bool
  whole : Bool
  size : Nat
def sg0 : Sg := ⟨hrd0, false, false, 0⟩
def beganS (s : Sg) (h : Hrd) : Option Sg := if s.begun = false ∧ bareH h = true then some { s with h := h, begun := true } else none
def grownS (s : Sg) (x : Ety) : Option Sg :=
  if s.h.log.length < 200 ∧ s.h.base + s.h.log.length < 1099511627776 ∧ fitsE x (lastT s.h.log s.h.bterm) s.h.term = true then some { s with h := { s.h with log := s.h.log ++ [x] } } else none
def doneS (s : Sg) : Option Sg := if s.begun = true ∧ s.whole = false then some { s with whole := true } else none
def votedS (s : Sg) (t v : Int) : Option Sg :=
  if s.whole = true ∧ s.h.term ≤ t ∧ ¬ (t = s.h.term ∧ s.h.vote ≠ -1) ∧ t ≤ 1099511627776 ∧ -1 ≤ v ∧ v < 7 then some { s with h := { s.h with term := t, vote := v } } else none
def shorterS (s : Sg) (n : Int) : Option Sg :=
  if s.whole = true ∧ s.h.base ≤ n ∧ n - s.h.base ≤ s.h.log.length then some { s with h := { s.h with log := s.h.log.take (n - s.h.base).toNat } } else none
/-- a record, read: none: it is none -/
inductive Rec where
  | beg (h : Hrd)
  | ety (x : Ety)
  | rdy
  | vot (t v : Int)
  | cut (n : Int)
def Rec.kind : Rec → Int
  | .beg _ => 1
  | .ety _ => 2
  | .rdy => 3
  | .vot _ _ => 4
  | .cut _ => 5
def ended (r : Rdr) (x : Rec) : Option Rec := if (rEnd r).1 = 0 then some x else none
def recBeg (r : Rdr) : Option Rec :=
  let t := rNum r
  let v := rNum t.2
  let b := rNum v.2
  let bt := rNum b.2
  let m := rNum bt.2
  ended m.2 (.beg ⟨t.1, v.1, b.1, bt.1, m.1, sNone, []⟩)
def recEty (r : Rdr) : Option Rec :=
  let t := rNum r
  let m := rNum t.2
  let d := rText 1100 m.2
  ended d.2 (.ety ⟨t.1, m.1, ofBytes d.1⟩)
def recVot (r : Rdr) : Option Rec :=
  let t := rNum r
  let v := rNum t.2
  ended v.2 (.vot t.1 v.1)
def recCut (r : Rdr) : Option Rec := ended (rNum r).2 (.cut (rNum r).1)
def parseR (p : List UInt8) : Option Rec :=
  let q := rNum (rd0 p)
  if q.1 = 1 then recBeg q.2 else if q.1 = 2 then recEty q.2 else if q.1 = 3 then ended q.2 .rdy else if q.1 = 4 then recVot q.2 else if q.1 = 5 then recCut q.2 else none
def stepS (s : Sg) : Rec → Option Sg
  | .beg h => beganS s h
  | .ety x => if s.begun then grownS s x else none
  | .rdy => doneS s
  | .vot t v => votedS s t v
  | .cut n => shorterS s n
/-- a record; none: it may not stand there, and nothing is changed -/
def takeS (s : Sg) (p : List UInt8) : Option Sg := (parseR p).bind (stepS s)
/-- what is read stays right -/
structure SgOk (s : Sg) : Prop where
  bare : s.begun = true → bareH s.h = true
  wh : s.whole = true → s.begun = true
  snap : s.h.snap = sNone
theorem SgOk.zero : SgOk sg0 := ⟨fun h => (by cases h), fun h => (by cases h), rfl⟩
theorem bareH_iff (h : Hrd) : bareH h = true ↔ headOk h = true ∧ h.log.length ≤ 200 ∧ (h.log.length : Int) ≤ 1099511627776 - h.base ∧ logOk h.log h.bterm h.term = true := by
  unfold bareH; simp only [Bool.and_eq_true, decide_eq_true_eq, and_assoc]
theorem SgOk.grown {s s' : Sg} {x : Ety} (h : SgOk s) (hb : s.begun = true) (e : grownS s x = some s') : SgOk s' ∧ s'.begun = true := by
  unfold grownS at e
  split at e
  · rename_i hc
    cases e
    refine ⟨⟨fun _ => ?_, h.wh, h.snap⟩, hb⟩
    have h1 := (bareH_iff _).1 (h.bare hb)
    rw [bareH_iff]
    refine ⟨h1.1, by simp; omega, by simp; omega, ?_⟩
    show logOk (s.h.log ++ [x]) s.h.bterm s.h.term = true
    rw [logOk_app, h1.2.2.2, Bool.true_and, logOk, hc.2.2]; rfl
  · cases e
theorem SgOk.shorter {s s' : Sg} {n : Int} (h : SgOk s) (e : shorterS s n = some s') : SgOk s' ∧ s'.begun = s.begun := by
  unfold shorterS at e
  split at e
  · cases e
    refine ⟨⟨fun hb => ?_, h.wh, h.snap⟩, rfl⟩
    have h1 := (bareH_iff _).1 (h.bare hb)
    rw [bareH_iff]
    have hl : (s.h.log.take (n - s.h.base).toNat).length ≤ s.h.log.length := by rw [List.length_take]; omega
    exact ⟨h1.1, by show (s.h.log.take _).length ≤ _; omega, by show ((s.h.log.take _).length : Int) ≤ 1099511627776 - s.h.base; have := h1.2.2.1; omega, logOk_take h1.2.2.2 _⟩
  · cases e
end Go.Proofs.YtgpgcnmnfnnkjaaDoor
end

section
namespace Go.Proofs.YtgpgcnmnfnnkjaaDoor
open Go Go.RowKit

section
variable {P : Program} {t e u : TypeId} {w : World} {ops : Array Oper} {rest : List Oper} {o : Oper} {a : Act} {Q : Exit → Act → World → Prop}
/-- append(v, s...), s a string -/
theorem run_appS (ht : P.underlying t = some (.slice e)) (hu : P.underlying u = some .string) (hinf : (P.info? e).map (fun i => (i.zero, i.size, i.bytes)) = some (some (.int .u8 0), 1, 1)) (ty : TypeId)
    {B : Nat} {v : Value} {l : List UInt8} (own : OwnB w B e v l) {x : ByteArray} (hbytes : l.length + x.size ≤ 140737488355328) (hB : B ≤ w.heap.size) :
    ∃ v' w', (Builtin.append_ #[t, u] ty #[v, .string x]).run P w = .ok v' w' ∧ OwnB w' B e v' (l ++ x.data.toList) ∧ w.grownBy w' v.ownBlock ∧ Below B w w' := by
  obtain ⟨i, hi, hz, hsz, hby⟩ := info_parts hinf
  have hmax : l.length + x.size ≤ maxLen := by unfold maxLen; omega
  obtain ⟨v', w', hr, h2, h3, _⟩ := Lib.run_append_own_string (P := P) w B t u ty e i ht hu hi hz hsz hby v l.length _ own.1 x hmax hbytes hB
  have hsz2 : x.data.toList.length = x.size := by simp
  refine ⟨v', w', hr, OwnB.snoc (l' := x.data.toList) ⟨by rw [hsz2]; exact h2, fun y hy => ?_⟩, h3, below_grown h3 hB fun k hk => (own.1.lt k hk).1⟩
  rw [← List.map_append] at hy
  obtain ⟨_, _, rfl⟩ := List.mem_map.1 hy; rfl
theorem wpList_appS (ht : P.underlying t = some (.slice e)) (hu : P.underlying u = some .string) (hinf : (P.info? e).map (fun i => (i.zero, i.size, i.bytes)) = some (some (.int .u8 0), 1, 1)) (hgd : o.guard = none) {s y : Operand} (ho : o.op = .call { callee := .builtin .append, args := #[s, y], argTypes := #[t, u] })
    {B : Nat} {v : Value} {l : List UInt8} (own : OwnB w B e v l) (hs : a.eval s = v) {x : ByteArray} (hx : a.eval y = .string x) (hbytes : l.length + x.size ≤ 140737488355328) (hB : B ≤ w.heap.size)
    (h : ∀ v' w', OwnB w' B e v' (l ++ x.data.toList) → w.grownBy w' v.ownBlock → Below B w w' → wpList P ops Q rest (a.put o.dst v') w') : wpList P ops Q (o :: rest) a w := by
  obtain ⟨v', w', hr, h2, h3, h4⟩ := run_appS ht hu hinf o.type own hbytes hB
  refine wpList_plain hgd fun K hK => ?_
  unfold Oper.wp execOp
  simp only [ho, resolve, invoke, builtin, Sem.run_bind, Sem.run_pure, Result.andThen_ok, List.map_toArray, List.map_cons, List.map_nil, hs, hx, hr]
  exact hK _ _ (h v' w' h2 h3 h4)
end
theorem tBytesP : SlT Tryd.prog 64 5 1 1 := SlT.mk' (z := .int .u8 0) Tryd.underlying64 (by kernel_rfl) (by kernel_rfl) (by decide) (by decide)

set_option maxRecDepth 4000 in
set_option maxHeartbeats 1000000 in
theorem packMore (v : Value) (b : List UInt8) (R : Int) (r : Nat) (hR : R = (r : Int)) (w : World) (hv : Bytes w v b) (hb : b.length ≤ 35184372088832) (hr : r ≤ 35184372088832) :
    Calls Tryd.prog 89 #[v, .int .i64 R] w fun e w' => ∃ q, e = .returned q ∧ OwnB w' w.heap.size 5 q b ∧ Below w.heap.size w w' := by
  subst hR
  obtain ⟨p0, c0, rfl⟩ := hv.shape
  go_enter Tryd.func89, Tryd.ntmps89
  go_wp2_with (first
    | (at_make; refine wpList_mk tBytesP rfl rfl w.heap.size (b.length + r) rfl rfl (by simp) (by omega) (by unfold maxLen; omega) (Nat.le_refl _) ?_; intro v2 w2 own2 g2 b2)
    | (at_builtin; refine wpList_app tBytesP rfl rfl own2 rfl (Cells.ext hv b2) rfl (by omega) b2.size ?_; intro v3 w3 own3 g3 b3)
    | fail)
  go_ret
  exact ⟨_, rfl, OwnB.of own3 (by simp) (by simp), b2.trans b3⟩

/-- so many bytes are enough -/
def VI (f u : Nat) : Prop := 1 ≤ f ∧ f ≤ 10 ∧ u < 2 ^ (64 - 7 * (10 - f))
theorem VI.step {f u : Nat} (h : VI f u) (hu : 128 ≤ u) : VI (f - 1) (u / 128) ∧ vint f u = UInt8.ofNat (u % 128 + 128) :: vint (f - 1) (u / 128) := by
  obtain ⟨h1, h2, h3⟩ := h
  have h9 : 2 ≤ f := by
    rcases Nat.lt_or_ge f 2 with h | h
    · have : f = 1 := by omega
      subst this
      have : u < 2 := h3
      omega
    · exact h
  obtain ⟨f, rfl⟩ : ∃ g, f = g + 1 := ⟨f - 1, by omega⟩
  refine ⟨⟨by omega, by omega, ?_⟩, by rw [vint_big hu]; rfl⟩
  rw [Nat.div_lt_iff_lt_mul (by decide), show (128 : Nat) = 2 ^ 7 from rfl, ← Nat.pow_add]
  rw [show 64 - 7 * (10 - (f + 1 - 1)) + 7 = 64 - 7 * (10 - (f + 1)) from by omega]
  exact h3
theorem VI.last {f u : Nat} (h : VI f u) (hu : u < 128) : vint f u = [UInt8.ofNat u] := by
  obtain ⟨f, rfl⟩ : ∃ g, f = g + 1 := ⟨f - 1, by have := h.1; omega⟩
  exact vint_small hu
theorem VI.zig {n : Int} (h : -9223372036854775808 ≤ n) (h2 : n ≤ 9223372036854775807) : VI 10 (zig n) := ⟨by omega, by omega, by have := zig_lt h h2; simpa using this⟩
theorem byte_lit (x : UInt8) (w : World) (t : TypeId) (H : Nat) (hH : w.heap.size = H) : Bytes (w.alloc (.cells #[.int .u8 (x.toNat : Int)] t)) (.slice (some ⟨H, 0, none⟩) 1 1) [x] := by
  subst hH; exact litBytes w [x] t (0, 0) (by simp [maxLen])

theorem not_u64 (z : Nat) (h : z < 18446744073709551616) : bits .xor .u64 IntKind.u64.max (z : Int) = ((18446744073709551615 - z : Nat) : Int) := by
  have e : IntKind.u64.max = ((18446744073709551615 : Nat) : Int) := by decide
  rw [e, bits_xor_u64_nat _ _ (by decide) h]
  congr 1
  have h1 : (BitVec.allOnes 64 ^^^ BitVec.ofNat 64 z).toNat = 18446744073709551615 - z := by
    rw [BitVec.allOnes_xor, BitVec.toNat_not, BitVec.toNat_ofNat, Nat.mod_eq_of_lt (by simpa using h)]
  rw [BitVec.toNat_xor, BitVec.toNat_allOnes, BitVec.toNat_ofNat, Nat.mod_eq_of_lt (by simpa using h)] at h1
  exact h1
theorem or128 (z : Nat) : bits .or .u8 ((z : Int) % 256) 128 = ((UInt8.ofNat (z % 128 + 128)).toNat : Int) := by
  have hf : ∀ x : Fin 256, (x.val ||| 128) = x.val % 128 + 128 := by decide +kernel
  have h1 := hf ⟨z % 256, Nat.mod_lt _ (by decide)⟩
  have h2 := u8_or_nat (z % 256) 128 (Nat.mod_lt _ (by decide)) (by decide)
  rw [toNat_ofNat_lt (by have := Nat.mod_lt z (show 0 < 128 by decide); omega)]
  have e : ((z % 256 : Nat) : Int) = (z : Int) % 256 := by omega
  rw [← e, show (128 : Int) = ((128 : Nat) : Int) from rfl, h2, h1]
  congr 2
  show z % 256 % 128 = z % 128
  omega
set_option maxRecDepth 4000 in
set_option maxHeartbeats 1000000 in
theorem packNum (v : Value) (b : List UInt8) (n : Int) (w : World) (hv : Bytes w v b) (hb : b.length ≤ 35184372088000) (h1 : -9223372036854775808 ≤ n) (h2 : n ≤ 9223372036854775807) :
    Calls Tryd.prog 79 #[v, .int .i64 n] w fun e w' => ∃ q, e = .returned q ∧ OwnB w' w.heap.size 5 q (b ++ numB n) ∧ Below w.heap.size w w' := by
  have hvi := VI.zig h1 h2
  have hzl := zig_lt h1 h2
  have hz : Hid (if 0 ≤ n then (zig n : Int) = 2 * n else (zig n : Int) = -2 * n - 1) := by
    show if 0 ≤ n then (zig n : Int) = 2 * n else (zig n : Int) = -2 * n - 1
    unfold zig; split <;> omega
  have hnb : numB n = vint 10 (zig n) := rfl
  rw [hnb]
  clear hnb
  generalize zig n = z at *
  go_enter Tryd.func79, Tryd.ntmps79
  go_wp2_with fail
  with_reducible refine (packMore v b 10 10 rfl w hv (by omega) (by omega)).mono ?_
  rintro e w1 ⟨o1, rfl, own1, b1⟩
  have hs1 := b1.size
  obtain ⟨p1, c1, rfl⟩ := own1.bytes.shape
  go_wp2
  all_goals
    go_loopw [5, 6] (fun o u wr => ∃ (f z' : Nat) (l : List UInt8), u = .int .u64 (z' : Int) ∧ OwnB wr w.heap.size 5 o l ∧ Hid (VI f z') ∧ Hid (l ++ vint f z' = b ++ vint 10 z) ∧ Below w.heap.size w wr ∧ l.length ≤ 35184372088100) (fun _ u _ => (intOf u).toNat)
  case atStart => 
    have e1 : bits BinOp.xor IntKind.u64 IntKind.u64.max (IntKind.u64.wrap (IntKind.u64.wrap n * 2)) = (z : Int) := by
      have h := hz.out
      rw [if_neg (by omega)] at h
      have e : IntKind.u64.wrap (IntKind.u64.wrap n * 2) = ((18446744073709551615 - z : Nat) : Int) := by
        rw [IntKind.wrap_u64, IntKind.wrap_u64]; omega
      rw [e, not_u64 _ (by omega)]; omega
    exact ⟨10, z, b, by rw [e1], own1, hvi, rfl, b1, by omega⟩
  case atStart =>
    have e1 : IntKind.u64.wrap (IntKind.u64.wrap n * 2) = (z : Int) := by
      have h := hz.out
      rw [if_pos (by omega)] at h
      rw [IntKind.wrap_u64, IntKind.wrap_u64]; omega
    exact ⟨10, z, b, by rw [e1], own1, hvi, rfl, b1, by omega⟩
  all_goals
    clear own1 b1 hs1
    obtain ⟨f, z', l, rfl, own, hv2, hl, hb2, hll⟩ := hrel
    have hs2 := hb2.size
    obtain ⟨p2, c2, rfl⟩ := own.bytes.shape
    by_cases hc : 128 ≤ z'
    · obtain ⟨hst, hvs⟩ := VI.step hv2.out hc
      have e3 := Lib.hid (or128 z')
      have Hst := Lib.hid hst
      have Hvs := Lib.hid hvs
      have hz2 := hvi.2.2
      clear hst hvs hvi hz hzl h1 h2
      have hci : (128 : Int) ≤ (z' : Int) := by omega
      have lit : Bytes (wr.alloc (.cells #[.int .u8 (bits .or .u8 ((z' : Int) % 256) 128)] 5)) (.slice (some ⟨wr.heap.size, 0, none⟩) 1 1) [UInt8.ofNat (z' % 128 + 128)] := by rw [e3.out]; exact byte_lit (UInt8.ofNat (z' % 128 + 128)) wr _ _ rfl
      have ca := below_alloc wr (.cells #[.int .u8 (bits .or .u8 ((z' : Int) % 256) 128)] 5)
      have own2 := own.ext ca
      have hb3 := hb2.trans (ca.mono hs2)
      have hfl : l.length + 1 + (vint (f - 1) (z' / 128)).length ≤ 35184372088010 := by
        have h1 := congrArg List.length hl.out
        rw [Hvs.out] at h1
        simp only [List.length_append, List.length_cons] at h1
        have := vint_le 10 z
        omega
      go_wp2_with (first | (at_builtin; refine wpList_app tBytesP rfl rfl own2 rfl lit rfl (by simp; omega) hb3.size ?_; intro v4 w4 own4 g4 b4) | fail)
      have own5 := OwnB.snoc own4
      go_roundw
      case rel => exact ⟨f - 1, z' / 128, _, by go_num, own5, Hst.out, by show _ = _; rw [← hl.out, Hvs.out]; simp, hb3.trans b4, by simp; omega⟩
      case measure => simp [intOf]; omega
    · have hci : ¬ (128 : Int) ≤ (z' : Int) := by omega
      have hlast := VI.last hv2.out (by omega)
      have Hl := Lib.hid hlast
      have e3 : (z' : Int) = ((UInt8.ofNat z').toNat : Int) := by rw [toNat_ofNat_lt (by omega)]
      have lit : Bytes (wr.alloc (.cells #[.int .u8 (z' : Int)] 5)) (.slice (some ⟨wr.heap.size, 0, none⟩) 1 1) [UInt8.ofNat z'] := by rw [e3]; exact byte_lit (UInt8.ofNat z') wr _ _ rfl
      have ca := below_alloc wr (.cells #[.int .u8 (z' : Int)] 5)
      have own2 := own.ext ca
      have hb3 := hb2.trans (ca.mono hs2)
      clear hlast e3 hvi hz hzl h1 h2
      go_wp2_with (first | (at_builtin; refine wpList_app tBytesP rfl rfl own2 rfl lit rfl (by simp; omega) hb3.size ?_; intro v4 w4 own4 g4 b4) | fail)
      have own5 := OwnB.snoc own4
      go_ret
      exact ⟨_, rfl, by rw [← hl.out, Hl.out]; exact own5, hb3.trans b4⟩
end Go.Proofs.YtgpgcnmnfnnkjaaDoor
end
