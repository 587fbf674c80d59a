/- Frames as plain functions on bytes: one put behind others, the next one read. No program in sight. The write-ahead log, plain words: segments read, names, Open, Save on a disk. Walks of package wal: fits, bare, Right. Walks of package wal: bare, Right. Walks of package sum: On, Of, Seal, Open give what Crc says, for any bytes (Seal: of at most 2^47 - 8 places). -/
import Derived.Test.YtgpgcnmnfnnkjaaDoorGWalRuns18
import Derived.Test.YtgpgcnmnfnnkjaaDoorGWalRuns1
import Derived.Test.YtgpgcnmnfnnkjaaDoorGWalRuns4
import Derived.Lib.ItoaNum
import Derived.Test.YtgpgcnmnfnnkjaaDoorGWalRuns5
import Derived.Test.YtgpgcnmnfnnkjaaDoorProg
import Derived.BigQuiet
import Derived.Deep.QuietTactic
set_option linter.unusedVariables false
set_option linter.unusedSimpArgs false
section
namespace Go.Proofs.YtgpgcnmnfnnkjaaDoor
open Go Go.RowKit
namespace Frm
def head (p : List UInt8) : List UInt8 := Crc.le4 (BitVec.ofNat 32 p.length)
def none' (p : List UInt8) : Bool := decide (p.length < 1) || decide (131072 < p.length)
/-- a payload's frame; none of an empty one, none of one that is too long -/
def one (p : List UInt8) : List UInt8 := if none' p then [] else head p ++ p ++ Crc.le4 (Crc.on 0#32 (head p ++ p))
def put (b p : List UInt8) : List UInt8 := b ++ one p
/-- how long a payload the frame's beginning tells -/
def len (r : List UInt8) : Nat := (Crc.num r).toNat
/-- what is wrong with the frame at the beginning; 0: nothing -/
def err (r : List UInt8) : Nat :=
  if r.length < 4 then 3 else if len r = 0 ∨ 131072 < len r then 4 else if r.length < len r + 8 then 3
  else if Crc.on 0#32 (r.take (4 + len r)) = Crc.num (r.drop (4 + len r)) then 0 else 6
def pay (r : List UInt8) : List UInt8 := (r.drop 4).take (len r)
def errAt (b : List UInt8) (a : Int) : Nat := if a < 0 ∨ (b.length : Int) < a then 1 else err (b.drop a.toNat)
def payAt (b : List UInt8) (a : Int) : List UInt8 := if errAt b a = 0 then pay (b.drop a.toNat) else []
def toAt (b : List UInt8) (a : Int) : Int := if errAt b a = 0 then a + 8 + len (b.drop a.toNat) else 0
theorem err_ok {r : List UInt8} (h : err r = 0) : 0 < len r ∧ len r ≤ 131072 ∧ len r + 8 ≤ r.length ∧ Crc.on 0#32 (r.take (4 + len r)) = Crc.num (r.drop (4 + len r)) := by
  unfold err at h
  by_cases h1 : r.length < 4
  · rw [if_pos h1] at h; cases h
  · rw [if_neg h1] at h
    by_cases h2 : len r = 0 ∨ 131072 < len r
    · rw [if_pos h2] at h; cases h
    · rw [if_neg h2] at h
      by_cases h3 : r.length < len r + 8
      · rw [if_pos h3] at h; cases h
      · rw [if_neg h3] at h
        by_cases h4 : Crc.on 0#32 (r.take (4 + len r)) = Crc.num (r.drop (4 + len r))
        · exact ⟨by omega, by omega, by omega, h4⟩
        · rw [if_neg h4] at h; cases h
theorem pay_length {r : List UInt8} (h : err r = 0) : (pay r).length = len r := by
  obtain ⟨_, _, h3, _⟩ := err_ok h
  unfold pay; rw [List.length_take, List.length_drop]; omega

/-- all that is whole from a place on, and where that ends -/
def scan : Nat → List UInt8 → List (List UInt8) × Nat
  | 0, _ => ([], 0)
  | f + 1, r => if err r = 0 then let s := scan f (r.drop (len r + 8)); (pay r :: s.1, len r + 8 + s.2) else ([], 0)
/-- more fuel changes nothing -/
theorem scan_fuel (f g : Nat) (r : List UInt8) (hf : r.length < f) (hg : r.length < g) : scan f r = scan g r := by
  induction f generalizing g r with
  | zero => omega
  | succ f ih =>
    cases g with
    | zero => omega
    | succ g =>
      unfold scan
      by_cases h : err r = 0
      · rw [if_pos h, if_pos h]
        obtain ⟨_, _, h3, _⟩ := err_ok h
        rw [ih g (r.drop (len r + 8)) (by rw [List.length_drop]; omega) (by rw [List.length_drop]; omega)]
      · rw [if_neg h, if_neg h]
def all (r : List UInt8) : List (List UInt8) × Nat := scan (r.length + 1) r
theorem all_ok {r : List UInt8} (h : err r = 0) : all r = (pay r :: (all (r.drop (len r + 8))).1, len r + 8 + (all (r.drop (len r + 8))).2) := by
  obtain ⟨_, _, h3, _⟩ := err_ok h
  unfold all
  rw [scan, if_pos h]
  rw [scan_fuel r.length ((r.drop (len r + 8)).length + 1) _ (by rw [List.length_drop]; omega) (by omega)]
theorem all_bad {r : List UInt8} (h : err r ≠ 0) : all r = ([], 0) := by unfold all; rw [scan, if_neg h]

theorem num_append {l m : List UInt8} (h : 4 ≤ l.length) : Crc.num (l ++ m) = Crc.num l := by
  match l, h with
  | a :: b :: c :: d :: l, _ => rfl
theorem num_take {l : List UInt8} {k : Nat} (h : 4 ≤ k) (h4 : 4 ≤ l.length) : Crc.num (l.take k) = Crc.num l := by
  conv => rhs; rw [← List.take_append_drop k l]
  rw [num_append (by rw [List.length_take]; omega)]
end Frm
end Go.Proofs.YtgpgcnmnfnnkjaaDoor
end

section
namespace Go.Proofs.YtgpgcnmnfnnkjaaDoor
open Go Go.RowKit Go.PlainAid
/-- a segment read -/
def readS : Nat → List UInt8 → Sg → Sg
  | 0, _, s => s
  | f + 1, b, s => if Frm.errAt b s.size = 0 then
      match takeS s (Frm.payAt b s.size) with
      | some t => readS f b { t with size := (Frm.toAt b s.size).toNat }
      | none => s
    else s
def readSeg (b : List UInt8) : Sg := readS (b.length + 1) b sg0
def hdW : List UInt8 := [119, 97, 108, 46]
/-- a segment's name; the number of one by its name, 0: it is none -/
def nameW (n : Nat) : ByteArray := ⟨(hdW ++ Lib.decDigits n).toArray⟩
def digB (c : UInt8) : Bool := decide (48 ≤ c.toNat) && decide (c.toNat ≤ 57)
def valW (l : List UInt8) (n : Nat) : Nat := l.foldl (fun n c => 10 * n + (c.toNat - 48)) n
/-- what the digits come to, n already there; 0 where one is none -/
def digsW : List UInt8 → Nat → Nat
  | [], n => n
  | c :: r, n => if digB c then digsW r (10 * n + (c.toNat - 48)) else 0
def numW (s : ByteArray) : Nat :=
  if s.size ≤ 4 ∨ (bytesOf s).take 4 ≠ hdW ∨ 18 < s.size ∨ (bytesOf s)[4]? = some 48 then 0 else digsW ((bytesOf s).drop 4) 0
/-- where a number goes, looked for from place k downwards -/
def posR (out : List Nat) (n : Nat) : Nat → Nat
  | 0 => 0
  | k + 1 => if n < out.getD k 0 then posR out n k else k + 1
def insW (out : List Nat) (n : Nat) : List Nat := out.take (posR out n out.length) ++ n :: out.drop (posR out n out.length)
def segStep (out : List Nat) (s : ByteArray) : List Nat := if numW s = 0 then out else insW out (numW s)
def segsW (l : List ByteArray) : List Nat := l.foldl segStep []
structure Wl where
  n : Nat
  h : Hrd
  down : Bool
def fileW (d : Dk) (n : Nat) : List UInt8 := (readD d (nameW n)).getD []
/-- the first whole one of some segments -/
def pickW (d : Dk) : List Nat → Option (Nat × Sg)
  | [] => none
  | k :: r => if (readSeg (fileW d k)).whole then some (k, readSeg (fileW d k)) else pickW d r
/-- a change, and what comes behind it where it was done -/
def thenD (r : Int × Dk) (f : Dk → Int × Dk) : Int × Dk := if r.1 = 0 then f r.2 else r
def removesD : List Nat → Nat → Dk → Int × Dk
  | [], _, d => (0, d)
  | k :: r, n, d => if k = n then removesD r n d else thenD (removeD d (nameW k)) (removesD r n)
def cutS (d : Dk) (n : Nat) (s : Sg) : Int × Dk := if 0 < n ∧ s.size < (fileW d n).length then cutD d (nameW n) s.size else (0, d)
def cleanD (d : Dk) (l : List Nat) (n : Nat) (s : Sg) : Int × Dk :=
  thenD (cutS d n s) fun d => thenD (removesD l n d) fun d => if 0 < n then syncD d (nameW n) else (0, d)
def hrdV : Hrd := { hrd0 with vote := -1 }
/-- which segment counts; 0: none -/
def pickN (d : Dk) : Nat × Sg := (pickW d (segsW (d.fs.map (·.name))).reverse).getD (0, sg0)
def openH (d : Dk) : Hrd := if (pickN d).1 = 0 then hrdV else (pickN d).2.h
def cleanW (d : Dk) : Int × Dk := cleanD d (segsW (d.fs.map (·.name))) (pickN d).1 (pickN d).2
def openW (d : Dk) : Option Wl := if (cleanW d).1 = 0 then some ⟨(pickN d).1, openH d, false⟩ else none
/-- Save -/
def bareOf (h : Hrd) : Hrd := { h with snap := sNone }
def etyEq (x y : Ety) : Bool := decide (x.term = y.term) && decide (x.members = y.members) && eqS x.data y.data
def commonE : List Ety → List Ety → Nat
  | x :: r, y :: s => if etyEq x y then commonE r s + 1 else 0
  | _, _ => 0
def sameW (x h : Hrd) : Bool :=
  decide (h.term = x.term) && decide (h.vote = x.vote) && decide (h.base = x.base) && decide (h.bterm = x.bterm) && decide (h.members = x.members) &&
  decide (h.log.length = x.log.length) && decide (commonE h.log x.log = h.log.length)
def anewW (d : Dk) (w : Wl) (h : Hrd) : Bool :=
  decide (w.n = 0) || decide (8192 < (fileW d w.n).length) || decide (h.base ≠ w.h.base) || decide (h.bterm ≠ w.h.bterm) || decide (h.members ≠ w.h.members) ||
  decide (h.term < w.h.term) || (decide (h.term = w.h.term) && decide (w.h.vote ≠ -1) && decide (h.vote ≠ w.h.vote))
def numsB : List Int → List UInt8
  | [] => []
  | n :: r => numB n ++ numsB r
def recB (l : List Int) : List UInt8 := Frm.one (numsB l)
def etyB (x : Ety) : List UInt8 := Frm.one (numsB [2, x.term, x.members] ++ textB (bytesOf x.data))
def etysB (l : List Ety) : List UInt8 := l.flatMap etyB
def layB (h : Hrd) : List UInt8 := recB [1, h.term, h.vote, h.base, h.bterm, h.members] ++ etysB h.log ++ recB [3]
def moreB (x h : Hrd) : List UInt8 :=
  (if h.term ≠ x.term ∨ h.vote ≠ x.vote then recB [4, h.term, h.vote] else []) ++
  (if commonE h.log x.log < x.log.length then recB [5, h.base + commonE h.log x.log] else []) ++ etysB (h.log.drop (commonE h.log x.log))
def writeD (d : Dk) (n : Nat) (b : List UInt8) : Int × Dk := thenD (appendD d (nameW n) b) fun d => syncD d (nameW n)
/-- lay anew: the answer, the segment's number, the disk -/
def layW (d : Dk) (n : Nat) (h : Hrd) : Int × Nat × Dk :=
  let r := writeD d (n + 1) (layB h)
  if r.1 = 0 then (if n = 0 then (0, 1, r.2) else let q := removeD r.2 (nameW n); (q.1, n + 1, q.2)) else (r.1, n, r.2)
def keepW (w : Wl) (h : Hrd) (r : Int × Nat × Dk) : Int × Wl × Dk := if r.1 = 0 then (0, ⟨r.2.1, bareOf h, false⟩, r.2.2) else (r.1, ⟨r.2.1, w.h, true⟩, r.2.2)
def saveW (d : Dk) (w : Wl) (h : Hrd) : Int × Wl × Dk :=
  if rightH h = false then (1, w, d)
  else if w.down = true then (18, w, d)
  else if 0 < w.n ∧ sameW w.h h = true then (0, w, d)
  else if anewW d w h = false then keepW w h ((writeD d w.n (moreB w.h h)).1, w.n, (writeD d w.n (moreB w.h h)).2)
  else if 14 < (Lib.decDigits (w.n + 1)).length then (14, w, d)
  else keepW w h (layW d w.n h)
end Go.Proofs.YtgpgcnmnfnnkjaaDoor
end

section
namespace Go.Proofs.YtgpgcnmnfnnkjaaDoor
open Go Go.RowKit Go.PlainAid

def etyE : Enc Ety := ⟨3, fun x => [.int .i64 x.term, .int .i64 x.members, .string x.data], fun _ => rfl, fun _ v hv => by
  simp only [List.mem_cons, List.not_mem_nil, or_false] at hv; rcases hv with rfl | rfl | rfl <;> rfl, by decide⟩
def etyV (x : Ety) : Value := .agg #[.int .i64 x.term, .int .i64 x.members, .string x.data]
@[reducible] def hrdA (h : Hrd) (v : Value) : Value := .agg #[.int .i64 h.term, .int .i64 h.vote, .int .i64 h.base, .int .i64 h.bterm, .int .i64 h.members, .string h.snap, v]
theorem tEty : SlT Tryd.prog 28 36 3 32 := SlT.mk' (z := .agg #[.int .i64 0, .int .i64 0, .string ⟨#[]⟩]) Tryd.underlying28 (by kernel_rfl) rfl (by decide) (by decide)
theorem ety3 {w : World} {b off n c : Nat} {l : List Ety} (h : Rd etyE w (.slice (some ⟨b, off, none⟩) n c) l) {k : Nat} (hk : k < l.length) :
    w.cell? ⟨b, off + k * 3, none⟩ = some (.int .i64 l[k].term) ∧ w.cell? ⟨b, off + k * 3 + 1, none⟩ = some (.int .i64 l[k].members) ∧ w.cell? ⟨b, off + k * 3 + 2, none⟩ = some (.string l[k].data) :=
  ⟨h.at_ hk 0 (by decide), h.at_ hk 1 (by decide), h.at_ hk 2 (by decide)⟩
theorem str_none {s : ByteArray} (h : s.size = 0) : s.toList.isEmpty = true := by
  rw [ByteArray.toList_eq]
  have : s.data.toList = [] := List.length_eq_zero_iff.1 (by simpa using h)
  rw [this]; rfl
theorem str_some {s : ByteArray} (h : ¬ s.size = 0) : s.toList.isEmpty = false := by
  rw [ByteArray.toList_eq]
  cases e : s.data.toList with
  | nil => exact absurd (by have := congrArg List.length e; simpa using this) h
  | cons => rfl
theorem fitsE_iff (x : Ety) (b t : Int) : fitsE x b t = true ↔ (1 ≤ x.term ∧ b ≤ x.term ∧ x.term ≤ t ∧ 0 ≤ x.members ∧ x.members ≤ 127 ∧ (x.data.size : Int) ≤ 1100 ∧ (x.members = 0 ∨ x.data.size = 0)) := by
  unfold fitsE
  simp only [Bool.and_eq_true, Bool.or_eq_true, decide_eq_true_eq, and_assoc]
  omega
theorem bool_of {a : Bool} {P : Prop} {b : Bool} (hi : b = true ↔ P) (h : a = true ↔ P) : a = b := by
  cases a <;> cases b <;> simp_all

set_option maxRecDepth 4000 in
set_option maxHeartbeats 1000000 in
theorem walFits (x : Ety) (b t : Int) (w : World) :
    Calls Tryd.prog 77 #[etyV x, .int .i64 b, .int .i64 t] w fun e w' => e = .returned (.bool (fitsE x b t)) ∧ Below w.heap.size w w' := by
  have Hf := Lib.hid (fitsE_iff x b t)
  generalize fitsE x b t = r at *
  unfold etyV
  by_cases hd : x.data.size = 0 <;> cases d1 : (x.members == 0)
  all_goals
    first | have he := str_none hd | have he := str_some hd
    simp only [beq_iff_eq, beq_eq_false_iff_ne, ne_eq] at d1
    have d2 : (x.members == 0) = decide (x.members = 0) := rfl
    first | rw [decide_eq_true d1] at d2 | rw [decide_eq_false d1] at d2
    go_enter Tryd.func77, Tryd.ntmps77
    go_wp2
    all_goals
      go_ret
      refine ⟨ret_bool (bool_of Hf.out ?_).symm.symm, below_alloc _ _⟩
      first
      | (simp; done)
      | (simp; omega)
      | (constructor <;> intro h <;> simp_all <;> omega)
end Go.Proofs.YtgpgcnmnfnnkjaaDoor
end

section
namespace Go.Proofs.YtgpgcnmnfnnkjaaDoor
open Go Go.RowKit Go.PlainAid

theorem lastT_snoc (l : List Ety) (x : Ety) (b : Int) : lastT (l ++ [x]) b = x.term := by unfold lastT; simp
theorem logOk_snoc {l : List Ety} {b t : Int} {k : Nat} (hk : k < l.length) (h : logOk (l.take k) b t = true) : logOk (l.take (k + 1)) b t = fitsE l[k] (lastT (l.take k) b) t := by
  rw [List.take_succ_eq_append_getElem hk, logOk_app, h, Bool.true_and, logOk, logOk, Bool.and_true]
theorem bareH_all (h : Hrd) : bareH h = true ↔ ((0 ≤ h.term ∧ h.term ≤ 1099511627776 ∧ -1 ≤ h.vote ∧ h.vote < 7 ∧ 1 ≤ h.members ∧ h.members ≤ 127 ∧ 0 ≤ h.base ∧ h.base ≤ 1099511627776 ∧ 0 ≤ h.bterm ∧ h.bterm ≤ h.term ∧ (h.bterm = 0 ↔ h.base = 0)) ∧ h.log.length ≤ 200 ∧ (h.log.length : Int) ≤ 1099511627776 - h.base ∧ logOk h.log h.bterm h.term = true) := by
  rw [bareH_iff]
  unfold headOk
  simp only [Bool.and_eq_true, decide_eq_true_eq, beq_iff_eq, and_assoc, decide_eq_decide]
/-- a condition of one of the heads does not hold -/
theorem bare_no {h : Hrd} {b : Bool} (e : bareH h = b) (n : ¬ ((0 ≤ h.term ∧ h.term ≤ 1099511627776 ∧ -1 ≤ h.vote ∧ h.vote < 7 ∧ 1 ≤ h.members ∧ h.members ≤ 127 ∧ 0 ≤ h.base ∧ h.base ≤ 1099511627776 ∧ 0 ≤ h.bterm ∧ h.bterm ≤ h.term ∧ (h.bterm = 0 ↔ h.base = 0)) ∧ h.log.length ≤ 200 ∧ (h.log.length : Int) ≤ 1099511627776 - h.base)) : false = b := by
  subst e
  symm
  rw [Bool.eq_false_iff]
  intro hh
  have h2 := (bareH_all h).1 hh
  exact n ⟨h2.1, h2.2.1, h2.2.2.1⟩
theorem bare_bad {h : Hrd} {b : Bool} (e : bareH h = b) {k : Nat} (n : logOk (h.log.take k) h.bterm h.term = false) : false = b := by
  subst e
  symm
  rw [Bool.eq_false_iff]
  intro hh
  have h2 := logOk_take ((bareH_all h).1 hh).2.2.2 k
  rw [n] at h2; cases h2

set_option maxRecDepth 4000 in
set_option maxHeartbeats 4000000 in
theorem walBare (h : Hrd) (v : Value) (w : World) (hv : Rd etyE w v h.log) :
    Calls Tryd.prog 53 #[hrdA h v] w fun e w' => e = .returned (.bool (bareH h)) ∧ Below w.heap.size w w' := by
  obtain ⟨p, cap, rfl⟩ := hv.shape
  have hmax := hv.le
  unfold maxLen at hmax
  obtain ⟨B, hB⟩ : ∃ B, bareH h = B := ⟨_, rfl⟩
  rw [hB]
  have HB := Lib.hid hB
  have Hok := Lib.hid (fun k => bare_bad hB (k := k))
  have Hyes := Lib.hid (bareH_all h)
  clear hB
  have hxor : (!((h.bterm == 0) == (h.base == 0))) = true ↔ ¬ (h.bterm = 0 ↔ h.base = 0) := by
    have a1 : (h.bterm == 0) = decide (h.bterm = 0) := rfl
    have a2 : (h.base == 0) = decide (h.base = 0) := rfl
    rw [a1, a2]
    by_cases x : h.bterm = 0 <;> by_cases y : h.base = 0 <;> simp [x, y]
  have Hxor := Lib.hid hxor
  clear hxor
  go_enter Tryd.func53, Tryd.ntmps53
  go_wp2
  case' _ => skip
  all_goals first
    | (go_ret
       refine ⟨ret_bool (bare_no HB.out (fun hn => ?_)), below_alloc _ _⟩
       obtain ⟨⟨x1, x2, x3, x4, x5, x6, x7, x8, x9, x10, x11⟩, x12, x13⟩ := hn
       first | omega | (rcases (by assumption : (((h.base < 0 ∨ 1099511627776 < h.base) ∨ h.bterm < 0) ∨ h.term < h.bterm) ∨ (!((h.bterm == 0) == (h.base == 0))) = true) with q | q; omega; exact Hxor.out.1 q x11))
    | skip
  have hq : ((((0 ≤ h.base ∧ h.base ≤ 1099511627776) ∧ 0 ≤ h.bterm) ∧ h.bterm ≤ h.term) ∧ (!((h.bterm == 0) == (h.base == 0))) = false) := by assumption
  have hx : h.bterm = 0 ↔ h.base = 0 := Decidable.not_not.1 (fun hn => by have := Hxor.out.2 hn; rw [hq.2] at this; cases this)
  have hh : (0 ≤ h.term ∧ h.term ≤ 1099511627776 ∧ -1 ≤ h.vote ∧ h.vote < 7 ∧ 1 ≤ h.members ∧ h.members ≤ 127 ∧ 0 ≤ h.base ∧ h.base ≤ 1099511627776 ∧ 0 ≤ h.bterm ∧ h.bterm ≤ h.term ∧ (h.bterm = 0 ↔ h.base = 0)) ∧ h.log.length ≤ 200 ∧ (h.log.length : Int) ≤ 1099511627776 - h.base := ⟨⟨by omega, by omega, by omega, by omega, by omega, by omega, by omega, by omega, by omega, by omega, hx⟩, by omega, by omega⟩
  have Hh := Lib.hid hh
  clear hq hx hh
  have hW : (w.alloc (.cells #[.int .i64 h.term, .int .i64 h.vote, .int .i64 h.base, .int .i64 h.bterm, .int .i64 h.members, .string h.snap, .slice p h.log.length cap] 30)).heap.size = w.heap.size + 1 := by simp
  have cell0 : (w.alloc (.cells #[.int .i64 h.term, .int .i64 h.vote, .int .i64 h.base, .int .i64 h.bterm, .int .i64 h.members, .string h.snap, .slice p h.log.length cap] 30)).cell? ⟨w.heap.size, 0, none⟩ = some (.int .i64 h.term) := (Blk.new w _ _).cell 0 _ rfl
  have hvW := hv.ext (below_alloc w (.cells #[.int .i64 h.term, .int .i64 h.vote, .int .i64 h.base, .int .i64 h.bterm, .int .i64 h.members, .string h.snap, .slice p h.log.length cap] 30))
  have hbW := below_alloc w (.cells #[.int .i64 h.term, .int .i64 h.vote, .int .i64 h.base, .int .i64 h.bterm, .int .i64 h.members, .string h.snap, .slice p h.log.length cap] 30)
  generalize (w.alloc (.cells #[.int .i64 h.term, .int .i64 h.vote, .int .i64 h.base, .int .i64 h.bterm, .int .i64 h.members, .string h.snap, .slice p h.log.length cap] 30)) = W at *
  go_loopw [3, 81] (fun b i wr => ∃ k : Nat, k ≤ h.log.length ∧ i = .int .i64 k ∧ b = .int .i64 (lastT (h.log.take k) h.bterm) ∧ Hid (logOk (h.log.take k) h.bterm h.term = true) ∧ Below W.heap.size W wr) (fun _ i _ => h.log.length - (intOf i).toNat)
  case atStart => exact ⟨0, by omega, rfl, rfl, rfl, Below.refl _ _⟩
  case round =>
    obtain ⟨k, hk, rfl, rfl, hlog, hb⟩ := hrel
    have hbw := hbW.trans (hb.mono (by omega))
    by_cases hlt : k < h.log.length
    · have hvr := hvW.ext hb
      obtain ⟨bb, off, rfl⟩ := Rd.blk hvr (by omega)
      obtain ⟨c0, c1, c2⟩ := ety3 hvr hlt
      have t0 : wr.cell? ⟨w.heap.size, 0, none⟩ = some (.int .i64 h.term) := by rw [hb.cell (p := ⟨w.heap.size, 0, none⟩) (by show w.heap.size < _; omega)]; exact cell0
      have hi : (k : Int) < (h.log.length : Int) := by omega
      have hi0 : (0 : Int) ≤ (k : Int) := by omega
      have hsz := hb.size
      have hsnoc := Lib.hid (logOk_snoc hlt hlog.out)
      have hlast : lastT (h.log.take (k + 1)) h.bterm = (h.log[k]).term := by rw [List.take_succ_eq_append_getElem hlt, lastT_snoc]
      have Hlast := Lib.hid hlast
      have hne : w.heap.size ≠ wr.heap.size := by omega
      clear hlast cell0 hvW hbW
      generalize h.log[k] = x at *
      generalize lastT (h.log.take k) h.bterm = T at *
      have ca := below_alloc wr (.cells #[.int .i64 x.term, .int .i64 x.members, .string x.data] 36)
      have t1 : (wr.alloc (.cells #[.int .i64 x.term, .int .i64 x.members, .string x.data] 36)).cell? ⟨w.heap.size, 0, none⟩ = some (.int .i64 h.term) := by rw [ca.cell (p := ⟨w.heap.size, 0, none⟩) (by show w.heap.size < _; omega)]; exact t0
      go_wp2_with fail
      refine (walFits x T h.term _).mono ?_
      rintro e w2 ⟨rfl, b2⟩
      have b12 := ca.trans (b2.mono (by simp))
      have k0 := (Blk.new wr #[.int .i64 x.term, .int .i64 x.members, .string x.data] 36).ext b2
      have k0 := k0.cell 0 _ rfl
      cases hf : fitsE x T h.term with
      | false =>
        go_wp2_with fail
        go_ret
        exact ⟨ret_bool (Hok.out (k + 1) (by rw [hsnoc.out, hf])), hbw.trans (b12.mono hbw.size)⟩
      | true =>
        go_wp2_with fail
        go_roundw
        case rel => exact ⟨k + 1, by omega, by go_num, by rw [Hlast.out], by show _ = _; rw [hsnoc.out, hf], hb.trans (b12.mono hsz)⟩
        case measure => simp [intOf]; omega
    · have hke : k = h.log.length := by omega
      have hi : ¬ (k : Int) < (h.log.length : Int) := by omega
      have Hk := Lib.hid hke
      clear hke
      go_wp2
      go_ret
      have hl := hlog.out
      rw [Hk.out, List.take_of_length_le (Nat.le_refl _)] at hl
      have hB := Hyes.out.2 ⟨Hh.out.1, Hh.out.2.1, Hh.out.2.2, hl⟩
      rw [HB.out] at hB
      exact ⟨ret_bool hB.symm, hbw⟩
end Go.Proofs.YtgpgcnmnfnnkjaaDoor
end

section
namespace Go.Proofs.YtgpgcnmnfnnkjaaDoor
open Go Go.RowKit

theorem tBytesF : SlT Tryd.prog 64 5 1 1 := SlT.mk' (z := .int .u8 0) Tryd.underlying64 (by kernel_rfl) (by kernel_rfl) (by decide) (by decide)

set_option maxHeartbeats 400000 in
theorem sumOn (c : BitVec 32) (v : Value) (l : List UInt8) (w : World) (hb : Bytes w v l) :
   Calls Tryd.prog 87 #[.int .u32 (c.toNat : Int), v] w fun e w' => e = .returned (.int .u32 ((Crc.on c l).toNat : Int)) ∧ w = w' := by
  obtain ⟨p, cap, rfl, h1, h2, h3, h4⟩ := hb.form
  unfold maxLen at h2
  clear hb
  go_enter Tryd.func87, Tryd.ntmps87
  go_wp2
  go_loop [5, 13] (fun s i => ∃ k : Nat, k ≤ l.length ∧ i = .int .i64 k ∧ s = .int .u32 ((Crc.fold (Crc.inv c) (l.take k)).toNat : Int)) (fun _ i => l.length - (intOf i).toNat)
  case atStart => exact ⟨0, by omega, rfl, rfl⟩
  case round =>
    obtain ⟨k, hk, rfl, rfl⟩ := hrel
    by_cases hlt : k < l.length
    · obtain ⟨b, off, rfl, hc⟩ := h4 (by omega)
      replace hc := hc k hlt
      clear h3 h4
      have hsn := Lib.hid (Crc.fold_snoc (Crc.inv c) l k hlt)
      go_wp2
      generalize Crc.fold (Crc.inv c) (List.take k l) = s0 at *
      generalize l[k] = x at *
      go_loop [5, 21] (fun s j => ∃ m : Nat, m ≤ 8 ∧ j = .int .i64 m ∧ s = .int .u32 ((Crc.steps m (Crc.mix s0 x)).toNat : Int)) (fun _ j => 8 - (intOf j).toNat)
      case atStart => exact ⟨0, by omega, rfl, rfl⟩
      case round =>
        obtain ⟨m, hm, rfl, rfl⟩ := hrel
        by_cases hlm : m < 8
        · generalize hs : Crc.steps m (Crc.mix s0 x) = t
          have Hs := Lib.hid hs
          clear hs
          by_cases hb : (((Crc.low t).toNat : Int) == 1) = true
          · go_wp2
            go_round
            case rel => exact ⟨m + 1, by omega, by go_num, by simp [Crc.steps, Hs.out, Crc.step]; simp at hb; rw [if_pos (by omega)]⟩
            case measure => simp [intOf]; omega
          · have hb' : (((Crc.low t).toNat : Int) == 1) = false := by simpa using hb
            clear hb
            go_wp2
            go_round
            case rel => exact ⟨m + 1, by omega, by go_num, by simp [Crc.steps, Hs.out, Crc.step]; simp at hb'; rw [if_neg (by omega)]⟩
            case measure => simp [intOf]; omega
        · have : m = 8 := by omega
          subst this
          go_wp2
          go_round
          case rel => exact ⟨k + 1, by omega, by go_num, by rw [hsn.out]; rfl⟩
          case measure => simp [intOf]; omega
    · go_wp2
      go_ret
      exact ⟨by rw [List.take_of_length_le (by omega)]; rfl, rfl⟩

/-- a slice of slices of bytes -/
def Parts (w : World) (v : Value) (ls : List (List UInt8)) : Prop :=
  ∃ vs : List Value, Cells w 1 v ls.length vs ∧ vs.length = ls.length ∧ ∀ (i : Nat) (v : Value) (l : List UInt8), vs[i]? = some v → ls[i]? = some l → Bytes w v l

set_option maxHeartbeats 400000 in
theorem sumOf (v : Value) (ls : List (List UInt8)) (w : World) (hb : Parts w v ls) :
   Calls Tryd.prog 70 #[v] w fun e w' => e = .returned (.int .u32 ((Crc.parts 0#32 ls).toNat : Int)) ∧ w = w' := by
  obtain ⟨vs, hb, hl, hbs⟩ := hb
  obtain ⟨p, cap, rfl, h1, h2, h3, h4⟩ := hb.form
  unfold maxLen at h2
  have Hl := Lib.hid hl
  clear hb hl
  go_enter Tryd.func70, Tryd.ntmps70
  go_wp2
  go_loop [3, 8] (fun s i => ∃ k : Nat, k ≤ ls.length ∧ i = .int .i64 k ∧ s = .int .u32 ((Crc.parts 0#32 (ls.take k)).toNat : Int)) (fun _ i => ls.length - (intOf i).toNat)
  case atStart => exact ⟨0, by omega, rfl, rfl⟩
  case round =>
    obtain ⟨k, hk, rfl, rfl⟩ := hrel
    by_cases hlt : k < ls.length
    · obtain ⟨b, off, rfl, hc⟩ := h4 (by omega)
      have hkv : k < vs.length := by rw [Hl.out]; exact hlt
      replace hc := hc k vs[k] (by simp)
      have hb := hbs k vs[k] ls[k] (by simp) (by simp)
      clear h3 h4 hbs
      have hsn := Lib.hid (Crc.parts_snoc 0#32 ls k hlt)
      generalize Crc.parts 0#32 (ls.take k) = s0 at *
      generalize vs[k] = x at *
      go_wp2_with fail
      with_reducible refine (sumOn s0 x ls[k] _ hb).mono ?_
      rintro e w' ⟨rfl, rfl⟩
      go_wp2
      go_round
      case rel => exact ⟨k + 1, by omega, by go_num, by rw [hsn.out]⟩
      case measure => simp [intOf]; omega
    · go_wp2
      go_ret
      exact ⟨by rw [List.take_of_length_le (by omega)]; rfl, rfl⟩

theorem parts_one {w : World} {v : Value} {l : List UInt8} (h : Bytes w v l) (B : Nat) (hB : B = w.heap.size) (e : TypeId) :
    Parts (w.alloc (.cells #[v] e)) (.slice (some ⟨B, 0, none⟩) 1 1) [l] := by
  subst hB
  have hx : Below w.heap.size w (w.alloc (.cells #[v] e)) := (Below.refl _ _).alloc (Nat.le_refl _) _
  have h1 := World.ownsRow_lit (base := 0) (e := e) (size := 1) w #[v] 1 (by simp) (by unfold maxLen; omega) rfl
  have hv : v.oneCell' = true := by obtain ⟨p, cap, rfl, _⟩ := h.form; rfl
  refine ⟨[v], Own.cells ⟨h1, by simpa using hv⟩, rfl, fun i v' l' hv hl => ?_⟩
  match i, hv, hl with
  | 0, hv, hl =>
    simp at hv hl; subst hv; subst hl
    exact h.ext hx

/-- values that read as lists of bytes, one by one -/
def BytesAll (w : World) : List Value → List (List UInt8) → Prop
  | [], [] => True
  | v :: vs, l :: ls => Bytes w v l ∧ BytesAll w vs ls
  | _, _ => False
theorem BytesAll.get {w : World} : ∀ {vs : List Value} {ls : List (List UInt8)}, BytesAll w vs ls → vs.length = ls.length ∧ ∀ (i : Nat) (v : Value) (l : List UInt8), vs[i]? = some v → ls[i]? = some l → Bytes w v l
  | [], [], _ => ⟨rfl, fun i v l h => by simp at h⟩
  | v :: vs, l :: ls, h => by
    obtain ⟨h1, h2⟩ := BytesAll.get h.2
    refine ⟨by simp [h1], fun i v' l' hv hl => ?_⟩
    cases i with
    | zero => simp at hv hl; subst hv; subst hl; exact h.1
    | succ i => exact h2 i v' l' (by simpa using hv) (by simpa using hl)
  | [], _ :: _, h => h.elim
  | _ :: _, [], h => h.elim
theorem parts_lit {w : World} {vs : List Value} {ls : List (List UInt8)} (h : BytesAll w vs ls) (t : TypeId) {B n : Nat} (hB : B = w.heap.size) (hn : n = ls.length) (hm : n ≤ maxLen) :
    Parts (w.alloc (.cells vs.toArray t)) (.slice (some ⟨B, 0, none⟩) n n) ls := by
  subst hB; subst hn
  obtain ⟨h1, h2⟩ := h.get
  have hone : ∀ u ∈ vs, u.oneCell' = true := by
    intro u hu
    obtain ⟨i, hi, rfl⟩ := List.getElem_of_mem hu
    obtain ⟨p, cap, hq⟩ := (h2 i vs[i] (ls[i]'(by omega)) (by simp) (by simp)).shape
    rw [hq]; rfl
  have ho := Own.lit w vs.toArray t (sz := 1) ls.length w.heap.size (by simp; omega) (by simpa using hone) hm (Nat.le_refl _)
  refine ⟨vs, Own.cells (by simpa using ho), h1, fun i v l hv hl => (h2 i v l hv hl).ext (below_alloc _ _)⟩
theorem parts_singleton (l : List UInt8) : Crc.parts 0#32 [l] = Crc.on 0#32 l := rfl
theorem Parts.drew {w : World} {v : Value} {ls : List (List UInt8)} (h : Parts w v ls) : Parts w.drew v ls := h
theorem sumOfLd (vs : List Value) (ls : List (List UInt8)) (w : World) (h : BytesAll w vs ls) (B n : Nat) (hB : B = w.heap.size) (hn : n = ls.length) (hm : n ≤ maxLen) (t : TypeId) :
   Calls Tryd.prog 70 #[.slice (some ⟨B, 0, none⟩) n n] (w.alloc (.cells vs.toArray t)).drew fun e w' => e = .returned (.int .u32 ((Crc.on 0#32 ls.flatten).toNat : Int)) ∧ Below w.heap.size w w' :=
  (sumOf _ ls _ (parts_lit h t hB hn hm).drew).mono fun e w' ⟨h1, h2⟩ => ⟨by rw [h1, Crc.parts_flat], h2 ▸ (below_alloc w _).trans (below_drew _ _)⟩
/-- Of, at a literal row of parts, in the world where that row has just been laid -/
theorem sumOfL (vs : List Value) (ls : List (List UInt8)) (w : World) (h : BytesAll w vs ls) (B n : Nat) (hB : B = w.heap.size) (hn : n = ls.length) (hm : n ≤ maxLen) (t : TypeId) :
   Calls Tryd.prog 70 #[.slice (some ⟨B, 0, none⟩) n n] (w.alloc (.cells vs.toArray t)) fun e w' => e = .returned (.int .u32 ((Crc.on 0#32 ls.flatten).toNat : Int)) ∧ Below w.heap.size w w' :=
  (sumOf _ ls _ (parts_lit h t hB hn hm)).mono fun e w' ⟨h1, h2⟩ => ⟨by rw [h1, Crc.parts_flat], h2 ▸ below_alloc w _⟩
theorem sumOf1 (v : Value) (l : List UInt8) (w : World) (hb : Bytes w v l) (B : Nat) (hB : B = w.heap.size) (t : TypeId) :
   Calls Tryd.prog 70 #[.slice (some ⟨B, 0, none⟩) 1 1] (w.alloc (.cells #[v] t)) fun e w' => e = .returned (.int .u32 ((Crc.on 0#32 l).toNat : Int)) ∧ Below w.heap.size w w' :=
  (sumOf _ [l] _ (parts_one hb B hB t)).mono fun e w' ⟨h1, h2⟩ => ⟨h1, h2 ▸ below_alloc w _⟩

end Go.Proofs.YtgpgcnmnfnnkjaaDoor
end
