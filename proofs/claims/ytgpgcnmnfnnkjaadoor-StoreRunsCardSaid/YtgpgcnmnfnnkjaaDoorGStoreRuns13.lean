/- The write-ahead log, plain words: segments read, names, Open, Save on a disk. The store, plain words: a snapshot's file, Open, Save on a disk. The write-ahead log, plain law: what is read stays right; where a segment ends. Records of a segment, plain: what was written is read; what a power failure leaves of it. -/
import Derived.Test.YtgpgcnmnfnnkjaaDoorGStoreRuns0
import Derived.Test.YtgpgcnmnfnnkjaaDoorGStoreRuns10
import Derived.Test.YtgpgcnmnfnnkjaaDoorGStoreRuns5
import Derived.Lib.ItoaNum
import Derived.Test.YtgpgcnmnfnnkjaaDoorGStoreRuns6
set_option linter.unusedVariables false
set_option linter.unusedSimpArgs false
section
namespace Go.Proofs.YtgpgcnmnfnnkjaaDoor
open Go Go.RowKit Go.PlainAid
/-- a segment read -/
def readS : Nat → List UInt8 → Sg → Sg
 | 0, _, s => s
 | f + 1, b, s => if Frm.errAt b s.size = 0 then
  match takeS s (Frm.payAt b s.size) with
  | some t => readS f b { t with size := (Frm.toAt b s.size).toNat }
  | none => s
  else s
def readSeg (b : List UInt8) : Sg := readS (b.length + 1) b sg0
def hdW : List UInt8 := [119, 97, 108, 46]
/-- a segment's name; the number of one by its name, 0: it is none -/
def nameW (n : Nat) : ByteArray := ⟨(hdW ++ Lib.decDigits n).toArray⟩
def digB (c : UInt8) : Bool := decide (48 ≤ c.toNat) && decide (c.toNat ≤ 57)
def valW (l : List UInt8) (n : Nat) : Nat := l.foldl (fun n c => 10 * n + (c.toNat - 48)) n
/-- what the digits come to, n already there; 0 where one is none -/
def digsW : List UInt8 → Nat → Nat
 | [], n => n
 | c :: r, n => if digB c then digsW r (10 * n + (c.toNat - 48)) else 0
def numW (s : ByteArray) : Nat :=
 if s.size ≤ 4 ∨ (bytesOf s).take 4 ≠ hdW ∨ 18 < s.size ∨ (bytesOf s)[4]? = some 48 then 0 else digsW ((bytesOf s).drop 4) 0
/-- where a number goes, looked for from place k downwards -/
def posR (out : List Nat) (n : Nat) : Nat → Nat
 | 0 => 0
 | k + 1 => if n < out.getD k 0 then posR out n k else k + 1
def insW (out : List Nat) (n : Nat) : List Nat := out.take (posR out n out.length) ++ n :: out.drop (posR out n out.length)
def segStep (out : List Nat) (s : ByteArray) : List Nat := if numW s = 0 then out else insW out (numW s)
def segsW (l : List ByteArray) : List Nat := l.foldl segStep []
structure Wl where
 n : Nat
 h : Hrd
 down : Bool
def fileW (d : Dk) (n : Nat) : List UInt8 := (readD d (nameW n)).getD []
/-- the first whole one of some segments -/
def pickW (d : Dk) : List Nat → Option (Nat × Sg)
 | [] => none
 | k :: r => if (readSeg (fileW d k)).whole then some (k, readSeg (fileW d k)) else pickW d r
/-- a change, and what comes behind it where it was done -/
def thenD (r : Int × Dk) (f : Dk → Int × Dk) : Int × Dk := if r.1 = 0 then f r.2 else r
def removesD : List Nat → Nat → Dk → Int × Dk
 | [], _, d => (0, d)
 | k :: r, n, d => if k = n then removesD r n d else thenD (removeD d (nameW k)) (removesD r n)
def cutS (d : Dk) (n : Nat) (s : Sg) : Int × Dk := if 0 < n ∧ s.size < (fileW d n).length then cutD d (nameW n) s.size else (0, d)
def cleanD (d : Dk) (l : List Nat) (n : Nat) (s : Sg) : Int × Dk :=
 thenD (cutS d n s) fun d => thenD (removesD l n d) fun d => if 0 < n then syncD d (nameW n) else (0, d)
def hrdV : Hrd := { hrd0 with vote := -1 }
/-- which segment counts; 0: none -/
def pickN (d : Dk) : Nat × Sg := (pickW d (segsW (d.fs.map (·.name))).reverse).getD (0, sg0)
def openH (d : Dk) : Hrd := if (pickN d).1 = 0 then hrdV else (pickN d).2.h
def cleanW (d : Dk) : Int × Dk := cleanD d (segsW (d.fs.map (·.name))) (pickN d).1 (pickN d).2
def openW (d : Dk) : Option Wl := if (cleanW d).1 = 0 then some ⟨(pickN d).1, openH d, false⟩ else none
/-- Save -/
def bareOf (h : Hrd) : Hrd := { h with snap := sNone }
def etyEq (x y : Ety) : Bool := decide (x.term = y.term) && decide (x.members = y.members) && eqS x.data y.data
def commonE : List Ety → List Ety → Nat
 | x :: r, y :: s => if etyEq x y then commonE r s + 1 else 0
 | _, _ => 0
def sameW (x h : Hrd) : Bool :=
 decide (h.term = x.term) && decide (h.vote = x.vote) && decide (h.base = x.base) && decide (h.bterm = x.bterm) && decide (h.members = x.members) &&
 decide (h.log.length = x.log.length) && decide (commonE h.log x.log = h.log.length)
def anewW (d : Dk) (w : Wl) (h : Hrd) : Bool :=
 decide (w.n = 0) || decide (8192 < (fileW d w.n).length) || decide (h.base ≠ w.h.base) || decide (h.bterm ≠ w.h.bterm) || decide (h.members ≠ w.h.members) ||
 decide (h.term < w.h.term) || (decide (h.term = w.h.term) && decide (w.h.vote ≠ -1) && decide (h.vote ≠ w.h.vote))
def numsB : List Int → List UInt8
 | [] => []
 | n :: r => numB n ++ numsB r
def recB (l : List Int) : List UInt8 := Frm.one (numsB l)
def etyB (x : Ety) : List UInt8 := Frm.one (numsB [2, x.term, x.members] ++ textB (bytesOf x.data))
def etysB (l : List Ety) : List UInt8 := l.flatMap etyB
def layB (h : Hrd) : List UInt8 := recB [1, h.term, h.vote, h.base, h.bterm, h.members] ++ etysB h.log ++ recB [3]
def moreB (x h : Hrd) : List UInt8 :=
 (if h.term ≠ x.term ∨ h.vote ≠ x.vote then recB [4, h.term, h.vote] else []) ++
 (if commonE h.log x.log < x.log.length then recB [5, h.base + commonE h.log x.log] else []) ++ etysB (h.log.drop (commonE h.log x.log))
def writeD (d : Dk) (n : Nat) (b : List UInt8) : Int × Dk := thenD (appendD d (nameW n) b) fun d => syncD d (nameW n)
/-- lay anew: the answer, the segment's number, the disk -/
def layW (d : Dk) (n : Nat) (h : Hrd) : Int × Nat × Dk :=
 let r := writeD d (n + 1) (layB h)
 if r.1 = 0 then (if n = 0 then (0, 1, r.2) else let q := removeD r.2 (nameW n); (q.1, n + 1, q.2)) else (r.1, n, r.2)
def keepW (w : Wl) (h : Hrd) (r : Int × Nat × Dk) : Int × Wl × Dk := if r.1 = 0 then (0, ⟨r.2.1, bareOf h, false⟩, r.2.2) else (r.1, ⟨r.2.1, w.h, true⟩, r.2.2)
def saveW (d : Dk) (w : Wl) (h : Hrd) : Int × Wl × Dk :=
 if rightH h = false then (1, w, d)
 else if w.down = true then (18, w, d)
 else if 0 < w.n ∧ sameW w.h h = true then (0, w, d)
 else if anewW d w h = false then keepW w h ((writeD d w.n (moreB w.h h)).1, w.n, (writeD d w.n (moreB w.h h)).2)
 else if 14 < (Lib.decDigits (w.n + 1)).length then (14, w, d)
 else keepW w h (layW d w.n h)
end Go.Proofs.YtgpgcnmnfnnkjaaDoor
end

section
namespace Go.Proofs.YtgpgcnmnfnnkjaaDoor
open Go Go.RowKit Go.PlainAid
def hdP : List UInt8 := [115, 110, 97, 112, 46]
def freshS : ByteArray := ⟨#[115, 110, 97, 112, 46, 116, 109, 112]⟩
/-- a snapshot file's name; is a name one? -/
def nameP (n : Nat) : ByteArray := ⟨(hdP ++ Lib.decDigits n).toArray⟩
def numbB (l : List UInt8) : Bool := !(decide (l.length ≤ 5) || decide (l.take 5 ≠ hdP) || decide (19 < l.length) || decide (l[5]? = some 48)) && (l.drop 5).all digB
def numbS (s : ByteArray) : Bool := numbB (bytesOf s)
/-- a snapshot file's bytes; what is read of them -/
def payP (h : Hrd) : List UInt8 := numsB [h.base, h.bterm, h.members] ++ textB (bytesOf h.snap)
def snapB (h : Hrd) : List UInt8 := Frm.one (payP h)
def parseP (p : List UInt8) (h : Hrd) : Option (List UInt8) :=
 let b := rNum (rd0 p)
 let t := rNum b.2
 let m := rNum t.2
 let s := rText 65536 m.2
 if (rEnd s.2).1 = 0 ∧ b.1 = h.base ∧ t.1 = h.bterm ∧ m.1 = h.members ∧ s.1 ≠ [] then some s.1 else none
def readP (b : List UInt8) (h : Hrd) : Option (List UInt8) :=
 if Frm.errAt b 0 = 0 ∧ Frm.toAt b 0 = b.length then parseP (Frm.payAt b 0) h else none
/-- the files of no more use go -/
def dropS (n : Nat) (s : ByteArray) : Bool := (eqS s freshS || numbS s) && !(decide (0 < n) && eqS s (nameP n))
def dropD (n : Nat) : List ByteArray → Dk → Int × Dk
 | [], d => (0, d)
 | s :: r, d => if dropS n s then thenD (removeD d s) (dropD n r) else dropD n r d
def cleanP (d : Dk) (n : Nat) : Int × Dk := dropD n (d.fs.map (·.name)) d
structure Sto where
 w : Wl
 snap : ByteArray
 down : Bool
def fileP (d : Dk) (n : Nat) : List UInt8 := (readD d (nameP n)).getD []
def snapO (d : Dk) (h : Hrd) : Option (List UInt8) := if h.base = 0 then some [] else readP (fileP d h.base.toNat) h
/-- Open: the error, what is kept, the disk -/
def openP (d : Dk) : Int × Option Sto × Dk :=
 match openW d with
 | none => ((cleanW d).1, none, (cleanW d).2)
 | some ws => match snapO (cleanW d).2 ws.h with
  | none => (4, none, (cleanW d).2)
  | some s => if (cleanP (cleanW d).2 ws.h.base.toNat).1 = 0 then (0, some ⟨ws, ofBytes s, false⟩, (cleanP (cleanW d).2 ws.h.base.toNat).2)
   else ((cleanP (cleanW d).2 ws.h.base.toNat).1, none, (cleanP (cleanW d).2 ws.h.base.toNat).2)
/-- a snapshot's file is written -/
def writeP (d : Dk) (h : Hrd) : Int × Dk :=
 thenD (if (readD d freshS).isSome then removeD d freshS else (0, d)) fun d =>
 thenD (appendD d freshS (snapB h)) fun d => thenD (syncD d freshS) fun d => renameD d freshS (nameP h.base.toNat)
def wantsP (s : Sto) (h : Hrd) : Bool :=
 decide (h.base ≠ 0) && (decide (h.base ≠ s.w.h.base) || decide (h.bterm ≠ s.w.h.bterm) || decide (h.members ≠ s.w.h.members) || !eqS h.snap s.snap)
def hardP (s : Sto) : Hrd := { s.w.h with snap := s.snap }
/-- all of a Hard: the error, what is kept, the disk -/
def allP (d : Dk) (s : Sto) (h : Hrd) : Int × Sto × Dk :=
 let p := if wantsP s h then writeP d h else (0, d)
 if p.1 ≠ 0 then (p.1, s, p.2) else
 let q := saveW p.2 s.w h
 if q.1 ≠ 0 then (q.1, ⟨q.2.1, s.snap, s.down⟩, q.2.2) else
 if h.base = s.w.h.base ∧ eqS h.snap s.snap = true then (0, ⟨q.2.1, h.snap, s.down⟩, q.2.2) else
 ((cleanP q.2.2 h.base.toNat).1, ⟨q.2.1, h.snap, s.down⟩, (cleanP q.2.2 h.base.toNat).2)
def saveP (d : Dk) (s : Sto) (h : Hrd) : Int × Sto × Dk :=
 if rightH h = false then (1, s, d) else if s.down = true then (18, s, d) else
 let r := allP d s h
 (r.1, ⟨r.2.1.w, r.2.1.snap, decide (r.1 ≠ 0)⟩, r.2.2)
end Go.Proofs.YtgpgcnmnfnnkjaaDoor
end

section
namespace Go.Proofs.YtgpgcnmnfnnkjaaDoor
open Go Go.RowKit Go.PlainAid
theorem SgOk.step {s t : Sg} {p : List UInt8} (ok : SgOk s) (h : takeS s p = some t) : SgOk t := by
 unfold takeS at h
 cases hp : parseR p with
 | none => rw [hp] at h; cases h
 | some x =>
  rw [hp] at h
  replace h : stepS s x = some t := h
  cases x with
  | beg g =>
   have hs : g.snap = sNone := by
    unfold parseR at hp
    dsimp only at hp
    split at hp
    · unfold recBeg ended at hp
      dsimp only at hp
      split at hp
      · cases hp; rfl
      · cases hp
    · split at hp
      · unfold recEty ended at hp; dsimp only at hp; split at hp <;> cases hp
      · split at hp
        · unfold ended at hp; split at hp <;> cases hp
        · split at hp
          · unfold recVot ended at hp; dsimp only at hp; split at hp <;> cases hp
          · split at hp
            · unfold recCut ended at hp; split at hp <;> cases hp
            · cases hp
   replace h : beganS s g = some t := h
   unfold beganS at h
   split at h
   · rename_i hc
     cases h
     exact ⟨fun _ => hc.2, fun hw => rfl, hs⟩
   · cases h
  | ety x =>
   replace h : (if s.begun = true then grownS s x else none) = some t := h
   split at h
   · rename_i hb; exact (ok.grown hb h).1
   · cases h
  | rdy =>
   replace h : doneS s = some t := h
   unfold doneS at h
   split at h
   · rename_i hc; cases h; exact ⟨fun _ => ok.bare hc.1, fun _ => hc.1, ok.snap⟩
   · cases h
  | vot a b =>
   replace h : votedS s a b = some t := h
   unfold votedS at h
   split at h
   · rename_i hc
     cases h
     refine ⟨fun hb => ?_, ok.wh, ok.snap⟩
     have hb1 := ok.bare (ok.wh hc.1)
     obtain ⟨hh, hl, hli, hlo⟩ := (bareH_iff _).1 hb1
     have hh' := (headOk_iff _).1 hh
     rw [bareH_iff, headOk_iff]
     dsimp only
     exact ⟨⟨by omega, by omega, by omega, by omega, hh'.2.2.2.2.1, hh'.2.2.2.2.2.1, hh'.2.2.2.2.2.2.1, hh'.2.2.2.2.2.2.2.1, hh'.2.2.2.2.2.2.2.2.1, by omega, hh'.2.2.2.2.2.2.2.2.2.2⟩, hl, hli, logOk_mono hlo hc.2.1⟩
   · cases h
  | cut n => exact (ok.shorter (show shorterS s n = some t from h)).1
theorem SgOk.size {s : Sg} (ok : SgOk s) (n : Nat) : SgOk { s with size := n } := ⟨ok.bare, ok.wh, ok.snap⟩
theorem SgOk.read : ∀ (f : Nat) (b : List UInt8) (s : Sg), SgOk s → SgOk (readS f b s)
 | 0, _, _, h => h
 | f + 1, b, s, h => by
  rw [readS]
  split
  · split
    · rename_i t ht; exact SgOk.read f b _ ((h.step ht).size _)
    · exact h
  · exact h
theorem readSeg_ok (b : List UInt8) : SgOk (readSeg b) := SgOk.read _ _ _ SgOk.zero
/-- a frame that is there ends inside -/
theorem frm_in {b : List UInt8} {a : Nat} (ha : a ≤ b.length) (h : Frm.errAt b a = 0) : ∃ n : Nat, Frm.toAt b a = (n : Int) ∧ a + 9 ≤ n ∧ n ≤ b.length ∧ (Frm.payAt b a).length ≤ 131072 := by
 have h2 : Frm.err (b.drop a) = 0 := by unfold Frm.errAt at h; rw [if_neg (by omega)] at h; simpa using h
 obtain ⟨e1, e2, e3, _⟩ := Frm.err_ok h2
 rw [List.length_drop] at e3
 refine ⟨a + 8 + Frm.len (b.drop a), ?_, by omega, by omega, ?_⟩
 · unfold Frm.toAt; rw [if_pos h]; simp
 · unfold Frm.payAt; rw [if_pos h]; simp only [Int.toNat_natCast]; rw [Frm.pay_length h2]; exact e2
theorem readS_stop {f : Nat} {b : List UInt8} {s : Sg} (h : Frm.errAt b s.size ≠ 0) : readS f b s = s := by
 cases f with
 | zero => rfl
 | succ f => rw [readS, if_neg h]
theorem readS_no {f : Nat} {b : List UInt8} {s : Sg} (h : Frm.errAt b s.size = 0) (ht : takeS s (Frm.payAt b s.size) = none) : readS f b s = s := by
 cases f with
 | zero => rfl
 | succ f => rw [readS, if_pos h, ht]
theorem readS_go {f : Nat} {b : List UInt8} {s t : Sg} (h : Frm.errAt b s.size = 0) (ht : takeS s (Frm.payAt b s.size) = some t) : readS (f + 1) b s = readS f b { t with size := (Frm.toAt b s.size).toNat } := by rw [readS, if_pos h, ht]
end Go.Proofs.YtgpgcnmnfnnkjaaDoor
end

section
namespace Go.Proofs.YtgpgcnmnfnnkjaaDoor
open Go Go.RowKit Go.PlainAid
def Rec.pay : Rec → List UInt8
 | .beg h => numsB [1, h.term, h.vote, h.base, h.bterm, h.members]
 | .ety x => numsB [2, x.term, x.members] ++ textB (bytesOf x.data)
 | .rdy => numsB [3]
 | .vot t v => numsB [4, t, v]
 | .cut n => numsB [5, n]
def fitI (n : Int) : Prop := -9223372036854775808 ≤ n ∧ n ≤ 9223372036854775807
def Rec.ok : Rec → Prop
 | .beg h => fitI h.term ∧ fitI h.vote ∧ fitI h.base ∧ fitI h.bterm ∧ fitI h.members ∧ h.snap = sNone ∧ h.log = []
 | .ety x => fitI x.term ∧ fitI x.members ∧ x.data.size ≤ 1100
 | .rdy => True
 | .vot t v => fitI t ∧ fitI v
 | .cut n => fitI n
/-- records as bytes -/
def catR (K : List Rec) : List UInt8 := Frm.cat (K.map Rec.pay)
def okR (K : List Rec) : Prop := ∀ r ∈ K, r.ok
/-- records one behind the other -/
def runR (s : Sg) : List Rec → Option Sg
 | [] => some s
 | r :: K => (stepS s r).bind fun t => runR t K
theorem err_nil : Frm.err [] ≠ 0 := by decide
end Go.Proofs.YtgpgcnmnfnnkjaaDoor
end
