/- The write-ahead log, plain words: segments read, names, Open, Save on a disk. The write-ahead log, plain law: what is read stays right; where a segment ends. -/
import Derived.Test.YtgpgcnmnfnnkjaaGreatDoorGWalPlays0
import Derived.Test.YtgpgcnmnfnnkjaaGreatDoorGWalPlays9
import Derived.Test.YtgpgcnmnfnnkjaaGreatDoorGWalPlays4
import Derived.Lib.ItoaNum
set_option linter.unusedVariables false
set_option linter.unusedSimpArgs false
section
namespace Go.Proofs.YtgpgcnmnfnnkjaaGreatDoor
open Go Go.RowKit Go.PlainAid
def readS : Nat → List UInt8 → Sg → Sg
 | 0, _, s => s
 | f + 1, b, s => if Frm.errAt b s.size = 0 then
  match takeS s (Frm.payAt b s.size) with
  | some t => readS f b { t with size := (Frm.toAt b s.size).toNat }
  | none => s
  else s
def readSeg (b : List UInt8) : Sg := readS (b.length + 1) b sg0
def hdW : List UInt8 := [119, 97, 108, 46]
def nameW (n : Nat) : ByteArray := ⟨(hdW ++ Lib.decDigits n).toArray⟩
def digB (c : UInt8) : Bool := decide (48 ≤ c.toNat) && decide (c.toNat ≤ 57)
def valW (l : List UInt8) (n : Nat) : Nat := l.foldl (fun n c => 10 * n + (c.toNat - 48)) n
def digsW : List UInt8 → Nat → Nat
 | [], n => n
 | c :: r, n => if digB c then digsW r (10 * n + (c.toNat - 48)) else 0
def numW (s : ByteArray) : Nat :=
 if s.size ≤ 4 ∨ (bytesOf s).take 4 ≠ hdW ∨ 18 < s.size ∨ (bytesOf s)[4]? = some 48 then 0 else digsW ((bytesOf s).drop 4) 0
def posR (out : List Nat) (n : Nat) : Nat → Nat
 | 0 => 0
 | k + 1 => if n < out.getD k 0 then posR out n k else k + 1
def insW (out : List Nat) (n : Nat) : List Nat := out.take (posR out n out.length) ++ n :: out.drop (posR out n out.length)
def segStep (out : List Nat) (s : ByteArray) : List Nat := if numW s = 0 then out else insW out (numW s)
def segsW (l : List ByteArray) : List Nat := l.foldl segStep []
structure Wl where
 n : Nat
 h : Hrd
 down : Bool
def fileW (d : Dk) (n : Nat) : List UInt8 := (readD d (nameW n)).getD []
def pickW (d : Dk) : List Nat → Option (Nat × Sg)
 | [] => none
 | k :: r => if (readSeg (fileW d k)).whole then some (k, readSeg (fileW d k)) else pickW d r
def thenD (r : Int × Dk) (f : Dk → Int × Dk) : Int × Dk := if r.1 = 0 then f r.2 else r
def removesD : List Nat → Nat → Dk → Int × Dk
 | [], _, d => (0, d)
 | k :: r, n, d => if k = n then removesD r n d else thenD (removeD d (nameW k)) (removesD r n)
def cutS (d : Dk) (n : Nat) (s : Sg) : Int × Dk := if 0 < n ∧ s.size < (fileW d n).length then cutD d (nameW n) s.size else (0, d)
def cleanD (d : Dk) (l : List Nat) (n : Nat) (s : Sg) : Int × Dk :=
 thenD (cutS d n s) fun d => thenD (removesD l n d) fun d => if 0 < n then syncD d (nameW n) else (0, d)
def hrdV : Hrd := { hrd0 with vote := -1 }
def pickN (d : Dk) : Nat × Sg := (pickW d (segsW (d.fs.map (·.name))).reverse).getD (0, sg0)
def openH (d : Dk) : Hrd := if (pickN d).1 = 0 then hrdV else (pickN d).2.h
def cleanW (d : Dk) : Int × Dk := cleanD d (segsW (d.fs.map (·.name))) (pickN d).1 (pickN d).2
def openW (d : Dk) : Option Wl := if (cleanW d).1 = 0 then some ⟨(pickN d).1, openH d, false⟩ else none
def bareOf (h : Hrd) : Hrd := { h with snap := sNone }
def etyEq (x y : Ety) : Bool := decide (x.term = y.term) && decide (x.members = y.members) && eqS x.data y.data
def commonE : List Ety → List Ety → Nat
 | x :: r, y :: s => if etyEq x y then commonE r s + 1 else 0
 | _, _ => 0
def sameW (x h : Hrd) : Bool :=
 decide (h.term = x.term) && decide (h.vote = x.vote) && decide (h.base = x.base) && decide (h.bterm = x.bterm) && decide (h.members = x.members) &&
 decide (h.log.length = x.log.length) && decide (commonE h.log x.log = h.log.length)
def anewW (d : Dk) (w : Wl) (h : Hrd) : Bool :=
 decide (w.n = 0) || decide (8192 < (fileW d w.n).length) || decide (h.base ≠ w.h.base) || decide (h.bterm ≠ w.h.bterm) || decide (h.members ≠ w.h.members) ||
 decide (h.term < w.h.term) || (decide (h.term = w.h.term) && decide (w.h.vote ≠ -1) && decide (h.vote ≠ w.h.vote))
def numsB : List Int → List UInt8
 | [] => []
 | n :: r => numB n ++ numsB r
def recB (l : List Int) : List UInt8 := Frm.one (numsB l)
def etyB (x : Ety) : List UInt8 := Frm.one (numsB [2, x.term, x.members] ++ textB (bytesOf x.data))
def etysB (l : List Ety) : List UInt8 := l.flatMap etyB
def layB (h : Hrd) : List UInt8 := recB [1, h.term, h.vote, h.base, h.bterm, h.members] ++ etysB h.log ++ recB [3]
def moreB (x h : Hrd) : List UInt8 :=
 (if h.term ≠ x.term ∨ h.vote ≠ x.vote then recB [4, h.term, h.vote] else []) ++
 (if commonE h.log x.log < x.log.length then recB [5, h.base + commonE h.log x.log] else []) ++ etysB (h.log.drop (commonE h.log x.log))
def writeD (d : Dk) (n : Nat) (b : List UInt8) : Int × Dk := thenD (appendD d (nameW n) b) fun d => syncD d (nameW n)
def layW (d : Dk) (n : Nat) (h : Hrd) : Int × Nat × Dk :=
 let r := writeD d (n + 1) (layB h)
 if r.1 = 0 then (if n = 0 then (0, 1, r.2) else let q := removeD r.2 (nameW n); (q.1, n + 1, q.2)) else (r.1, n, r.2)
def keepW (w : Wl) (h : Hrd) (r : Int × Nat × Dk) : Int × Wl × Dk := if r.1 = 0 then (0, ⟨r.2.1, bareOf h, false⟩, r.2.2) else (r.1, ⟨r.2.1, w.h, true⟩, r.2.2)
def saveW (d : Dk) (w : Wl) (h : Hrd) : Int × Wl × Dk :=
 if rightH h = false then (1, w, d)
 else if w.down = true then (18, w, d)
 else if 0 < w.n ∧ sameW w.h h = true then (0, w, d)
 else if anewW d w h = false then keepW w h ((writeD d w.n (moreB w.h h)).1, w.n, (writeD d w.n (moreB w.h h)).2)
 else if 14 < (Lib.decDigits (w.n + 1)).length then (14, w, d)
 else keepW w h (layW d w.n h)
end Go.Proofs.YtgpgcnmnfnnkjaaGreatDoor
end

section
namespace Go.Proofs.YtgpgcnmnfnnkjaaGreatDoor
open Go Go.RowKit Go.PlainAid
theorem SgOk.step {s t : Sg} {p : List UInt8} (ok : SgOk s) (h : takeS s p = some t) : SgOk t := by
 unfold takeS at h
 cases hp : parseR p with
 | none => rw [hp] at h; cases h
 | some x =>
  rw [hp] at h
  replace h : stepS s x = some t := h
  cases x with
  | beg g =>
   have hs : g.snap = sNone := by
    unfold parseR at hp
    dsimp only at hp
    split at hp
    · unfold recBeg ended at hp
      dsimp only at hp
      split at hp
      · cases hp; rfl
      · cases hp
    · split at hp
      · unfold recEty ended at hp; dsimp only at hp; split at hp <;> cases hp
      · split at hp
        · unfold ended at hp; split at hp <;> cases hp
        · split at hp
          · unfold recVot ended at hp; dsimp only at hp; split at hp <;> cases hp
          · split at hp
            · unfold recCut ended at hp; split at hp <;> cases hp
            · cases hp
   replace h : beganS s g = some t := h
   unfold beganS at h
   split at h
   · rename_i hc
     cases h
     exact ⟨fun _ => hc.2, fun hw => rfl, hs⟩
   · cases h
  | ety x =>
   replace h : (if s.begun = true then grownS s x else none) = some t := h
   split at h
   · rename_i hb; exact (ok.grown hb h).1
   · cases h
  | rdy =>
   replace h : doneS s = some t := h
   unfold doneS at h
   split at h
   · rename_i hc; cases h; exact ⟨fun _ => ok.bare hc.1, fun _ => hc.1, ok.snap⟩
   · cases h
  | vot a b =>
   replace h : votedS s a b = some t := h
   unfold votedS at h
   split at h
   · rename_i hc
     cases h
     refine ⟨fun hb => ?_, ok.wh, ok.snap⟩
     have hb1 := ok.bare (ok.wh hc.1)
     obtain ⟨hh, hl, hli, hlo⟩ := (bareH_iff _).1 hb1
     have hh' := (headOk_iff _).1 hh
     rw [bareH_iff, headOk_iff]
     dsimp only
     exact ⟨⟨by omega, by omega, by omega, by omega, hh'.2.2.2.2.1, hh'.2.2.2.2.2.1, hh'.2.2.2.2.2.2.1, hh'.2.2.2.2.2.2.2.1, hh'.2.2.2.2.2.2.2.2.1, by omega, hh'.2.2.2.2.2.2.2.2.2.2⟩, hl, hli, logOk_mono hlo hc.2.1⟩
   · cases h
  | cut n => exact (ok.shorter (show shorterS s n = some t from h)).1
theorem SgOk.size {s : Sg} (ok : SgOk s) (n : Nat) : SgOk { s with size := n } := ⟨ok.bare, ok.wh, ok.snap⟩
theorem SgOk.read : ∀ (f : Nat) (b : List UInt8) (s : Sg), SgOk s → SgOk (readS f b s)
 | 0, _, _, h => h
 | f + 1, b, s, h => by
  rw [readS]
  split
  · split
    · rename_i t ht; exact SgOk.read f b _ ((h.step ht).size _)
    · exact h
  · exact h
theorem readSeg_ok (b : List UInt8) : SgOk (readSeg b) := SgOk.read _ _ _ SgOk.zero
theorem frm_in {b : List UInt8} {a : Nat} (ha : a ≤ b.length) (h : Frm.errAt b a = 0) : ∃ n : Nat, Frm.toAt b a = (n : Int) ∧ a + 9 ≤ n ∧ n ≤ b.length ∧ (Frm.payAt b a).length ≤ 131072 := by
 have h2 : Frm.err (b.drop a) = 0 := by unfold Frm.errAt at h; rw [if_neg (by omega)] at h; simpa using h
 obtain ⟨e1, e2, e3, _⟩ := Frm.err_ok h2
 rw [List.length_drop] at e3
 refine ⟨a + 8 + Frm.len (b.drop a), ?_, by omega, by omega, ?_⟩
 · unfold Frm.toAt; rw [if_pos h]; simp
 · unfold Frm.payAt; rw [if_pos h]; simp only [Int.toNat_natCast]; rw [Frm.pay_length h2]; exact e2
theorem readS_stop {f : Nat} {b : List UInt8} {s : Sg} (h : Frm.errAt b s.size ≠ 0) : readS f b s = s := by
 cases f with
 | zero => rfl
 | succ f => rw [readS, if_neg h]
theorem readS_no {f : Nat} {b : List UInt8} {s : Sg} (h : Frm.errAt b s.size = 0) (ht : takeS s (Frm.payAt b s.size) = none) : readS f b s = s := by
 cases f with
 | zero => rfl
 | succ f => rw [readS, if_pos h, ht]
theorem readS_go {f : Nat} {b : List UInt8} {s t : Sg} (h : Frm.errAt b s.size = 0) (ht : takeS s (Frm.payAt b s.size) = some t) : readS (f + 1) b s = readS f b { t with size := (Frm.toAt b s.size).toNat } := by rw [readS, if_pos h, ht]
end Go.Proofs.YtgpgcnmnfnnkjaaGreatDoor
end
