/- Frames as plain functions on bytes: one put behind others, the next one read. No program in sight. The write-ahead log, plain words: segments read, names, Open, Save on a disk. What stays true of a disk under Open and Save. The disk's calls by what is found under a name, plain: done, or nothing is changed. Walks of package wal: fits, bare, Right. -/
import Derived.Test.YtgpgcnmnfnnkjaaDoorGWalCuts18
import Derived.Test.YtgpgcnmnfnnkjaaDoorGWalCuts13
import Derived.Test.YtgpgcnmnfnnkjaaDoorGWalCuts3
import Derived.Lib.ItoaNum
import Derived.Test.YtgpgcnmnfnnkjaaDoorGWalCuts12
import Derived.Test.YtgpgcnmnfnnkjaaDoorGWalCuts14
set_option linter.unusedVariables false
set_option linter.unusedSimpArgs false
section
namespace Go.Proofs.YtgpgcnmnfnnkjaaDoor
open Go Go.RowKit
namespace Frm
def head (p : List UInt8) : List UInt8 := Crc.le4 (BitVec.ofNat 32 p.length)
def none' (p : List UInt8) : Bool := decide (p.length < 1) || decide (131072 < p.length)
/-- a payload's frame; none of an empty one, none of one that is too long -/
def one (p : List UInt8) : List UInt8 := if none' p then [] else head p ++ p ++ Crc.le4 (Crc.on 0#32 (head p ++ p))
def put (b p : List UInt8) : List UInt8 := b ++ one p
/-- how long a payload the frame's beginning tells -/
def len (r : List UInt8) : Nat := (Crc.num r).toNat
/-- what is wrong with the frame at the beginning; 0: nothing -/
def err (r : List UInt8) : Nat :=
  if r.length < 4 then 3 else if len r = 0 ∨ 131072 < len r then 4 else if r.length < len r + 8 then 3
  else if Crc.on 0#32 (r.take (4 + len r)) = Crc.num (r.drop (4 + len r)) then 0 else 6
def pay (r : List UInt8) : List UInt8 := (r.drop 4).take (len r)
def errAt (b : List UInt8) (a : Int) : Nat := if a < 0 ∨ (b.length : Int) < a then 1 else err (b.drop a.toNat)
def payAt (b : List UInt8) (a : Int) : List UInt8 := if errAt b a = 0 then pay (b.drop a.toNat) else []
def toAt (b : List UInt8) (a : Int) : Int := if errAt b a = 0 then a + 8 + len (b.drop a.toNat) else 0
theorem err_ok {r : List UInt8} (h : err r = 0) : 0 < len r ∧ len r ≤ 131072 ∧ len r + 8 ≤ r.length ∧ Crc.on 0#32 (r.take (4 + len r)) = Crc.num (r.drop (4 + len r)) := by
  unfold err at h
  by_cases h1 : r.length < 4
  · rw [if_pos h1] at h; cases h
  · rw [if_neg h1] at h
    by_cases h2 : len r = 0 ∨ 131072 < len r
    · rw [if_pos h2] at h; cases h
    · rw [if_neg h2] at h
      by_cases h3 : r.length < len r + 8
      · rw [if_pos h3] at h; cases h
      · rw [if_neg h3] at h
        by_cases h4 : Crc.on 0#32 (r.take (4 + len r)) = Crc.num (r.drop (4 + len r))
        · exact ⟨by omega, by omega, by omega, h4⟩
        · rw [if_neg h4] at h; cases h
theorem pay_length {r : List UInt8} (h : err r = 0) : (pay r).length = len r := by
  obtain ⟨_, _, h3, _⟩ := err_ok h
  unfold pay; rw [List.length_take, List.length_drop]; omega

/-- all that is whole from a place on, and where that ends -/
def scan : Nat → List UInt8 → List (List UInt8) × Nat
  | 0, _ => ([], 0)
  | f + 1, r => if err r = 0 then let s := scan f (r.drop (len r + 8)); (pay r :: s.1, len r + 8 + s.2) else ([], 0)
/-- more fuel changes nothing -/
theorem scan_fuel (f g : Nat) (r : List UInt8) (hf : r.length < f) (hg : r.length < g) : scan f r = scan g r := by
  induction f generalizing g r with
  | zero => omega
  | succ f ih =>
    cases g with
    | zero => omega
    | succ g =>
      unfold scan
      by_cases h : err r = 0
      · rw [if_pos h, if_pos h]
        obtain ⟨_, _, h3, _⟩ := err_ok h
        rw [ih g (r.drop (len r + 8)) (by rw [List.length_drop]; omega) (by rw [List.length_drop]; omega)]
      · rw [if_neg h, if_neg h]
def all (r : List UInt8) : List (List UInt8) × Nat := scan (r.length + 1) r
theorem all_ok {r : List UInt8} (h : err r = 0) : all r = (pay r :: (all (r.drop (len r + 8))).1, len r + 8 + (all (r.drop (len r + 8))).2) := by
  obtain ⟨_, _, h3, _⟩ := err_ok h
  unfold all
  rw [scan, if_pos h]
  rw [scan_fuel r.length ((r.drop (len r + 8)).length + 1) _ (by rw [List.length_drop]; omega) (by omega)]
theorem all_bad {r : List UInt8} (h : err r ≠ 0) : all r = ([], 0) := by unfold all; rw [scan, if_neg h]

theorem num_append {l m : List UInt8} (h : 4 ≤ l.length) : Crc.num (l ++ m) = Crc.num l := by
  match l, h with
  | a :: b :: c :: d :: l, _ => rfl
theorem num_take {l : List UInt8} {k : Nat} (h : 4 ≤ k) (h4 : 4 ≤ l.length) : Crc.num (l.take k) = Crc.num l := by
  conv => rhs; rw [← List.take_append_drop k l]
  rw [num_append (by rw [List.length_take]; omega)]
end Frm
end Go.Proofs.YtgpgcnmnfnnkjaaDoor
end

section
namespace Go.Proofs.YtgpgcnmnfnnkjaaDoor
open Go Go.RowKit Go.PlainAid
/-- a segment read -/
def readS : Nat → List UInt8 → Sg → Sg
  | 0, _, s => s
  | f + 1, b, s => if Frm.errAt b s.size = 0 then
      match takeS s (Frm.payAt b s.size) with
      | some t => readS f b { t with size := (Frm.toAt b s.size).toNat }
      | none => s
    else s
def readSeg (b : List UInt8) : Sg := readS (b.length + 1) b sg0
def hdW : List UInt8 := [119, 97, 108, 46]
/-- a segment's name; the number of one by its name, 0: it is none -/
def nameW (n : Nat) : ByteArray := ⟨(hdW ++ Lib.decDigits n).toArray⟩
def digB (c : UInt8) : Bool := decide (48 ≤ c.toNat) && decide (c.toNat ≤ 57)
def valW (l : List UInt8) (n : Nat) : Nat := l.foldl (fun n c => 10 * n + (c.toNat - 48)) n
/-- what the digits come to, n already there; 0 where one is none -/
def digsW : List UInt8 → Nat → Nat
  | [], n => n
  | c :: r, n => if digB c then digsW r (10 * n + (c.toNat - 48)) else 0
def numW (s : ByteArray) : Nat :=
  if s.size ≤ 4 ∨ (bytesOf s).take 4 ≠ hdW ∨ 18 < s.size ∨ (bytesOf s)[4]? = some 48 then 0 else digsW ((bytesOf s).drop 4) 0
/-- where a number goes, looked for from place k downwards -/
def posR (out : List Nat) (n : Nat) : Nat → Nat
  | 0 => 0
  | k + 1 => if n < out.getD k 0 then posR out n k else k + 1
def insW (out : List Nat) (n : Nat) : List Nat := out.take (posR out n out.length) ++ n :: out.drop (posR out n out.length)
def segStep (out : List Nat) (s : ByteArray) : List Nat := if numW s = 0 then out else insW out (numW s)
def segsW (l : List ByteArray) : List Nat := l.foldl segStep []
structure Wl where
  n : Nat
  h : Hrd
  down : Bool
def fileW (d : Dk) (n : Nat) : List UInt8 := (readD d (nameW n)).getD []
/-- the first whole one of some segments -/
def pickW (d : Dk) : List Nat → Option (Nat × Sg)
  | [] => none
  | k :: r => if (readSeg (fileW d k)).whole then some (k, readSeg (fileW d k)) else pickW d r
/-- a change, and what comes behind it where it was done -/
def thenD (r : Int × Dk) (f : Dk → Int × Dk) : Int × Dk := if r.1 = 0 then f r.2 else r
def removesD : List Nat → Nat → Dk → Int × Dk
  | [], _, d => (0, d)
  | k :: r, n, d => if k = n then removesD r n d else thenD (removeD d (nameW k)) (removesD r n)
def cutS (d : Dk) (n : Nat) (s : Sg) : Int × Dk := if 0 < n ∧ s.size < (fileW d n).length then cutD d (nameW n) s.size else (0, d)
def cleanD (d : Dk) (l : List Nat) (n : Nat) (s : Sg) : Int × Dk :=
  thenD (cutS d n s) fun d => thenD (removesD l n d) fun d => if 0 < n then syncD d (nameW n) else (0, d)
def hrdV : Hrd := { hrd0 with vote := -1 }
/-- which segment counts; 0: none -/
def pickN (d : Dk) : Nat × Sg := (pickW d (segsW (d.fs.map (·.name))).reverse).getD (0, sg0)
def openH (d : Dk) : Hrd := if (pickN d).1 = 0 then hrdV else (pickN d).2.h
def cleanW (d : Dk) : Int × Dk := cleanD d (segsW (d.fs.map (·.name))) (pickN d).1 (pickN d).2
def openW (d : Dk) : Option Wl := if (cleanW d).1 = 0 then some ⟨(pickN d).1, openH d, false⟩ else none
/-- Save -/
def bareOf (h : Hrd) : Hrd := { h with snap := sNone }
def etyEq (x y : Ety) : Bool := decide (x.term = y.term) && decide (x.members = y.members) && eqS x.data y.data
def commonE : List Ety → List Ety → Nat
  | x :: r, y :: s => if etyEq x y then commonE r s + 1 else 0
  | _, _ => 0
def sameW (x h : Hrd) : Bool :=
  decide (h.term = x.term) && decide (h.vote = x.vote) && decide (h.base = x.base) && decide (h.bterm = x.bterm) && decide (h.members = x.members) &&
  decide (h.log.length = x.log.length) && decide (commonE h.log x.log = h.log.length)
def anewW (d : Dk) (w : Wl) (h : Hrd) : Bool :=
  decide (w.n = 0) || decide (8192 < (fileW d w.n).length) || decide (h.base ≠ w.h.base) || decide (h.bterm ≠ w.h.bterm) || decide (h.members ≠ w.h.members) ||
  decide (h.term < w.h.term) || (decide (h.term = w.h.term) && decide (w.h.vote ≠ -1) && decide (h.vote ≠ w.h.vote))
def numsB : List Int → List UInt8
  | [] => []
  | n :: r => numB n ++ numsB r
def recB (l : List Int) : List UInt8 := Frm.one (numsB l)
def etyB (x : Ety) : List UInt8 := Frm.one (numsB [2, x.term, x.members] ++ textB (bytesOf x.data))
def etysB (l : List Ety) : List UInt8 := l.flatMap etyB
def layB (h : Hrd) : List UInt8 := recB [1, h.term, h.vote, h.base, h.bterm, h.members] ++ etysB h.log ++ recB [3]
def moreB (x h : Hrd) : List UInt8 :=
  (if h.term ≠ x.term ∨ h.vote ≠ x.vote then recB [4, h.term, h.vote] else []) ++
  (if commonE h.log x.log < x.log.length then recB [5, h.base + commonE h.log x.log] else []) ++ etysB (h.log.drop (commonE h.log x.log))
def writeD (d : Dk) (n : Nat) (b : List UInt8) : Int × Dk := thenD (appendD d (nameW n) b) fun d => syncD d (nameW n)
/-- lay anew: the answer, the segment's number, the disk -/
def layW (d : Dk) (n : Nat) (h : Hrd) : Int × Nat × Dk :=
  let r := writeD d (n + 1) (layB h)
  if r.1 = 0 then (if n = 0 then (0, 1, r.2) else let q := removeD r.2 (nameW n); (q.1, n + 1, q.2)) else (r.1, n, r.2)
def keepW (w : Wl) (h : Hrd) (r : Int × Nat × Dk) : Int × Wl × Dk := if r.1 = 0 then (0, ⟨r.2.1, bareOf h, false⟩, r.2.2) else (r.1, ⟨r.2.1, w.h, true⟩, r.2.2)
def saveW (d : Dk) (w : Wl) (h : Hrd) : Int × Wl × Dk :=
  if rightH h = false then (1, w, d)
  else if w.down = true then (18, w, d)
  else if 0 < w.n ∧ sameW w.h h = true then (0, w, d)
  else if anewW d w h = false then keepW w h ((writeD d w.n (moreB w.h h)).1, w.n, (writeD d w.n (moreB w.h h)).2)
  else if 14 < (Lib.decDigits (w.n + 1)).length then (14, w, d)
  else keepW w h (layW d w.n h)
end Go.Proofs.YtgpgcnmnfnnkjaaDoor
end

section
namespace Go.Proofs.YtgpgcnmnfnnkjaaDoor
open Go Go.RowKit Go.PlainAid
theorem LInv.more {k m : Nat} {l : List Fil} (h : LInv k l) (hm : k ≤ m) : LInv m l := ⟨h.sort, h.nam, h.kept, h.tot, by have := h.len; omega⟩
theorem PInv.more {k m : Nat} {d : Dk} (h : PInv k d) (hm : k ≤ m) : PInv m d := ⟨h.l.more hm, h.lo, h.hi⟩
theorem PInv.step0 {k : Nat} {d : Dk} (h : PInv k d) {f : List Fil → List Fil} (hf : LInv k (f d.fs)) : PInv k (stepD d f).2 := by
  have hp := h.pow
  unfold stepD
  split
  · exact ⟨hf, hp.lo, hp.hi⟩
  · exact hp
theorem PInv.on0 {k : Nat} {d : Dk} (h : PInv k d) {s : ByteArray} {f : List Fil → Nat → List Fil} (hf : ∀ j, j < d.fs.length → LInv k (f d.fs j)) : PInv k (onD d s f).2 := by
  rcases knownD_spec d s with ⟨h1, _⟩ | ⟨j, hj, h1, h2⟩
  · rw [onD_no h1]; exact h
  · rw [onD_yes h1 h2]; exact h.step0 (f := fun l => f l j) (hf j hj)
theorem PInv.len0 {k : Nat} {d' : Dk} (h : PInv (k + 1) d') (hl : d'.fs.length ≤ k) : PInv k d' := ⟨⟨h.l.sort, h.l.nam, h.l.kept, h.l.tot, hl⟩, h.lo, h.hi⟩
theorem stepD_len {d : Dk} {f : List Fil → List Fil} (hf : (f d.fs).length ≤ d.fs.length) : (stepD d f).2.fs.length ≤ d.fs.length := by
  unfold stepD
  split
  · exact hf
  · rw [powD_fs]; exact Nat.le_refl _
theorem onD_len {d : Dk} {s : ByteArray} {f : List Fil → Nat → List Fil} (hf : ∀ j, (f d.fs j).length ≤ d.fs.length) : (onD d s f).2.fs.length ≤ d.fs.length := by
  rcases knownD_spec d s with ⟨h1, _⟩ | ⟨j, hj, h1, h2⟩
  · rw [onD_no h1]; exact Nat.le_refl _
  · rw [onD_yes h1 h2]; exact stepD_len (f := fun l => f l j) (hf j)
theorem PInv.remove0 {k : Nat} {d : Dk} (h : PInv k d) (s : ByteArray) : PInv k (removeD d s).2 := h.on0 fun j _ => h.l.del j
theorem updD_len (l : List Fil) (k : Nat) (f : Fil → Fil) : (updD l k f).length ≤ l.length := by
  unfold updD; split <;> simp
theorem syncD_len (d : Dk) (s : ByteArray) : (syncD d s).2.fs.length ≤ d.fs.length := by
  unfold syncD; exact onD_len fun j => updD_len _ _ _
theorem cutD_len (d : Dk) (s : ByteArray) (n : Int) : (cutD d s n).2.fs.length ≤ d.fs.length := by
  unfold cutD
  split
  · exact Nat.le_refl _
  · exact onD_len fun j => updD_len _ _ _
theorem PInv.sync0 {k : Nat} {d : Dk} (h : PInv k d) (s : ByteArray) : PInv k (syncD d s).2 := (PInv.sync h s).len0 (Nat.le_trans (syncD_len d s) h.l.len)
theorem PInv.cut0 {k : Nat} {d : Dk} (h : PInv k d) (s : ByteArray) (n : Int) : PInv k (cutD d s n).2 := (PInv.cut h s n).len0 (Nat.le_trans (cutD_len d s n) h.l.len)
theorem PInv.then {k : Nat} {r : Int × Dk} {f : Dk → Int × Dk} (h : PInv k r.2) (hf : ∀ d, PInv k d → PInv k (f d).2) : PInv k (thenD r f).2 := by
  unfold thenD; split
  · exact hf _ h
  · exact h
theorem PInv.removes {k : Nat} : ∀ (l : List Nat) (n : Nat) (d : Dk), PInv k d → PInv k (removesD l n d).2
  | [], _, _, h => h
  | x :: r, n, d, h => by
    rw [removesD]; split
    · exact PInv.removes r n d h
    · exact (h.remove0 _).then fun d h => PInv.removes r n d h
theorem PInv.cutS {k : Nat} {d : Dk} (h : PInv k d) (n : Nat) (s : Sg) : PInv k (Proofs.YtgpgcnmnfnnkjaaDoor.cutS d n s).2 := by
  unfold Proofs.YtgpgcnmnfnnkjaaDoor.cutS; split
  · exact h.cut0 _ _
  · exact h
theorem PInv.clean {k : Nat} {d : Dk} (h : PInv k d) : PInv k (cleanW d).2 := by
  unfold cleanW cleanD
  refine (h.cutS _ _).then fun d h => (PInv.removes _ _ _ h).then fun d h => ?_
  split
  · exact h.sync0 _
  · exact h
theorem PInv.write {k : Nat} {d : Dk} (h : PInv k d) (n : Nat) (b : List UInt8) : PInv (k + 1) (writeD d n b).2 := by
  unfold writeD
  exact (h.append _ _).then fun d h => h.sync0 _
theorem PInv.lay {k : Nat} {d : Dk} (h : PInv k d) (n : Nat) (x : Hrd) : PInv (k + 1) (layW d n x).2.2 := by
  unfold layW
  dsimp only
  have h1 := h.write (n + 1) (layB x)
  split
  · split
    · exact h1
    · exact h1.remove0 _
  · exact h1
theorem PInv.keepW {k : Nat} {w : Wl} {h : Hrd} {r : Int × Nat × Dk} (p : PInv k r.2.2) : PInv k (Proofs.YtgpgcnmnfnnkjaaDoor.keepW w h r).2.2 := by
  unfold Proofs.YtgpgcnmnfnnkjaaDoor.keepW; split <;> exact p
theorem PInv.save {k : Nat} {d : Dk} (p : PInv k d) (w : Wl) (h : Hrd) : PInv (k + 1) (saveW d w h).2.2 := by
  unfold saveW
  repeat' (first | exact p.up | exact PInv.keepW (p.write _ _) | exact PInv.keepW (p.lay _ _) | split)
end Go.Proofs.YtgpgcnmnfnnkjaaDoor
end

section
namespace Go.Proofs.YtgpgcnmnfnnkjaaDoor
open Go Go.RowKit Go.PlainAid
theorem stepD_cases (d : Dk) (f : List Fil → List Fil) : ((stepD d f).1 = 18 ∧ (stepD d f).2.fs = d.fs) ∨ ((stepD d f).1 = 0 ∧ (stepD d f).2.fs = f d.fs) := by
  cases h : (powD d).1 with
  | true => rw [stepD_yes h]; exact .inr ⟨rfl, rfl⟩
  | false => rw [stepD_no h]; exact .inl ⟨rfl, powD_fs d⟩
theorem onD_cases (d : Dk) (s : ByteArray) (f : List Fil → Nat → List Fil) : ((onD d s f).1 ≠ 0 ∧ (onD d s f).2.fs = d.fs) ∨ ((onD d s f).1 = 0 ∧ ∃ j, ∃ hj : j < d.fs.length, idxD d.fs s = (j : Int) ∧ getF d.fs s = some d.fs[j] ∧ d.fs[j].name = s ∧ (onD d s f).2.fs = f d.fs j) := by
  rcases knownD_spec d s with ⟨h1, _⟩ | ⟨j, hj, h1, h2⟩
  · rw [onD_no h1]; exact .inl ⟨h1, rfl⟩
  · rw [onD_yes h1 h2]
    rcases stepD_cases d (fun l => f l j) with ⟨e1, e2⟩ | ⟨e1, e2⟩
    · exact .inl ⟨by rw [e1]; decide, e2⟩
    · rcases find_idx d.fs s with ⟨q1, _⟩ | ⟨i, hi, q1, q2, q3⟩
      · omega
      · have : i = j := by omega
        subst this
        exact .inr ⟨e1, i, hi, h2, q2, q3, e2⟩
theorem onD_on {d : Dk} (h : OnD d) {s : ByteArray} (hs : getF d.fs s ≠ none) (f : List Fil → Nat → List Fil) : (onD d s f).1 = 0 ∧ OnD (onD d s f).2 := by
  rw [h.on]
  rw [if_neg (fun e => hs ((idx_neg_iff _ _).1 e))]
  exact ⟨rfl, h.fs _⟩
theorem get_del_self {l : List Fil} (hs : SortD l) {j : Nat} (hj : j < l.length) {s : ByteArray} (hn : l[j].name = s) : getF (delD l j) s = none := by
  cases h : getF (delD l j) s with
  | none => rfl
  | some f =>
    exfalso
    obtain ⟨i, hi, _, e, en⟩ := get_at h
    have hlen : (delD l j).length = l.length - 1 := by unfold delD; rw [List.length_append, List.length_take, List.length_drop]; omega
    have hidx := hs.idx hj
    rw [hn] at hidx
    have he : (delD l j)[i]? = some f := by rw [List.getElem?_eq_getElem hi, e]
    unfold delD at he
    have fin : ∀ k, k ≠ j → l[k]? = some f → False := fun k hk hq => by
      obtain ⟨hkl, hkf⟩ := List.getElem?_eq_some_iff.1 hq
      have h3 := hs.idx hkl
      rw [hkf, en, hidx] at h3; omega
    by_cases hij : i < j
    · rw [List.getElem?_append_left (by rw [List.length_take]; omega), List.getElem?_take, if_pos hij] at he
      exact fin i (by omega) he
    · rw [List.getElem?_append_right (by rw [List.length_take]; omega), List.getElem?_drop, List.length_take] at he
      exact fin _ (by omega) he
theorem upd_self {l : List Fil} {s : ByteArray} {j : Nat} (hj : j < l.length) (hx : idxD l s = (j : Int)) (hg : getF l s = some l[j]) {g : Fil → Fil} (hn : ∀ x, (g x).name = x.name) : getF (updD l j g) s = some (g l[j]) := by
  have := get_upd_self hg hn
  rwa [hx, Int.toNat_natCast] at this
theorem sync_cases (d : Dk) (s : ByteArray) : ((syncD d s).1 ≠ 0 ∧ (syncD d s).2.fs = d.fs) ∨ ((syncD d s).1 = 0 ∧ ∃ f, getF d.fs s = some f ∧ f.name = s ∧ getF (syncD d s).2.fs s = some ⟨s, f.data, f.data.length⟩) := by
  unfold syncD
  rcases onD_cases d s (fun l k => updD l k fun f => ⟨f.name, f.data, f.data.length⟩) with h | ⟨h, j, hj, h1, h2, h3, h4⟩
  · exact .inl h
  · refine .inr ⟨h, d.fs[j], h2, h3, ?_⟩
    rw [h4, upd_self (g := fun f => ⟨f.name, f.data, f.data.length⟩) hj h1 h2 (fun _ => rfl)]
    rw [h3]
theorem cut_cases (d : Dk) (s : ByteArray) (n : Nat) : ((cutD d s n).1 ≠ 0 ∧ (cutD d s n).2.fs = d.fs) ∨ ((cutD d s n).1 = 0 ∧ ∃ f, getF d.fs s = some f ∧ f.name = s ∧ getF (cutD d s n).2.fs s = some ⟨s, f.data.take n, min f.kept n⟩) := by
  unfold cutD
  split
  · exact .inl ⟨by simp, rfl⟩
  · rcases onD_cases d s (fun l k => updD l k fun f => ⟨f.name, f.data.take (n : Int).toNat, min f.kept (n : Int).toNat⟩) with h | ⟨h, j, hj, h1, h2, h3, h4⟩
    · exact .inl h
    · refine .inr ⟨h, d.fs[j], h2, h3, ?_⟩
      rw [h4, upd_self (g := fun f => ⟨f.name, f.data.take (n : Int).toNat, min f.kept (n : Int).toNat⟩) hj h1 h2 (fun _ => rfl)]
      rw [h3, Int.toNat_natCast]
theorem remove_cases {d : Dk} (hs : SortD d.fs) (s : ByteArray) : ((removeD d s).1 ≠ 0 ∧ (removeD d s).2.fs = d.fs) ∨ ((removeD d s).1 = 0 ∧ getF d.fs s ≠ none ∧ getF (removeD d s).2.fs s = none) := by
  unfold removeD
  rcases onD_cases d s delD with h | ⟨h, j, hj, h1, h2, h3, h4⟩
  · exact .inl h
  · exact .inr ⟨h, by rw [h2]; simp, by rw [h4]; exact get_del_self hs hj h3⟩
theorem append_cases (d : Dk) (s : ByteArray) (p : List UInt8) : ((appendD d s p).1 ≠ 0 ∧ (appendD d s p).2.fs = d.fs) ∨ ((appendD d s p).1 = 0 ∧ (appendD d s p).2.fs = addD s p d.fs) := by
  unfold appendD
  split
  · exact .inl ⟨by simp, rfl⟩
  · split
    · exact .inl ⟨by simp, rfl⟩
    · split
      · exact .inl ⟨by simp, rfl⟩
      · rcases stepD_cases d (addD s p) with ⟨e1, e2⟩ | h
        · exact .inl ⟨by rw [e1]; decide, e2⟩
        · exact .inr h
theorem add_some {l : List Fil} {s : ByteArray} {f : Fil} (h : getF l s = some f) (p : List UInt8) : getF (addD s p l) s = some ⟨s, f.data ++ p, f.kept⟩ := by
  obtain ⟨_, _, _, _, hn⟩ := get_at h
  rw [get_addD_self, h]; dsimp only [Option.getD]; rw [hn]
theorem add_none {l : List Fil} {s : ByteArray} (h : getF l s = none) (p : List UInt8) : getF (addD s p l) s = some ⟨s, p, 0⟩ := by
  rw [get_addD_self, h]; rfl
theorem cut_other {s t : ByteArray} (d : Dk) (n : Int) (h : t ≠ s) : getF (cutD d t n).2.fs s = getF d.fs s := by
  unfold cutD
  split
  · rfl
  · exact onD_other d fun _ hj hn => get_upd hj hn h fun _ => rfl
/- with the power on -/
theorem sync_on {d : Dk} (h : OnD d) {s : ByteArray} (hs : getF d.fs s ≠ none) : (syncD d s).1 = 0 ∧ OnD (syncD d s).2 := onD_on h hs _
theorem remove_on {d : Dk} (h : OnD d) {s : ByteArray} (hs : getF d.fs s ≠ none) : (removeD d s).1 = 0 ∧ OnD (removeD d s).2 := onD_on h hs _
theorem cut_on {d : Dk} (h : OnD d) {s : ByteArray} {f : Fil} (hf : getF d.fs s = some f) {n : Nat} (hn : n ≤ f.data.length) : (cutD d s n).1 = 0 ∧ OnD (cutD d s n).2 := by
  obtain ⟨j, hj, h1, h2, h3⟩ := get_at hf
  unfold cutD
  rw [if_neg]
  · exact onD_on h (by rw [hf]; simp) _
  · rintro ⟨_, e | e⟩
    · omega
    · rw [h1, Int.toNat_natCast, List.getElem?_eq_getElem hj, h2] at e
      dsimp only [Option.map, Option.getD] at e
      omega
theorem append_on {d : Dk} (h : OnD d) {s : ByteArray} (hs : namedD s = true) {p : List UInt8} (ht : totD d.fs + p.length ≤ 4194304) : (appendD d s p).1 = 0 ∧ OnD (appendD d s p).2 := by
  rw [h.append, if_neg (by rw [hs]; decide), if_neg (by omega)]
  exact ⟨rfl, h.fs _⟩
theorem OnD.crash (d : Dk) (picks : List Int) : OnD (crashD d picks) := ⟨rfl, rfl⟩
theorem crash_none (picks : List Int) {s : ByteArray} : ∀ (l : List Fil) (i : Nat), getF l s = none → getF (crashTo picks l i) s = none
  | [], _, _ => rfl
  | x :: r, i, h => by
    unfold getF at h ⊢
    rw [crashTo, List.find?_cons]
    rw [List.find?_cons] at h
    have e : hasN s (tornD ((picks[i]?).getD 0) x) = hasN s x := rfl
    rw [e]
    cases hx : hasN s x with
    | true => rw [hx] at h; cases h
    | false => rw [hx] at h; exact crash_none picks r (i + 1) h
theorem crash_some (picks : List Int) {s : ByteArray} {f : Fil} : ∀ (l : List Fil) (i : Nat), getF l s = some f → ∃ pick, getF (crashTo picks l i) s = some (tornD pick f)
  | [], _, h => by cases h
  | x :: r, i, h => by
    unfold getF at h ⊢
    rw [crashTo, List.find?_cons]
    rw [List.find?_cons] at h
    have e : hasN s (tornD ((picks[i]?).getD 0) x) = hasN s x := rfl
    rw [e]
    cases hx : hasN s x with
    | true => rw [hx] at h; cases h; exact ⟨_, rfl⟩
    | false => rw [hx] at h; exact crash_some picks r (i + 1) h
theorem crash_get0 (d : Dk) (picks : List Int) {s : ByteArray} {f : Fil} (h : getF d.fs s = some f) : ∃ pick, getF (crashD d picks).fs s = some (tornD pick f) := crash_some picks d.fs 0 h
theorem crash_back (d : Dk) (picks : List Int) {s : ByteArray} {g : Fil} (h : getF (crashD d picks).fs s = some g) : ∃ f pick, getF d.fs s = some f ∧ g = tornD pick f := by
  cases hf : getF d.fs s with
  | none => have e : getF (crashD d picks).fs s = none := crash_none picks d.fs 0 hf
            rw [h] at e; cases e
  | some f =>
    obtain ⟨pick, hp⟩ := crash_get0 d picks hf
    rw [h] at hp; cases hp
    exact ⟨f, pick, rfl, rfl⟩
theorem PInv.crash0 {k : Nat} {d : Dk} (h : PInv k d) (picks : List Int) : PInv k (crashD d picks) := ⟨h.l.crash picks, by show (-1 : Int) ≤ -1; decide, by show (-1 : Int) ≤ _; decide⟩
theorem PInv.arm0 {k : Nat} {d : Dk} (h : PInv k d) {n : Int} (hn : n ≤ 9223372036854775807) : PInv k (armD d n) := by
  refine ⟨h.l, ?_, ?_⟩
  · show -1 ≤ if n < 0 then -1 else n; split <;> omega
  · show (if n < 0 then -1 else n) ≤ _; split <;> omega
theorem totD_most {l : List Fil} {M : Nat} (h : ∀ f ∈ l, f.data.length ≤ M) : totD l ≤ l.length * M := by
  induction l with
  | nil => simp [totD]
  | cons x r ih =>
    have h1 := h x (by simp)
    have h2 := ih fun f hf => h f (by simp [hf])
    rw [totD_cons, List.length_cons, Nat.add_mul]; omega
end Go.Proofs.YtgpgcnmnfnnkjaaDoor
end

section
namespace Go.Proofs.YtgpgcnmnfnnkjaaDoor
open Go Go.RowKit Go.PlainAid

def etyE : Enc Ety := ⟨3, fun x => [.int .i64 x.term, .int .i64 x.members, .string x.data], fun _ => rfl, fun _ v hv => by
  simp only [List.mem_cons, List.not_mem_nil, or_false] at hv; rcases hv with rfl | rfl | rfl <;> rfl, by decide⟩
def etyV (x : Ety) : Value := .agg #[.int .i64 x.term, .int .i64 x.members, .string x.data]
@[reducible] def hrdA (h : Hrd) (v : Value) : Value := .agg #[.int .i64 h.term, .int .i64 h.vote, .int .i64 h.base, .int .i64 h.bterm, .int .i64 h.members, .string h.snap, v]
theorem tEty : SlT Tryd.prog 28 36 3 32 := SlT.mk' (z := .agg #[.int .i64 0, .int .i64 0, .string ⟨#[]⟩]) Tryd.underlying28 (by kernel_rfl) rfl (by decide) (by decide)
theorem ety3 {w : World} {b off n c : Nat} {l : List Ety} (h : Rd etyE w (.slice (some ⟨b, off, none⟩) n c) l) {k : Nat} (hk : k < l.length) :
    w.cell? ⟨b, off + k * 3, none⟩ = some (.int .i64 l[k].term) ∧ w.cell? ⟨b, off + k * 3 + 1, none⟩ = some (.int .i64 l[k].members) ∧ w.cell? ⟨b, off + k * 3 + 2, none⟩ = some (.string l[k].data) :=
  ⟨h.at_ hk 0 (by decide), h.at_ hk 1 (by decide), h.at_ hk 2 (by decide)⟩
theorem str_none {s : ByteArray} (h : s.size = 0) : s.toList.isEmpty = true := by
  rw [ByteArray.toList_eq]
  have : s.data.toList = [] := List.length_eq_zero_iff.1 (by simpa using h)
  rw [this]; rfl
theorem str_some {s : ByteArray} (h : ¬ s.size = 0) : s.toList.isEmpty = false := by
  rw [ByteArray.toList_eq]
  cases e : s.data.toList with
  | nil => exact absurd (by have := congrArg List.length e; simpa using this) h
  | cons => rfl
theorem fitsE_iff (x : Ety) (b t : Int) : fitsE x b t = true ↔ (1 ≤ x.term ∧ b ≤ x.term ∧ x.term ≤ t ∧ 0 ≤ x.members ∧ x.members ≤ 127 ∧ (x.data.size : Int) ≤ 1100 ∧ (x.members = 0 ∨ x.data.size = 0)) := by
  unfold fitsE
  simp only [Bool.and_eq_true, Bool.or_eq_true, decide_eq_true_eq, and_assoc]
  omega
theorem bool_of {a : Bool} {P : Prop} {b : Bool} (hi : b = true ↔ P) (h : a = true ↔ P) : a = b := by
  cases a <;> cases b <;> simp_all

set_option maxRecDepth 4000 in
set_option maxHeartbeats 1000000 in
theorem walFits (x : Ety) (b t : Int) (w : World) :
    Calls Tryd.prog 77 #[etyV x, .int .i64 b, .int .i64 t] w fun e w' => e = .returned (.bool (fitsE x b t)) ∧ Below w.heap.size w w' := by
  have Hf := Lib.hid (fitsE_iff x b t)
  generalize fitsE x b t = r at *
  unfold etyV
  by_cases hd : x.data.size = 0 <;> cases d1 : (x.members == 0)
  all_goals
    first | have he := str_none hd | have he := str_some hd
    simp only [beq_iff_eq, beq_eq_false_iff_ne, ne_eq] at d1
    have d2 : (x.members == 0) = decide (x.members = 0) := rfl
    first | rw [decide_eq_true d1] at d2 | rw [decide_eq_false d1] at d2
    go_enter Tryd.func77, Tryd.ntmps77
    go_wp2
    all_goals
      go_ret
      refine ⟨ret_bool (bool_of Hf.out ?_).symm.symm, below_alloc _ _⟩
      first
      | (simp; done)
      | (simp; omega)
      | (constructor <;> intro h <;> simp_all <;> omega)
end Go.Proofs.YtgpgcnmnfnnkjaaDoor
end
