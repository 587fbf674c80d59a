/- The disk's plain words, and how files lie in memory. -/
import Derived.Test.YtklopbjlpffnbaaRows
import Derived.Test.YtklopbjlpffnbaaFoot
import Derived.Test.YtklopbjlpffnbaaStrOrd
import Derived.PlainAid
namespace Go.Proofs.Ytklopbjlpffnbaa
open Go Go.RowKit Go.PlainAid

/-- where the first one is of which p holds, counted from k on; -1: none -/
def placeBy {α : Type} (p : α → Bool) : List α → Nat → Int
  | [], _ => -1
  | x :: r, k => if p x then (k : Int) else placeBy p r (k + 1)
section
variable {α : Type} {p : α → Bool} {l : List α}
theorem placeBy_spec (p : α → Bool) (l : List α) (k : Nat) : (placeBy p l k = -1 ∧ ∀ x ∈ l, p x = false) ∨ ∃ j, ∃ h : j < l.length, placeBy p l k = ((k + j : Nat) : Int) ∧ p l[j] = true ∧ ∀ i (h' : i < l.length), i < j → p l[i] = false := by
  induction l generalizing k with
  | nil => exact .inl ⟨rfl, fun x hx => by simp at hx⟩
  | cons x r ih =>
    cases hx : p x with
    | true => exact .inr ⟨0, by simp, by simp [placeBy, hx], by simpa using hx, fun i _ h => by omega⟩
    | false =>
      rcases ih (k + 1) with ⟨h1, h2⟩ | ⟨j, h, h1, h2, h3⟩
      · refine .inl ⟨by simp [placeBy, hx, h1], fun y hy => ?_⟩
        rcases List.mem_cons.1 hy with rfl | hy
        · exact hx
        · exact h2 y hy
      · refine .inr ⟨j + 1, by simpa using h, ?_, by simpa using h2, fun i h' hi => ?_⟩
        · simp only [placeBy, hx, Bool.false_eq_true, if_false]; rw [h1]; congr 1; omega
        · cases i with
          | zero => simpa using hx
          | succ i => simpa using h3 i (by simpa using h') (by omega)
theorem placeBy_hit {k : Nat} (h : k < l.length) (hp : p l[k] = true) : placeBy p (l.drop k) k = k := by
  rw [List.drop_eq_getElem_cons h, placeBy, if_pos hp]
theorem placeBy_miss {k : Nat} (h : k < l.length) (hp : p l[k] = false) : placeBy p (l.drop k) k = placeBy p (l.drop (k + 1)) (k + 1) := by
  rw [List.drop_eq_getElem_cons h, placeBy, if_neg (by rw [hp]; simp)]
theorem placeBy_end {k : Nat} (h : l.length ≤ k) : placeBy p (l.drop k) k = -1 := by rw [List.drop_of_length_le h]; rfl
theorem placeBy_map {β : Type} (f : β → α) (q : β → Bool) (hq : ∀ y, q y = p (f y)) : ∀ (m : List β) (k : Nat), placeBy q m k = placeBy p (m.map f) k
  | [], _ => rfl
  | y :: m, k => by rw [List.map_cons, placeBy, placeBy, hq, placeBy_map f q hq m (k + 1)]
end

/-- a file; a disk: left below 0: not armed -/
structure Fil where
  name : ByteArray
  data : List UInt8
  kept : Nat
structure Dk where
  fs : List Fil
  off : Bool
  left : Int
def hasN (s : ByteArray) (f : Fil) : Bool := eqS f.name s
def idxD (l : List Fil) (s : ByteArray) : Int := placeBy (hasN s) l 0
def posD (l : List Fil) (s : ByteArray) : Nat := (l.takeWhile fun f => ltS f.name s).length
def putD (l : List Fil) (f : Fil) : List Fil := l.take (posD l f.name) ++ f :: l.drop (posD l f.name)
def delD (l : List Fil) (k : Nat) : List Fil := l.take k ++ l.drop (k + 1)
def totD (l : List Fil) : Nat := (l.map fun f => f.data.length).sum
def okB (s : ByteArray) (k : Nat) : Bool := decide (33 ≤ bt s k) && decide (bt s k ≤ 126)
def allB (s : ByteArray) : Nat → Nat → Bool
  | 0, _ => true
  | n + 1, k => okB s k && allB s n (k + 1)
def namedD (s : ByteArray) : Bool := (decide (1 ≤ s.size) && decide (s.size ≤ 24)) && allB s s.size 0
theorem allB_step {s : ByteArray} {k : Nat} (h : k < s.size) : allB s (s.size - k) k = (okB s k && allB s (s.size - (k + 1)) (k + 1)) := by
  rw [show s.size - k = (s.size - (k + 1)) + 1 from by omega]; rfl
theorem allB_end {s : ByteArray} {k : Nat} (h : s.size ≤ k) : allB s (s.size - k) k = true := by rw [show s.size - k = 0 from by omega]; rfl
def updD (l : List Fil) (k : Nat) (f : Fil → Fil) : List Fil := match l[k]? with
  | some x => l.set k (f x)
  | none => l
def powD (d : Dk) : Bool × Dk := if d.left = 0 then (false, { d with off := true }) else (true, { d with left := if 0 < d.left then d.left - 1 else d.left })
def stepD (d : Dk) (f : List Fil → List Fil) : Int × Dk := if (powD d).1 then (0, { (powD d).2 with fs := f d.fs }) else (18, (powD d).2)
def knownD (d : Dk) (s : ByteArray) : Int × Int := if d.off then (0, 18) else if idxD d.fs s < 0 then (0, 11) else (idxD d.fs s, 0)
def addD (s : ByteArray) (p : List UInt8) (l : List Fil) : List Fil :=
  let m := if idxD l s < 0 then putD l ⟨s, [], 0⟩ else l
  updD m (idxD m s).toNat fun f => ⟨f.name, f.data ++ p, f.kept⟩
def appendD (d : Dk) (s : ByteArray) (p : List UInt8) : Int × Dk :=
  if d.off then (18, d) else if namedD s = false then (19, d) else if 4194304 < totD d.fs + p.length then (14, d) else stepD d (addD s p)
def onD (d : Dk) (s : ByteArray) (f : List Fil → Nat → List Fil) : Int × Dk :=
  if (knownD d s).2 ≠ 0 then ((knownD d s).2, d) else stepD d fun l => f l (idxD d.fs s).toNat
def syncD (d : Dk) (s : ByteArray) : Int × Dk := onD d s fun l k => updD l k fun f => ⟨f.name, f.data, f.data.length⟩
def cutD (d : Dk) (s : ByteArray) (n : Int) : Int × Dk :=
  if (knownD d s).2 = 0 ∧ (n < 0 ∨ (((d.fs[(idxD d.fs s).toNat]?).map fun f => (f.data.length : Int)).getD 0) < n) then (1, d)
  else onD d s fun l k => updD l k fun f => ⟨f.name, f.data.take n.toNat, min f.kept n.toNat⟩
def removeD (d : Dk) (s : ByteArray) : Int × Dk := onD d s delD
def moveD (to : ByteArray) (l : List Fil) (k : Nat) : List Fil := match l[k]? with
  | none => l
  | some f =>
    let m := delD l k
    putD (if 0 ≤ idxD m to then delD m (idxD m to).toNat else m) ⟨to, f.data, f.kept⟩
def renameD (d : Dk) (s to : ByteArray) : Int × Dk :=
  if d.off = false ∧ namedD to = false then (19, d) else onD d s fun l k => if eqS s to then l else moveD to l k
def readD (d : Dk) (s : ByteArray) : Option (List UInt8) := if idxD d.fs s < 0 then none else (d.fs[(idxD d.fs s).toNat]?).map (·.data)
def armD (d : Dk) (n : Int) : Dk := { d with left := if n < 0 then -1 else n }
def flipLast (l : List UInt8) : List UInt8 := match l[l.length - 1]? with
  | some x => l.set (l.length - 1) (x ^^^ 255)
  | none => l
def tornD (pick : Int) (f : Fil) : Fil :=
  let u := f.data.length - f.kept
  let stay := pick.toNat % (u + 1)
  let b := f.data.take (f.kept + stay)
  let b' := if 0 < stay ∧ pick.toNat / (u + 1) % 2 = 1 then flipLast b else b
  ⟨f.name, b', b'.length⟩
def crashTo (picks : List Int) : List Fil → Nat → List Fil
  | [], _ => []
  | f :: r, i => tornD ((picks[i]?).getD 0) f :: crashTo picks r (i + 1)
def crashD (d : Dk) (picks : List Int) : Dk := ⟨crashTo picks d.fs 0, false, -1⟩
def dk0 : Dk := ⟨[], false, -1⟩

/-- a file as it lies: its bytes' slice -/
structure Ent where
  name : ByteArray
  p : Option Addr
  c : Nat
  data : List UInt8
  kept : Nat
def Ent.v (y : Ent) : Value := .slice y.p y.data.length y.c
def Ent.fil (y : Ent) : Fil := ⟨y.name, y.data, y.kept⟩
def entE : Enc Ent := ⟨3, fun y => [.string y.name, .slice y.p y.data.length y.c, .int .i64 (y.kept : Int)], fun _ => rfl, fun _ v hv => by
  simp only [List.mem_cons, List.not_mem_nil, or_false] at hv
  rcases hv with rfl | rfl | rfl <;> rfl, by decide⟩
theorem tFil : SlT Try.prog 56 64 3 48 := SlT.mk' (z := .agg #[.string ⟨#[]⟩, .slice none 0 0, .int .i64 0]) Try.underlying56 (by kernel_rfl) rfl (by decide) (by decide)
theorem tU8 : SlT Try.prog 25 5 1 1 := SlT.mk' (z := .int .u8 0) Try.underlying25 (by kernel_rfl) rfl (by decide) (by decide)

def Apart (a b : Value) : Prop := ∀ k, a.ownBlock = some k → b.ownBlock ≠ some k
theorem Apart.symm {a b : Value} (h : Apart a b) : Apart b a := fun k h1 h2 => h k h2 h1
structure Files (w : World) (F : Nat → Prop) (e : TypeId) (v : Value) (ys : List Ent) : Prop where
  row : OwnR entE w 0 e v ys
  data : ∀ y ∈ ys, OwnB w 0 5 y.v y.data
  apart : ys.Pairwise (fun a b => Apart a.v b.v)
  off : ∀ y ∈ ys, Apart v y.v
  inV : ∀ k, v.ownBlock = some k → F k
  inF : ∀ y ∈ ys, ∀ k, y.v.ownBlock = some k → F k

/-- the blocks of F, and those made since -/
def FF (F : Nat → Prop) (w w' : World) : Nat → Prop := fun k => F k ∨ (w.heap.size ≤ k ∧ k < w'.heap.size)
section
variable {F G : Nat → Prop} {w w' w1 w2 : World} {e : TypeId} {v : Value} {ys : List Ent}
theorem Chg.seq (h : Chg F w w1) (h2 : Chg (FF F w w1) w1 w2) : Chg F w w2 := h.trans h2 fun k hk hg => by
  rcases hg with h | h
  · exact h
  · omega
theorem Chg.seq2 (h : Chg F w w1) (h2 : Below w1.heap.size w1 w2) : Chg F w w2 := h.step (.of_below h2)
theorem FF.seq (h1 : w1.heap.size ≤ w2.heap.size) (h0 : w.heap.size ≤ w1.heap.size) {k : Nat} (h : FF (FF F w w1) w1 w2 k) : FF F w w2 k := by
  rcases h with (h | h) | h
  · exact .inl h
  · exact .inr ⟨h.1, by omega⟩
  · exact .inr ⟨by omega, h.2⟩
theorem Files.mono (h : Files w F e v ys) (hg : ∀ k, F k → G k) : Files w G e v ys := ⟨h.row, h.data, h.apart, h.off, fun k hk => hg k (h.inV k hk), fun y hy k hk => hg k (h.inF y hy k hk)⟩
theorem Files.chg (h : Files w F e v ys) (hc : Chg G w w') (hd : ∀ k, F k → ¬ G k) : Files w' F e v ys :=
  ⟨hc.ownR h.row fun k hk => hd k (h.inV k hk), fun y hy => hc.ownB (h.data y hy) fun k hk => hd k (h.inF y hy k hk), h.apart, h.off, h.inV, h.inF⟩
theorem Files.ext (h : Files w F e v ys) (hb : Below w.heap.size w w') : Files w' F e v ys := h.chg (G := fun _ => False) (.of_below hb) fun _ _ h => h
theorem Files.drew (h : Files w F e v ys) : Files w.drew F e v ys := ⟨h.row, h.data, h.apart, h.off, h.inV, h.inF⟩
theorem Files.drewN (h : Files w F e v ys) (n : Nat) : Files (w.drewN n) F e v ys := ⟨h.row, h.data, h.apart, h.off, h.inV, h.inF⟩
end

/-- the program's disk lies at block g, all its blocks are in F -/
structure DiskAt (w : World) (F : Nat → Prop) (g : Nat) (d : Dk) : Prop where
  ex : ∃ v ys, Blk w g #[v, .bool d.off, .bool (decide (0 ≤ d.left)), .int .i64 (max d.left 0)] 58 ∧ Files w F 64 v ys ∧ v.ownBlock ≠ some g ∧ (∀ y ∈ ys, y.v.ownBlock ≠ some g) ∧ ys.map Ent.fil = d.fs
  inG : F g
  lt : ∀ k, F k → k < w.heap.size
section
variable {F G : Nat → Prop} {w w' w1 w2 : World} {g : Nat} {d : Dk}
theorem DiskAt.chg (h : DiskAt w F g d) (hc : Chg G w w') (hd : ∀ k, F k → ¬ G k) : DiskAt w' F g d := by
  obtain ⟨⟨v, ys, h1, h2, h3, h4, h5⟩, h6, h7⟩ := h
  exact ⟨⟨v, ys, hc.blk h1 (hd g h6), h2.chg hc hd, h3, h4, h5⟩, h6, fun k hk => Nat.lt_of_lt_of_le (h7 k hk) hc.size⟩
theorem DiskAt.ext (h : DiskAt w F g d) (hb : Below w.heap.size w w') : DiskAt w' F g d := h.chg (G := fun _ => False) (.of_below hb) fun _ _ h => h
theorem DiskAt.drew (h : DiskAt w F g d) : DiskAt w.drew F g d := h.ext ((Below.refl _ _).drew)
theorem DiskAt.mono (h : DiskAt w F g d) (hg : ∀ k, F k → G k) (hl : ∀ k, G k → k < w.heap.size) : DiskAt w G g d := by
  obtain ⟨⟨v, ys, h1, h2, h3, h4, h5⟩, h6, h7⟩ := h
  exact ⟨⟨v, ys, h1, h2.mono hg, h3, h4, h5⟩, hg g h6, hl⟩
theorem FF_lt {F : Nat → Prop} {w w' : World} (hl : ∀ k, F k → k < w.heap.size) (hs : w.heap.size ≤ w'.heap.size) : ∀ k, FF F w w' k → k < w'.heap.size := fun k hk => by
  rcases hk with h | h
  · exact Nat.lt_of_lt_of_le (hl k h) hs
  · exact h.2
theorem DiskAt.ff (h : DiskAt w1 F g d) (hs : w.heap.size ≤ w1.heap.size) : DiskAt w1 (FF F w w1) g d := h.mono (fun _ => .inl) fun k hk => by
  rcases hk with h' | h'
  · exact h.lt k h'
  · exact h'.2
theorem DiskAt.seq (h : DiskAt w2 (FF (FF F w w1) w1 w2) g d) (h0 : ∀ k, F k → k < w.heap.size) (h1 : w1.heap.size ≤ w2.heap.size) (h2 : w.heap.size ≤ w1.heap.size) : DiskAt w2 (FF F w w2) g d :=
  h.mono (fun _ hk => FF.seq h1 h2 hk) (FF_lt h0 (by omega))
end
end Go.Proofs.Ytklopbjlpffnbaa
