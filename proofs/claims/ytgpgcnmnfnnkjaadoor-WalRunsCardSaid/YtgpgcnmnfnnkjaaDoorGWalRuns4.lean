/- The disk's plain words, and how files lie in memory. Walks of package pack: more, Num, Text; append of a string's bytes. -/
import Derived.Test.YtgpgcnmnfnnkjaaDoorRows
import Derived.Test.YtgpgcnmnfnnkjaaDoorGWalRuns3
import Derived.PlainAid
import Derived.Test.YtgpgcnmnfnnkjaaDoorGWalRuns1
import Derived.BigQuiet
import Derived.Lib.AppendStr
import Derived.Laws.Bits64b
import Derived.Laws.BitsAllLaws
set_option linter.unusedVariables false
set_option linter.unusedSimpArgs false
section
namespace Go.Proofs.YtgpgcnmnfnnkjaaDoor
open Go Go.RowKit Go.PlainAid

/-- where the first one is of which p holds, counted from k on; -1: none -/
def placeBy {α : Type} (p : α → Bool) : List α → Nat → Int
  | [], _ => -1
  | x :: r, k => if p x then (k : Int) else placeBy p r (k + 1)
section
variable {α : Type} {p : α → Bool} {l : List α}
theorem placeBy_spec (p : α → Bool) (l : List α) (k : Nat) : (placeBy p l k = -1 ∧ ∀ x ∈ l, p x = false) ∨ ∃ j, ∃ h : j < l.length, placeBy p l k = ((k + j : Nat) : Int) ∧ p l[j] = true ∧ ∀ i (h' : i < l.length), i < j → p l[i] = false := by
  induction l generalizing k with
  | nil => exact .inl ⟨rfl, fun x hx => by simp at hx⟩
  | cons x r ih =>
    cases hx : p x with
    | true => exact .inr ⟨0, by simp, by simp [placeBy, hx], by simpa using hx, fun i _ h => by omega⟩
    | false =>
      rcases ih (k + 1) with ⟨h1, h2⟩ | ⟨j, h, h1, h2, h3⟩
      · refine .inl ⟨by simp [placeBy, hx, h1], fun y hy => ?_⟩
        rcases List.mem_cons.1 hy with rfl | hy
        · exact hx
        · exact h2 y hy
      · refine .inr ⟨j + 1, by simpa using h, ?_, by simpa using h2, fun i h' hi => ?_⟩
        · simp only [placeBy, hx, Bool.false_eq_true, if_false]; rw [h1]; congr 1; omega
        · cases i with
          | zero => simpa using hx
          | succ i => simpa using h3 i (by simpa using h') (by omega)
theorem placeBy_hit {k : Nat} (h : k < l.length) (hp : p l[k] = true) : placeBy p (l.drop k) k = k := by
  rw [List.drop_eq_getElem_cons h, placeBy, if_pos hp]
theorem placeBy_miss {k : Nat} (h : k < l.length) (hp : p l[k] = false) : placeBy p (l.drop k) k = placeBy p (l.drop (k + 1)) (k + 1) := by
  rw [List.drop_eq_getElem_cons h, placeBy, if_neg (by rw [hp]; simp)]
theorem placeBy_end {k : Nat} (h : l.length ≤ k) : placeBy p (l.drop k) k = -1 := by rw [List.drop_of_length_le h]; rfl
theorem placeBy_map {β : Type} (f : β → α) (q : β → Bool) (hq : ∀ y, q y = p (f y)) : ∀ (m : List β) (k : Nat), placeBy q m k = placeBy p (m.map f) k
  | [], _ => rfl
  | y :: m, k => by rw [List.map_cons, placeBy, placeBy, hq, placeBy_map f q hq m (k + 1)]
end

/-- a file; a disk: left below 0: not armed -/
structure Fil where
  name : ByteArray
  data : List UInt8
  kept : Nat
structure Dk where
  fs : List Fil
  off : Bool
  left : Int
def hasN (s : ByteArray) (f : Fil) : Bool := eqS f.name s
def idxD (l : List Fil) (s : ByteArray) : Int := placeBy (hasN s) l 0
def posD (l : List Fil) (s : ByteArray) : Nat := (l.takeWhile fun f => ltS f.name s).length
def putD (l : List Fil) (f : Fil) : List Fil := l.take (posD l f.name) ++ f :: l.drop (posD l f.name)
def delD (l : List Fil) (k : Nat) : List Fil := l.take k ++ l.drop (k + 1)
def totD (l : List Fil) : Nat := (l.map fun f => f.data.length).sum
def okB (s : ByteArray) (k : Nat) : Bool := decide (33 ≤ bt s k) && decide (bt s k ≤ 126)
def allB (s : ByteArray) : Nat → Nat → Bool
  | 0, _ => true
  | n + 1, k => okB s k && allB s n (k + 1)
def namedD (s : ByteArray) : Bool := (decide (1 ≤ s.size) && decide (s.size ≤ 24)) && allB s s.size 0
theorem allB_step {s : ByteArray} {k : Nat} (h : k < s.size) : allB s (s.size - k) k = (okB s k && allB s (s.size - (k + 1)) (k + 1)) := by
  rw [show s.size - k = (s.size - (k + 1)) + 1 from by omega]; rfl
theorem allB_end {s : ByteArray} {k : Nat} (h : s.size ≤ k) : allB s (s.size - k) k = true := by rw [show s.size - k = 0 from by omega]; rfl
def updD (l : List Fil) (k : Nat) (f : Fil → Fil) : List Fil := match l[k]? with
  | some x => l.set k (f x)
  | none => l
def powD (d : Dk) : Bool × Dk := if d.left = 0 then (false, { d with off := true }) else (true, { d with left := if 0 < d.left then d.left - 1 else d.left })
def stepD (d : Dk) (f : List Fil → List Fil) : Int × Dk := if (powD d).1 then (0, { (powD d).2 with fs := f d.fs }) else (18, (powD d).2)
def knownD (d : Dk) (s : ByteArray) : Int × Int := if d.off then (0, 18) else if idxD d.fs s < 0 then (0, 11) else (idxD d.fs s, 0)
def addD (s : ByteArray) (p : List UInt8) (l : List Fil) : List Fil :=
  let m := if idxD l s < 0 then putD l ⟨s, [], 0⟩ else l
  updD m (idxD m s).toNat fun f => ⟨f.name, f.data ++ p, f.kept⟩
def appendD (d : Dk) (s : ByteArray) (p : List UInt8) : Int × Dk :=
  if d.off then (18, d) else if namedD s = false then (19, d) else if 4194304 < totD d.fs + p.length then (14, d) else stepD d (addD s p)
def onD (d : Dk) (s : ByteArray) (f : List Fil → Nat → List Fil) : Int × Dk :=
  if (knownD d s).2 ≠ 0 then ((knownD d s).2, d) else stepD d fun l => f l (idxD d.fs s).toNat
def syncD (d : Dk) (s : ByteArray) : Int × Dk := onD d s fun l k => updD l k fun f => ⟨f.name, f.data, f.data.length⟩
def cutD (d : Dk) (s : ByteArray) (n : Int) : Int × Dk :=
  if (knownD d s).2 = 0 ∧ (n < 0 ∨ (((d.fs[(idxD d.fs s).toNat]?).map fun f => (f.data.length : Int)).getD 0) < n) then (1, d)
  else onD d s fun l k => updD l k fun f => ⟨f.name, f.data.take n.toNat, min f.kept n.toNat⟩
def removeD (d : Dk) (s : ByteArray) : Int × Dk := onD d s delD
def moveD (to : ByteArray) (l : List Fil) (k : Nat) : List Fil := match l[k]? with
  | none => l
  | some f =>
    let m := delD l k
    putD (if 0 ≤ idxD m to then delD m (idxD m to).toNat else m) ⟨to, f.data, f.kept⟩
def renameD (d : Dk) (s to : ByteArray) : Int × Dk :=
  if d.off = false ∧ namedD to = false then (19, d) else onD d s fun l k => if eqS s to then l else moveD to l k
def readD (d : Dk) (s : ByteArray) : Option (List UInt8) := if idxD d.fs s < 0 then none else (d.fs[(idxD d.fs s).toNat]?).map (·.data)
def armD (d : Dk) (n : Int) : Dk := { d with left := if n < 0 then -1 else n }
def flipLast (l : List UInt8) : List UInt8 := match l[l.length - 1]? with
  | some x => l.set (l.length - 1) (x ^^^ 255)
  | none => l
def tornD (pick : Int) (f : Fil) : Fil :=
  let u := f.data.length - f.kept
  let stay := pick.toNat % (u + 1)
  let b := f.data.take (f.kept + stay)
  let b' := if 0 < stay ∧ pick.toNat / (u + 1) % 2 = 1 then flipLast b else b
  ⟨f.name, b', b'.length⟩
def crashTo (picks : List Int) : List Fil → Nat → List Fil
  | [], _ => []
  | f :: r, i => tornD ((picks[i]?).getD 0) f :: crashTo picks r (i + 1)
def crashD (d : Dk) (picks : List Int) : Dk := ⟨crashTo picks d.fs 0, false, -1⟩
def dk0 : Dk := ⟨[], false, -1⟩

/-- a file as it lies: its bytes' slice -/
structure Ent where
  name : ByteArray
  p : Option Addr
  c : Nat
  data : List UInt8
  kept : Nat
def Ent.v (y : Ent) : Value := .slice y.p y.data.length y.c
def Ent.fil (y : Ent) : Fil := ⟨y.name, y.data, y.kept⟩
def entE : Enc Ent := ⟨3, fun y => [.string y.name, .slice y.p y.data.length y.c, .int .i64 (y.kept : Int)], fun _ => rfl, fun _ v hv => by
  simp only [List.mem_cons, List.not_mem_nil, or_false] at hv
  rcases hv with rfl | rfl | rfl <;> rfl, by decide⟩
theorem tFil : SlT Tryd.prog 56 72 3 48 := SlT.mk' (z := .agg #[.string ⟨#[]⟩, .slice none 0 0, .int .i64 0]) Tryd.underlying56 (by kernel_rfl) rfl (by decide) (by decide)
theorem tU8 : SlT Tryd.prog 64 5 1 1 := SlT.mk' (z := .int .u8 0) Tryd.underlying64 (by kernel_rfl) rfl (by decide) (by decide)

def Apart (a b : Value) : Prop := ∀ k, a.ownBlock = some k → b.ownBlock ≠ some k
theorem Apart.symm {a b : Value} (h : Apart a b) : Apart b a := fun k h1 h2 => h k h2 h1
structure Files (w : World) (F : Nat → Prop) (e : TypeId) (v : Value) (ys : List Ent) : Prop where
  row : OwnR entE w 0 e v ys
  data : ∀ y ∈ ys, OwnB w 0 5 y.v y.data
  apart : ys.Pairwise (fun a b => Apart a.v b.v)
  off : ∀ y ∈ ys, Apart v y.v
  inV : ∀ k, v.ownBlock = some k → F k
  inF : ∀ y ∈ ys, ∀ k, y.v.ownBlock = some k → F k

/-- the blocks of F, and those made since -/
def FF (F : Nat → Prop) (w w' : World) : Nat → Prop := fun k => F k ∨ (w.heap.size ≤ k ∧ k < w'.heap.size)
section
variable {F G : Nat → Prop} {w w' w1 w2 : World} {e : TypeId} {v : Value} {ys : List Ent}
theorem Chg.seq (h : Chg F w w1) (h2 : Chg (FF F w w1) w1 w2) : Chg F w w2 := h.trans h2 fun k hk hg => by
  rcases hg with h | h
  · exact h
  · omega
theorem Chg.seq2 (h : Chg F w w1) (h2 : Below w1.heap.size w1 w2) : Chg F w w2 := h.step (.of_below h2)
theorem FF.seq (h1 : w1.heap.size ≤ w2.heap.size) (h0 : w.heap.size ≤ w1.heap.size) {k : Nat} (h : FF (FF F w w1) w1 w2 k) : FF F w w2 k := by
  rcases h with (h | h) | h
  · exact .inl h
  · exact .inr ⟨h.1, by omega⟩
  · exact .inr ⟨by omega, h.2⟩
theorem Files.mono (h : Files w F e v ys) (hg : ∀ k, F k → G k) : Files w G e v ys := ⟨h.row, h.data, h.apart, h.off, fun k hk => hg k (h.inV k hk), fun y hy k hk => hg k (h.inF y hy k hk)⟩
theorem Files.chg (h : Files w F e v ys) (hc : Chg G w w') (hd : ∀ k, F k → ¬ G k) : Files w' F e v ys :=
  ⟨hc.ownR h.row fun k hk => hd k (h.inV k hk), fun y hy => hc.ownB (h.data y hy) fun k hk => hd k (h.inF y hy k hk), h.apart, h.off, h.inV, h.inF⟩
theorem Files.ext (h : Files w F e v ys) (hb : Below w.heap.size w w') : Files w' F e v ys := h.chg (G := fun _ => False) (.of_below hb) fun _ _ h => h
theorem Files.drew (h : Files w F e v ys) : Files w.drew F e v ys := ⟨h.row, h.data, h.apart, h.off, h.inV, h.inF⟩
theorem Files.drewN (h : Files w F e v ys) (n : Nat) : Files (w.drewN n) F e v ys := ⟨h.row, h.data, h.apart, h.off, h.inV, h.inF⟩
end

/-- the program's disk lies at block g, all its blocks are in F -/
structure DiskAt (w : World) (F : Nat → Prop) (g : Nat) (d : Dk) : Prop where
  ex : ∃ v ys, Blk w g #[v, .bool d.off, .bool (decide (0 ≤ d.left)), .int .i64 (max d.left 0)] 58 ∧ Files w F 72 v ys ∧ v.ownBlock ≠ some g ∧ (∀ y ∈ ys, y.v.ownBlock ≠ some g) ∧ ys.map Ent.fil = d.fs
  inG : F g
  lt : ∀ k, F k → k < w.heap.size
section
variable {F G : Nat → Prop} {w w' w1 w2 : World} {g : Nat} {d : Dk}
theorem DiskAt.chg (h : DiskAt w F g d) (hc : Chg G w w') (hd : ∀ k, F k → ¬ G k) : DiskAt w' F g d := by
  obtain ⟨⟨v, ys, h1, h2, h3, h4, h5⟩, h6, h7⟩ := h
  exact ⟨⟨v, ys, hc.blk h1 (hd g h6), h2.chg hc hd, h3, h4, h5⟩, h6, fun k hk => Nat.lt_of_lt_of_le (h7 k hk) hc.size⟩
theorem DiskAt.ext (h : DiskAt w F g d) (hb : Below w.heap.size w w') : DiskAt w' F g d := h.chg (G := fun _ => False) (.of_below hb) fun _ _ h => h
theorem DiskAt.drew (h : DiskAt w F g d) : DiskAt w.drew F g d := h.ext ((Below.refl _ _).drew)
theorem DiskAt.mono (h : DiskAt w F g d) (hg : ∀ k, F k → G k) (hl : ∀ k, G k → k < w.heap.size) : DiskAt w G g d := by
  obtain ⟨⟨v, ys, h1, h2, h3, h4, h5⟩, h6, h7⟩ := h
  exact ⟨⟨v, ys, h1, h2.mono hg, h3, h4, h5⟩, hg g h6, hl⟩
theorem FF_lt {F : Nat → Prop} {w w' : World} (hl : ∀ k, F k → k < w.heap.size) (hs : w.heap.size ≤ w'.heap.size) : ∀ k, FF F w w' k → k < w'.heap.size := fun k hk => by
  rcases hk with h | h
  · exact Nat.lt_of_lt_of_le (hl k h) hs
  · exact h.2
theorem DiskAt.ff (h : DiskAt w1 F g d) (hs : w.heap.size ≤ w1.heap.size) : DiskAt w1 (FF F w w1) g d := h.mono (fun _ => .inl) fun k hk => by
  rcases hk with h' | h'
  · exact h.lt k h'
  · exact h'.2
theorem DiskAt.seq (h : DiskAt w2 (FF (FF F w w1) w1 w2) g d) (h0 : ∀ k, F k → k < w.heap.size) (h1 : w1.heap.size ≤ w2.heap.size) (h2 : w.heap.size ≤ w1.heap.size) : DiskAt w2 (FF F w w2) g d :=
  h.mono (fun _ hk => FF.seq h1 h2 hk) (FF_lt h0 (by omega))
end
end Go.Proofs.YtgpgcnmnfnnkjaaDoor
end

section
namespace Go.Proofs.YtgpgcnmnfnnkjaaDoor
open Go Go.RowKit

section
variable {P : Program} {t e u : TypeId} {w : World} {ops : Array Oper} {rest : List Oper} {o : Oper} {a : Act} {Q : Exit → Act → World → Prop}
/-- append(v, s...), s a string -/
theorem run_appS (ht : P.underlying t = some (.slice e)) (hu : P.underlying u = some .string) (hinf : (P.info? e).map (fun i => (i.zero, i.size, i.bytes)) = some (some (.int .u8 0), 1, 1)) (ty : TypeId)
    {B : Nat} {v : Value} {l : List UInt8} (own : OwnB w B e v l) {x : ByteArray} (hbytes : l.length + x.size ≤ 140737488355328) (hB : B ≤ w.heap.size) :
    ∃ v' w', (Builtin.append_ #[t, u] ty #[v, .string x]).run P w = .ok v' w' ∧ OwnB w' B e v' (l ++ x.data.toList) ∧ w.grownBy w' v.ownBlock ∧ Below B w w' := by
  obtain ⟨i, hi, hz, hsz, hby⟩ := info_parts hinf
  have hmax : l.length + x.size ≤ maxLen := by unfold maxLen; omega
  obtain ⟨v', w', hr, h2, h3, _⟩ := Lib.run_append_own_string (P := P) w B t u ty e i ht hu hi hz hsz hby v l.length _ own.1 x hmax hbytes hB
  have hsz2 : x.data.toList.length = x.size := by simp
  refine ⟨v', w', hr, OwnB.snoc (l' := x.data.toList) ⟨by rw [hsz2]; exact h2, fun y hy => ?_⟩, h3, below_grown h3 hB fun k hk => (own.1.lt k hk).1⟩
  rw [← List.map_append] at hy
  obtain ⟨_, _, rfl⟩ := List.mem_map.1 hy; rfl
theorem wpList_appS (ht : P.underlying t = some (.slice e)) (hu : P.underlying u = some .string) (hinf : (P.info? e).map (fun i => (i.zero, i.size, i.bytes)) = some (some (.int .u8 0), 1, 1)) (hgd : o.guard = none) {s y : Operand} (ho : o.op = .call { callee := .builtin .append, args := #[s, y], argTypes := #[t, u] })
    {B : Nat} {v : Value} {l : List UInt8} (own : OwnB w B e v l) (hs : a.eval s = v) {x : ByteArray} (hx : a.eval y = .string x) (hbytes : l.length + x.size ≤ 140737488355328) (hB : B ≤ w.heap.size)
    (h : ∀ v' w', OwnB w' B e v' (l ++ x.data.toList) → w.grownBy w' v.ownBlock → Below B w w' → wpList P ops Q rest (a.put o.dst v') w') : wpList P ops Q (o :: rest) a w := by
  obtain ⟨v', w', hr, h2, h3, h4⟩ := run_appS ht hu hinf o.type own hbytes hB
  refine wpList_plain hgd fun K hK => ?_
  unfold Oper.wp execOp
  simp only [ho, resolve, invoke, builtin, Sem.run_bind, Sem.run_pure, Result.andThen_ok, List.map_toArray, List.map_cons, List.map_nil, hs, hx, hr]
  exact hK _ _ (h v' w' h2 h3 h4)
end
theorem tBytesP : SlT Tryd.prog 64 5 1 1 := SlT.mk' (z := .int .u8 0) Tryd.underlying64 (by kernel_rfl) (by kernel_rfl) (by decide) (by decide)

set_option maxRecDepth 4000 in
set_option maxHeartbeats 1000000 in
theorem packMore (v : Value) (b : List UInt8) (R : Int) (r : Nat) (hR : R = (r : Int)) (w : World) (hv : Bytes w v b) (hb : b.length ≤ 35184372088832) (hr : r ≤ 35184372088832) :
    Calls Tryd.prog 89 #[v, .int .i64 R] w fun e w' => ∃ q, e = .returned q ∧ OwnB w' w.heap.size 5 q b ∧ Below w.heap.size w w' := by
  subst hR
  obtain ⟨p0, c0, rfl⟩ := hv.shape
  go_enter Tryd.func89, Tryd.ntmps89
  go_wp2_with (first
    | (at_make; refine wpList_mk tBytesP rfl rfl w.heap.size (b.length + r) rfl rfl (by simp) (by omega) (by unfold maxLen; omega) (Nat.le_refl _) ?_; intro v2 w2 own2 g2 b2)
    | (at_builtin; refine wpList_app tBytesP rfl rfl own2 rfl (Cells.ext hv b2) rfl (by omega) b2.size ?_; intro v3 w3 own3 g3 b3)
    | fail)
  go_ret
  exact ⟨_, rfl, OwnB.of own3 (by simp) (by simp), b2.trans b3⟩

/-- so many bytes are enough -/
def VI (f u : Nat) : Prop := 1 ≤ f ∧ f ≤ 10 ∧ u < 2 ^ (64 - 7 * (10 - f))
theorem VI.step {f u : Nat} (h : VI f u) (hu : 128 ≤ u) : VI (f - 1) (u / 128) ∧ vint f u = UInt8.ofNat (u % 128 + 128) :: vint (f - 1) (u / 128) := by
  obtain ⟨h1, h2, h3⟩ := h
  have h9 : 2 ≤ f := by
    rcases Nat.lt_or_ge f 2 with h | h
    · have : f = 1 := by omega
      subst this
      have : u < 2 := h3
      omega
    · exact h
  obtain ⟨f, rfl⟩ : ∃ g, f = g + 1 := ⟨f - 1, by omega⟩
  refine ⟨⟨by omega, by omega, ?_⟩, by rw [vint_big hu]; rfl⟩
  rw [Nat.div_lt_iff_lt_mul (by decide), show (128 : Nat) = 2 ^ 7 from rfl, ← Nat.pow_add]
  rw [show 64 - 7 * (10 - (f + 1 - 1)) + 7 = 64 - 7 * (10 - (f + 1)) from by omega]
  exact h3
theorem VI.last {f u : Nat} (h : VI f u) (hu : u < 128) : vint f u = [UInt8.ofNat u] := by
  obtain ⟨f, rfl⟩ : ∃ g, f = g + 1 := ⟨f - 1, by have := h.1; omega⟩
  exact vint_small hu
theorem VI.zig {n : Int} (h : -9223372036854775808 ≤ n) (h2 : n ≤ 9223372036854775807) : VI 10 (zig n) := ⟨by omega, by omega, by have := zig_lt h h2; simpa using this⟩
theorem byte_lit (x : UInt8) (w : World) (t : TypeId) (H : Nat) (hH : w.heap.size = H) : Bytes (w.alloc (.cells #[.int .u8 (x.toNat : Int)] t)) (.slice (some ⟨H, 0, none⟩) 1 1) [x] := by
  subst hH; exact litBytes w [x] t (0, 0) (by simp [maxLen])

theorem not_u64 (z : Nat) (h : z < 18446744073709551616) : bits .xor .u64 IntKind.u64.max (z : Int) = ((18446744073709551615 - z : Nat) : Int) := by
  have e : IntKind.u64.max = ((18446744073709551615 : Nat) : Int) := by decide
  rw [e, bits_xor_u64_nat _ _ (by decide) h]
  congr 1
  have h1 : (BitVec.allOnes 64 ^^^ BitVec.ofNat 64 z).toNat = 18446744073709551615 - z := by
    rw [BitVec.allOnes_xor, BitVec.toNat_not, BitVec.toNat_ofNat, Nat.mod_eq_of_lt (by simpa using h)]
  rw [BitVec.toNat_xor, BitVec.toNat_allOnes, BitVec.toNat_ofNat, Nat.mod_eq_of_lt (by simpa using h)] at h1
  exact h1
theorem or128 (z : Nat) : bits .or .u8 ((z : Int) % 256) 128 = ((UInt8.ofNat (z % 128 + 128)).toNat : Int) := by
  have hf : ∀ x : Fin 256, (x.val ||| 128) = x.val % 128 + 128 := by decide +kernel
  have h1 := hf ⟨z % 256, Nat.mod_lt _ (by decide)⟩
  have h2 := u8_or_nat (z % 256) 128 (Nat.mod_lt _ (by decide)) (by decide)
  rw [toNat_ofNat_lt (by have := Nat.mod_lt z (show 0 < 128 by decide); omega)]
  have e : ((z % 256 : Nat) : Int) = (z : Int) % 256 := by omega
  rw [← e, show (128 : Int) = ((128 : Nat) : Int) from rfl, h2, h1]
  congr 2
  show z % 256 % 128 = z % 128
  omega
set_option maxRecDepth 4000 in
set_option maxHeartbeats 1000000 in
theorem packNum (v : Value) (b : List UInt8) (n : Int) (w : World) (hv : Bytes w v b) (hb : b.length ≤ 35184372088000) (h1 : -9223372036854775808 ≤ n) (h2 : n ≤ 9223372036854775807) :
    Calls Tryd.prog 79 #[v, .int .i64 n] w fun e w' => ∃ q, e = .returned q ∧ OwnB w' w.heap.size 5 q (b ++ numB n) ∧ Below w.heap.size w w' := by
  have hvi := VI.zig h1 h2
  have hzl := zig_lt h1 h2
  have hz : Hid (if 0 ≤ n then (zig n : Int) = 2 * n else (zig n : Int) = -2 * n - 1) := by
    show if 0 ≤ n then (zig n : Int) = 2 * n else (zig n : Int) = -2 * n - 1
    unfold zig; split <;> omega
  have hnb : numB n = vint 10 (zig n) := rfl
  rw [hnb]
  clear hnb
  generalize zig n = z at *
  go_enter Tryd.func79, Tryd.ntmps79
  go_wp2_with fail
  with_reducible refine (packMore v b 10 10 rfl w hv (by omega) (by omega)).mono ?_
  rintro e w1 ⟨o1, rfl, own1, b1⟩
  have hs1 := b1.size
  obtain ⟨p1, c1, rfl⟩ := own1.bytes.shape
  go_wp2
  all_goals
    go_loopw [5, 6] (fun o u wr => ∃ (f z' : Nat) (l : List UInt8), u = .int .u64 (z' : Int) ∧ OwnB wr w.heap.size 5 o l ∧ Hid (VI f z') ∧ Hid (l ++ vint f z' = b ++ vint 10 z) ∧ Below w.heap.size w wr ∧ l.length ≤ 35184372088100) (fun _ u _ => (intOf u).toNat)
  case atStart => 
    have e1 : bits BinOp.xor IntKind.u64 IntKind.u64.max (IntKind.u64.wrap (IntKind.u64.wrap n * 2)) = (z : Int) := by
      have h := hz.out
      rw [if_neg (by omega)] at h
      have e : IntKind.u64.wrap (IntKind.u64.wrap n * 2) = ((18446744073709551615 - z : Nat) : Int) := by
        rw [IntKind.wrap_u64, IntKind.wrap_u64]; omega
      rw [e, not_u64 _ (by omega)]; omega
    exact ⟨10, z, b, by rw [e1], own1, hvi, rfl, b1, by omega⟩
  case atStart =>
    have e1 : IntKind.u64.wrap (IntKind.u64.wrap n * 2) = (z : Int) := by
      have h := hz.out
      rw [if_pos (by omega)] at h
      rw [IntKind.wrap_u64, IntKind.wrap_u64]; omega
    exact ⟨10, z, b, by rw [e1], own1, hvi, rfl, b1, by omega⟩
  all_goals
    clear own1 b1 hs1
    obtain ⟨f, z', l, rfl, own, hv2, hl, hb2, hll⟩ := hrel
    have hs2 := hb2.size
    obtain ⟨p2, c2, rfl⟩ := own.bytes.shape
    by_cases hc : 128 ≤ z'
    · obtain ⟨hst, hvs⟩ := VI.step hv2.out hc
      have e3 := Lib.hid (or128 z')
      have Hst := Lib.hid hst
      have Hvs := Lib.hid hvs
      have hz2 := hvi.2.2
      clear hst hvs hvi hz hzl h1 h2
      have hci : (128 : Int) ≤ (z' : Int) := by omega
      have lit : Bytes (wr.alloc (.cells #[.int .u8 (bits .or .u8 ((z' : Int) % 256) 128)] 5)) (.slice (some ⟨wr.heap.size, 0, none⟩) 1 1) [UInt8.ofNat (z' % 128 + 128)] := by rw [e3.out]; exact byte_lit (UInt8.ofNat (z' % 128 + 128)) wr _ _ rfl
      have ca := below_alloc wr (.cells #[.int .u8 (bits .or .u8 ((z' : Int) % 256) 128)] 5)
      have own2 := own.ext ca
      have hb3 := hb2.trans (ca.mono hs2)
      have hfl : l.length + 1 + (vint (f - 1) (z' / 128)).length ≤ 35184372088010 := by
        have h1 := congrArg List.length hl.out
        rw [Hvs.out] at h1
        simp only [List.length_append, List.length_cons] at h1
        have := vint_le 10 z
        omega
      go_wp2_with (first | (at_builtin; refine wpList_app tBytesP rfl rfl own2 rfl lit rfl (by simp; omega) hb3.size ?_; intro v4 w4 own4 g4 b4) | fail)
      have own5 := OwnB.snoc own4
      go_roundw
      case rel => exact ⟨f - 1, z' / 128, _, by go_num, own5, Hst.out, by show _ = _; rw [← hl.out, Hvs.out]; simp, hb3.trans b4, by simp; omega⟩
      case measure => simp [intOf]; omega
    · have hci : ¬ (128 : Int) ≤ (z' : Int) := by omega
      have hlast := VI.last hv2.out (by omega)
      have Hl := Lib.hid hlast
      have e3 : (z' : Int) = ((UInt8.ofNat z').toNat : Int) := by rw [toNat_ofNat_lt (by omega)]
      have lit : Bytes (wr.alloc (.cells #[.int .u8 (z' : Int)] 5)) (.slice (some ⟨wr.heap.size, 0, none⟩) 1 1) [UInt8.ofNat z'] := by rw [e3]; exact byte_lit (UInt8.ofNat z') wr _ _ rfl
      have ca := below_alloc wr (.cells #[.int .u8 (z' : Int)] 5)
      have own2 := own.ext ca
      have hb3 := hb2.trans (ca.mono hs2)
      clear hlast e3 hvi hz hzl h1 h2
      go_wp2_with (first | (at_builtin; refine wpList_app tBytesP rfl rfl own2 rfl lit rfl (by simp; omega) hb3.size ?_; intro v4 w4 own4 g4 b4) | fail)
      have own5 := OwnB.snoc own4
      go_ret
      exact ⟨_, rfl, by rw [← hl.out, Hl.out]; exact own5, hb3.trans b4⟩
end Go.Proofs.YtgpgcnmnfnnkjaaDoor
end
