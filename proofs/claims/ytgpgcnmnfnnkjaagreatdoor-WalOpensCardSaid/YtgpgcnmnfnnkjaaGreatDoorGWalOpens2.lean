/- Slices that read as lists of anything whose elements take so many cells each ('Enc'): read ('Rd'), of the call's own ('OwnR'). Texts: when they are the same, which stands ahead of another one. A region that draws its order, whose operations read old memory and whose callees write none of it (they may make memory): one walk of the text's order, in the class of all worlds behind a given one. A region that draws its order, with a condition S on the world that is wanted behind every operation but the last ones (number n and up): after Derived/OrdersHeld.lean's wpAnyH, Derived/StillTail.lean's HeadInv and tail_waits. Steps of a region by RegF: takes and runs in few words. A region in the text's order whose operations only read: walked as a quiet one (each step is cheap). What arguments that are slices read as, as lists ('Rd'). What an argument that is a slice of anything reads as ('Rd'), element by element; and what the reach says of what lies in it. impostbook.Within: a number brought into lo .. hi. -/
import Derived.Test.YtgpgcnmnfnnkjaaGreatDoorGWalOpens1
import Derived.BigQuiet
import Derived.Test.YtgpgcnmnfnnkjaaGreatDoorRows
import Derived.StillTail
import Derived.Deep.RegionHeld3
import Derived.Deep.Slices
set_option linter.unusedVariables false
set_option linter.unusedSimpArgs false
section
namespace Go.Proofs.YtgpgcnmnfnnkjaaGreatDoor
open Go Go.RowKit

theorem grown_tr {a b c : World} {row : Option Nat} (h1 : a.grownBy b row) (h2 : b.grownBy c row) : a.grownBy c row :=
 ⟨h2.os.trans h1.os, h2.tape.trans h1.tape, h2.output.trans h1.output, Nat.le_trans h1.size h2.size, fun k hk hne => (h2.block k (Nat.lt_of_lt_of_le hk h1.size) hne).trans (h1.block k hk hne)⟩
theorem grown_below {a b : World} {row : Option Nat} (h : Below a.heap.size a b) : a.grownBy b row := ⟨h.os, h.tape, h.output, h.size, fun k hk _ => h.block k hk⟩
theorem grown_drew {a b : World} {row : Option Nat} (h : a.grownBy b row) : a.grownBy b.drew row := ⟨h.os, h.tape, h.output, h.size, h.block⟩
structure Enc (α : Type) where
 sz : Nat
 enc : α → List Value
 len : ∀ x, (enc x).length = sz
 one : ∀ x, ∀ v ∈ enc x, v.oneCell' = true
 pos : 0 < sz

def Enc.all {α : Type} (E : Enc α) (l : List α) : List Value := l.flatMap E.enc
section
variable {α : Type} (E : Enc α)
theorem Enc.all_append (l m : List α) : E.all (l ++ m) = E.all l ++ E.all m := by unfold Enc.all; rw [List.flatMap_append]
theorem Enc.all_cons (x : α) (l : List α) : E.all (x :: l) = E.enc x ++ E.all l := by unfold Enc.all; rw [List.flatMap_cons]
theorem Enc.all_one (x : α) : E.all [x] = E.enc x := by unfold Enc.all; simp
theorem Enc.all_length (l : List α) : (E.all l).length = l.length * E.sz := by
 induction l with
 | nil => simp [Enc.all]
 | cons x l ih => rw [E.all_cons, List.length_append, ih, E.len, List.length_cons, Nat.add_mul]; omega
theorem Enc.all_oneCell (l : List α) : ∀ v ∈ E.all l, v.oneCell' = true := fun v hv => by
 obtain ⟨x, _, h⟩ := List.mem_flatMap.1 hv
 exact E.one x v h
theorem Enc.all_get (l : List α) (i : Nat) (hi : i < l.length) (j : Nat) (hj : j < E.sz) : (E.all l)[i * E.sz + j]? = (E.enc l[i])[j]? := by
 induction l generalizing i with
 | nil => simp at hi
 | cons x l ih =>
  rw [E.all_cons]
  cases i with
  | zero => rw [Nat.zero_mul, Nat.zero_add, List.getElem?_append_left (by rw [E.len]; exact hj)]; rfl
  | succ i =>
   rw [List.getElem?_append_right (by rw [E.len, Nat.succ_mul]; omega), E.len, show (i + 1) * E.sz + j - E.sz = i * E.sz + j from by rw [Nat.succ_mul]; omega]
   rw [ih i (by simpa using hi)]; rfl
theorem Enc.all_take (l : List α) (i : Nat) : (E.all l).take (i * E.sz) = E.all (l.take i) := by
 induction l generalizing i with
 | nil => simp [Enc.all]
 | cons x l ih =>
  cases i with
  | zero => simp [Enc.all]
  | succ i =>
   rw [E.all_cons, List.take_succ_cons, E.all_cons, Nat.succ_mul, Nat.add_comm, List.take_append]
   rw [List.take_of_length_le (by rw [E.len]; omega), E.len, show E.sz + i * E.sz - E.sz = i * E.sz from by omega, ih]
theorem Enc.all_drop (l : List α) (i : Nat) : (E.all l).drop (i * E.sz) = E.all (l.drop i) := by
 induction l generalizing i with
 | nil => simp [Enc.all]
 | cons x l ih =>
  cases i with
  | zero => simp
  | succ i =>
   rw [E.all_cons, List.drop_succ_cons, Nat.succ_mul, Nat.add_comm, ← List.drop_drop]
   rw [List.drop_append_of_le_length (by rw [E.len]; omega), show (E.enc x).drop E.sz = [] from List.drop_of_length_le (by rw [E.len]; omega), List.nil_append, ih]
theorem Enc.all_sub (l : List α) (i j : Nat) : ((E.all l).drop (i * E.sz)).take ((j - i) * E.sz) = E.all ((l.drop i).take (j - i)) := by
 rw [E.all_drop, E.all_take]
theorem Enc.all_set (l : List α) (i : Nat) (hi : i < l.length) (j : Nat) (hj : j < E.sz) (u : Value) (y : α) (hy : E.enc y = (E.enc l[i]).set j u) : (E.all l).set (i * E.sz + j) u = E.all (l.set i y) := by
 induction l generalizing i with
 | nil => simp at hi
 | cons x l ih =>
  cases i with
  | zero =>
   rw [Nat.zero_mul, Nat.zero_add, E.all_cons, List.set_append_left _ _ (by rw [E.len]; exact hj), List.set_cons_zero, E.all_cons, hy]; rfl
  | succ i =>
   rw [E.all_cons, List.set_append_right _ _ (by rw [E.len, Nat.succ_mul]; omega), E.len, show (i + 1) * E.sz + j - E.sz = i * E.sz + j from by rw [Nat.succ_mul]; omega, List.set_cons_succ, E.all_cons]
   rw [ih i (by simpa using hi) hy]

def Rd (w : World) (v : Value) (l : List α) : Prop := Cells w E.sz v l.length (E.all l)
def OwnR (w : World) (B : Nat) (e : TypeId) (v : Value) (l : List α) : Prop := Own w B e E.sz v l.length (E.all l)

variable {E} {w w' : World} {v : Value} {l m : List α} {B : Nat} {e : TypeId}
theorem Rd.nil (w : World) : Rd E w (.slice none 0 0) [] := Cells.nil w E.sz
theorem Rd.drewN (h : Rd E w v l) (k : Nat) : Rd E (w.drewN k) v l := h
theorem Rd.drew (h : Rd E w v l) : Rd E w.drew v l := h
theorem Rd.ext (h : Rd E w v l) (hb : Below w.heap.size w w') : Rd E w' v l := Cells.ext h hb
theorem Rd.below (h : Rd E w v l) (hb : Below B w w') (hB : ∀ k, v.ownBlock = some k → k < B) : Rd E w' v l := Cells.below h hb hB
theorem Rd.le (h : Rd E w v l) : l.length ≤ maxLen := Cells.le h
theorem Rd.shape (h : Rd E w v l) : ∃ p cap, v = .slice p l.length cap := by obtain ⟨_, _, p, cap, h, _⟩ := h; exact ⟨p, cap, h⟩
theorem Rd.shapeN (h : Rd E w v l) {n : Nat} (hn : l.length = n) : ∃ p cap, v = .slice p n cap := by subst hn; exact h.shape
theorem Rd.form (h : Rd E w v l) : ∃ p cap, v = .slice p l.length cap ∧ l.length ≤ cap ∧ cap ≤ maxLen ∧ (p = none → cap = 0) ∧
 (0 < l.length → ∃ b off, p = some ⟨b, off, none⟩ ∧ ∀ i (hi : i < l.length) j (hj : j < E.sz), w.cell? ⟨b, off + (i * E.sz + j), none⟩ = (E.enc l[i])[j]?) := by
 obtain ⟨p, cap, h1, h2, h3, h4, h5⟩ := Cells.form h
 refine ⟨p, cap, h1, h2, h3, h4, fun hc => ?_⟩
 obtain ⟨b, off, h6, h7⟩ := h5 hc
 refine ⟨b, off, h6, fun i hi j hj => ?_⟩
 have e1 := E.all_get l i hi j hj
 have hj' : j < (E.enc l[i]).length := by rw [E.len]; exact hj
 rw [List.getElem?_eq_getElem hj'] at e1 ⊢
 exact h7 _ _ e1
theorem Rd.sub (h : Rd E w v l) (i j : Nat) (hi : i ≤ j) (hj : j ≤ l.length) : Rd E w (subV v i j E.sz) ((l.drop i).take (j - i)) := by
 have h1 := Cells.sub h E.pos i j hi hj
 rw [E.all_sub] at h1
 have e1 : ((l.drop i).take (j - i)).length = j - i := by rw [List.length_take, List.length_drop]; omega
 unfold Rd
 rw [e1]; exact h1
theorem OwnR.rd (h : OwnR E w B e v l) : Rd E w v l := Own.cells h
theorem OwnR.nil (w : World) (B : Nat) (e : TypeId) : OwnR E w B e (.slice none 0 0) [] := Own.nil w B e E.sz
theorem OwnR.drew (h : OwnR E w B e v l) : OwnR E w.drew B e v l := h
theorem OwnR.drewN (h : OwnR E w B e v l) (k : Nat) : OwnR E (w.drewN k) B e v l := h
theorem OwnR.ext (h : OwnR E w B e v l) (hb : Below w.heap.size w w') : OwnR E w' B e v l := Own.ext h hb
theorem OwnR.lt (h : OwnR E w B e v l) : ∀ k, v.ownBlock = some k → B ≤ k ∧ k < w.heap.size := Own.lt h
theorem OwnR.base {B' : Nat} (h : OwnR E w B e v l) (hB : B' ≤ B) : OwnR E w B' e v l := Own.base h hB
theorem OwnR.grown {row : Option Nat} (h : OwnR E w B e v l) (hg : w.grownBy w' row) (hne : v.ownBlock = none ∨ v.ownBlock ≠ row) : OwnR E w' B e v l := Own.grown h hg hne
theorem OwnR.snoc (h : Own w B e E.sz v (l.length + m.length) (E.all l ++ E.all m)) : OwnR E w B e v (l ++ m) := by
 unfold OwnR; rw [List.length_append, E.all_append]; exact h
theorem OwnR.of {n : Nat} {xs : List Value} (h : Own w B e E.sz v n xs) (hn : n = l.length) (hx : xs = E.all l) : OwnR E w B e v l := by subst hn; subst hx; exact h
theorem OwnR.head (h : OwnR E w B e v l) (hl : 0 < l.length) : ∃ g cap, v = .slice (some ⟨g, 0, none⟩) l.length cap ∧ B ≤ g ∧ g < w.heap.size ∧ l.length ≤ cap ∧ cap ≤ maxLen := by
 rcases Own.head h with ⟨_, h⟩ | h
 · omega
 · exact h
theorem OwnR.cellAt {g n cap : Nat} (h : OwnR E w B e (.slice (some ⟨g, 0, none⟩) n cap) l) (hn : n = l.length) (i : Nat) (hi : i < l.length) (j : Nat) (hj : j < E.sz) :
 w.cell? ⟨g, i * E.sz + j, none⟩ = (E.enc l[i])[j]? := by
 subst hn
 have e1 := E.all_get l i hi j hj
 have hlt : i * E.sz + j < (E.all l).length := by
  rw [E.all_length]
  have : (i + 1) * E.sz ≤ l.length * E.sz := Nat.mul_le_mul_right _ hi
  rw [Nat.succ_mul] at this; omega
 have := Own.cellAt h (i * E.sz + j) hlt
 rw [this, ← e1, List.getElem?_eq_getElem hlt]
theorem OwnR.frozenAt {g n cap : Nat} (h : OwnR E w B e (.slice (some ⟨g, 0, none⟩) n cap) l) (hn : n = l.length) (i : Nat) : w.frozen? ⟨g, i, none⟩ = false := by
 subst hn; exact Own.frozenAt h i
theorem OwnR.stored {g n cap : Nat} (h : OwnR E w B e (.slice (some ⟨g, 0, none⟩) n cap) l) (hn : n = l.length) (i : Nat) (hi : i < l.length) (j : Nat) (hj : j < E.sz) (u : Value) (hu : u.oneCell' = true) (y : α) (hy : E.enc y = (E.enc l[i]).set j u) :
 OwnR E (w.setCell ⟨g, i * E.sz + j, none⟩ u) B e (.slice (some ⟨g, 0, none⟩) n cap) (l.set i y) ∧ w.grownBy (w.setCell ⟨g, i * E.sz + j, none⟩ u) (some g) := by
 subst hn
 obtain ⟨h1, h2⟩ := Own.stored h (i * E.sz + j) u hu
 refine ⟨?_, h2⟩
 rw [E.all_set l i hi j hj u y hy] at h1
 unfold OwnR; rw [List.length_set]; exact h1
theorem OwnR.aside {g n cap : Nat} {row : Option Nat} (h : OwnR E w B e (.slice (some ⟨g, 0, none⟩) n cap) l) (hg : w.grownBy w' row) (hne : ∀ k, row = some k → k ≠ g) : OwnR E w' B e (.slice (some ⟨g, 0, none⟩) n cap) l :=
 Own.grown h hg (.inr (by intro e; exact hne g e.symm rfl))
theorem Rd.grown {row : Option Nat} (h : Rd E w v l) (hg : w.grownBy w' row) (hne : v.ownBlock = none ∨ v.ownBlock ≠ row) : Rd E w' v l := Cells.grown h hg hne
end

def intsE : Enc Int := ⟨1, fun x => [.int .i64 x], fun _ => rfl, fun _ v hv => by simp only [List.mem_singleton] at hv; subst hv; rfl, Nat.one_pos⟩
end Go.Proofs.YtgpgcnmnfnnkjaaGreatDoor
end

section
namespace Go.Proofs.YtgpgcnmnfnnkjaaGreatDoor
open Go Go.RowKit
def ltS (a b : ByteArray) : Bool := Op.bytesLess a.toList b.toList
def eqS (a b : ByteArray) : Bool := a.toList == b.toList
theorem sl_irrefl (x : List UInt8) : Op.bytesLess x x = false := by
 induction x with
 | nil => rfl
 | cons a x ih => simp [Op.bytesLess, ih]
theorem sl_trans : ∀ {x y z : List UInt8}, Op.bytesLess x y = true → Op.bytesLess y z = true → Op.bytesLess x z = true
 | _, [], _, h, _ => by simp [Op.bytesLess] at h
 | _, _ :: _, [], _, h => by simp [Op.bytesLess] at h
 | [], _ :: _, _ :: _, _, _ => rfl
 | a :: x, b :: y, c :: z, h1, h2 => by
  simp only [Op.bytesLess, Bool.or_eq_true, Bool.and_eq_true, decide_eq_true_eq, beq_iff_eq] at h1 h2 ⊢
  rcases h1 with h1 | ⟨rfl, h1⟩
  · rcases h2 with h2 | ⟨rfl, h2⟩
    · exact .inl (UInt8.lt_trans h1 h2)
    · exact .inl h1
  · rcases h2 with h2 | ⟨rfl, h2⟩
    · exact .inl h2
    · exact .inr ⟨rfl, sl_trans h1 h2⟩
theorem sl_total : ∀ {x y : List UInt8}, Op.bytesLess x y = false → Op.bytesLess y x = false → x = y
 | [], [], _, _ => rfl
 | [], _ :: _, h, _ => by simp [Op.bytesLess] at h
 | _ :: _, [], _, h => by simp [Op.bytesLess] at h
 | a :: x, b :: y, h1, h2 => by
  simp only [Op.bytesLess, Bool.or_eq_false_iff, Bool.and_eq_false_iff, decide_eq_false_iff_not, beq_eq_false_iff_ne] at h1 h2
  have hab : a = b := UInt8.le_antisymm (UInt8.not_lt.1 h2.1) (UInt8.not_lt.1 h1.1)
  subst hab
  have e1 : Op.bytesLess x y = false := by rcases h1.2 with h | h; exact absurd rfl h; exact h
  have e2 : Op.bytesLess y x = false := by rcases h2.2 with h | h; exact absurd rfl h; exact h
  rw [sl_total e1 e2]
theorem eqS_iff (a b : ByteArray) : eqS a b = true ↔ a = b := by
 unfold eqS
 constructor
 · intro h
   have h1 : a.toList = b.toList := by simpa using h
   rw [ByteArray.toList_eq, ByteArray.toList_eq] at h1
   exact ByteArray.ext (Array.ext' h1)
 · rintro rfl; simp
theorem eqS_refl (a : ByteArray) : eqS a a = true := (eqS_iff _ _).2 rfl
theorem ltS_irrefl (a : ByteArray) : ltS a a = false := sl_irrefl _
theorem ltS_trans {a b c : ByteArray} (h1 : ltS a b = true) (h2 : ltS b c = true) : ltS a c = true := sl_trans h1 h2
theorem ltS_total {a b : ByteArray} (h1 : ltS a b = false) (h2 : ltS b a = false) : a = b := by
 have h := sl_total h1 h2
 rw [ByteArray.toList_eq, ByteArray.toList_eq] at h
 exact ByteArray.ext (Array.ext' h)
theorem ltS_ne {a b : ByteArray} (h : ltS a b = true) : a ≠ b := by rintro rfl; rw [ltS_irrefl] at h; cases h
end Go.Proofs.YtgpgcnmnfnnkjaaGreatDoor
end

section
namespace Go.Proofs.YtgpgcnmnfnnkjaaGreatDoor
open Go Go.RowKit

def After (W : World) : Type := { w' : World // Below W.heap.size W w' }
instance {W : World} : Nonempty (After W) := ⟨⟨W, Below.refl _ _⟩⟩
theorem After.same {W : World} (x : After W) : (∃ y : After W, x.1 = y.1) = True := eq_true ⟨x, rfl⟩
theorem wp_region_after {P : Program} {id : Nat} {Q : Exit → Act → World → Prop} {a : Act} {W : World} {l : List Oper} (hm : P.follows .mixedOrders = true) (hB : Region.lexB .any l.toArray = true)
 (h : wpQuiet P l.toArray (fun w' => ∃ x : After W, w' = x.1) (fun a' => ∀ w', (∃ x : After W, w' = x.1) → Q .normal a' w') l a) : (Code.region id l.toArray true).wp P Q a W :=
 wp_region_quiet (C := fun w' => ∃ x : After W, w' = x.1) hm hB ⟨⟨W.drew, below_drew _ _⟩, rfl⟩ (by simpa using h)
theorem After.call {P : Program} {f : FuncId} {args : Array Value} {W : World} {v : Value} (x : After W)
 (h : Calls P f args x.1 fun e w' => e = .returned v ∧ Below x.1.heap.size x.1 w') : Calls P f args x.1 fun e w' => e = .returned v ∧ ∃ y : After W, w' = y.1 :=
 h.mono fun _ w' ⟨he, hb⟩ => ⟨he, ⟨w', x.2.trans (hb.mono x.2.size)⟩, rfl⟩
end Go.Proofs.YtgpgcnmnfnnkjaaGreatDoor
end

section
namespace Go.Proofs.YtgpgcnmnfnnkjaaGreatDoor
open Go
section
variable {P : Program} {ops : Array Oper} {Q : Exit → Act → World → Prop} {md : Region.Mode} {S : World → Prop}
def wpAnyF (P : Program) (md : Region.Mode) (ops : Array Oper) (Q : Exit → Act → World → Prop) (S : World → Prop) (n : Nat) : Nat → Array Bool → Act → World → Prop
 | 0, listed, a, w => Region.ready md ops listed = [] ∧ Q .normal a w
 | f + 1, listed, a, w =>
  (Region.ready md ops listed = [] → Q .normal a w) ∧
  ∀ i ∈ Region.ready md ops listed, wpOp P ops Q i (fun a' w' => (i < n → S w') ∧ wpAnyF P md ops Q S n f (listed.setIfInBounds i true) a' w') a w
theorem wpAny_of_F {n : Nat} : ∀ (f : Nat) (listed : Array Bool) (a : Act) (w : World), wpAnyF P md ops Q S n f listed a w → wpAny P md ops Q f listed a w
 | 0, _, _, _, h => h
 | f + 1, _, _, _, h => ⟨h.1, fun i hi => wpOp_mono (fun a' w' h' => wpAny_of_F f _ a' w' h'.2) (h.2 i hi)⟩
theorem wpAnyF_first {n i : Nat} {oi : Oper} {v : Value} (hi : ops[i]? = some oi) (hsel : ∀ (j : Nat) (o : Oper) cs b, ops[j]? = some o → o.op ≠ .select cs b)
 (hs : Region.sinkB md ops n = true) (hc : Region.chainB md ops n = true) (hn : n < ops.size) (hin : i < n)
 (hQ : ∀ c a w, Q (.panic c) (a.put oi.dst v) w → Q (.panic c) a w) :
 ∀ (f : Nat) (listed : Array Bool) (a : Act) (w : World), HeadInv md ops n listed →
  (∀ j oj, ops[j]? = some oj → j ≠ i → listed.getD j true = false → (∀ e ∈ oj.after, Region.binds md e = true → e.on ≠ i) → oi.apart ops oj = true) →
  i ∈ Region.ready md ops listed → YieldsIf P ops S oi v a → S w →
  wpAnyF P md ops Q S n f (listed.setIfInBounds i true) (a.put oi.dst v) w → wpAnyF P md ops Q S n (f + 1) listed a w := by
 intro f
 induction f with
 | zero =>
  intro listed a w inv _ hr hy hS H
  refine ⟨fun h => (by rw [h] at hr; cases hr), fun j hj => ?_⟩
  by_cases hji : j = i
  · subst hji; exact hy.wpOp hi hS ⟨fun _ => hS, H⟩
  · have := ready_mono hj hji
    rw [H.1] at this
    cases this
 | succ f ih =>
  intro listed a w inv hfree hr hy hS H
  have hun := (mem_ready.1 hr).1
  refine ⟨fun h => (by rw [h] at hr; cases hr), fun j hj => ?_⟩
  have hjn : j < n := by
   rcases Nat.lt_or_ge j n with h | h
   · exact h
   · exact absurd hj (tail_waits hs hc hn inv _ i rfl hin hun j h)
  by_cases hji : j = i
  · subst hji; exact hy.wpOp hi hS ⟨fun _ => hS, H⟩
  · have h1 := H.2 j (ready_mono hj hji)
    obtain ⟨hjun, oj, hoj, hall⟩ := mem_ready.1 hj
    have hnot : ∀ e ∈ oj.after, Region.binds md e = true → e.on ≠ i := fun e he hb heq => by
     have h1 := hall e he hb
     rw [heq, getD_both hun] at h1
     cases h1
    have h2 := wpOp_putIf hoj (hfree j oj hoj hji hjun hnot) (fun cs b => hsel i oi cs b hi) (fun cs b => hsel j oj cs b hoj) hQ hy h1
    have hfree' : ∀ k ok, ops[k]? = some ok → k ≠ i → (listed.setIfInBounds j true).getD k true = false →
     (∀ e ∈ ok.after, Region.binds md e = true → e.on ≠ i) → oi.apart ops ok = true := fun k ok hk hki hun hno => by
     refine hfree k ok hk hki ?_ hno
     by_cases hjk : j = k
     · subst hjk; exact hjun
     · rw [getD_set_ne true hjk] at hun; exact hun
    refine wpOp_mono (fun a' w' h3 => ⟨h3.2.1, ih (listed.setIfInBounds j true) a' w' (inv.set hj hjn) hfree' (ready_mono hr (Ne.symm hji)) h3.1 (h3.2.1 hjn) ?_⟩) h2
    rw [Array.setIfInBounds_comm _ _ hji]
    exact h3.2.2
def headB (md : Region.Mode) (ops : Array Oper) (n : Nat) (listed : Array Bool) : Bool :=
 decide (listed.size = ops.size) && ((List.range ops.size).all (fun j => !listed.getD j false || ((ops[j]?).map (·.after.all fun e => !Region.binds md e || listed.getD e.on false)).getD true) && (List.range ops.size).all (fun t => decide (t < n) || !listed.getD t true))
theorem headB_spec {n : Nat} {listed : Array Bool} (h : headB md ops n listed = true) : HeadInv md ops n listed := by
 simp only [headB, Bool.and_eq_true, decide_eq_true_eq, List.all_eq_true, List.mem_range, Bool.or_eq_true, Bool.not_eq_true'] at h
 obtain ⟨h1, h2, h3⟩ := h
 refine ⟨h1, fun j oj hj hl e he hb => ?_, fun t ht ht' => ?_⟩
 · have hjs : j < ops.size := (Array.getElem?_eq_some_iff.1 hj).1
   rcases h2 j hjs with h | h
   · rw [hl] at h; cases h
   · rw [hj] at h
     simp only [Option.map_some, Option.getD_some, Array.all_eq_true, Bool.or_eq_true, Bool.not_eq_true'] at h
     obtain ⟨k, hk, rfl⟩ := Array.getElem_of_mem he
     rcases h k hk with h | h
     · rw [hb] at h; cases h
     · exact h
 · rcases h3 t ht' with h | h
   · omega
   · exact h
theorem wpAnyF_take {n i : Nat} {oi : Oper} {v : Value} {f : Nat} {listed : Array Bool} {a : Act} {w : World} (hi : ops[i]? = some oi)
 (hl : (Region.noSelect ops && (Region.sinkB md ops n && (Region.chainB md ops n && decide (n < ops.size)))) = true) (hin : i < n) (hh : headB md ops n listed = true)
 (hf : Region.free md ops listed i = true) (hr : (Region.ready md ops listed).contains i = true)
 (hQ : ∀ c a w, Q (.panic c) (a.put oi.dst v) w → Q (.panic c) a w) (hy : YieldsIf P ops S oi v a) (hS : S w)
 (h : wpAnyF P md ops Q S n f (listed.setIfInBounds i true) (a.put oi.dst v) w) : wpAnyF P md ops Q S n (f + 1) listed a w := by
 simp only [Bool.and_eq_true, decide_eq_true_eq] at hl
 exact wpAnyF_first hi (Region.noSelect_spec hl.1) hl.2.1 hl.2.2.1 hl.2.2.2 hin hQ f listed a w (headB_spec hh) (Region.free_spec hi hf) (by simpa using hr) hy hS h
theorem wpAnyF_all {n : Nat} {rs : List Nat} {f : Nat} {listed : Array Bool} {a : Act} {w : World} (hr : Region.ready md ops listed = rs) (hne : rs ≠ [])
 (h : ∀ i ∈ rs, wpOp P ops Q i (fun a' w' => (i < n → S w') ∧ wpAnyF P md ops Q S n f (listed.setIfInBounds i true) a' w') a w) : wpAnyF P md ops Q S n (f + 1) listed a w :=
 ⟨fun h0 => absurd (hr ▸ h0) hne, hr ▸ h⟩
theorem wpAnyF_done {n : Nat} {listed : Array Bool} {a : Act} {w : World} (hr : Region.ready md ops listed = []) (h : Q .normal a w) :
 ∀ f, wpAnyF P md ops Q S n f listed a w
 | 0 => ⟨hr, h⟩
 | _ + 1 => ⟨fun _ => h, by rw [hr]; simp⟩
theorem wp_region_F {id n : Nat} {a : Act} {w : World} (hm : P.follows .mixedOrders = true)
 (h : wpAnyF P .any ops Q S n ops.size (Array.replicate ops.size false) a w.drew) : (Code.region id ops true).wp P Q a w :=
 wp_region_any hm (wpAny_of_F _ _ _ _ h)
theorem wpAnyF_last {n : Nat} {o : Oper} {f : Nat} {listed : Array Bool} {a : Act} {w : World} (hr : Region.ready md ops listed = [n]) (ho : ops[n]? = some o) (hd : Region.ready md ops (listed.setIfInBounds n true) = [])
 (h : ∀ K : Act → World → Prop, (∀ a w, Q .normal a w → K a w) → if Region.wanted o (yielded ops a.tmps) = true then Oper.wp P o a w K Q else K (a.put o.dst undef) w) : wpAnyF P md ops Q S n (f + 1) listed a w :=
 wpAnyF_all hr (by simp) fun i hi => by
  simp only [List.mem_cons, List.not_mem_nil, or_false] at hi
  subst hi
  exact wpOp_step ho fun K' hK => h K' (fun a w hq => hK a w ⟨fun hh => absurd hh (Nat.lt_irrefl _), wpAnyF_done hd hq f⟩)
end
end Go.Proofs.YtgpgcnmnfnnkjaaGreatDoor
end

section
namespace Go.Proofs.YtgpgcnmnfnnkjaaGreatDoor
open Go
section
variable {P : Program} {ops : Array Oper} {Q : Exit → Act → World → Prop} {md : Region.Mode} {S : World → Prop}
def bare (dst : Option Tmp) (op : Op) (ty : TypeId) : Oper := ⟨dst, op, ty, "", #[], none⟩
def lookB (ops : Array Oper) (i : Nat) : Option (Option Tmp × Op × TypeId × Option (Nat × Bool)) := (ops[i]?).map fun o => (o.dst, o.op, o.type, o.guard)
theorem look_at {i : Nat} {dst : Option Tmp} {op : Op} {ty : TypeId} (h : lookB ops i = some (dst, op, ty, none)) : ∃ oi, ops[i]? = some oi ∧ oi.dst = dst ∧ oi.guard = none ∧ (∀ ρ, execOp ρ oi = execOp ρ (bare dst op ty)) := by
 unfold lookB at h
 cases ho : ops[i]? with
 | none => rw [ho] at h; cases h
 | some oi =>
  rw [ho] at h
  cases oi with
  | mk d o t p af g =>
   simp only [Option.map_some, Option.some.injEq, Prod.mk.injEq] at h
   obtain ⟨rfl, rfl, rfl, rfl⟩ := h
   exact ⟨_, rfl, rfl, rfl, fun ρ => by unfold execOp bare; rfl⟩
def takeB (md : Region.Mode) (ops : Array Oper) (n i : Nat) (listed : Array Bool) : Bool :=
 (Region.noSelect ops && (Region.sinkB md ops n && (Region.chainB md ops n && decide (n < ops.size)))) && (decide (i < n) && (headB md ops n listed && (Region.free md ops listed i && (Region.ready md ops listed).contains i)))
theorem wpAnyF_tk {n : Nat} (i : Nat) (dst : Option Tmp) (op : Op) (ty : TypeId) {v : Value} {f : Nat} {listed : Array Bool} {a : Act} {w : World} (hi : lookB ops i = some (dst, op, ty, none))
 (hb : takeB md ops n i listed = true) (hQ : ∀ c a w, Q (.panic c) (a.put dst v) w → Q (.panic c) a w)
 (hy : ∀ w, S w → (execOp a.eval (bare dst op ty)).run P w = .ok (.value v) w) (hS : S w)
 (h : wpAnyF P md ops Q S n f (listed.setIfInBounds i true) (a.put dst v) w) : wpAnyF P md ops Q S n (f + 1) listed a w := by
 obtain ⟨oi, h0, rfl, hg, hx⟩ := look_at hi
 unfold takeB at hb
 simp only [Bool.and_eq_true] at hb
 obtain ⟨⟨b1, b2, b3, b4⟩, h2, h3, h4, h5⟩ := hb
 exact wpAnyF_take h0 (by simp only [b1, b2, b3, b4, Bool.and_true]) (by simpa using h2) h3 h4 h5 hQ (.inl ⟨by simp [Region.wanted, hg], fun w hs => by rw [hx]; exact hy w hs⟩) hS h
theorem bare_wp {oi : Oper} {dst : Option Tmp} {op : Op} {ty : TypeId} {a : Act} {w : World} {K : Act → World → Prop} (hd : oi.dst = dst) (hg : oi.guard = none) (hx : ∀ ρ, execOp ρ oi = execOp ρ (bare dst op ty))
 {X : Prop} (h : if Region.wanted (bare dst op ty) (yielded ops a.tmps) = true then Oper.wp P (bare dst op ty) a w K Q else X) : if Region.wanted oi (yielded ops a.tmps) = true then Oper.wp P oi a w K Q else K (a.put oi.dst undef) w := by
 rw [if_pos (by simp [Region.wanted, hg])]
 rw [if_pos (by simp [Region.wanted, bare])] at h
 unfold Oper.wp at *
 rw [hx]
 subst hd
 exact h
theorem wpAnyF_one {n : Nat} (i : Nat) (dst : Option Tmp) (op : Op) (ty : TypeId) {f : Nat} {listed : Array Bool} {a : Act} {w : World} (hi : lookB ops i = some (dst, op, ty, none)) (hr : Region.ready md ops listed = [i])
 (h : ∀ K : Act → World → Prop, (∀ a' w', S w' → (S w' → wpAnyF P md ops Q S n f (listed.setIfInBounds i true) a' w') → K a' w') → if Region.wanted (bare dst op ty) (yielded ops a.tmps) = true then Oper.wp P (bare dst op ty) a w K Q else False) : wpAnyF P md ops Q S n (f + 1) listed a w := by
 obtain ⟨oi, h0, hd, hg, hx⟩ := look_at hi
 exact wpAnyF_all hr (by simp) fun j hj => by
  simp only [List.mem_cons, List.not_mem_nil, or_false] at hj
  subst hj
  exact wpOp_step h0 fun K' hK => bare_wp hd hg hx (h K' (fun a w hs hq => hK a w ⟨fun _ => hs, hq hs⟩))
theorem wpAnyF_two {n : Nat} (i j : Nat) (dst : Option Tmp) (op : Op) (ty : TypeId) (dst' : Option Tmp) (op' : Op) (ty' : TypeId) {f : Nat} {listed : Array Bool} {a : Act} {w : World} (hi : lookB ops i = some (dst, op, ty, none)) (hj : lookB ops j = some (dst', op', ty', none)) (hr : Region.ready md ops listed = [i, j])
 (h : ∀ K : Act → World → Prop, (∀ a' w', S w' → (S w' → wpAnyF P md ops Q S n f (listed.setIfInBounds i true) a' w') → K a' w') → if Region.wanted (bare dst op ty) (yielded ops a.tmps) = true then Oper.wp P (bare dst op ty) a w K Q else False)
 (h' : ∀ K : Act → World → Prop, (∀ a' w', S w' → (S w' → wpAnyF P md ops Q S n f (listed.setIfInBounds j true) a' w') → K a' w') → if Region.wanted (bare dst' op' ty') (yielded ops a.tmps) = true then Oper.wp P (bare dst' op' ty') a w K Q else False) : wpAnyF P md ops Q S n (f + 1) listed a w := by
 obtain ⟨oi, h0, hd, hg, hx⟩ := look_at hi
 obtain ⟨oj, h0', hd', hg', hx'⟩ := look_at hj
 exact wpAnyF_all hr (by simp) fun m hm => by
  simp only [List.mem_cons, List.not_mem_nil, or_false] at hm
  rcases hm with rfl | rfl
  · exact wpOp_step h0 fun K' hK => bare_wp hd hg hx (h K' (fun a w hs hq => hK a w ⟨fun _ => hs, hq hs⟩))
  · exact wpOp_step h0' fun K' hK => bare_wp hd' hg' hx' (h' K' (fun a w hs hq => hK a w ⟨fun _ => hs, hq hs⟩))
theorem wpAnyF_end {n : Nat} (dst : Option Tmp) (op : Op) (ty : TypeId) {f : Nat} {listed : Array Bool} {a : Act} {w : World} (hi : lookB ops n = some (dst, op, ty, none)) (hr : Region.ready md ops listed = [n]) (hdn : Region.ready md ops (listed.setIfInBounds n true) = [])
 (h : ∀ K : Act → World → Prop, (∀ a w, Q .normal a w → K a w) → if Region.wanted (bare dst op ty) (yielded ops a.tmps) = true then Oper.wp P (bare dst op ty) a w K Q else False) : wpAnyF P md ops Q S n (f + 1) listed a w := by
 obtain ⟨oi, h0, hd, hg, hx⟩ := look_at hi
 exact wpAnyF_last hr h0 hdn fun K hK => bare_wp hd hg hx (h K hK)
end
theorem lyA {α : Type _} {l : List α} {i : Nat} {a : α} : l.toArray.setIfInBounds i a = (l.set i a).toArray := List.setIfInBounds_toArray ..
theorem lyZ {α : Type _} {x a : α} {l : List α} : (x :: l).set 0 a = a :: l := rfl
theorem lyS {α : Type _} {x a : α} {l : List α} {n : Nat} : (x :: l).set (n + 1) a = x :: l.set n a := rfl
end Go.Proofs.YtgpgcnmnfnnkjaaGreatDoor
end

section
namespace Go.Proofs.YtgpgcnmnfnnkjaaGreatDoor
open Go Go.RowKit
theorem wpList_of_quiet {P : Program} {ops : Array Oper} {C : World → Prop} {K : Act → Prop} {Q : Exit → Act → World → Prop} (hK : ∀ a w, C w → K a → Q .normal a w) : ∀ (rest : List Oper) (a : Act) (w : World), C w → wpQuiet P ops C K rest a → wpList P ops Q rest a w
 | [], a, w, hw, h => hK a w hw h
 | o :: rest, a, w, hw, h => by
  unfold wpQuiet at h
  unfold wpList
  split
  · rename_i hq
    rw [if_pos hq] at h
    exact .inl (Oper.wp_of_quiet hw (fun a' w' hw' h' => wpList_of_quiet hK rest a' w' hw' h') h)
  · rename_i hq
    rw [if_neg hq] at h
    exact wpList_of_quiet hK rest _ w hw h
theorem wp_region_plain {P : Program} {id : Nat} {Q : Exit → Act → World → Prop} {a : Act} {W : World} {l : List Oper}
 (h : wpQuiet P l.toArray (fun w' => w' = W) (fun a' => Q .normal a' W) l a) : (Code.region id l.toArray false).wp P Q a W :=
 wp_region_lit (wpList_of_quiet (C := fun w' => w' = W) (K := fun a' => Q .normal a' W) (fun a w hw h => by subst hw; exact h) l a W rfl h)
theorem wp_region_plain2 {P : Program} {id : Nat} {Q : Exit → Act → World → Prop} {a : Act} {W : World} {l' l : List Oper} (hl : l' = l)
 (h : wpQuiet P l.toArray (fun w' => w' = W) (fun a' => Q .normal a' W) l a) : (Code.region id l'.toArray false).wp P Q a W := by
 subst hl; exact wp_region_plain h
end Go.Proofs.YtgpgcnmnfnnkjaaGreatDoor
end

section
namespace Go.Proofs.YtgpgcnmnfnnkjaaGreatDoor
open Go Go.RowKit Go.ChangeShapes Go.WideShapes Go.ChangeAt

theorem spot_none {W : World} {x : Addr} {v : Value} (h : W.cell? (x.add 0) = some v) : x.spot = none := by
 rw [show x.add 0 = x from by simp [Addr.add]] at h
 unfold World.cell? at h
 split at h
 · by_cases hsp : x.spot.isSome = true
   · rw [if_pos hsp] at h; cases h
   · simpa using hsp
 · cases h

end Go.Proofs.YtgpgcnmnfnnkjaaGreatDoor
end

section
namespace Go.Proofs.YtgpgcnmnfnnkjaaGreatDoor
open Go Go.RowKit Go.ChangeShapes Go.WideShapes Go.ChangeAt Go.Deep

def InSlice {H : Type} (P : Program) (t e : TypeId) (d dx : DataW H) : Prop := ∀ n ∈ dx.weights P e, n ∈ d.weights P t
theorem weightsAll_mem {H : Type} {P : Program} {e : TypeId} {l : List (DataW H)} {d : DataW H} (hd : d ∈ l) : ∀ n ∈ d.weights P e, n ∈ DataW.weightsAll P e l := by
 intro n hn
 induction l with
 | nil => cases hd
 | cons x l ih =>
  simp only [DataW.weightsAll, List.mem_append]
  rcases List.mem_cons.1 hd with rfl | h
  · exact .inl hn
  · exact .inr (ih h)

theorem open_rd_core {α : Type} (E : Enc α) {H : Type} {enc : TypeId × Value → H} {P : Program} {W : World} {t e : TypeId} {fuel0 : Nat} {cs0 : List Value} {y0 : DataW H × List MemPlace}
 (hu : P.underlying t = some (.slice e)) (hC : P.cellsOf e = E.sz) (G : α → DataW H → Prop)
 (elem : ∀ fuel cs y, DataW.trod enc P W 0 (fun _ => true) true fuel e cs = some y → ∃ x, cs = E.enc x ∧ G x y.1)
 (hf : DataW.trod enc P W 0 (fun _ => true) true fuel0 t cs0 = some y0) :
 ∃ (v : Value) (l : List α), cs0 = [v] ∧ Rd E W v l ∧ DLen y0.1 l.length ∧ ∀ x ∈ l, ∃ dx, G x dx ∧ InSlice P t e y0.1 dx := by
 rcases open_slice hu hf with ⟨hcs, hx⟩ | ⟨a, len0, cap0, m, n, D, Pl, hcs, _, hl, hm, hmm, hx, hi⟩
 · subst hx
   exact ⟨_, [], hcs, Rd.nil W, .inl ⟨rfl, rfl⟩, by simp⟩
 · subst hx
   simp at hmm
   have hlm : len0 ≤ m := by omega
   have hel : ∀ i, i < len0 → ∃ x, G x (D i) ∧ ∀ j, j < E.sz → W.cell? (a.add (i * E.sz + j)) = (E.enc x)[j]? := fun i hlt => by
    obtain ⟨cs', hc, ht⟩ := hi i (by omega)
    obtain ⟨x, rfl, hg⟩ := elem _ _ _ ht
    rw [hC] at hc
    obtain ⟨_, _, hat⟩ := World.cells?_some hc
    exact ⟨x, hg, fun j hj => by rw [← Go.Deep.add_add]; exact hat j hj⟩
   have hex : ∃ l : List α, l.length = len0 ∧ ∀ i (h : i < l.length), G l[i] (D i) ∧ ∀ j, j < E.sz → W.cell? (a.add (i * E.sz + j)) = (E.enc l[i])[j]? := by
    clear hi hmm hl hm hlm hf hcs
    induction len0 with
    | zero => exact ⟨[], rfl, fun i h => by simp at h⟩
    | succ k ih =>
     obtain ⟨l, h1, h2⟩ := ih (fun i hlt => hel i (by omega))
     obtain ⟨x, h3, h4⟩ := hel k (by omega)
     refine ⟨l ++ [x], by simp [h1], fun i hlt => ?_⟩
     by_cases hik : i < l.length
     · rw [List.getElem_append_left hik]; exact h2 i hik
     · obtain rfl : i = k := by simp at hlt; omega
       rw [List.getElem_append_right (by omega)]
       simp only [h1, Nat.sub_self, List.getElem_cons_zero]
       exact ⟨h3, h4⟩
   obtain ⟨l, h1, h2⟩ := hex
   refine ⟨_, l, hcs, ?_, .inr ⟨_, _, rfl, by simp [h1]⟩, fun x hx' => ?_⟩
   · unfold Rd
     rw [h1]
     refine ⟨by rw [E.all_length, h1], E.all_oneCell _, some a, cap0, rfl, hl, hm, fun h => (by cases h), fun a' ha hn => ?_⟩
     cases ha
     have hpos := E.pos
     have h0 : 0 < l.length := by omega
     have hs : a.spot = none := by
      have h3 := (h2 0 h0).2 0 hpos
      have hj : 0 < (E.enc l[0]).length := by rw [E.len]; exact hpos
      rw [List.getElem?_eq_getElem hj, Nat.zero_mul, Nat.zero_add] at h3
      exact spot_none h3
     refine ⟨hs, fun i u hu' => ?_⟩
     have hlt := (List.getElem?_eq_some_iff.1 hu').1
     rw [E.all_length] at hlt
     have hdm := Nat.div_add_mod i E.sz
     have hq : i / E.sz < l.length := by rw [Nat.div_lt_iff_lt_mul hpos]; exact hlt
     have hr := Nat.mod_lt i hpos
     have h3 := (h2 (i / E.sz) hq).2 (i % E.sz) hr
     have h4 := E.all_get l (i / E.sz) hq (i % E.sz) hr
     rw [Nat.mul_comm, hdm] at h4
     rw [Nat.mul_comm, hdm, ← h4, hu', addr_add a hs] at h3
     exact h3
   · obtain ⟨i, hlt, rfl⟩ := List.getElem_of_mem hx'
     refine ⟨D i, (h2 i hlt).1, fun n hn => ?_⟩
     simp only [DataW.weights, hu, List.mem_cons, List.mem_append]
     exact .inr (.inl (weightsAll_mem (List.mem_map.2 ⟨i, by simp; omega, rfl⟩) n hn))

theorem open_rd {α : Type} (E : Enc α) {H : Type} {enc : TypeId × Value → H} {P : Program} {W : World} {t e : TypeId} {base : Nat} {v : Value} {d : DataW H} {p : List MemPlace}
 (hu : P.underlying t = some (.slice e)) (hC : P.cellsOf e = E.sz) (G : α → DataW H → Prop)
 (elem : ∀ fuel cs y, DataW.trod enc P W 0 (fun _ => true) true fuel e cs = some y → ∃ x, cs = E.enc x ∧ G x y.1)
 (hok : Value.okWide P W .any base t v) (h : DataW.Trod enc P W 0 (fun _ => true) true t v d p) :
 ∃ l : List α, Rd E W v l ∧ DLen d l.length ∧ ∀ x ∈ l, ∃ dx, G x dx ∧ InSlice P t e d dx := by
 obtain ⟨a0, len0, cap0, rfl⟩ := okWide_slice hu hok
 obtain ⟨fuel, hf⟩ := h
 obtain ⟨v', l, hcs, h1, h2, h3⟩ := open_rd_core E hu hC G elem hf
 have e1 : v' = .slice a0 len0 cap0 := by simpa [Value.cells] using hcs.symm
 subst e1
 exact ⟨l, h1, h2, h3⟩

theorem weigh_string {H : Type} {P : Program} {t : TypeId} {s : ByteArray} : s.size ∈ (DataW.lit (.string s.data.toList) : DataW H).weights P t := by
 simp only [DataW.weights, List.mem_singleton]
 exact (Array.length_toList (xs := s.data)).symm
theorem weigh_field {H : Type} {P : Program} {t : TypeId} {fs : Array Field} {parts : List (DataW H)} (hs : P.underlying t = some (.struct fs)) {j : Nat} {f : Field} {d : DataW H} (hf : fs[j]? = some f) (hd : parts[j]? = some d) : ∀ n ∈ d.weights P f.type, n ∈ (DataW.agg parts).weights P t := by
 intro n hn
 simp only [DataW.weights, hs]
 exact DataW.weights_mem_each (j := j) (by rw [List.getElem?_map, ← Array.getElem?_toList] at *; simp [hf]) hd n hn
theorem reach_of {H : Type} {P : Program} {ts : List TypeId} {ds : List (DataW H)} (h : (DataW.weightsEach P ts ds).all (· ≤ reachBytes) = true) {j : Nat} {t : TypeId} {d : DataW H} (ht : ts[j]? = some t) (hd : ds[j]? = some d) {n : Nat} (hn : n ∈ d.weights P t) : n ≤ 140737488351232 := by
 have := List.all_eq_true.1 h _ (DataW.weights_mem_each ht hd n hn)
 have h2 := of_decide_eq_true this
 exact h2
end Go.Proofs.YtgpgcnmnfnnkjaaGreatDoor
end

section
namespace Go.Proofs.YtgpgcnmnfnnkjaaGreatDoor
open Go Go.RowKit

def within (n lo hi : Int) : Int := lo + n % (hi - lo + 1)
theorem within_bounds (n lo hi : Int) (h : lo ≤ hi) : lo ≤ within n lo hi ∧ within n lo hi ≤ hi := by
 unfold within
 have h1 := Int.emod_nonneg n (show hi - lo + 1 ≠ 0 by omega)
 have h2 := Int.emod_lt_of_pos n (show 0 < hi - lo + 1 by omega)
 omega

theorem tmod_mod (n d : Int) (hd : 0 < d) : -d < n.tmod d ∧ n.tmod d < d ∧ (0 ≤ n.tmod d → n % d = n.tmod d) ∧ (n.tmod d < 0 → n % d = n.tmod d + d) := by
 rcases Int.lt_or_le n 0 with hn | hn
 · have e : n.tmod d = -((-n).tmod d) := by rw [Int.neg_tmod]; omega
   have e2 : (-n).tmod d = (-n) % d := Int.tmod_eq_emod_of_nonneg (by omega)
   have h1 := Int.emod_nonneg (-n) (show d ≠ 0 by omega)
   have h2 := Int.emod_lt_of_pos (-n) hd
   have h3 := Int.emod_nonneg n (show d ≠ 0 by omega)
   have h4 := Int.emod_lt_of_pos n hd
   have h5 := Int.emod_add_mul_ediv n d
   have h6 := Int.emod_add_mul_ediv (-n) d
   generalize n.tmod d = t at *
   generalize (-n) % d = s at *
   generalize n % d = r at *
   have h7 : d * (n / d + -n / d) = - (r + s) := by rw [Int.mul_add]; omega
   generalize n / d + -n / d = q at h7
   have h8 : q = 0 ∨ q = -1 := by
    rcases Int.lt_trichotomy q 0 with h | h | h
    · by_cases hq : q = -1
      · exact .inr hq
      · have : d * q ≤ d * (-2) := Int.mul_le_mul_of_nonneg_left (by omega) (by omega)
        omega
    · exact .inl h
    · have : d * 1 ≤ d * q := Int.mul_le_mul_of_nonneg_left (by omega) (by omega)
      omega
   rcases h8 with rfl | rfl <;> omega
 · have e2 : n.tmod d = n % d := Int.tmod_eq_emod_of_nonneg hn
   have h3 := Int.emod_nonneg n (show d ≠ 0 by omega)
   have h4 := Int.emod_lt_of_pos n hd
   omega

set_option maxHeartbeats 400000 in
theorem withinCalls (n lo hi : Int) (w : World) (h0 : -2305843009213693952 ≤ lo) (h1 : lo ≤ hi) (h2 : hi ≤ 2305843009213693952) :
 Calls Tryz.prog 15 #[.int .i64 n, .int .i64 lo, .int .i64 hi] w fun e w' => e = .returned (.int .i64 (within n lo hi)) ∧ w = w' := by
 obtain ⟨t1, t2, t3, t4⟩ := tmod_mod n (hi - lo + 1) (by omega)
 go_enter Tryz.func15, Tryz.ntmps15
 go_wp2
 · go_ret
   exact ⟨ret_int (by unfold within; rw [t4 (by assumption)]; omega), rfl⟩
 · go_ret
   exact ⟨ret_int (by unfold within; rw [t3 (by assumption)]), rfl⟩

end Go.Proofs.YtgpgcnmnfnnkjaaGreatDoor
end
