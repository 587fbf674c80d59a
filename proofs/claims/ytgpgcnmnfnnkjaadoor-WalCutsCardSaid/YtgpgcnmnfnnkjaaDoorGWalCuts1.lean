/- What a law's arguments read as, and what the form's reach and the bulk say of their lengths. Slices that read as lists of anything whose elements take so many cells each ('Enc'): read ('Rd'), of the call's own ('OwnR'). copy and append of so many zero values, where an element takes several cells. -/
import Derived.Test.YtgpgcnmnfnnkjaaDoorRows
import Derived.Test.YtgpgcnmnfnnkjaaDoorGWalCuts0
import Derived.WalkKit
import Derived.ProofKit
import Derived.OpenShut
import Derived.ShutString
import Derived.ChangeOld
import Derived.Below
import Derived.SizedLaws
import Derived.JoinedCond
import Derived.Deep.CondSized
import Derived.ChangeMaps5
import Derived.Laws.CopyOwn
import Derived.Lib.AppendZeros
import Derived.Lib.Overlaps
import Derived.Laws.Externs
import Derived.Deep.RegionLaw
set_option linter.unusedVariables false
set_option linter.unusedSimpArgs false
section
namespace Go.Proofs.YtgpgcnmnfnnkjaaDoor
open Go Go.RowKit Go.ChangeShapes Go.WideShapes Go.ChangeAt

theorem rowOwn : ownKnob Tryd.prog.godebug = none := by kernel_rfl
theorem rowLaid : laidOutB Tryd.prog = true := by kernel_rfl

/-- so many elements -/
def DLen {H : Type} (d : DataW H) (n : Nat) : Prop := (d = .nil ∧ n = 0) ∨ ∃ es sp, d = .slice es sp ∧ es.length = n

theorem bytes_of_ints {W : World} {x : Addr} {len cap : Nat} {zs : List Int} (hl : len ≤ cap) (hm : cap ≤ maxLen) (hz : zs.length = cap)
    (hcell : ∀ i, i < zs.length → W.cell? (x.add i) = some (.int .u8 (zs.getD i 0))) (hwz : ∀ n ∈ zs, (Lit.int .u8 n).wf = true) : ∃ l : List UInt8, Bytes W (.slice (some x) len cap) l ∧ l.length = len := by
  have hlen : (zs.take len).length = len := by rw [List.length_take]; omega
  have hb : ∀ z ∈ zs, 0 ≤ z ∧ z < 256 := fun z hz => by
    have := hwz z hz
    simp [Lit.wf, IntKind.min, IntKind.max, IntKind.bits, IntKind.signed] at this; omega
  refine ⟨(zs.take len).map fun z => UInt8.ofNat z.toNat, ?_, by rw [List.length_map, hlen]⟩
  refine ⟨by simp, fun u hu => ?_, some x, cap, by rw [List.length_map, hlen], by rw [List.length_map, hlen]; omega, hm, fun h => (by cases h), fun a ha hn => ?_⟩
  · obtain ⟨y, _, rfl⟩ := List.mem_map.1 hu; rfl
  · cases ha
    rw [List.length_map, hlen] at hn
    have hz0 : 0 < zs.length := by omega
    have hs : x.spot = none := by
      have := hcell 0 hz0
      rw [show x.add 0 = x from by simp [Addr.add]] at this
      unfold World.cell? at this
      split at this
      · by_cases hsp : x.spot.isSome = true
        · rw [if_pos hsp] at this; cases this
        · simpa using hsp
      · cases this
    refine ⟨hs, fun i u hu => ?_⟩
    simp only [List.getElem?_map] at hu
    rw [List.getElem?_take] at hu
    split at hu
    · rename_i hi
      have hiz : i < zs.length := by omega
      rw [List.getElem?_eq_getElem hiz] at hu
      simp at hu
      subst hu
      have := hcell i hiz
      rw [addr_add x hs] at this
      rw [this]
      have hb' := hb zs[i] (List.getElem_mem _)
      simp [List.getD, hiz, byteV]
      omega
    · simp at hu

theorem open_bytes {H : Type} {enc : TypeId × Value → H} {P : Program} {W : World} {t e : TypeId} {base : Nat} {v : Value} {d : DataW H} {p : List MemPlace}
    (hu : P.underlying t = some (.slice e)) (he : P.underlying e = some (.int .u8)) (hc : P.cellsOf e = 1) (hok : Value.okWide P W .any base t v)
    (h : DataW.Trod enc P W 0 (fun _ => true) true t v d p) : ∃ l : List UInt8, Bytes W v l ∧ DLen d l.length := by
  obtain ⟨a, len, cap, rfl⟩ := okWide_slice hu hok
  obtain ⟨fuel, hf⟩ := h
  rcases open_ints hu he hc hf with ⟨hcs, hx⟩ | ⟨x, l, c, zs, hcs, _, hl, hm, hz, hx, hcell, hwz⟩
  · simp [Value.cells] at hcs
    obtain ⟨rfl, rfl, rfl⟩ := hcs
    simp only [Prod.mk.injEq] at hx
    exact ⟨[], Bytes.nil W, .inl ⟨hx.1, rfl⟩⟩
  · simp [Value.cells] at hcs
    obtain ⟨rfl, rfl, rfl⟩ := hcs
    simp only [Prod.mk.injEq] at hx
    simp at hz
    obtain ⟨l, h1, h2⟩ := bytes_of_ints hl hm hz hcell hwz
    refine ⟨l, h1, .inr ⟨_, _, hx.1, ?_⟩⟩
    rw [h2]; simp [lits]; omega

theorem open_u32 {H : Type} {enc : TypeId × Value → H} {P : Program} {W : World} {t : TypeId} {base : Nat} {v : Value} {d : DataW H} {p : List MemPlace}
    (hu : P.underlying t = some (.int .u32)) (hok : Value.okWide P W .any base t v)
    (h : DataW.Trod enc P W 0 (fun _ => true) true t v d p) : ∃ c : BitVec 32, v = .int .u32 (c.toNat : Int) := by
  obtain ⟨x, rfl, rfl, rfl, wx⟩ := open_int hu hok h
  have hb : 0 ≤ x ∧ x < 4294967296 := by simp [Lit.wf, IntKind.min, IntKind.max, IntKind.bits, IntKind.signed] at wx; omega
  refine ⟨BitVec.ofNat 32 x.toNat, ?_⟩
  rw [BitVec.toNat_ofNat, Nat.mod_eq_of_lt (by omega)]
  congr 1; omega

theorem open_i64 {H : Type} {enc : TypeId × Value → H} {P : Program} {W : World} {t : TypeId} {base : Nat} {v : Value} {d : DataW H} {p : List MemPlace}
    (hu : P.underlying t = some (.int .i64)) (hok : Value.okWide P W .any base t v)
    (h : DataW.Trod enc P W 0 (fun _ => true) true t v d p) : ∃ x : Int, v = .int .i64 x ∧ -9223372036854775808 ≤ x ∧ x ≤ 9223372036854775807 := by
  obtain ⟨x, rfl, rfl, rfl, wx⟩ := open_int hu hok h
  refine ⟨x, rfl, ?_⟩
  simp [Lit.wf, IntKind.min, IntKind.max, IntKind.bits, IntKind.signed] at wx; omega

/-- the reach, of a slice -/
theorem sized_dlen {H : Type} {P : Program} {ts : List TypeId} {ds : List (DataW H)} (h : (DataW.weightsEach P ts ds).all (· ≤ reachBytes) = true) {j : Nat} {t e : TypeId} {d : DataW H} {n : Nat} {bytes : Nat} (hd : DLen d n)
    (ht : ts[j]? = some t) (hj : ds[j]? = some d) (hu : P.underlying t = some (.slice e)) (hb : P.bytesOf e = bytes) : n * bytes ≤ 140737488351232 := by
  rcases hd with ⟨rfl, rfl⟩ | ⟨es, sp, rfl, rfl⟩
  · omega
  · have := sized_slice h ht hj hu
    rw [hb, Nat.add_mul] at this
    simp only [reachBytes] at this
    omega

theorem bulk_one_le {H : Type} (d : DataW H) : 1 ≤ Rows.uptoBulk d := by
  cases d with
  | lit l => cases l <;> simp [Rows.uptoBulk]
  | _ => simp [Rows.uptoBulk]
theorem bulk_length_le {H : Type} (l : List (DataW H)) : l.length ≤ Rows.uptoBulkAll l := by
  induction l with
  | nil => simp [Rows.uptoBulkAll]
  | cons x r ih => have := bulk_one_le x; simp only [Rows.uptoBulkAll, List.length_cons]; omega
theorem bulk_dlen {H : Type} {d : DataW H} {n : Nat} (h : DLen d n) : n + 1 ≤ Rows.uptoBulk d := by
  rcases h with ⟨rfl, rfl⟩ | ⟨es, sp, rfl, rfl⟩
  · simp [Rows.uptoBulk]
  · have := bulk_length_le es; simp only [Rows.uptoBulk]; omega

theorem open_string1 {H : Type} {enc : TypeId × Value → H} {P : Program} {W : World} {t : TypeId} {base : Nat} {v : Value} {d : DataW H} {p : List MemPlace}
    (hu : P.underlying t = some .string) (hok : Value.okWide P W .any base t v)
    (h : DataW.Trod enc P W 0 (fun _ => true) true t v d p) : ∃ s : ByteArray, d = .lit (.string s.data.toList) ∧ v = .string s := by
  obtain ⟨s, h1, h2, _, _⟩ := Go.ChangeMaps.open_string hu hok h
  exact ⟨s, h2, h1⟩
theorem open_bool1 {H : Type} {enc : TypeId × Value → H} {P : Program} {W : World} {t : TypeId} {base : Nat} {v : Value} {d : DataW H} {p : List MemPlace}
    (hu : P.underlying t = some .bool) (hok : Value.okWide P W .any base t v)
    (h : DataW.Trod enc P W 0 (fun _ => true) true t v d p) : ∃ b : Bool, v = .bool b := by
  obtain ⟨b, h1, _⟩ := open_bool hu hok h
  exact ⟨b, h1⟩
/-- the reach, of a string -/
theorem sized_str {H : Type} {P : Program} {ts : List TypeId} {ds : List (DataW H)} (h : (DataW.weightsEach P ts ds).all (· ≤ reachBytes) = true) {j : Nat} {t : TypeId} {d : DataW H} {s : ByteArray} (hd : d = .lit (.string s.data.toList))
    (ht : ts[j]? = some t) (hj : ds[j]? = some d) : s.size ≤ 140737488351232 := by
  subst hd
  have := sized_string h ht hj
  simp only [reachBytes] at this
  have e : s.size = s.data.toList.length := (Array.length_toList (xs := s.data)).symm
  omega
theorem bulk_string {H : Type} {d : DataW H} {s : ByteArray} (hd : d = .lit (.string s.data.toList)) : s.size ≤ Rows.uptoBulk d := by
  subst hd
  have e : s.size = s.data.toList.length := (Array.length_toList (xs := s.data)).symm
  simp only [Rows.uptoBulk]; omega

end Go.Proofs.YtgpgcnmnfnnkjaaDoor
end

section
namespace Go.Proofs.YtgpgcnmnfnnkjaaDoor
open Go Go.RowKit

theorem grown_tr {a b c : World} {row : Option Nat} (h1 : a.grownBy b row) (h2 : b.grownBy c row) : a.grownBy c row :=
  ⟨h2.os.trans h1.os, h2.tape.trans h1.tape, h2.output.trans h1.output, Nat.le_trans h1.size h2.size, fun k hk hne => (h2.block k (Nat.lt_of_lt_of_le hk h1.size) hne).trans (h1.block k hk hne)⟩
theorem grown_below {a b : World} {row : Option Nat} (h : Below a.heap.size a b) : a.grownBy b row := ⟨h.os, h.tape, h.output, h.size, fun k hk _ => h.block k hk⟩
theorem grown_drew {a b : World} {row : Option Nat} (h : a.grownBy b row) : a.grownBy b.drew row := ⟨h.os, h.tape, h.output, h.size, h.block⟩
theorem grown_drewN {a b : World} {row : Option Nat} (h : a.grownBy b row) (n : Nat) : a.grownBy (b.drewN n) row := ⟨h.os, h.tape, h.output, h.size, h.block⟩
theorem grown_from_drewN {a b : World} {row : Option Nat} {n : Nat} (h : (a.drewN n).grownBy b row) : a.grownBy b row := ⟨h.os, h.tape, h.output, h.size, h.block⟩

/-- how an element lies in memory: so many cells -/
structure Enc (α : Type) where
  sz : Nat
  enc : α → List Value
  len : ∀ x, (enc x).length = sz
  one : ∀ x, ∀ v ∈ enc x, v.oneCell' = true
  pos : 0 < sz

def Enc.all {α : Type} (E : Enc α) (l : List α) : List Value := l.flatMap E.enc
section
variable {α : Type} (E : Enc α)
theorem Enc.all_nil : E.all [] = [] := rfl
theorem Enc.all_append (l m : List α) : E.all (l ++ m) = E.all l ++ E.all m := by unfold Enc.all; rw [List.flatMap_append]
theorem Enc.all_cons (x : α) (l : List α) : E.all (x :: l) = E.enc x ++ E.all l := by unfold Enc.all; rw [List.flatMap_cons]
theorem Enc.all_one (x : α) : E.all [x] = E.enc x := by unfold Enc.all; simp
theorem Enc.all_length (l : List α) : (E.all l).length = l.length * E.sz := by
  induction l with
  | nil => simp [Enc.all]
  | cons x l ih => rw [E.all_cons, List.length_append, ih, E.len, List.length_cons, Nat.add_mul]; omega
theorem Enc.all_oneCell (l : List α) : ∀ v ∈ E.all l, v.oneCell' = true := fun v hv => by
  obtain ⟨x, _, h⟩ := List.mem_flatMap.1 hv
  exact E.one x v h
theorem Enc.all_get (l : List α) (i : Nat) (hi : i < l.length) (j : Nat) (hj : j < E.sz) : (E.all l)[i * E.sz + j]? = (E.enc l[i])[j]? := by
  induction l generalizing i with
  | nil => simp at hi
  | cons x l ih =>
    rw [E.all_cons]
    cases i with
    | zero => rw [Nat.zero_mul, Nat.zero_add, List.getElem?_append_left (by rw [E.len]; exact hj)]; rfl
    | succ i =>
      rw [List.getElem?_append_right (by rw [E.len, Nat.succ_mul]; omega), E.len, show (i + 1) * E.sz + j - E.sz = i * E.sz + j from by rw [Nat.succ_mul]; omega]
      rw [ih i (by simpa using hi)]; rfl
theorem Enc.all_take (l : List α) (i : Nat) : (E.all l).take (i * E.sz) = E.all (l.take i) := by
  induction l generalizing i with
  | nil => simp [Enc.all]
  | cons x l ih =>
    cases i with
    | zero => simp [Enc.all]
    | succ i =>
      rw [E.all_cons, List.take_succ_cons, E.all_cons, Nat.succ_mul, Nat.add_comm, List.take_append]
      rw [List.take_of_length_le (by rw [E.len]; omega), E.len, show E.sz + i * E.sz - E.sz = i * E.sz from by omega, ih]
theorem Enc.all_drop (l : List α) (i : Nat) : (E.all l).drop (i * E.sz) = E.all (l.drop i) := by
  induction l generalizing i with
  | nil => simp [Enc.all]
  | cons x l ih =>
    cases i with
    | zero => simp
    | succ i =>
      rw [E.all_cons, List.drop_succ_cons, Nat.succ_mul, Nat.add_comm, ← List.drop_drop]
      rw [List.drop_append_of_le_length (by rw [E.len]; omega), show (E.enc x).drop E.sz = [] from List.drop_of_length_le (by rw [E.len]; omega), List.nil_append, ih]
theorem Enc.all_sub (l : List α) (i j : Nat) : ((E.all l).drop (i * E.sz)).take ((j - i) * E.sz) = E.all ((l.drop i).take (j - i)) := by
  rw [E.all_drop, E.all_take]
theorem Enc.all_set (l : List α) (i : Nat) (hi : i < l.length) (j : Nat) (hj : j < E.sz) (u : Value) (y : α) (hy : E.enc y = (E.enc l[i]).set j u) : (E.all l).set (i * E.sz + j) u = E.all (l.set i y) := by
  induction l generalizing i with
  | nil => simp at hi
  | cons x l ih =>
    cases i with
    | zero =>
      rw [Nat.zero_mul, Nat.zero_add, E.all_cons, List.set_append_left _ _ (by rw [E.len]; exact hj), List.set_cons_zero, E.all_cons, hy]; rfl
    | succ i =>
      rw [E.all_cons, List.set_append_right _ _ (by rw [E.len, Nat.succ_mul]; omega), E.len, show (i + 1) * E.sz + j - E.sz = i * E.sz + j from by rw [Nat.succ_mul]; omega, List.set_cons_succ, E.all_cons]
      rw [ih i (by simpa using hi) hy]

/-- the slice v reads as l -/
def Rd (w : World) (v : Value) (l : List α) : Prop := Cells w E.sz v l.length (E.all l)
/-- the slice v is the call's own, from block B on, and reads as l -/
def OwnR (w : World) (B : Nat) (e : TypeId) (v : Value) (l : List α) : Prop := Own w B e E.sz v l.length (E.all l)

variable {E} {w w' : World} {v : Value} {l m : List α} {B : Nat} {e : TypeId}
theorem Rd.nil (w : World) : Rd E w (.slice none 0 0) [] := Cells.nil w E.sz
theorem Rd.drewN (h : Rd E w v l) (k : Nat) : Rd E (w.drewN k) v l := h
theorem Rd.drew (h : Rd E w v l) : Rd E w.drew v l := h
theorem Rd.ext (h : Rd E w v l) (hb : Below w.heap.size w w') : Rd E w' v l := Cells.ext h hb
theorem Rd.below (h : Rd E w v l) (hb : Below B w w') (hB : ∀ k, v.ownBlock = some k → k < B) : Rd E w' v l := Cells.below h hb hB
theorem Rd.le (h : Rd E w v l) : l.length ≤ maxLen := Cells.le h
theorem Rd.shape (h : Rd E w v l) : ∃ p cap, v = .slice p l.length cap := by obtain ⟨_, _, p, cap, h, _⟩ := h; exact ⟨p, cap, h⟩
theorem Rd.shapeN (h : Rd E w v l) {n : Nat} (hn : l.length = n) : ∃ p cap, v = .slice p n cap := by subst hn; exact h.shape
theorem Rd.form (h : Rd E w v l) : ∃ p cap, v = .slice p l.length cap ∧ l.length ≤ cap ∧ cap ≤ maxLen ∧ (p = none → cap = 0) ∧
    (0 < l.length → ∃ b off, p = some ⟨b, off, none⟩ ∧ ∀ i (hi : i < l.length) j (hj : j < E.sz), w.cell? ⟨b, off + (i * E.sz + j), none⟩ = (E.enc l[i])[j]?) := by
  obtain ⟨p, cap, h1, h2, h3, h4, h5⟩ := Cells.form h
  refine ⟨p, cap, h1, h2, h3, h4, fun hc => ?_⟩
  obtain ⟨b, off, h6, h7⟩ := h5 hc
  refine ⟨b, off, h6, fun i hi j hj => ?_⟩
  have e1 := E.all_get l i hi j hj
  have hj' : j < (E.enc l[i]).length := by rw [E.len]; exact hj
  rw [List.getElem?_eq_getElem hj'] at e1 ⊢
  exact h7 _ _ e1
theorem Rd.sub (h : Rd E w v l) (i j : Nat) (hi : i ≤ j) (hj : j ≤ l.length) : Rd E w (subV v i j E.sz) ((l.drop i).take (j - i)) := by
  have h1 := Cells.sub h E.pos i j hi hj
  rw [E.all_sub] at h1
  have e1 : ((l.drop i).take (j - i)).length = j - i := by rw [List.length_take, List.length_drop]; omega
  unfold Rd
  rw [e1]; exact h1
theorem OwnR.rd (h : OwnR E w B e v l) : Rd E w v l := Own.cells h
theorem OwnR.nil (w : World) (B : Nat) (e : TypeId) : OwnR E w B e (.slice none 0 0) [] := Own.nil w B e E.sz
theorem OwnR.drew (h : OwnR E w B e v l) : OwnR E w.drew B e v l := h
theorem OwnR.drewN (h : OwnR E w B e v l) (k : Nat) : OwnR E (w.drewN k) B e v l := h
theorem OwnR.ext (h : OwnR E w B e v l) (hb : Below w.heap.size w w') : OwnR E w' B e v l := Own.ext h hb
theorem OwnR.lt (h : OwnR E w B e v l) : ∀ k, v.ownBlock = some k → B ≤ k ∧ k < w.heap.size := Own.lt h
theorem OwnR.base {B' : Nat} (h : OwnR E w B e v l) (hB : B' ≤ B) : OwnR E w B' e v l := Own.base h hB
theorem OwnR.grown {row : Option Nat} (h : OwnR E w B e v l) (hg : w.grownBy w' row) (hne : v.ownBlock = none ∨ v.ownBlock ≠ row) : OwnR E w' B e v l := Own.grown h hg hne
theorem OwnR.snoc (h : Own w B e E.sz v (l.length + m.length) (E.all l ++ E.all m)) : OwnR E w B e v (l ++ m) := by
  unfold OwnR; rw [List.length_append, E.all_append]; exact h
theorem OwnR.of {n : Nat} {xs : List Value} (h : Own w B e E.sz v n xs) (hn : n = l.length) (hx : xs = E.all l) : OwnR E w B e v l := by subst hn; subst hx; exact h
theorem OwnR.head (h : OwnR E w B e v l) (hl : 0 < l.length) : ∃ g cap, v = .slice (some ⟨g, 0, none⟩) l.length cap ∧ B ≤ g ∧ g < w.heap.size ∧ l.length ≤ cap ∧ cap ≤ maxLen := by
  rcases Own.head h with ⟨_, h⟩ | h
  · omega
  · exact h
theorem OwnR.cellAt {g n cap : Nat} (h : OwnR E w B e (.slice (some ⟨g, 0, none⟩) n cap) l) (hn : n = l.length) (i : Nat) (hi : i < l.length) (j : Nat) (hj : j < E.sz) :
    w.cell? ⟨g, i * E.sz + j, none⟩ = (E.enc l[i])[j]? := by
  subst hn
  have e1 := E.all_get l i hi j hj
  have hlt : i * E.sz + j < (E.all l).length := by
    rw [E.all_length]
    have : (i + 1) * E.sz ≤ l.length * E.sz := Nat.mul_le_mul_right _ hi
    rw [Nat.succ_mul] at this; omega
  have := Own.cellAt h (i * E.sz + j) hlt
  rw [this, ← e1, List.getElem?_eq_getElem hlt]
theorem OwnR.frozenAt {g n cap : Nat} (h : OwnR E w B e (.slice (some ⟨g, 0, none⟩) n cap) l) (hn : n = l.length) (i : Nat) : w.frozen? ⟨g, i, none⟩ = false := by
  subst hn; exact Own.frozenAt h i
/-- a store into one of an element's cells -/
theorem OwnR.stored {g n cap : Nat} (h : OwnR E w B e (.slice (some ⟨g, 0, none⟩) n cap) l) (hn : n = l.length) (i : Nat) (hi : i < l.length) (j : Nat) (hj : j < E.sz) (u : Value) (hu : u.oneCell' = true) (y : α) (hy : E.enc y = (E.enc l[i]).set j u) :
    OwnR E (w.setCell ⟨g, i * E.sz + j, none⟩ u) B e (.slice (some ⟨g, 0, none⟩) n cap) (l.set i y) ∧ w.grownBy (w.setCell ⟨g, i * E.sz + j, none⟩ u) (some g) := by
  subst hn
  obtain ⟨h1, h2⟩ := Own.stored h (i * E.sz + j) u hu
  refine ⟨?_, h2⟩
  rw [E.all_set l i hi j hj u y hy] at h1
  unfold OwnR; rw [List.length_set]; exact h1
theorem OwnR.aside {g n cap : Nat} {row : Option Nat} (h : OwnR E w B e (.slice (some ⟨g, 0, none⟩) n cap) l) (hg : w.grownBy w' row) (hne : ∀ k, row = some k → k ≠ g) : OwnR E w' B e (.slice (some ⟨g, 0, none⟩) n cap) l :=
  Own.grown h hg (.inr (by intro e; exact hne g e.symm rfl))
theorem Rd.grown {row : Option Nat} (h : Rd E w v l) (hg : w.grownBy w' row) (hne : v.ownBlock = none ∨ v.ownBlock ≠ row) : Rd E w' v l := Cells.grown h hg hne
end

/-- numbers -/
def intsE : Enc Int := ⟨1, fun x => [.int .i64 x], fun _ => rfl, fun _ v hv => by simp only [List.mem_singleton] at hv; subst hv; rfl, Nat.one_pos⟩
theorem intsE_cell {w : World} {l : List Int} {b off i : Nat} (hi : i < l.length) (h : ∀ i (hi : i < l.length) j (hj : j < intsE.sz), w.cell? ⟨b, off + (i * intsE.sz + j), none⟩ = (intsE.enc l[i])[j]?) : w.cell? ⟨b, off + i, none⟩ = some (.int .i64 l[i]) := by
  have := h i hi 0 Nat.one_pos
  simpa [intsE] using this
end Go.Proofs.YtgpgcnmnfnnkjaaDoor
end

section
namespace Go.Proofs.YtgpgcnmnfnnkjaaDoor
open Go Go.RowKit

section
variable {P : Program} {t e : TypeId} {sz bytes : Nat}
theorem run_copyK (T : SlT P t e sz bytes) (w : World) (t' ty : TypeId) (g o dLen dCap : Nat) (a : Addr) (sLen sCap : Nat) (cur : Array Value) (te : TypeId) (cs : List Value)
    (hg : w.heap[g]? = some (.cells cur te (0, 0))) (hn : cs.length = Nat.min sLen dLen * sz)
    (hsrc : ∀ j v, cs[j]? = some v → w.cell? (a.add j) = some v) (hfit : o + cs.length ≤ cur.size) (h1 : ∀ v ∈ cs, v.oneCell' = true) :
    (Builtin.copy_ #[t, t'] ty #[.slice (some ⟨g, o, none⟩) dLen dCap, .slice (some a) sLen sCap]).run P w =
      .ok (goInt (Nat.min sLen dLen)) (w.setRow g (splice cur.toList o cs).toArray) := by
  obtain ⟨i, z, hi, hz, hs, hby, hzs⟩ := T.info
  have hl := run_loadCells_list (P := P) w a cs hsrc
  have hst := run_storeCells_at P g o te cs 0 cur w hg (by simpa using hfit) h1
  simp [Builtin.copy_, run_underlying T.under, Builtin.lenOf, Builtin.firstCells, sizeOf, typeInfo, hi, hs, ← hn, hl, hst, splice]

theorem wpList_copyK {ops : Array Oper} {rest : List Oper} {o : Oper} {a : Act} {w : World} {Q : Exit → Act → World → Prop} (T : SlT P t e sz bytes) (hgd : o.guard = none) {d s : Operand} {t' : TypeId}
    (ho : o.op = .call { callee := .builtin .copy, args := #[d, s], argTypes := #[t, t'] }) (g off dLen dCap : Nat) (ad : Addr) (sLen sCap : Nat) (hd : a.eval d = .slice (some ⟨g, off, none⟩) dLen dCap) (hs : a.eval s = .slice (some ad) sLen sCap)
    (cur : Array Value) (te : TypeId) (hg : w.heap[g]? = some (.cells cur te (0, 0))) (cs : List Value) (hn : cs.length = Nat.min sLen dLen * sz)
    (hsrc : ∀ j v, cs[j]? = some v → w.cell? (ad.add j) = some v) (hfit : off + cs.length ≤ cur.size) (h1 : ∀ v ∈ cs, v.oneCell' = true)
    (h : wpList P ops Q rest (a.put o.dst (goInt (Nat.min sLen dLen))) (w.setRow g (splice cur.toList off cs).toArray)) : wpList P ops Q (o :: rest) a w := by
  refine wpList_plain hgd fun K hK => ?_
  have hrun := run_copyK (P := P) T w t' o.type g off dLen dCap ad sLen sCap cur te cs hg hn hsrc hfit h1
  unfold Oper.wp
  simp [execOp, ho, resolve, invoke, builtin, hd, hs, hrun, Result.andThen]
  exact hK _ _ h

theorem step_copyK {ops : Array Oper} {o : Oper} {a : Act} {w : World} {K : Act → World → Prop} {Q : Exit → Act → World → Prop} {E : Prop} (T : SlT P t e sz bytes) (hgd : o.guard = none) {d s : Operand} {t' : TypeId}
    (ho : o.op = .call { callee := .builtin .copy, args := #[d, s], argTypes := #[t, t'] }) (g off dLen dCap : Nat) (ad : Addr) (sLen sCap : Nat) (hd : a.eval d = .slice (some ⟨g, off, none⟩) dLen dCap) (hs : a.eval s = .slice (some ad) sLen sCap)
    (cur : Array Value) (te : TypeId) (hg : w.heap[g]? = some (.cells cur te (0, 0))) (cs : List Value) (hn : cs.length = Nat.min sLen dLen * sz)
    (hsrc : ∀ j v, cs[j]? = some v → w.cell? (ad.add j) = some v) (hfit : off + cs.length ≤ cur.size) (h1 : ∀ v ∈ cs, v.oneCell' = true)
    (h : K (a.put o.dst (goInt (Nat.min sLen dLen))) (w.setRow g (splice cur.toList off cs).toArray)) : if Region.wanted o (yielded ops a.tmps) = true then Oper.wp P o a w K Q else E := by
  have hw : Region.wanted o (yielded ops a.tmps) = true := by simp [Region.wanted, hgd]
  rw [if_pos hw]
  have hrun := run_copyK (P := P) T w t' o.type g off dLen dCap ad sLen sCap cur te cs hg hn hsrc hfit h1
  unfold Oper.wp
  simp [execOp, ho, resolve, invoke, builtin, hd, hs, hrun, Result.andThen]
  exact h

/-- append(s, make([]T, n)...), where there is no room: new memory -/
theorem run_appMk (T : SlT P t e sz bytes) {tn : TypeId} {kn : IntKind} (htn : P.underlying tn = some (.int kn)) (w : World) (ty : TypeId) (b : Addr) (sLen sCap n : Nat) (k : IntKind) (olds : List Value) (hlo : olds.length = sLen * sz)
    (holds : ∀ j v, olds[j]? = some v → w.cell? (b.add j) = some v) (hroom : sCap < sLen + n) (hn : 0 < n) (hbytes : (sLen + n) * bytes ≤ 140737488355328) :
    ∃ cap zs, (Builtin.append_ #[t, tn] ty #[.slice (some b) sLen sCap, .int k (n : Int)]).run P w =
      .ok (.slice (some ⟨w.heap.size, 0, none⟩) (sLen + n) cap) (w.drew.alloc (.cells (olds ++ zs).toArray e)) ∧ sLen + n ≤ cap ∧ cap ≤ maxLen ∧ zs.length = (cap - sLen) * sz := by
  have hmax := T.max hbytes
  obtain ⟨i, z, hi, hz, hs, hby, hzs⟩ := T.info
  subst hs; subst hby
  have hge := grownCap_ge w (sLen + n) sCap e
  have hle := grownCap_le_maxLen w (sLen + n) sCap e hmax
  have hno : ¬ (sLen + n ≤ sCap) := by omega
  have hn0 : n ≠ 0 := by omega
  have hn48 : (n : Int) * (i.bytes : Int) ≤ 281474976710656 := by
    have h1 : n * i.bytes ≤ (sLen + n) * i.bytes := Nat.mul_le_mul_right _ (by omega)
    rw [← Int.natCast_mul]; omega
  have h48i : ¬ (281474976710656 < (n : Int) * (i.bytes : Int)) := by omega
  have hw : IntKind.i64.wrap (n : Int) = n := by unfold maxLen at hmax; rw [IntKind.wrap_i64]; omega
  have hneg : ¬ ((n : Int) < 0) := by omega
  have h63' : ¬ (9223372036854775807 < ((sLen : Int) + (n : Int))) := by unfold maxLen at hmax; omega
  have h48' : ¬ (281474976710656 < Builtin.nextslicecap (sLen + n) sCap * i.bytes) := by have := growslice_fits (old := sCap) (by omega) hbytes; omega
  have hns : ¬ (n * i.size = 0) := Nat.mul_ne_zero hn0 (by have := T.pos; omega)
  have hfo := run_firstCells_some (P := P) w.drew i.size sLen b sLen sCap olds hlo (by simpa using holds)
  refine ⟨grownCap w (sLen + n) sCap e, (Builtin.zeroCells z.cells n).toList ++ (Builtin.zeroCells z.cells (grownCap w (sLen + n) sCap e - (sLen + n))).toList, ?_, hge, hle, ?_⟩
  · simp [Builtin.append_, run_underlying T.under, run_underlying htn, sizeOf, typeInfo, zeroValue, hi, hz, asInt, asIntOf, hw, hn0, hneg, hns, hno, h63', h48', h48i, Question.forced, hfo, newRow, grownCap]
    congr 2
    apply Array.ext'
    simp
  · rw [List.length_append, Array.length_toList, Array.length_toList, size_zeroCells, size_zeroCells, hzs, ← Nat.add_mul]
    congr 1; omega
end

theorem take_splice {L cs : List Value} {o : Nat} (h : o ≤ L.length) : (splice L o cs).take o = L.take o := by
  unfold splice
  rw [List.take_append_of_le_length (by simp; omega), List.take_of_length_le (by simp; omega)]
theorem splice_splice {L cs es : List Value} {a b : Nat} (hab : a + es.length = b) (hb : b ≤ L.length) : splice (splice L b cs) a es = L.take a ++ (es ++ (cs ++ L.drop (b + cs.length))) := by
  have h1 : (splice L b cs).take a = L.take a := by
    unfold splice
    rw [List.take_append_of_le_length (by simp; omega), List.take_take]; congr 1; omega
  have h2 : (splice L b cs).drop b = cs ++ L.drop (b + cs.length) := by
    unfold splice
    rw [List.drop_append_of_le_length (by simp; omega), List.drop_of_length_le (by simp; omega), List.nil_append]
  conv => lhs; unfold splice
  have h3 : List.take a (List.take b L ++ (cs ++ List.drop (b + cs.length) L)) = L.take a := h1
  have h4 : List.drop (a + es.length) (List.take b L ++ (cs ++ List.drop (b + cs.length) L)) = cs ++ L.drop (b + cs.length) := by rw [hab]; exact h2
  rw [h3, h4]
theorem splice_splice' {L cs es : List Value} {a b : Nat} (hab : a + es.length = b) (hb : b ≤ L.length) : splice (splice L a es) b cs = L.take a ++ (es ++ (cs ++ L.drop (b + cs.length))) := by
  have h1 : (splice L a es).take b = L.take a ++ es := by
    unfold splice
    rw [← List.append_assoc, List.take_append_of_le_length (by simp; omega), List.take_of_length_le (by simp; omega)]
  have h2 : (splice L a es).drop (b + cs.length) = L.drop (b + cs.length) := by
    unfold splice
    rw [← List.append_assoc, List.drop_append, List.drop_of_length_le (by simp; omega), List.nil_append, List.drop_drop]
    congr 1; simp; omega
  have h3 : splice (splice L a es) b cs = (splice L a es).take b ++ (cs ++ (splice L a es).drop (b + cs.length)) := rfl
  rw [h3, h1, h2, List.append_assoc]
end Go.Proofs.YtgpgcnmnfnnkjaaDoor
end
