/- Slices of elements of several cells: make, copy, stores of whole elements. What a call may change, by the numbers of blocks: for objects that lie in several blocks and live on. Texts: when they are the same, which stands ahead of another one. -/
import Derived.Test.YtgpgcnmnfnnkjaaDoorGWalCuts1
import Derived.Laws.IdiomCopy
import Derived.Test.YtgpgcnmnfnnkjaaDoorGWalCuts0
set_option linter.unusedVariables false
set_option linter.unusedSimpArgs false
section
namespace Go.Proofs.YtgpgcnmnfnnkjaaDoor
open Go Go.RowKit

/-- a block known whole: a variable's cells -/
def Blk (w : World) (g : Nat) (cs : Array Value) (t : TypeId) : Prop := w.heap[g]? = some (.cells cs t (0, 0))
theorem Blk.cell {w : World} {g : Nat} {cs : Array Value} {t : TypeId} (h : Blk w g cs t) (i : Nat) (v : Value) (hv : cs[i]? = some v) : w.cell? ⟨g, i, none⟩ = some v := by
  unfold Blk at h; simp only [World.cell?, h]; simpa using hv
theorem Blk.frozen {w : World} {g : Nat} {cs : Array Value} {t : TypeId} (h : Blk w g cs t) (i : Nat) : w.frozen? ⟨g, i, none⟩ = false := by
  unfold Blk at h; simp [World.frozen?, h]
theorem Blk.set {w : World} {g : Nat} {cs : Array Value} {t : TypeId} (h : Blk w g cs t) (i : Nat) (v : Value) : Blk (w.setCell ⟨g, i, none⟩ v) g (cs.setIfInBounds i v) t := by
  unfold Blk at *
  rw [setCell_eq_setRow w g i cs t (0, 0) v h]
  exact setRow_heap w g cs _ _ _ h
theorem Blk.new (w : World) (cs : Array Value) (t : TypeId) : Blk (w.alloc (.cells cs t)) w.heap.size cs t := by
  show (w.heap.push _)[w.heap.size]? = _; simp
theorem Blk.lt {w : World} {g : Nat} {cs : Array Value} {t : TypeId} (h : Blk w g cs t) : g < w.heap.size := (Array.getElem?_eq_some_iff.1 h).1
theorem Blk.below {w w' : World} {g B : Nat} {cs : Array Value} {t : TypeId} (h : Blk w g cs t) (hb : Below B w w') (hg : g < B) : Blk w' g cs t := by
  unfold Blk at *; rw [hb.block g hg]; exact h
theorem Blk.ext {w w' : World} {g : Nat} {cs : Array Value} {t : TypeId} (h : Blk w g cs t) (hb : Below w.heap.size w w') : Blk w' g cs t := h.below hb h.lt
theorem Blk.grown {w w' : World} {g : Nat} {cs : Array Value} {t : TypeId} {row : Option Nat} (h : Blk w g cs t) (hg : w.grownBy w' row) (hne : row ≠ some g) : Blk w' g cs t := by
  have hl := h.lt
  unfold Blk at *; rw [hg.block g hl (fun e => hne e.symm)]; exact h
theorem Blk.drew {w : World} {g : Nat} {cs : Array Value} {t : TypeId} (h : Blk w g cs t) : Blk w.drew g cs t := h
theorem Blk.drewN {w : World} {g : Nat} {cs : Array Value} {t : TypeId} (h : Blk w g cs t) (n : Nat) : Blk (w.drewN n) g cs t := h

/-- cells laid over a list from a place on, one behind the other -/
def putAt : List Value → Nat → List Value → List Value
  | xs, _, [] => xs
  | xs, o, v :: r => putAt (xs.set o v) (o + 1) r
theorem putAt_length (xs : List Value) (o : Nat) (vs : List Value) : (putAt xs o vs).length = xs.length := by
  induction vs generalizing xs o with
  | nil => rfl
  | cons v r ih => rw [putAt, ih, List.length_set]
theorem putAt_get (xs : List Value) (o : Nat) (vs : List Value) (i : Nat) : (putAt xs o vs)[i]? = if o ≤ i ∧ i < o + vs.length ∧ i < xs.length then vs[i - o]? else xs[i]? := by
  induction vs generalizing xs o with
  | nil => simp [putAt]; intro h1 h2; omega
  | cons v r ih =>
    rw [putAt, ih, List.length_set]
    by_cases h : o + 1 ≤ i ∧ i < o + 1 + r.length ∧ i < xs.length
    · rw [if_pos h, if_pos (by simp; omega)]
      rw [show i - o = (i - (o + 1)) + 1 from by omega]; rfl
    · rw [if_neg h, List.getElem?_set]
      by_cases h2 : o = i
      · subst h2
        by_cases h3 : o < xs.length
        · rw [if_pos rfl, if_pos h3, if_pos (by simp; omega)]; simp
        · rw [if_pos rfl, if_neg h3, if_neg (by omega), List.getElem?_eq_none (by omega)]
      · rw [if_neg h2, if_neg (by simp; omega)]

section
variable {α : Type} {E : Enc α}
theorem Enc.all_get' (E : Enc α) (l : List α) (k : Nat) : (E.all l)[k]? = (l[k / E.sz]?).bind fun x => (E.enc x)[k % E.sz]? := by
  have hp := E.pos
  rcases Nat.lt_or_ge (k / E.sz) l.length with h | h
  · have e := E.all_get l (k / E.sz) h (k % E.sz) (Nat.mod_lt _ hp)
    rw [Nat.mul_comm, Nat.div_add_mod] at e
    rw [e, List.getElem?_eq_getElem h]; rfl
  · rw [List.getElem?_eq_none h, List.getElem?_eq_none]
    · rfl
    · rw [E.all_length]; exact (Nat.le_div_iff_mul_le hp).1 h
theorem Enc.all_put (E : Enc α) (l : List α) (i : Nat) (hi : i < l.length) (y : α) : putAt (E.all l) (i * E.sz) (E.enc y) = E.all (l.set i y) := by
  have hp := E.pos
  apply List.ext_getElem?
  intro k
  rw [putAt_get, E.len, E.all_get', E.all_get', List.getElem?_set, E.all_length]
  have hdm := Nat.div_add_mod k E.sz
  have hml := Nat.mod_lt k hp
  by_cases h : i = k / E.sz
  · subst h
    rw [Nat.mul_comm] at hdm
    have hlt : k < l.length * E.sz := by
      have : (k / E.sz + 1) * E.sz ≤ l.length * E.sz := Nat.mul_le_mul_right _ hi
      rw [Nat.succ_mul] at this; omega
    rw [if_pos rfl, if_pos hi, if_pos (by omega), show k - k / E.sz * E.sz = k % E.sz from by omega]; rfl
  · rw [if_neg h, if_neg]
    rintro ⟨a, b, _⟩
    apply h
    have h1 : i ≤ k / E.sz := (Nat.le_div_iff_mul_le hp).2 a
    have h2 : k / E.sz < i + 1 := by rw [Nat.div_lt_iff_lt_mul hp, Nat.succ_mul]; exact b
    omega

theorem Own.storedAll {w : World} {B : Nat} {e : TypeId} {sz g n cap : Nat} {xs : List Value} (h : Own w B e sz (.slice (some ⟨g, 0, none⟩) n cap) n xs) (o : Nat) (vs : List Value) (hv : ∀ v ∈ vs, v.oneCell' = true) :
    Own (w.setCells g o vs) B e sz (.slice (some ⟨g, 0, none⟩) n cap) n (putAt xs o vs) ∧ w.grownBy (w.setCells g o vs) (some g) := by
  induction vs generalizing w xs o with
  | nil => exact ⟨h, World.grownBy.refl _ _⟩
  | cons v r ih =>
    obtain ⟨h1, h2⟩ := Own.stored h o v (hv v (by simp))
    obtain ⟨h3, h4⟩ := ih h1 (o + 1) (fun x hx => hv x (by simp [hx]))
    exact ⟨h3, grown_tr h2 h4⟩
theorem OwnR.put {w : World} {B : Nat} {e : TypeId} {g n cap : Nat} {l : List α} (h : OwnR E w B e (.slice (some ⟨g, 0, none⟩) n cap) l) (hn : n = l.length) (i : Nat) (hi : i < l.length) (y : α) :
    OwnR E (w.setCells g (i * E.sz) (E.enc y)) B e (.slice (some ⟨g, 0, none⟩) n cap) (l.set i y) ∧ w.grownBy (w.setCells g (i * E.sz) (E.enc y)) (some g) := by
  subst hn
  obtain ⟨h1, h2⟩ := Own.storedAll h (i * E.sz) (E.enc y) (E.one y)
  rw [E.all_put l i hi y] at h1
  refine ⟨?_, h2⟩
  unfold OwnR; rw [List.length_set]; exact h1

theorem made_all (E : Enc α) (z0 : α) (z : Array Value) (hz : E.enc z0 = z.toList) (n : Nat) : (madeCells z (n * E.sz)).toList = E.all (List.replicate n z0) := by
  have hp := E.pos
  have hl : z.size = E.sz := by have := E.len z0; rw [hz] at this; simpa using this
  apply List.ext_getElem?
  intro k
  rw [E.all_get']
  by_cases h : k < n * E.sz
  · have h1 : k / E.sz < n := by rw [Nat.div_lt_iff_lt_mul hp]; exact h
    have h2 : k % E.sz < z.size := by rw [hl]; exact Nat.mod_lt _ hp
    rw [List.getElem?_replicate, if_pos h1]
    simp only [Option.bind_some, hz, madeCells, hl]
    simp only [Array.toList_map, Array.toList_range, List.getElem?_map, List.getElem?_range h, Option.map_some]
    rw [Array.getElem?_toList, getElem!_pos z (k % E.sz) h2, Array.getElem?_eq_getElem h2]
  · have h1 : ¬ k / E.sz < n := by rw [Nat.div_lt_iff_lt_mul hp]; exact h
    rw [List.getElem?_replicate, if_neg h1, List.getElem?_eq_none]
    · rfl
    · simp [madeCells]; omega

section
variable {P : Program} {t e : TypeId} {bytes : Nat} {w : World} {ops : Array Oper} {rest : List Oper} {o : Oper} {a : Act} {Q : Exit → Act → World → Prop}
/-- make([]T, n) -/
theorem wpList_mkR (T : SlT P t e E.sz bytes) (hgd : o.guard = none) {l c : Operand} (ho : o.op = Op.makeSlice t l c) (B : Nat) {kl kc : IntKind} {L C : Int} (n : Nat) (z0 : α) (z : Value)
    (hz : (P.info? e).map (·.zero) = some (some z)) (hz1 : E.enc z0 = z.cells.toList)
    (hl : a.eval l = .int kl L) (hc : a.eval c = .int kc C) (hL : L = (n : Int)) (hC : C = (n : Int)) (hbytes : n * bytes ≤ 281474976710656) (hn : n ≤ maxLen) (hB : B ≤ w.heap.size)
    (h : ∀ g w', OwnR E w' B e (.slice (some ⟨g, 0, none⟩) n n) (List.replicate n z0) → w.heap.size ≤ g → w.grownBy w' none → Below w.heap.size w w' → wpList P ops Q rest (a.put o.dst (.slice (some ⟨g, 0, none⟩) n n)) w') : wpList P ops Q (o :: rest) a w := by
  obtain ⟨i, z', hi, hz', hs, hby, hzs⟩ := T.info
  have : z' = z := by rw [hi] at hz; simp at hz; rw [hz'] at hz; simpa using hz
  subst this
  refine wpList_make_full w hgd l c t ho B e i z' E.sz T.under hi hz' hs kl kc L C n hl hc hL hC (by rw [hby, Nat.mul_comm]; exact hbytes) hn hB fun w' h1 h2 => ?_
  rw [made_all E z0 z'.cells hz1] at h1
  exact h _ w' (OwnR.of ⟨h1, E.all_oneCell _⟩ (by simp) rfl) (Nat.le_refl _) h2 (below_grown h2 (Nat.le_refl _) fun k hk => by cases hk)

theorem run_copyK0 (T : SlT P t e E.sz bytes) (w : World) (t' ty : TypeId) (d : Option Addr) (dLen dCap : Nat) (p : Option Addr) (sLen sCap : Nat) (hn : Nat.min sLen dLen = 0) :
    (Builtin.copy_ #[t, t'] ty #[.slice d dLen dCap, .slice p sLen sCap]).run P w = .ok (goInt 0) w := by
  obtain ⟨i, z, hi, hz, hs, hby, hzs⟩ := T.info
  cases d <;> cases p <;> simp [Builtin.copy_, run_underlying T.under, Builtin.lenOf, Builtin.firstCells, sizeOf, typeInfo, hi, hn, loadCells, loadCellsFrom, storeCells]

/-- copy(d, s), d whole and of the call's own -/
theorem run_cpR (T : SlT P t e E.sz bytes) (ty : TypeId) {B g n : Nat} {zs : List α} (own : OwnR E w B e (.slice (some ⟨g, 0, none⟩) n n) zs) (hzn : zs.length = n)
    {x : Value} {l : List α} (src : Rd E w x l) (hm : l.length ≤ n) :
    ∃ w', (Builtin.copy_ #[t, t] ty #[.slice (some ⟨g, 0, none⟩) n n, x]).run P w = .ok (.int .i64 (l.length : Int)) w' ∧ OwnR E w' B e (.slice (some ⟨g, 0, none⟩) n n) (l ++ zs.drop l.length) ∧ w.grownBy w' (some g) ∧ Below B w w' := by
  subst hzn
  obtain ⟨p, cap, rfl, h1, h2, h3, h4⟩ := Cells.form src
  rcases Nat.eq_zero_or_pos l.length with h0 | h0
  · have hl : l = [] := List.length_eq_zero_iff.1 h0
    subst hl
    refine ⟨w, run_copyK0 T w t ty _ _ _ _ _ _ (by simp), by simpa using own, World.grownBy.refl _ _, Below.refl _ _⟩
  · obtain ⟨b, off, rfl, hc⟩ := h4 h0
    obtain ⟨⟨o1, o2⟩, o3⟩ := own
    rcases o2 with ⟨h', _⟩ | ⟨g', cap', cur, h', hb, hg, _, hcm, hcs, htake⟩
    · simp at h'
    · simp only [Value.slice.injEq, Option.some.injEq, Addr.mk.injEq, and_true, true_and] at h'
      obtain ⟨rfl, rfl⟩ := h'
      have hcur : cur.toList = E.all zs := by rw [← htake, List.take_of_length_le (by simp; omega)]
      have hmin : (E.all l).length = Nat.min l.length zs.length * E.sz := by rw [E.all_length]; congr 1; exact (Nat.min_eq_left hm).symm
      have hle : (E.all l).length ≤ cur.size := by rw [hcs, E.all_length]; exact Nat.mul_le_mul_right _ hm
      have hrun := run_copyK (P := P) T w t ty g 0 zs.length zs.length ⟨b, off, none⟩ l.length cap cur e (E.all l) hg hmin (fun j u hu => by rw [addr_add _ rfl]; exact hc j u hu) (by omega) (E.all_oneCell _)
      have hgrow : w.grownBy (w.setRow g (splice cur.toList 0 (E.all l)).toArray) (some g) := ⟨rfl, rfl, rfl, by simp [World.setRow], fun k _ hk => setRow_other w g k _ (fun e => hk (by rw [e]))⟩
      have hsp : splice cur.toList 0 (E.all l) = E.all (l ++ zs.drop l.length) := by
        unfold splice
        rw [List.take_zero, List.nil_append, Nat.zero_add, hcur, E.all_length, E.all_drop, ← E.all_append]
      rw [show Nat.min l.length zs.length = l.length from Nat.min_eq_left hm] at hrun
      refine ⟨_, hrun, ?_, hgrow, below_grown hgrow (by have := (Array.getElem?_eq_some_iff.1 hg).1; omega) fun k hk => by cases hk; exact hb⟩
      have hlen : (l ++ zs.drop l.length).length = zs.length := by simp; omega
      have hg2 := setRow_heap w g cur (splice cur.toList 0 (E.all l)).toArray _ _ hg
      refine OwnR.of ⟨⟨by rw [E.all_length, hlen], .inr ⟨g, zs.length, (splice cur.toList 0 (E.all l)).toArray, rfl, hb, hg2, Nat.le_refl _, hcm, by rw [List.size_toArray, hsp, E.all_length, hlen], ?_⟩⟩, E.all_oneCell _⟩ hlen.symm rfl
      rw [show (splice cur.toList 0 (E.all l)).toArray.toList = splice cur.toList 0 (E.all l) from rfl, hsp, List.take_of_length_le (by rw [E.all_length, hlen]; omega)]
theorem wpList_cpR (T : SlT P t e E.sz bytes) (hgd : o.guard = none) {d s : Operand} (ho : o.op = .call { callee := .builtin .copy, args := #[d, s], argTypes := #[t, t] })
    {B g n : Nat} {zs : List α} (own : OwnR E w B e (.slice (some ⟨g, 0, none⟩) n n) zs) (hzn : zs.length = n) (hd : a.eval d = .slice (some ⟨g, 0, none⟩) n n)
    {x : Value} {l : List α} (src : Rd E w x l) (hx : a.eval s = x) (hm : l.length ≤ n)
    (h : ∀ w', OwnR E w' B e (.slice (some ⟨g, 0, none⟩) n n) (l ++ zs.drop l.length) → w.grownBy w' (some g) → Below B w w' → wpList P ops Q rest (a.put o.dst (.int .i64 (l.length : Int))) w') : wpList P ops Q (o :: rest) a w := by
  obtain ⟨w', hrun, h1, h2, h3⟩ := run_cpR T o.type own hzn src hm
  refine wpList_plain hgd fun K hK => ?_
  unfold Oper.wp execOp
  simp only [ho, resolve, invoke, builtin, Sem.run_bind, Sem.run_pure, Result.andThen_ok, List.map_toArray, List.map_cons, List.map_nil, hd, hx, hrun]
  exact hK _ _ (h w' h1 h2 h3)
/-- append, said of lists -/
theorem wpList_appR (T : SlT P t e E.sz bytes) (hgd : o.guard = none) {s y : Operand} (ho : o.op = .call { callee := .builtin .append, args := #[s, y], argTypes := #[t, t] })
    {B : Nat} {v : Value} {l : List α} (own : OwnR E w B e v l) (hs : a.eval s = v)
    {x : Value} {m : List α} (src : Rd E w x m) (hx : a.eval y = x) (hbytes : (l.length + m.length) * bytes ≤ 140737488355328) (hB : B ≤ w.heap.size)
    (h : ∀ v' w', OwnR E w' B e v' (l ++ m) → w.grownBy w' v.ownBlock → Below B w w' → wpList P ops Q rest (a.put o.dst v') w') : wpList P ops Q (o :: rest) a w :=
  wpList_app T hgd ho own hs src hx hbytes hB fun v' w' h1 h2 h3 => h v' w' (OwnR.snoc h1) h2 h3
/-- .. and as a step of a region that draws its order -/
theorem step_appR {K : Act → World → Prop} {Q : Exit → Act → World → Prop} {X : Prop} (T : SlT P t e E.sz bytes) (hgd : o.guard = none) {s y : Operand} (ho : o.op = .call { callee := .builtin .append, args := #[s, y], argTypes := #[t, t] })
    {B : Nat} {v : Value} {l : List α} (own : OwnR E w B e v l) (hs : a.eval s = v)
    {x : Value} {m : List α} (src : Rd E w x m) (hx : a.eval y = x) (hbytes : (l.length + m.length) * bytes ≤ 140737488355328) (hB : B ≤ w.heap.size)
    (h : ∀ v' w', OwnR E w' B e v' (l ++ m) → w.grownBy w' v.ownBlock → Below B w w' → K (a.put o.dst v') w') : if Region.wanted o (yielded ops a.tmps) = true then Oper.wp P o a w K Q else X := by
  have hw : Region.wanted o (yielded ops a.tmps) = true := by simp [Region.wanted, hgd]
  rw [if_pos hw]
  obtain ⟨v', w', hr, h2, h3, h4⟩ := run_app T o.type own src hbytes hB
  unfold Oper.wp execOp
  simp only [ho, resolve, invoke, builtin, Sem.run_bind, Sem.run_pure, Result.andThen_ok, List.map_toArray, List.map_cons, List.map_nil, hs, hx, hr]
  exact h v' w' (OwnR.snoc h2) h3 h4
end
/-- a literal's row of one element and more -/
theorem OwnR.lit (E : Enc α) (w : World) (cs : Array Value) (e : TypeId) (l : List α) (B : Nat) (hs : cs.toList = E.all l) (hm : l.length ≤ maxLen) (hB : B ≤ w.heap.size) :
    OwnR E (w.alloc (.cells cs e)) B e (.slice (some ⟨w.heap.size, 0, none⟩) l.length l.length) l := by
  have h := Own.lit w cs e (sz := E.sz) l.length B (by rw [← Array.length_toList, hs, E.all_length]) (by rw [hs]; exact E.all_oneCell _) hm hB
  rw [hs] at h; exact h
theorem OwnR.litAt (E : Enc α) (w : World) (cs : Array Value) (e : TypeId) (l : List α) (n B H : Nat) (hH : w.heap.size = H) (hn : l.length = n) (hs : cs.toList = E.all l) (hm : n ≤ maxLen) (hB : B ≤ w.heap.size) :
    OwnR E (w.alloc (.cells cs e)) B e (.slice (some ⟨H, 0, none⟩) n n) l := by
  subst hH; subst hn; exact OwnR.lit E w cs e l B hs hm hB
end
end Go.Proofs.YtgpgcnmnfnnkjaaDoor
end

section
namespace Go.Proofs.YtgpgcnmnfnnkjaaDoor
open Go Go.RowKit
/-- w' is w but for the blocks of F, and new ones -/
structure Chg (F : Nat → Prop) (w w' : World) : Prop where
  os : w'.os = w.os
  tape : w'.tape = w.tape
  output : w'.output = w.output
  size : w.heap.size ≤ w'.heap.size
  block : ∀ k, k < w.heap.size → ¬ F k → w'.heap[k]? = w.heap[k]?
section
variable {F G : Nat → Prop} {w w' w'' : World}
theorem Chg.refl (F : Nat → Prop) (w : World) : Chg F w w := ⟨rfl, rfl, rfl, Nat.le_refl _, fun _ _ _ => rfl⟩
theorem Chg.trans (h : Chg F w w') (h2 : Chg G w' w'') (hg : ∀ k, k < w.heap.size → G k → F k) : Chg F w w'' :=
  ⟨h2.os.trans h.os, h2.tape.trans h.tape, h2.output.trans h.output, Nat.le_trans h.size h2.size,
    fun k hk hn => (h2.block k (Nat.lt_of_lt_of_le hk h.size) (fun hG => hn (hg k hk hG))).trans (h.block k hk hn)⟩
theorem Chg.step (h : Chg F w w') (h2 : Chg F w' w'') : Chg F w w'' := h.trans h2 fun _ _ h => h
theorem Chg.mono (h : Chg F w w') (hg : ∀ k, k < w.heap.size → F k → G k) : Chg G w w' := ⟨h.os, h.tape, h.output, h.size, fun k hk hn => h.block k hk (fun hF => hn (hg k hk hF))⟩
theorem Chg.of_below (h : Below w.heap.size w w') : Chg F w w' := ⟨h.os, h.tape, h.output, h.size, fun k hk _ => h.block k hk⟩
theorem Chg.of_grown {row : Option Nat} (h : w.grownBy w' row) (hr : ∀ k, row = some k → F k) : Chg F w w' := ⟨h.os, h.tape, h.output, h.size, fun k hk hn => h.block k hk (fun e => hn (hr k e.symm))⟩
theorem Chg.alloc (h : Chg F w w') (o : Obj) : Chg F w (w'.alloc o) := h.step (.of_below (below_alloc w' o))
theorem Chg.drew (h : Chg F w w') : Chg F w w'.drew := ⟨h.os, h.tape, h.output, h.size, h.block⟩
theorem Chg.drewN (h : Chg F w w') (n : Nat) : Chg F w (w'.drewN n) := ⟨h.os, h.tape, h.output, h.size, h.block⟩
theorem Chg.setCell (h : Chg F w w') {p : Addr} (hp : F p.block) (u : Value) : Chg F w (w'.setCell p u) :=
  h.trans (G := F) ⟨rfl, rfl, rfl, by simp [World.setCell], fun k _ hn => Below.heap_setCell _ _ _ _ (fun e => hn (e ▸ hp))⟩ fun _ _ h => h
theorem Chg.below {B : Nat} (h : Chg F w w') (hB : ∀ k, F k → B ≤ k) (hw : B ≤ w.heap.size) : Below B w w' :=
  ⟨h.os, h.tape, h.output, h.size, fun k hk => h.block k (by omega) (fun hF => by have := hB k hF; omega)⟩
theorem Chg.toBelow (h : Chg (fun _ => False) w w') : Below w.heap.size w w' := ⟨h.os, h.tape, h.output, h.size, fun k hk => h.block k hk id⟩
theorem Chg.blk (h : Chg F w w') {g : Nat} {cs : Array Value} {t : TypeId} (hb : Blk w g cs t) (hg : ¬ F g) : Blk w' g cs t := by
  have hl := hb.lt
  unfold Blk at *
  rw [h.block g hl hg]; exact hb
theorem Chg.own (h : Chg F w w') {B : Nat} {e : TypeId} {sz n : Nat} {v : Value} {xs : List Value} (ho : Own w B e sz v n xs) (hv : ∀ k, v.ownBlock = some k → ¬ F k) : Own w' B e sz v n xs := by
  refine ⟨⟨ho.1.1, ?_⟩, ho.2⟩
  rcases ho.1.2 with hn | ⟨g, cap, cur, rfl, hb, hgg, rest⟩
  · exact .inl hn
  · refine .inr ⟨g, cap, cur, rfl, hb, ?_, rest⟩
    rw [h.block g (Array.getElem?_eq_some_iff.1 hgg).1 (hv g rfl)]
    exact hgg
theorem Chg.ownR {α : Type} {E : Enc α} (h : Chg F w w') {B : Nat} {e : TypeId} {v : Value} {l : List α} (ho : OwnR E w B e v l) (hv : ∀ k, v.ownBlock = some k → ¬ F k) : OwnR E w' B e v l := h.own ho hv
theorem Chg.ownB (h : Chg F w w') {B : Nat} {e : TypeId} {v : Value} {l : List UInt8} (ho : OwnB w B e v l) (hv : ∀ k, v.ownBlock = some k → ¬ F k) : OwnB w' B e v l := h.own ho hv
theorem Chg.cells (h : Chg F w w') {sz n : Nat} {v : Value} {cs : List Value} (hc : Cells w sz v n cs) (hv : ∀ k, v.ownBlock = some k → ¬ F k) : Cells w' sz v n cs := by
  obtain ⟨h1, h0, p, cap, rfl, h2, h3, h4, h5⟩ := hc
  refine ⟨h1, h0, p, cap, rfl, h2, h3, h4, fun a ha hn => ⟨(h5 a ha hn).1, fun i u hu => ?_⟩⟩
  subst ha
  have hq := (h5 a rfl hn).2 i u hu
  have hlt := World.block_lt_of_cell? w _ hq
  have hb := World.cell?_of_block (a := ⟨a.block, a.off + i, none⟩) (h.block a.block hlt (hv a.block rfl))
  exact hb.trans hq
theorem Cells.empty {sz : Nat} {v : Value} {n : Nat} (h : Cells w sz v n []) (hsz : 0 < sz) : Cells w' sz v n [] := by
  obtain ⟨h1, h0, p, cap, rfl, h2, h3, h4, h5⟩ := h
  have hn : n = 0 := by
    rcases Nat.eq_zero_or_pos n with h | h
    · exact h
    · have := Nat.mul_pos h hsz; simp at h1; omega
  subst hn
  exact ⟨by simp, by simp, p, cap, rfl, h2, h3, h4, fun a _ h => by omega⟩
theorem Chg.cellsE (h : Chg F w w') {sz n : Nat} {v : Value} {cs : List Value} (hsz : 0 < sz) (hc : Cells w sz v n cs) (hv : cs ≠ [] → ∀ k, v.ownBlock = some k → ¬ F k) : Cells w' sz v n cs := by
  by_cases he : cs = []
  · subst he; exact hc.empty hsz
  · exact h.cells hc (hv he)
end
end Go.Proofs.YtgpgcnmnfnnkjaaDoor
end

section
namespace Go.Proofs.YtgpgcnmnfnnkjaaDoor
open Go Go.RowKit
def ltS (a b : ByteArray) : Bool := Op.bytesLess a.toList b.toList
def eqS (a b : ByteArray) : Bool := a.toList == b.toList
theorem sl_irrefl (x : List UInt8) : Op.bytesLess x x = false := by
  induction x with
  | nil => rfl
  | cons a x ih => simp [Op.bytesLess, ih]
theorem sl_trans : ∀ {x y z : List UInt8}, Op.bytesLess x y = true → Op.bytesLess y z = true → Op.bytesLess x z = true
  | _, [], _, h, _ => by simp [Op.bytesLess] at h
  | _, _ :: _, [], _, h => by simp [Op.bytesLess] at h
  | [], _ :: _, _ :: _, _, _ => rfl
  | a :: x, b :: y, c :: z, h1, h2 => by
    simp only [Op.bytesLess, Bool.or_eq_true, Bool.and_eq_true, decide_eq_true_eq, beq_iff_eq] at h1 h2 ⊢
    rcases h1 with h1 | ⟨rfl, h1⟩
    · rcases h2 with h2 | ⟨rfl, h2⟩
      · exact .inl (UInt8.lt_trans h1 h2)
      · exact .inl h1
    · rcases h2 with h2 | ⟨rfl, h2⟩
      · exact .inl h2
      · exact .inr ⟨rfl, sl_trans h1 h2⟩
theorem sl_total : ∀ {x y : List UInt8}, Op.bytesLess x y = false → Op.bytesLess y x = false → x = y
  | [], [], _, _ => rfl
  | [], _ :: _, h, _ => by simp [Op.bytesLess] at h
  | _ :: _, [], _, h => by simp [Op.bytesLess] at h
  | a :: x, b :: y, h1, h2 => by
    simp only [Op.bytesLess, Bool.or_eq_false_iff, Bool.and_eq_false_iff, decide_eq_false_iff_not, beq_eq_false_iff_ne] at h1 h2
    have hab : a = b := UInt8.le_antisymm (UInt8.not_lt.1 h2.1) (UInt8.not_lt.1 h1.1)
    subst hab
    have e1 : Op.bytesLess x y = false := by rcases h1.2 with h | h; exact absurd rfl h; exact h
    have e2 : Op.bytesLess y x = false := by rcases h2.2 with h | h; exact absurd rfl h; exact h
    rw [sl_total e1 e2]
theorem eqS_iff (a b : ByteArray) : eqS a b = true ↔ a = b := by
  unfold eqS
  constructor
  · intro h
    have h1 : a.toList = b.toList := by simpa using h
    rw [ByteArray.toList_eq, ByteArray.toList_eq] at h1
    exact ByteArray.ext (Array.ext' h1)
  · rintro rfl; simp
theorem eqS_refl (a : ByteArray) : eqS a a = true := (eqS_iff _ _).2 rfl
theorem ltS_irrefl (a : ByteArray) : ltS a a = false := sl_irrefl _
theorem ltS_trans {a b c : ByteArray} (h1 : ltS a b = true) (h2 : ltS b c = true) : ltS a c = true := sl_trans h1 h2
theorem ltS_total {a b : ByteArray} (h1 : ltS a b = false) (h2 : ltS b a = false) : a = b := by
  have h := sl_total h1 h2
  rw [ByteArray.toList_eq, ByteArray.toList_eq] at h
  exact ByteArray.ext (Array.ext' h)
theorem ltS_ne {a b : ByteArray} (h : ltS a b = true) : a ≠ b := by rintro rfl; rw [ltS_irrefl] at h; cases h
theorem ltS_asym {a b : ByteArray} (h : ltS a b = true) : ltS b a = false := by
  rw [Bool.eq_false_iff]; intro h2
  have := ltS_trans h h2; rw [ltS_irrefl] at this; cases this
end Go.Proofs.YtgpgcnmnfnnkjaaDoor
end
