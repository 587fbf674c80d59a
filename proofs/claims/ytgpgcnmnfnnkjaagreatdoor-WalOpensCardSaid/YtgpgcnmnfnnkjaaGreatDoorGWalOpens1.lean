/- Base of the walks: what a slice reads as ('Cells'), rows of the call's own ('Own'), append, make, slices of slices. No conditions beyond each lemma's own. What a law's arguments read as, and what the form's reach and the bulk say of their lengths. -/
import Derived.WalkKit
import Derived.LoopTactic
import Derived.Outline
import Derived.Lib.Hide
import Derived.Laws.AppendOwn
import Derived.Laws.OwnMore
import Derived.OwnWalk
import Derived.Below
import Derived.Deep.Draws
import Derived.Laws.CopyOwn
import Derived.Laws.BytesArg
import Derived.KernelRfl
import Derived.Test.YtgpgcnmnfnnkjaaGreatDoorRows
import Derived.ProofKit
import Derived.OpenShut
import Derived.ShutString
import Derived.ChangeOld
import Derived.SizedLaws
import Derived.JoinedCond
import Derived.Deep.CondSized
import Derived.ChangeMaps5
set_option linter.unusedVariables false
set_option linter.unusedSimpArgs false
section
namespace Go.Proofs.YtgpgcnmnfnnkjaaGreatDoor
open Go Go.RowKit

theorem ret_int {k : IntKind} {a b : Int} (h : a = b) : Ending.returned (.int k a) = .returned (.int k b) := by rw [h]
theorem ret_bool {a b : Bool} (h : a = b) : Ending.returned (.bool a) = .returned (.bool b) := by rw [h]

def Cells (w : World) (sz : Nat) (v : Value) (n : Nat) (cs : List Value) : Prop :=
 cs.length = n * sz ∧ (∀ u ∈ cs, u.oneCell' = true) ∧ ∃ p cap, v = .slice p n cap ∧ n ≤ cap ∧ cap ≤ maxLen ∧ (p = none → cap = 0) ∧
  ∀ a, p = some a → 0 < n → a.spot = none ∧ ∀ i u, cs[i]? = some u → w.cell? ⟨a.block, a.off + i, none⟩ = some u

def Own (w : World) (B : Nat) (e : TypeId) (sz : Nat) (v : Value) (n : Nat) (xs : List Value) : Prop :=
 w.ownsRow B e sz v n xs ∧ ∀ u ∈ xs, u.oneCell' = true

structure SlT (P : Program) (t e : TypeId) (sz bytes : Nat) : Prop where
 under : P.underlying t = some (.slice e)
 info : ∃ i z, P.info? e = some i ∧ i.zero = some z ∧ i.size = sz ∧ i.bytes = bytes ∧ z.cells.size = sz
 pos : 0 < sz
 posb : 0 < bytes

theorem SlT.mk' {P : Program} {t e : TypeId} {sz bytes : Nat} {z : Value} (h1 : P.underlying t = some (.slice e))
 (h2 : (P.info? e).map (fun i => (i.zero, i.size, i.bytes)) = some (some z, sz, bytes)) (h3 : z.cells.size = sz) (h4 : 0 < sz) (h5 : 0 < bytes) : SlT P t e sz bytes := by
 obtain ⟨i, a, b, c, d⟩ := info_parts h2
 exact ⟨h1, ⟨i, z, a, b, c, d, h3⟩, h4, h5⟩

theorem addr_eta {a : Addr} (h : a.spot = none) : a = ⟨a.block, a.off, none⟩ := by cases a; simp at h; simp [h]
theorem addr_add (a : Addr) (h : a.spot = none) (j : Nat) : a.add j = ⟨a.block, a.off + j, none⟩ := by
 cases a; simp at h; subst h; unfold Addr.add; split <;> simp_all

section
variable {w w' : World} {B sz n : Nat} {v : Value} {cs : List Value} {e : TypeId}

theorem Cells.nil (w : World) (sz : Nat) : Cells w sz (.slice none 0 0) 0 [] :=
 ⟨by simp, by simp, none, 0, rfl, Nat.le_refl _, Nat.zero_le _, fun _ => rfl, fun _ h _ => by cases h⟩

theorem Cells.len (h : Cells w sz v n cs) : cs.length = n * sz := h.1
theorem Cells.le (h : Cells w sz v n cs) : n ≤ maxLen := by obtain ⟨_, _, p, cap, _, h1, h2, _⟩ := h; omega

theorem Cells.form (h : Cells w sz v n cs) : ∃ p cap, v = .slice p n cap ∧ n ≤ cap ∧ cap ≤ maxLen ∧ (p = none → cap = 0) ∧
 (0 < n → ∃ b off, p = some ⟨b, off, none⟩ ∧ ∀ i u, cs[i]? = some u → w.cell? ⟨b, off + i, none⟩ = some u) := by
 obtain ⟨h1, _, p, cap, rfl, h2, h3, h4, h5⟩ := h
 refine ⟨p, cap, rfl, h2, h3, h4, fun hc => ?_⟩
 cases p with
 | none => have := h4 rfl; omega
 | some a =>
  obtain ⟨h6, h7⟩ := h5 a rfl hc
  exact ⟨a.block, a.off, by rw [← addr_eta h6], h7⟩

theorem Cells.pos (h : Cells w sz v n cs) {i : Nat} {u : Value} (hu : cs[i]? = some u) : 0 < n := by
 have h1 := h.1
 have := (List.getElem?_eq_some_iff.1 hu).1
 rcases Nat.eq_zero_or_pos n with h0 | h0
 · subst h0; omega
 · exact h0
theorem Cells.lt (h : Cells w sz v n cs) (hp : 0 < cs.length) : ∀ k, v.ownBlock = some k → k < w.heap.size := by
 have hn := h.pos (List.getElem?_eq_getElem hp)
 obtain ⟨h1, _, p, cap, rfl, h2, h3, h4, h5⟩ := h
 intro k hk
 cases p with
 | none => simp [Value.ownBlock] at hk
 | some a =>
  simp [Value.ownBlock] at hk; subst hk
  exact World.block_lt_of_cell? w ⟨a.block, a.off + 0, none⟩ ((h5 a rfl hn).2 0 cs[0] (List.getElem?_eq_getElem hp))

theorem Cells.below (h : Cells w sz v n cs) (hb : Below B w w') (hB : ∀ k, v.ownBlock = some k → k < B) : Cells w' sz v n cs := by
 obtain ⟨h1, h0, p, cap, rfl, h2, h3, h4, h5⟩ := h
 refine ⟨h1, h0, p, cap, rfl, h2, h3, h4, fun a ha hn => ⟨(h5 a ha hn).1, fun i u hu => ?_⟩⟩
 subst ha
 have := hb.cell (p := ⟨a.block, a.off + i, none⟩) (hB a.block rfl)
 rw [this]; exact (h5 a rfl hn).2 i u hu

theorem Cells.ext (h : Cells w sz v n cs) (hb : Below w.heap.size w w') : Cells w' sz v n cs := by
 rcases Nat.eq_zero_or_pos cs.length with hz | hp
 · obtain ⟨h1, h0, p, cap, rfl, h2, h3, h4, h5⟩ := h
   have : cs = [] := List.length_eq_zero_iff.1 hz
   subst this
   exact ⟨h1, h0, p, cap, rfl, h2, h3, h4, fun a ha hn => ⟨(h5 a ha hn).1, fun i u hu => by simp at hu⟩⟩
 · exact h.below hb (h.lt hp)

theorem Cells.grown {row : Option Nat} (h : Cells w sz v n cs) (hg : w.grownBy w' row) (hne : v.ownBlock = none ∨ v.ownBlock ≠ row) : Cells w' sz v n cs := by
 obtain ⟨h1, h0, p, cap, rfl, h2, h3, h4, h5⟩ := h
 refine ⟨h1, h0, p, cap, rfl, h2, h3, h4, fun a ha hn => ⟨(h5 a ha hn).1, fun i u hu => ?_⟩⟩
 subst ha
 exact hg.cell (a := ⟨a.block, a.off + i, none⟩) ((h5 a rfl hn).2 i u hu) (by simpa [Value.ownBlock] using hne)

theorem Cells.drewN (h : Cells w sz v n cs) (k : Nat) : Cells (w.drewN k) sz v n cs := h
theorem Own.drewN {xs : List Value} (h : Own w B e sz v n xs) (k : Nat) : Own (w.drewN k) B e sz v n xs := h
theorem below_drawn (B : Nat) (w : World) (k : Nat) : Below B w (w.drewN k) := ⟨rfl, rfl, rfl, Nat.le_refl _, fun _ _ => rfl⟩
theorem Cells.drew (h : Cells w sz v n cs) : Cells w.drew sz v n cs := h
theorem Own.drew {xs : List Value} (h : Own w B e sz v n xs) : Own w.drew B e sz v n xs := h

theorem Own.nil (w : World) (B : Nat) (e : TypeId) (sz : Nat) : Own w B e sz (.slice none 0 0) 0 [] := ⟨World.ownsRow_nil w B e sz, by simp⟩

theorem Own.cells {xs : List Value} (h : Own w B e sz v n xs) : Cells w sz v n xs := by
 obtain ⟨⟨h1, h2⟩, h0⟩ := h
 refine ⟨h1, h0, ?_⟩
 rcases h2 with ⟨rfl, rfl⟩ | ⟨g, cap, cur, rfl, hb, hg, hn, hm, hs, ht⟩
 · exact ⟨none, 0, rfl, Nat.le_refl _, Nat.zero_le _, fun _ => rfl, fun _ h _ => by cases h⟩
 · refine ⟨_, cap, rfl, hn, hm, fun h => (by cases h), fun a ha _ => ?_⟩
   cases ha
   refine ⟨rfl, fun i u hu => ?_⟩
   subst ht
   have hi : i < n * sz := by
    have := (List.getElem?_eq_some_iff.1 hu).1
    rw [List.length_take] at this; omega
   rw [List.getElem?_take, if_pos hi] at hu
   simp only [World.cell?, hg, Nat.zero_add]
   simpa using hu

theorem Own.len {xs : List Value} (h : Own w B e sz v n xs) : xs.length = n * sz := h.1.1
theorem Own.lt {xs : List Value} (h : Own w B e sz v n xs) : ∀ k, v.ownBlock = some k → B ≤ k ∧ k < w.heap.size := h.1.lt
theorem Own.grown {xs : List Value} {row : Option Nat} (h : Own w B e sz v n xs) (hg : w.grownBy w' row) (hne : v.ownBlock = none ∨ v.ownBlock ≠ row) : Own w' B e sz v n xs := ⟨h.1.kept hg hne, h.2⟩

theorem grown_of_below (hb : Below w.heap.size w w') : w.grownBy w' none := ⟨hb.os, hb.tape, hb.output, hb.size, fun k hk _ => hb.block k hk⟩

theorem Own.ext {xs : List Value} (h : Own w B e sz v n xs) (hb : Below w.heap.size w w') : Own w' B e sz v n xs :=
 h.grown (grown_of_below hb) (by cases hq : v.ownBlock <;> simp)

theorem Own.base {xs : List Value} {B' : Nat} (h : Own w B e sz v n xs) (hB : B' ≤ B) : Own w B' e sz v n xs := by
 obtain ⟨⟨h1, h2⟩, h0⟩ := h
 refine ⟨⟨h1, ?_⟩, h0⟩
 rcases h2 with h2 | ⟨g, cap, cur, hv, hb, r⟩
 · exact .inl h2
 · exact .inr ⟨g, cap, cur, hv, Nat.le_trans hB hb, r⟩

theorem below_grown {row : Option Nat} (hg : w.grownBy w' row) (hB : B ≤ w.heap.size) (hr : ∀ k, row = some k → B ≤ k) : Below B w w' := (Below.refl B w).grown hg hB hr

end

theorem SlT.max {P : Program} {t e : TypeId} {sz bytes : Nat} (T : SlT P t e sz bytes) {k : Nat} (h : k * bytes ≤ 140737488355328) : k ≤ maxLen := by
 have h5 := T.posb
 have : k * 1 ≤ k * bytes := Nat.mul_le_mul_left k h5
 unfold maxLen; omega

theorem run_app {P : Program} {t e : TypeId} {sz bytes : Nat} (T : SlT P t e sz bytes) {w : World} (ty : TypeId) {B n : Nat} {v : Value} {xs : List Value} (own : Own w B e sz v n xs)
 {m : Nat} {x : Value} {news : List Value} (src : Cells w sz x m news) (hbytes : (n + m) * bytes ≤ 140737488355328) (hB : B ≤ w.heap.size) :
 ∃ v' w', (Builtin.append_ #[t, t] ty #[v, x]).run P w = .ok v' w' ∧ Own w' B e sz v' (n + m) (xs ++ news) ∧ w.grownBy w' v.ownBlock ∧ Below B w w' := by
 have hmax := T.max hbytes
 obtain ⟨i, z, hi, hz, hs, hby, hzs⟩ := T.info
 obtain ⟨c1, c0, p, cap, rfl, c2, c3, c4, c5⟩ := src
 have hall : ∀ u ∈ xs ++ news, u.oneCell' = true := by
  intro u hu; rcases List.mem_append.1 hu with h | h
  · exact own.2 u h
  · exact c0 u h
 cases p with
 | none =>
  have hc := c4 rfl; subst hc
  have hm : m = 0 := by omega
  subst hm
  have hn : news = [] := List.length_eq_zero_iff.1 (by simpa using c1)
  subst hn
  refine ⟨v, w, run_append_owned_none w B t ty e i sz T.under hi v n xs own.1, ?_, World.grownBy.refl _ _, Below.refl _ _⟩
  simpa using own
 | some a =>
  have hpos : ∀ {j : Nat} {u : Value}, news[j]? = some u → 0 < m := fun {j u} hu => by
   have := (List.getElem?_eq_some_iff.1 hu).1
   rcases Nat.eq_zero_or_pos m with h0 | h0
   · subst h0; omega
   · exact h0
  obtain ⟨v', w', hr, h2, h3, _⟩ := run_append_own (P := P) w B t ty e i z sz bytes T.under hi hz hs hby hzs T.pos v n xs own.1 a m cap news c1
   (fun j u hu => by obtain ⟨c6, c7⟩ := c5 a rfl (hpos hu); rw [addr_add a c6]; exact c7 j u hu) c0 hmax hbytes hB
  exact ⟨v', w', hr, ⟨h2, hall⟩, h3, below_grown h3 hB fun k hk => (own.1.lt k hk).1⟩

theorem run_app_where {P : Program} {t e : TypeId} {sz bytes : Nat} (T : SlT P t e sz bytes) {w : World} (ty : TypeId) {B n : Nat} {v : Value} {xs : List Value} (own : Own w B e sz v n xs)
 {m : Nat} {x : Value} {news : List Value} (src : Cells w sz x m news) (hbytes : (n + m) * bytes ≤ 140737488355328) :
 ∀ v' w', (Builtin.append_ #[t, t] ty #[v, x]).run P w = .ok v' w' → v'.ownBlock = v.ownBlock ∨ v'.ownBlock = some w.heap.size := by
 intro v' w' hrun
 have hmax := T.max hbytes
 have hsmall : n + m ≤ 9223372036854775807 := by unfold maxLen at hmax; omega
 obtain ⟨i, z, hi, hz, hs, hby, hzs⟩ := T.info
 subst hs; subst hby
 obtain ⟨c1, c0, p, cap, rfl, c2, c3, c4, c5⟩ := src
 have hpos : ∀ {j : Nat} {u : Value}, news[j]? = some u → 0 < m := fun {j u} hu => by
  have := (List.getElem?_eq_some_iff.1 hu).1
  rcases Nat.eq_zero_or_pos m with h0 | h0
  · subst h0; omega
  · exact h0
 cases p with
 | none =>
  have hc := c4 rfl; subst hc
  have hm : m = 0 := by omega
  subst hm
  rw [run_append_owned_none w B t ty e i i.size T.under hi v n xs own.1] at hrun
  cases hrun; exact .inl rfl
 | some a =>
  have hnews : ∀ j u, news[j]? = some u → w.cell? (a.add j) = some u := fun j u hu => by obtain ⟨c6, c7⟩ := c5 a rfl (hpos hu); rw [addr_add a c6]; exact c7 j u hu
  rcases own.1.2 with ⟨rfl, rfl⟩ | ⟨g, cap', cur, rfl, hbg, hg, hnc, hcm, hcs, htake⟩
  · by_cases hm : m = 0
    · subst hm
      have hn : news = [] := List.length_eq_zero_iff.1 (by simpa using c1)
      subst hn
      simp [Builtin.append_, run_underlying T.under, sizeOf, typeInfo, hi, Builtin.lenOf, Builtin.firstCells, loadCells, loadCellsFrom] at hrun
      exact .inl (by rw [← hrun.1])
    · rw [run_append_nil (P := P) w t ty e i z T.under hi hz a m cap news c1 hnews (by omega) (by omega) (by have hb := hbytes; simp only [Nat.zero_add] at hb; omega)] at hrun
      cases hrun; exact .inr rfl
  · by_cases hroom : n + m ≤ cap'
    · have hfit : n * i.size + news.length ≤ cur.size := by rw [c1, hcs, ← Nat.add_mul]; exact Nat.mul_le_mul_right _ hroom
      rw [run_append_room (P := P) w t ty e i T.under hi g n cap' cur hg a m cap news c1 hnews c0 hroom hfit] at hrun
      cases hrun; exact .inl rfl
    · have holds : ∀ j u, xs[j]? = some u → w.cell? ((⟨g, 0, none⟩ : Addr).add j) = some u := own.1.cells (g := g) rfl
      rw [run_append_grow (P := P) w t ty e i z T.under hi hz ⟨g, 0, none⟩ n cap' xs own.1.1 holds a m cap news c1 hnews (by omega) (by omega) (growslice_fits (by omega) hbytes)] at hrun
      cases hrun; exact .inr rfl

section
variable {P : Program} {t e : TypeId} {sz bytes : Nat} {w : World} {ops : Array Oper} {rest : List Oper} {o : Oper} {a : Act} {Q : Exit → Act → World → Prop}

theorem wpList_appW (T : SlT P t e sz bytes) (hgd : o.guard = none) {s y : Operand} (ho : o.op = .call { callee := .builtin .append, args := #[s, y], argTypes := #[t, t] })
 {B n : Nat} {v : Value} {xs : List Value} (own : Own w B e sz v n xs) (hs : a.eval s = v)
 {m : Nat} {x : Value} {news : List Value} (src : Cells w sz x m news) (hx : a.eval y = x) (hbytes : (n + m) * bytes ≤ 140737488355328) (hB : B ≤ w.heap.size)
 (h : ∀ v' w', Own w' B e sz v' (n + m) (xs ++ news) → w.grownBy w' v.ownBlock → Below B w w' → (v'.ownBlock = v.ownBlock ∨ v'.ownBlock = some w.heap.size) → wpList P ops Q rest (a.put o.dst v') w') : wpList P ops Q (o :: rest) a w := by
 obtain ⟨v', w', hr, h2, h3, h4⟩ := run_app T o.type own src hbytes hB
 have h5 := run_app_where T o.type own src hbytes v' w' hr
 refine wpList_plain hgd fun K hK => ?_
 unfold Oper.wp execOp
 simp only [ho, resolve, invoke, builtin, Sem.run_bind, Sem.run_pure, Result.andThen_ok, List.map_toArray, List.map_cons, List.map_nil, hs, hx, hr]
 exact hK _ _ (h v' w' h2 h3 h4 h5)

theorem wpList_app (T : SlT P t e sz bytes) (hgd : o.guard = none) {s y : Operand} (ho : o.op = .call { callee := .builtin .append, args := #[s, y], argTypes := #[t, t] })
 {B n : Nat} {v : Value} {xs : List Value} (own : Own w B e sz v n xs) (hs : a.eval s = v)
 {m : Nat} {x : Value} {news : List Value} (src : Cells w sz x m news) (hx : a.eval y = x) (hbytes : (n + m) * bytes ≤ 140737488355328) (hB : B ≤ w.heap.size)
 (h : ∀ v' w', Own w' B e sz v' (n + m) (xs ++ news) → w.grownBy w' v.ownBlock → Below B w w' → wpList P ops Q rest (a.put o.dst v') w') : wpList P ops Q (o :: rest) a w := by
 obtain ⟨v', w', hr, h2, h3, h4⟩ := run_app T o.type own src hbytes hB
 refine wpList_plain hgd fun K hK => ?_
 unfold Oper.wp execOp
 simp only [ho, resolve, invoke, builtin, Sem.run_bind, Sem.run_pure, Result.andThen_ok, List.map_toArray, List.map_cons, List.map_nil, hs, hx, hr]
 exact hK _ _ (h v' w' h2 h3 h4)

theorem wpList_mk (T : SlT P t e sz bytes) (hgd : o.guard = none) {l c : Operand} (ho : o.op = Op.makeSlice t l c) (B : Nat) {kl kc : IntKind} {C : Int} (n : Nat)
 (hl : a.eval l = .int kl 0) (hc : a.eval c = .int kc C) (hC : C = (n : Int)) (hbytes : n * bytes ≤ 281474976710656) (hn : n ≤ maxLen) (hB : B ≤ w.heap.size)
 (h : ∀ v' w', Own w' B e sz v' 0 [] → w.grownBy w' none → Below w.heap.size w w' → wpList P ops Q rest (a.put o.dst v') w') : wpList P ops Q (o :: rest) a w := by
 obtain ⟨i, z, hi, hz, hs, hby, hzs⟩ := T.info
 exact wpList_make_own w hgd l c t ho B e i z sz T.under hi hz hs kl kc C n hl hc hC (by rw [hby, Nat.mul_comm]; exact hbytes) hn hB
  fun w' h1 h2 => h _ w' ⟨h1, by simp⟩ h2 (below_grown h2 (Nat.le_refl _) fun k hk => by cases hk)

end

theorem Own.cellAt {w : World} {B : Nat} {e : TypeId} {sz g n cap : Nat} {xs : List Value} (h : Own w B e sz (.slice (some ⟨g, 0, none⟩) n cap) n xs) (j : Nat) (hj : j < xs.length) : w.cell? ⟨g, j, none⟩ = some xs[j] := by
 have := h.1.cellAt j (by rw [← h.len]; exact hj)
 rw [this]; exact List.getElem?_eq_getElem hj
theorem Own.frozenAt {w : World} {B : Nat} {e : TypeId} {sz g n cap : Nat} {xs : List Value} (h : Own w B e sz (.slice (some ⟨g, 0, none⟩) n cap) n xs) (j : Nat) : w.frozen? ⟨g, j, none⟩ = false := h.1.frozenAt j
theorem Own.stored {w : World} {B : Nat} {e : TypeId} {sz g n cap : Nat} {xs : List Value} (h : Own w B e sz (.slice (some ⟨g, 0, none⟩) n cap) n xs) (j : Nat) (u : Value) (hu : u.oneCell' = true) :
 Own (w.setCell ⟨g, j, none⟩ u) B e sz (.slice (some ⟨g, 0, none⟩) n cap) n (xs.set j u) ∧ w.grownBy (w.setCell ⟨g, j, none⟩ u) (some g) := by
 obtain ⟨h1, h2⟩ := h.1.stored j u
 refine ⟨⟨h1, fun x hx => ?_⟩, h2⟩
 rcases List.mem_or_eq_of_mem_set hx with hx | hx
 · exact h.2 x hx
 · rw [hx]; exact hu
theorem Own.head {w : World} {B : Nat} {e : TypeId} {sz n : Nat} {v : Value} {xs : List Value} (h : Own w B e sz v n xs) : (v = .slice none 0 0 ∧ n = 0) ∨ ∃ g cap, v = .slice (some ⟨g, 0, none⟩) n cap ∧ B ≤ g ∧ g < w.heap.size ∧ n ≤ cap ∧ cap ≤ maxLen := by
 rcases h.1.2 with h1 | ⟨g, cap, cur, hv, hb, hg, hn, hm, _⟩
 · exact .inl h1
 · exact .inr ⟨g, cap, hv, hb, (Array.getElem?_eq_some_iff.1 hg).1, hn, hm⟩

def subP (p : Option Addr) (cap i sz : Nat) : Option Addr := if cap = i then p else p.map (·.add (i * sz))
def subV : Value → Nat → Nat → Nat → Value
 | .slice p _ cap, i, j, sz => .slice (subP p cap i sz) (j - i) (cap - i)
 | v, _, _, _ => v

section
variable {P : Program} {t e : TypeId} {sz bytes : Nat} (T : SlT P t e sz bytes) {w : World} {n : Nat} {v : Value} {cs : List Value}
include T
theorem run_sub_to (h : Cells w sz v n cs) (k : IntKind) (J : Int) (j : Nat) (hJ : J = (j : Int)) (hj : j ≤ n) (w' : World) :
 (Instr.slice t v none (some (.int k J)) none).run P w' = .ok (subV v 0 j sz) w' := by
 subst hJ
 obtain ⟨i, z, hi, hz, hs, hby, hzs⟩ := T.info
 obtain ⟨_, _, p, cap, rfl, c2, _⟩ := h
 have : j ≤ cap := by omega
 simp [Instr.slice, run_underlying T.under, Instr.sliceBounds, Instr.sliceBound, asIntOf, this, subV, subP, sizeOf, typeInfo, hi, hs]
theorem run_sub_from (h : Cells w sz v n cs) (k : IntKind) (I : Int) (i : Nat) (hI : I = (i : Int)) (hj : i ≤ n) (w' : World) :
 (Instr.slice t v (some (.int k I)) none none).run P w' = .ok (subV v i n sz) w' := by
 subst hI
 obtain ⟨i, z, hi, hz, hs, hby, hzs⟩ := T.info
 obtain ⟨_, _, p, cap, rfl, c2, _⟩ := h
 simp [Instr.slice, run_underlying T.under, Instr.sliceBounds, Instr.sliceBound, asIntOf, hj, subV, subP, sizeOf, typeInfo, hi, hs]
theorem run_sub (h : Cells w sz v n cs) (k k' : IntKind) (I J : Int) (i j : Nat) (hI : I = (i : Int)) (hJ : J = (j : Int)) (hi' : i ≤ j) (hj : j ≤ n) (w' : World) :
 (Instr.slice t v (some (.int k I)) (some (.int k' J)) none).run P w' = .ok (subV v i j sz) w' := by
 subst hI; subst hJ
 obtain ⟨i, z, hi, hz, hs, hby, hzs⟩ := T.info
 obtain ⟨_, _, p, cap, rfl, c2, _⟩ := h
 have : j ≤ cap := by omega
 simp [Instr.slice, run_underlying T.under, Instr.sliceBounds, Instr.sliceBound, asIntOf, hi', this, subV, subP, sizeOf, typeInfo, hi, hs]
end

theorem Cells.sub {w : World} {sz n : Nat} {v : Value} {cs : List Value} (h : Cells w sz v n cs) (hsz : 0 < sz) (i j : Nat) (hi : i ≤ j) (hj : j ≤ n) :
 Cells w sz (subV v i j sz) (j - i) ((cs.drop (i * sz)).take ((j - i) * sz)) := by
 obtain ⟨c1, c0, p, cap, rfl, c2, c3, c4, c5⟩ := h
 have hk : j * sz ≤ n * sz := Nat.mul_le_mul_right _ hj
 have hk' : i * sz ≤ j * sz := Nat.mul_le_mul_right _ hi
 have hlen : ((cs.drop (i * sz)).take ((j - i) * sz)).length = (j - i) * sz := by
  rw [List.length_take, List.length_drop, c1, Nat.sub_mul]; omega
 refine ⟨hlen, fun u hu => c0 u (List.mem_of_mem_drop (List.mem_of_mem_take hu)), subP p cap i sz, cap - i, rfl, by omega, by omega, ?_, ?_⟩
 · intro hp
   unfold subP at hp
   split at hp
   · omega
   · have := c4 (by simpa using hp); omega
 · intro a ha hn
   unfold subP at ha
   split at ha
   · omega
   · cases p with
     | none => simp at ha
     | some a0 =>
      simp at ha; subst ha
      obtain ⟨c6, c7⟩ := c5 a0 rfl (by omega)
      rw [addr_add a0 c6]
      refine ⟨rfl, fun q u hu => ?_⟩
      have hq := (List.getElem?_eq_some_iff.1 hu).1
      rw [hlen] at hq
      rw [List.getElem?_take, if_pos hq, List.getElem?_drop] at hu
      have := c7 (i * sz + q) u hu
      simp only
      rw [Nat.add_assoc]; exact this

theorem Own.lit (w : World) (cs : Array Value) (e : TypeId) {sz : Nat} (n B : Nat) (hs : cs.size = n * sz) (h1 : ∀ u ∈ cs.toList, u.oneCell' = true) (hm : n ≤ maxLen) (hB : B ≤ w.heap.size) :
 Own (w.alloc (.cells cs e)) B e sz (.slice (some ⟨w.heap.size, 0, none⟩) n n) n cs.toList := ⟨World.ownsRow_lit w cs n hB hm hs, h1⟩
theorem below_drew (B : Nat) (w : World) : Below B w w.drew := (Below.refl B w).drew
theorem below_alloc (w : World) (o : Obj) : Below w.heap.size w (w.alloc o) := (Below.refl _ _).alloc (Nat.le_refl _) _

@[reducible] def byteV (x : UInt8) : Value := .int .u8 (x.toNat : Int)
def Bytes (w : World) (v : Value) (l : List UInt8) : Prop := Cells w 1 v l.length (l.map byteV)
def OwnB (w : World) (B : Nat) (e : TypeId) (v : Value) (l : List UInt8) : Prop := Own w B e 1 v l.length (l.map byteV)

section
variable {w w' : World} {v : Value} {l : List UInt8} {B : Nat} {e : TypeId}
theorem Bytes.nil (w : World) : Bytes w (.slice none 0 0) [] := Cells.nil w 1
theorem Bytes.drewN (h : Bytes w v l) (k : Nat) : Bytes (w.drewN k) v l := h
theorem Bytes.ext (h : Bytes w v l) (hb : Below w.heap.size w w') : Bytes w' v l := Cells.ext h hb
theorem OwnB.bytes (h : OwnB w B e v l) : Bytes w v l := Own.cells h
theorem OwnB.drew (h : OwnB w B e v l) : OwnB w.drew B e v l := h
theorem OwnB.drewN (h : OwnB w B e v l) (k : Nat) : OwnB (w.drewN k) B e v l := h
theorem OwnB.ext (h : OwnB w B e v l) (hb : Below w.heap.size w w') : OwnB w' B e v l := Own.ext h hb
theorem Bytes.shape (h : Bytes w v l) : ∃ p cap, v = .slice p l.length cap := by obtain ⟨_, _, p, cap, h, _⟩ := h; exact ⟨p, cap, by simpa using h⟩
theorem Bytes.shapeN (h : Bytes w v l) {n : Nat} (hn : l.length = n) : ∃ p cap, v = .slice p n cap := by subst hn; exact h.shape
theorem Bytes.form (h : Bytes w v l) : ∃ p cap, v = .slice p l.length cap ∧ l.length ≤ cap ∧ cap ≤ maxLen ∧ (p = none → cap = 0) ∧
 (0 < l.length → ∃ b off, p = some ⟨b, off, none⟩ ∧ ∀ i (hi : i < l.length), w.cell? ⟨b, off + i, none⟩ = some (.int .u8 (l[i].toNat : Int))) := by
 obtain ⟨p, cap, h1, h2, h3, h4, h5⟩ := Cells.form h
 refine ⟨p, cap, h1, h2, h3, h4, fun hc => ?_⟩
 obtain ⟨b, off, h6, h7⟩ := h5 hc
 exact ⟨b, off, h6, fun i hi => h7 i _ (by simp [hi, byteV])⟩
theorem Bytes.sub (h : Bytes w v l) (i j : Nat) (hi : i ≤ j) (hj : j ≤ l.length) : Bytes w (subV v i j 1) ((l.drop i).take (j - i)) := by
 have h1 := Cells.sub h Nat.one_pos i j hi hj
 have e1 : ((l.drop i).take (j - i)).length = j - i := by rw [List.length_take, List.length_drop]; omega
 unfold Bytes
 rw [e1, List.map_take, List.map_drop]
 simpa using h1
theorem Bytes.four {x0 x1 x2 x3 : UInt8} (h : Bytes w v [x0, x1, x2, x3]) : ∃ b off cap, v = .slice (some ⟨b, off, none⟩) 4 cap ∧ 4 ≤ cap ∧ cap ≤ maxLen ∧
 w.cell? ⟨b, off, none⟩ = some (.int .u8 (x0.toNat : Int)) ∧ w.cell? ⟨b, off + 1, none⟩ = some (.int .u8 (x1.toNat : Int)) ∧ w.cell? ⟨b, off + 2, none⟩ = some (.int .u8 (x2.toNat : Int)) ∧ w.cell? ⟨b, off + 3, none⟩ = some (.int .u8 (x3.toNat : Int)) := by
 obtain ⟨p, cap, rfl, h1, h2, h3, h4⟩ := h.form
 simp at h1
 obtain ⟨b, off, rfl, hc⟩ := h4 (by simp)
 exact ⟨b, off, cap, rfl, h1, h2, hc 0 (by simp), hc 1 (by simp), hc 2 (by simp), hc 3 (by simp)⟩
theorem litBytes (w : World) (l : List UInt8) (e : TypeId) (fz : Nat × Nat) (hm : l.length ≤ maxLen := by unfold maxLen; decide) : Bytes (w.alloc (.cells (l.map byteV).toArray e fz)) (.slice (some ⟨w.heap.size, 0, none⟩) l.length l.length) l := by
 refine ⟨by simp, fun u hu => ?_, _, l.length, rfl, Nat.le_refl _, hm, fun h => (by cases h), fun a ha _ => ?_⟩
 · obtain ⟨x, _, rfl⟩ := List.mem_map.1 hu; rfl
 · cases ha
   refine ⟨rfl, fun i u hu => ?_⟩
   have hg : (w.alloc (.cells (l.map byteV).toArray e fz)).heap[w.heap.size]? = some (.cells (l.map byteV).toArray e fz) := by
    show (w.heap.push _)[w.heap.size]? = _; simp
   simp only [World.cell?, hg, Nat.zero_add]
   simpa using hu
theorem bytes_string (l : List UInt8) : strOfNums (l.map fun x => (x.toNat : Int)) = ⟨l.toArray⟩ := by
 unfold strOfNums
 congr 2
 rw [List.map_map]
 conv => rhs; rw [← List.map_id l]
 apply List.map_congr_left
 intro x _
 simp
theorem run_bytes_string {P : Program} {src e dst : TypeId} (hs : P.underlying src = some (.slice e)) (he : P.underlying e = some (.int .u8)) (hd : P.underlying dst = some .string) (h : Bytes w v l) :
 (convert src dst v).run P w = .ok (.string ⟨l.toArray⟩) w := by
 obtain ⟨p, cap, rfl, h1, h2, h3, h4⟩ := h.form
 rcases Nat.eq_zero_or_pos l.length with hz | hp
 · have : l = [] := List.length_eq_zero_iff.1 hz
   subst this
   cases p with
   | none => exact run_convert_bytes_nil w src e hs he _ _ dst hd
   | some a =>
    rw [List.length_nil, run_convert_bytes_string w src dst e _ 0 cap hs he hd, run_bytesToString w _ 0 cap [] (by
     have := run_loadCells_list (P := P) w a [] (fun j v hj => by simp at hj)
     simpa using this)]
    rfl
 · obtain ⟨b, off, rfl, hc⟩ := h4 hp
   have := run_convert_bytes_arg w (P := P) src e hs he b off l.length cap (l.map fun x => (x.toNat : Int)) (by simp) (fun i hi => by rw [hc i hi]; simp [hi]) dst hd
   rw [this, bytes_string]
theorem OwnB.of {n : Nat} {xs : List Value} (h : Own w B e 1 v n xs) (hn : n = l.length) (hx : xs = l.map byteV) : OwnB w B e v l := by subst hn; subst hx; exact h
theorem OwnB.head (h : OwnB w B e v l) (hl : 0 < l.length) : ∃ g cap, v = .slice (some ⟨g, 0, none⟩) l.length cap ∧ B ≤ g ∧ g < w.heap.size ∧ l.length ≤ cap ∧ cap ≤ maxLen := by
 rcases Own.head h with ⟨_, h⟩ | h
 · omega
 · exact h
theorem OwnB.cellAt {g n cap : Nat} (h : OwnB w B e (.slice (some ⟨g, 0, none⟩) n cap) l) (hn : n = l.length) (i : Nat) (hi : i < l.length) : w.cell? ⟨g, i, none⟩ = some (.int .u8 (l[i].toNat : Int)) := by
 subst hn
 have := Own.cellAt h i (by simpa using hi)
 rw [this]; simp [byteV]
theorem OwnB.frozenAt {g n cap : Nat} (h : OwnB w B e (.slice (some ⟨g, 0, none⟩) n cap) l) (hn : n = l.length) (i : Nat) : w.frozen? ⟨g, i, none⟩ = false := by
 subst hn; exact Own.frozenAt h i
theorem OwnB.stored {g n cap : Nat} (h : OwnB w B e (.slice (some ⟨g, 0, none⟩) n cap) l) (hn : n = l.length) (i : Nat) (x : UInt8) :
 OwnB (w.setCell ⟨g, i, none⟩ (.int .u8 (x.toNat : Int))) B e (.slice (some ⟨g, 0, none⟩) n cap) (l.set i x) ∧ w.grownBy (w.setCell ⟨g, i, none⟩ (.int .u8 (x.toNat : Int))) (some g) := by
 subst hn
 obtain ⟨h1, h2⟩ := Own.stored h i (byteV x) rfl
 refine ⟨?_, h2⟩
 unfold OwnB; rw [List.map_set, List.length_set]; exact h1
theorem OwnB.aside {g n cap : Nat} {row : Option Nat} (h : OwnB w B e (.slice (some ⟨g, 0, none⟩) n cap) l) (hg : w.grownBy w' row) (hne : ∀ k, row = some k → k ≠ g) : OwnB w' B e (.slice (some ⟨g, 0, none⟩) n cap) l :=
 Own.grown h hg (.inr (by intro e; exact hne g e.symm rfl))
theorem OwnB.lt (h : OwnB w B e v l) : ∀ k, v.ownBlock = some k → B ≤ k ∧ k < w.heap.size := Own.lt h
theorem OwnB.nil (w : World) (B : Nat) (e : TypeId) : OwnB w B e (.slice none 0 0) [] := Own.nil w B e 1
theorem OwnB.snoc {l' : List UInt8} (h : Own w B e 1 v (l.length + l'.length) (l.map byteV ++ l'.map byteV)) : OwnB w B e v (l ++ l') := by
 unfold OwnB; rw [List.length_append, List.map_append]; exact h
end

end Go.Proofs.YtgpgcnmnfnnkjaaGreatDoor
end

section
namespace Go.Proofs.YtgpgcnmnfnnkjaaGreatDoor
open Go Go.RowKit Go.ChangeShapes Go.WideShapes Go.ChangeAt

theorem rowOwn : ownKnob Tryz.prog.godebug = none := by kernel_rfl
theorem rowLaid : laidOutB Tryz.prog = true := by kernel_rfl

def DLen {H : Type} (d : DataW H) (n : Nat) : Prop := (d = .nil ∧ n = 0) ∨ ∃ es sp, d = .slice es sp ∧ es.length = n

theorem bytes_of_ints {W : World} {x : Addr} {len cap : Nat} {zs : List Int} (hl : len ≤ cap) (hm : cap ≤ maxLen) (hz : zs.length = cap)
 (hcell : ∀ i, i < zs.length → W.cell? (x.add i) = some (.int .u8 (zs.getD i 0))) (hwz : ∀ n ∈ zs, (Lit.int .u8 n).wf = true) : ∃ l : List UInt8, Bytes W (.slice (some x) len cap) l ∧ l.length = len := by
 have hlen : (zs.take len).length = len := by rw [List.length_take]; omega
 have hb : ∀ z ∈ zs, 0 ≤ z ∧ z < 256 := fun z hz => by
  have := hwz z hz
  simp [Lit.wf, IntKind.min, IntKind.max, IntKind.bits, IntKind.signed] at this; omega
 refine ⟨(zs.take len).map fun z => UInt8.ofNat z.toNat, ?_, by rw [List.length_map, hlen]⟩
 refine ⟨by simp, fun u hu => ?_, some x, cap, by rw [List.length_map, hlen], by rw [List.length_map, hlen]; omega, hm, fun h => (by cases h), fun a ha hn => ?_⟩
 · obtain ⟨y, _, rfl⟩ := List.mem_map.1 hu; rfl
 · cases ha
   rw [List.length_map, hlen] at hn
   have hz0 : 0 < zs.length := by omega
   have hs : x.spot = none := by
    have := hcell 0 hz0
    rw [show x.add 0 = x from by simp [Addr.add]] at this
    unfold World.cell? at this
    split at this
    · by_cases hsp : x.spot.isSome = true
      · rw [if_pos hsp] at this; cases this
      · simpa using hsp
    · cases this
   refine ⟨hs, fun i u hu => ?_⟩
   simp only [List.getElem?_map] at hu
   rw [List.getElem?_take] at hu
   split at hu
   · rename_i hi
     have hiz : i < zs.length := by omega
     rw [List.getElem?_eq_getElem hiz] at hu
     simp at hu
     subst hu
     have := hcell i hiz
     rw [addr_add x hs] at this
     rw [this]
     have hb' := hb zs[i] (List.getElem_mem _)
     simp [List.getD, hiz, byteV]
     omega
   · simp at hu

theorem open_bytes {H : Type} {enc : TypeId × Value → H} {P : Program} {W : World} {t e : TypeId} {base : Nat} {v : Value} {d : DataW H} {p : List MemPlace}
 (hu : P.underlying t = some (.slice e)) (he : P.underlying e = some (.int .u8)) (hc : P.cellsOf e = 1) (hok : Value.okWide P W .any base t v)
 (h : DataW.Trod enc P W 0 (fun _ => true) true t v d p) : ∃ l : List UInt8, Bytes W v l ∧ DLen d l.length := by
 obtain ⟨a, len, cap, rfl⟩ := okWide_slice hu hok
 obtain ⟨fuel, hf⟩ := h
 rcases open_ints hu he hc hf with ⟨hcs, hx⟩ | ⟨x, l, c, zs, hcs, _, hl, hm, hz, hx, hcell, hwz⟩
 · simp [Value.cells] at hcs
   obtain ⟨rfl, rfl, rfl⟩ := hcs
   simp only [Prod.mk.injEq] at hx
   exact ⟨[], Bytes.nil W, .inl ⟨hx.1, rfl⟩⟩
 · simp [Value.cells] at hcs
   obtain ⟨rfl, rfl, rfl⟩ := hcs
   simp only [Prod.mk.injEq] at hx
   simp at hz
   obtain ⟨l, h1, h2⟩ := bytes_of_ints hl hm hz hcell hwz
   refine ⟨l, h1, .inr ⟨_, _, hx.1, ?_⟩⟩
   rw [h2]; simp [lits]; omega

theorem open_u32 {H : Type} {enc : TypeId × Value → H} {P : Program} {W : World} {t : TypeId} {base : Nat} {v : Value} {d : DataW H} {p : List MemPlace}
 (hu : P.underlying t = some (.int .u32)) (hok : Value.okWide P W .any base t v)
 (h : DataW.Trod enc P W 0 (fun _ => true) true t v d p) : ∃ c : BitVec 32, v = .int .u32 (c.toNat : Int) := by
 obtain ⟨x, rfl, rfl, rfl, wx⟩ := open_int hu hok h
 have hb : 0 ≤ x ∧ x < 4294967296 := by simp [Lit.wf, IntKind.min, IntKind.max, IntKind.bits, IntKind.signed] at wx; omega
 refine ⟨BitVec.ofNat 32 x.toNat, ?_⟩
 rw [BitVec.toNat_ofNat, Nat.mod_eq_of_lt (by omega)]
 congr 1; omega

theorem open_i64 {H : Type} {enc : TypeId × Value → H} {P : Program} {W : World} {t : TypeId} {base : Nat} {v : Value} {d : DataW H} {p : List MemPlace}
 (hu : P.underlying t = some (.int .i64)) (hok : Value.okWide P W .any base t v)
 (h : DataW.Trod enc P W 0 (fun _ => true) true t v d p) : ∃ x : Int, v = .int .i64 x ∧ -9223372036854775808 ≤ x ∧ x ≤ 9223372036854775807 := by
 obtain ⟨x, rfl, rfl, rfl, wx⟩ := open_int hu hok h
 refine ⟨x, rfl, ?_⟩
 simp [Lit.wf, IntKind.min, IntKind.max, IntKind.bits, IntKind.signed] at wx; omega

theorem sized_dlen {H : Type} {P : Program} {ts : List TypeId} {ds : List (DataW H)} (h : (DataW.weightsEach P ts ds).all (· ≤ reachBytes) = true) {j : Nat} {t e : TypeId} {d : DataW H} {n : Nat} {bytes : Nat} (hd : DLen d n)
 (ht : ts[j]? = some t) (hj : ds[j]? = some d) (hu : P.underlying t = some (.slice e)) (hb : P.bytesOf e = bytes) : n * bytes ≤ 140737488351232 := by
 rcases hd with ⟨rfl, rfl⟩ | ⟨es, sp, rfl, rfl⟩
 · omega
 · have := sized_slice h ht hj hu
   rw [hb, Nat.add_mul] at this
   simp only [reachBytes] at this
   omega

theorem bulk_one_le {H : Type} (d : DataW H) : 1 ≤ Rows.uptoBulk d := by
 cases d with
 | lit l => cases l <;> simp [Rows.uptoBulk]
 | _ => simp [Rows.uptoBulk]
theorem bulk_length_le {H : Type} (l : List (DataW H)) : l.length ≤ Rows.uptoBulkAll l := by
 induction l with
 | nil => simp [Rows.uptoBulkAll]
 | cons x r ih => have := bulk_one_le x; simp only [Rows.uptoBulkAll, List.length_cons]; omega
theorem bulk_dlen {H : Type} {d : DataW H} {n : Nat} (h : DLen d n) : n + 1 ≤ Rows.uptoBulk d := by
 rcases h with ⟨rfl, rfl⟩ | ⟨es, sp, rfl, rfl⟩
 · simp [Rows.uptoBulk]
 · have := bulk_length_le es; simp only [Rows.uptoBulk]; omega

theorem open_string1 {H : Type} {enc : TypeId × Value → H} {P : Program} {W : World} {t : TypeId} {base : Nat} {v : Value} {d : DataW H} {p : List MemPlace}
 (hu : P.underlying t = some .string) (hok : Value.okWide P W .any base t v)
 (h : DataW.Trod enc P W 0 (fun _ => true) true t v d p) : ∃ s : ByteArray, d = .lit (.string s.data.toList) ∧ v = .string s := by
 obtain ⟨s, h1, h2, _, _⟩ := Go.ChangeMaps.open_string hu hok h
 exact ⟨s, h2, h1⟩
theorem open_bool1 {H : Type} {enc : TypeId × Value → H} {P : Program} {W : World} {t : TypeId} {base : Nat} {v : Value} {d : DataW H} {p : List MemPlace}
 (hu : P.underlying t = some .bool) (hok : Value.okWide P W .any base t v)
 (h : DataW.Trod enc P W 0 (fun _ => true) true t v d p) : ∃ b : Bool, v = .bool b := by
 obtain ⟨b, h1, _⟩ := open_bool hu hok h
 exact ⟨b, h1⟩
theorem sized_str {H : Type} {P : Program} {ts : List TypeId} {ds : List (DataW H)} (h : (DataW.weightsEach P ts ds).all (· ≤ reachBytes) = true) {j : Nat} {t : TypeId} {d : DataW H} {s : ByteArray} (hd : d = .lit (.string s.data.toList))
 (ht : ts[j]? = some t) (hj : ds[j]? = some d) : s.size ≤ 140737488351232 := by
 subst hd
 have := sized_string h ht hj
 simp only [reachBytes] at this
 have e : s.size = s.data.toList.length := (Array.length_toList (xs := s.data)).symm
 omega
theorem bulk_string {H : Type} {d : DataW H} {s : ByteArray} (hd : d = .lit (.string s.data.toList)) : s.size ≤ Rows.uptoBulk d := by
 subst hd
 have e : s.size = s.data.toList.length := (Array.length_toList (xs := s.data)).symm
 simp only [Rows.uptoBulk]; omega

end Go.Proofs.YtgpgcnmnfnnkjaaGreatDoor
end
