/- The walk of frame.Scan: all frames that are whole, in new memory, in order. -/
import Derived.Test.YtongoobcmlgdiaaFrameNext
namespace Go.Proofs.Ytongoobcmlgdiaa
open Go Go.RowKit

theorem tParts : SlT Try.prog 42 22 1 24 := SlT.mk' (z := .slice none 0 0) Try.underlying42 (by kernel_rfl) (by kernel_rfl) (by decide) (by decide)

/-- values that are rows of the call's own, each in a block behind those ahead of it -/
structure Rows' (w : World) (B : Nat) (e : TypeId) (vs : List Value) (ls : List (List UInt8)) : Prop where
  len : vs.length = ls.length
  own : ∀ (i : Nat) (v : Value) (l : List UInt8), vs[i]? = some v → ls[i]? = some l → OwnB w B e v l
  apart : ∀ (i j : Nat) (v u : Value), vs[i]? = some v → vs[j]? = some u → i < j → ∀ k m, v.ownBlock = some k → u.ownBlock = some m → k < m
/-- a list of lists of bytes, all of the call's own -/
def OwnParts (w : World) (B : Nat) (v : Value) (ls : List (List UInt8)) : Prop :=
  ∃ vs : List Value, Own w B 22 1 v ls.length vs ∧ Rows' w B 5 vs ls

theorem Rows'.ext {w w' : World} {B : Nat} {e : TypeId} {vs : List Value} {ls : List (List UInt8)} (h : Rows' w B e vs ls) (hb : Below w.heap.size w w') : Rows' w' B e vs ls :=
  ⟨h.len, fun i v l hv hl => (h.own i v l hv hl).ext hb, h.apart⟩
theorem OwnParts.ext {w w' : World} {B : Nat} {v : Value} {ls : List (List UInt8)} (h : OwnParts w B v ls) (hb : Below w.heap.size w w') : OwnParts w' B v ls := by
  obtain ⟨vs, h1, h2⟩ := h; exact ⟨vs, h1.ext hb, h2.ext hb⟩
theorem OwnParts.nil (w : World) (B : Nat) : OwnParts w B (.slice none 0 0) [] := ⟨[], Own.nil _ _ _ _, ⟨rfl, fun i v l h => by simp at h, fun i j v u h => by simp at h⟩⟩
theorem OwnParts.parts {w : World} {B : Nat} {v : Value} {ls : List (List UInt8)} (h : OwnParts w B v ls) : Parts w v ls := by
  obtain ⟨vs, h1, h2⟩ := h; exact ⟨vs, h1.cells, h2.len, fun i v l hv hl => (h2.own i v l hv hl).bytes⟩

theorem Own.ne_type {w : World} {B B' sz sz' n n' : Nat} {e e' : TypeId} {v u : Value} {xs ys : List Value} (h : Own w B e sz v n xs) (h' : Own w B' e' sz' u n' ys) (he : e ≠ e') : v.ownBlock = none ∨ v.ownBlock ≠ u.ownBlock := by
  rcases h.1.2 with ⟨rfl, _⟩ | ⟨g, cap, cur, rfl, _, hg, _⟩
  · exact .inl rfl
  · right
    rcases h'.1.2 with ⟨rfl, _⟩ | ⟨g', cap', cur', rfl, _, hg', _⟩
    · simp [Value.ownBlock]
    · intro e0
      simp [Value.ownBlock] at e0
      subst e0
      rw [hg] at hg'
      simp at hg'
      exact he hg'.2
theorem Rows'.aside {w w' : World} {B : Nat} {e : TypeId} {vs : List Value} {ls : List (List UInt8)} (h : Rows' w B e vs ls) {row : Option Nat} (hg : w.grownBy w' row)
    (hne : ∀ (i : Nat) (v : Value), vs[i]? = some v → v.ownBlock = none ∨ v.ownBlock ≠ row) : Rows' w' B e vs ls :=
  ⟨h.len, fun i v l hv hl => Own.grown (h.own i v l hv hl) hg (hne i v hv), h.apart⟩
theorem Rows'.get {w : World} {B : Nat} {e : TypeId} {vs : List Value} {ls : List (List UInt8)} (h : Rows' w B e vs ls) {i : Nat} {v : Value} (hv : vs[i]? = some v) : ∃ l, ls[i]? = some l ∧ OwnB w B e v l := by
  have hi : i < vs.length := (List.getElem?_eq_some_iff.1 hv).1
  have hl : ls[i]? = some (ls[i]'(by rw [← h.len]; exact hi)) := List.getElem?_eq_getElem _
  exact ⟨_, hl, h.own i v _ hv hl⟩
theorem Rows'.snoc {w : World} {B : Nat} {e : TypeId} {vs : List Value} {ls : List (List UInt8)} (h : Rows' w B e vs ls) {p : Value} {l : List UInt8} (hp : OwnB w B e p l) (N : Nat)
    (hlt : ∀ (i : Nat) (v : Value), vs[i]? = some v → ∀ k, v.ownBlock = some k → k < N) (hge : ∀ k, p.ownBlock = some k → N ≤ k) : Rows' w B e (vs ++ [p]) (ls ++ [l]) := by
  refine ⟨by simp [h.len], fun i v l' hv hl => ?_, fun i j v u hv hu hij k m hk hm => ?_⟩
  · rcases Nat.lt_or_ge i vs.length with hi | hi
    · rw [List.getElem?_append_left hi] at hv
      rw [List.getElem?_append_left (by rw [← h.len]; exact hi)] at hl
      exact h.own i v l' hv hl
    · rw [List.getElem?_append_right hi] at hv
      rw [List.getElem?_append_right (by rw [← h.len]; exact hi)] at hl
      rw [← h.len] at hl
      cases hq : i - vs.length with
      | zero => rw [hq] at hv hl; simp at hv hl; subst hv; subst hl; exact hp
      | succ q => rw [hq] at hv; simp at hv
  · rcases Nat.lt_or_ge j vs.length with hj | hj
    · rw [List.getElem?_append_left hj] at hu
      rw [List.getElem?_append_left (by omega)] at hv
      exact h.apart i j v u hv hu hij k m hk hm
    · rw [List.getElem?_append_right hj] at hu
      have hjq : j = vs.length := by
        cases hq : j - vs.length with
        | zero => omega
        | succ q => rw [hq] at hu; simp at hu
      subst hjq
      simp at hu; subst hu
      rw [List.getElem?_append_left hij] at hv
      have h1 := hlt i v hv k hk
      have h2 := hge m hm
      omega

set_option maxHeartbeats 1000000 in
theorem frameScan (v : Value) (b : List UInt8) (w : World) (hv : Bytes w v b) (hb : b.length ≤ 1099511627776) :
    Calls Try.prog 27 #[v] w fun e w' => ∃ r, e = .returned (.tuple #[r, .int .i64 ((Frm.all b).2 : Nat)]) ∧ OwnParts w' w.heap.size r (Frm.all b).1 ∧ Below w.heap.size w w' := by
  obtain ⟨p0, c0, rfl⟩ := hv.shape
  go_enter Try.func27, Try.ntmps27
  go_wp2
  go_loopw [4, 5] (fun o i wr => ∃ (k : Nat) (ls : List (List UInt8)), k ≤ b.length ∧ ls.length ≤ k ∧ i = .int .i64 k ∧ OwnParts wr w.heap.size o ls ∧ Hid (Frm.all b = (ls ++ (Frm.all (b.drop k)).1, k + (Frm.all (b.drop k)).2)) ∧ Below w.heap.size w wr) (fun _ i _ => b.length - (intOf i).toNat)
  case atStart => exact ⟨0, [], by omega, by simp, rfl, OwnParts.nil _ _, by show Frm.all b = _; simp, Below.refl _ _⟩
  case round =>
    obtain ⟨k, ls, hk, hlk, rfl, hop, hall, hbr⟩ := hrel
    by_cases hbad : Frm.err (b.drop k) = 0
    · obtain ⟨e1, e2, e3⟩ := next_ok hk hbad
      obtain ⟨q1, q2, q3, q4⟩ := Frm.err_ok hbad
      rw [List.length_drop] at q3
      have hstep := Frm.all_ok hbad
      rw [List.drop_drop] at hstep
      have Hstep := Lib.hid hstep
      go_wp2_with fail
      with_reducible refine (frameNext _ b k _ (hv.ext hbr) (by omega)).mono ?_
      rintro e w1 ⟨p, rfl, ownp, b1⟩
      rw [e1, e2]
      rw [e3] at ownp
      clear hstep e1 e2 e3 hbad
      generalize Frm.len (b.drop k) = n at *
      generalize Frm.pay (b.drop k) = pl at *
      obtain ⟨vs, ho, hro⟩ := hop
      have hlt := fun (i : Nat) (v : Value) (hvi : vs[i]? = some v) => (hro.get hvi)
      have ho1 := ho.ext b1
      have hro1 := hro.ext b1
      have hsz := hbr.size
      obtain ⟨pp, cp, rfl⟩ := ownp.bytes.shape
      go_wp2_with (first
        | (at_builtin; refine wpList_app tParts rfl rfl (Own.ext ho1 (below_alloc _ _)) rfl (Own.cells (Own.lit _ _ _ 1 0 rfl (by simp [Value.oneCell']) (by unfold maxLen; omega) (Nat.zero_le _))) rfl (by omega) (by have := b1.size; simp; omega) ?_; intro v2 w2 own2 g2 b2)
        | fail)
      have hal := below_alloc w1 (.cells #[.slice pp pl.length cp] 22)
      have hro2 := (hro1.ext hal).aside g2 (fun i v hvi => by
        obtain ⟨l, _, hl⟩ := hro1.get hvi
        exact Own.ne_type hl ho1 (by decide))
      have hp2 : OwnB w2 w.heap.size 5 (.slice pp pl.length cp) pl :=
        Own.grown (Own.ext (Own.base ownp hsz) hal) g2 (Own.ne_type ownp ho1 (by decide))
      have hrows := hro2.snoc hp2 wr.heap.size (fun i v hvi k hk => by
        obtain ⟨l, _, hl⟩ := hlt i v hvi
        exact (OwnB.lt hl k hk).2) (fun k hk => (OwnB.lt ownp k hk).1)
      have hb2 : Below w.heap.size w w2 := hbr.trans ((b1.mono hsz).trans ((hal.mono (Nat.le_trans hsz b1.size)).trans b2))
      go_roundw
      case rel =>
        refine ⟨k + (n + 8), ls ++ [pl], by omega, by simp; omega, by congr 1; omega, ⟨vs ++ [.slice pp pl.length cp], by simpa using own2, hrows⟩, ?_, hb2⟩
        show Frm.all b = _
        rw [hall.out, Hstep.out]
        simp only [List.append_assoc, List.cons_append, List.nil_append, Prod.mk.injEq, true_and]
        omega
      case measure => simp [intOf]; omega
    · have hz := Frm.all_bad hbad
      have hbad' : ∃ q : Nat, Frm.err (b.drop k) = q ∧ q ≠ 0 := ⟨_, rfl, hbad⟩
      obtain ⟨q, hq, hq0⟩ := hbad'
      obtain ⟨e1, e2, e3⟩ := next_bad hk hq0 hq
      have hall' : Frm.all b = (ls, k) := by rw [hall.out, hz]; simp
      have hqi : ((q : Int) != 0) = true := by simp; omega
      have Hall := Lib.hid hall'
      clear hz hq hbad hall' hall
      go_wp2_with fail
      with_reducible refine (frameNext _ b k _ (hv.ext hbr) (by omega)).mono ?_
      rintro e w1 ⟨p, rfl, ownp, b1⟩
      rw [e1, e2]
      clear e1 e2 e3
      have hop1 := hop.ext b1
      have hb1 := hbr.trans (b1.mono hbr.size)
      go_wp2_with fail
      go_ret2
      rw [Hall.out]
      exact ⟨_, rfl, hop1, hb1⟩

end Go.Proofs.Ytongoobcmlgdiaa
