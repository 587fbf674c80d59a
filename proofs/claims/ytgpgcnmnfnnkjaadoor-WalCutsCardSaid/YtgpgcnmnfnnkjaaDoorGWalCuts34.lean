/- Walks of package wal: a segment in memory; done, voted, shorter, began, grown. -/
import Derived.Test.YtgpgcnmnfnnkjaaDoorGWalCuts21
import Derived.Test.YtgpgcnmnfnnkjaaDoorGWalCuts3
import Derived.Test.YtgpgcnmnfnnkjaaDoorGWalCuts6
import Derived.Test.YtgpgcnmnfnnkjaaDoorGWalCuts5
set_option linter.unusedVariables false
set_option linter.unusedSimpArgs false
section
namespace Go.Proofs.YtgpgcnmnfnnkjaaDoor
open Go Go.RowKit Go.PlainAid
attribute [local go_sem] After.same

@[reducible] def segA (s : Sg) (v : Value) : Array Value := #[.int .i64 s.h.term, .int .i64 s.h.vote, .int .i64 s.h.base, .int .i64 s.h.bterm, .int .i64 s.h.members, .string s.h.snap, v, .bool s.begun, .bool s.whole, .int .i64 (s.size : Int)]
/-- a segment in memory, at block g; its log is of the call's own, from block B on -/
structure SegV (w : World) (B g : Nat) (v : Value) (s : Sg) : Prop where
  blk : Blk w g (segA s v) 63
  log : OwnR etyE w B 36 v s.h.log
  off : v.ownBlock ≠ some g
  low : B ≤ g
  few : s.h.log.length ≤ 200
def SegAt (w : World) (B g : Nat) (s : Sg) : Prop := ∃ v, SegV w B g v s
section
variable {w w' : World} {B g : Nat} {v : Value} {s : Sg}
theorem SegV.chg {G : Nat → Prop} (h : SegV w B g v s) (hc : Chg G w w') (hg : ¬ G g) (hv : ∀ k, v.ownBlock = some k → ¬ G k) : SegV w' B g v s :=
  ⟨hc.blk h.blk hg, hc.ownR h.log hv, h.off, h.low, h.few⟩
theorem SegV.ext (h : SegV w B g v s) (hb : Below w.heap.size w w') : SegV w' B g v s := h.chg (G := fun _ => False) (.of_below hb) id fun _ _ => id
theorem SegV.c0 (h : SegV w B g v s) : w.cell? ⟨g, 0, none⟩ = some (.int .i64 s.h.term) := h.blk.cell 0 _ rfl
theorem SegV.c1 (h : SegV w B g v s) : w.cell? ⟨g, 1, none⟩ = some (.int .i64 s.h.vote) := h.blk.cell 1 _ rfl
theorem SegV.c2 (h : SegV w B g v s) : w.cell? ⟨g, 2, none⟩ = some (.int .i64 s.h.base) := h.blk.cell 2 _ rfl
theorem SegV.c3 (h : SegV w B g v s) : w.cell? ⟨g, 3, none⟩ = some (.int .i64 s.h.bterm) := h.blk.cell 3 _ rfl
theorem SegV.c4 (h : SegV w B g v s) : w.cell? ⟨g, 4, none⟩ = some (.int .i64 s.h.members) := h.blk.cell 4 _ rfl
theorem SegV.c5 (h : SegV w B g v s) : w.cell? ⟨g, 5, none⟩ = some (.string s.h.snap) := h.blk.cell 5 _ rfl
theorem SegV.c6 (h : SegV w B g v s) : w.cell? ⟨g, 6, none⟩ = some v := h.blk.cell 6 _ rfl
theorem SegV.c7 (h : SegV w B g v s) : w.cell? ⟨g, 7, none⟩ = some (.bool s.begun) := h.blk.cell 7 _ rfl
theorem SegV.c8 (h : SegV w B g v s) : w.cell? ⟨g, 8, none⟩ = some (.bool s.whole) := h.blk.cell 8 _ rfl
theorem SegV.c9 (h : SegV w B g v s) : w.cell? ⟨g, 9, none⟩ = some (.int .i64 (s.size : Int)) := h.blk.cell 9 _ rfl
theorem SegV.lt (h : SegV w B g v s) : B ≤ g ∧ g < w.heap.size := ⟨h.low, h.blk.lt⟩
/-- a cell of it is set that is not the log's -/
theorem SegV.set {u : Value} {i : Nat} {s' : Sg} (h : SegV w B g v s) (hs : (segA s v).setIfInBounds i u = segA s' v) (hl : s'.h.log = s.h.log) : SegV (w.setCell ⟨g, i, none⟩ u) B g v s' :=
  ⟨hs ▸ h.blk.set i u, hl ▸ (chg_cell g i u w).ownR h.log fun k hk e => h.off (by rw [hk, e]), h.off, h.low, by rw [hl]; exact h.few⟩
theorem SegV.below (h : SegV w B g v s) (i : Nat) (u : Value) : Below B w (w.setCell ⟨g, i, none⟩ u) := (Below.refl B w).setCell (p := ⟨g, i, none⟩) h.low u
theorem SegAt.ext (h : SegAt w B g s) (hb : Below w.heap.size w w') : SegAt w' B g s := by obtain ⟨v, h⟩ := h; exact ⟨v, h.ext hb⟩
end
theorem own_len (p : Option Addr) (n m c : Nat) : (Value.slice p n c).ownBlock = (Value.slice p m c).ownBlock := by cases p <;> rfl
theorem cutE {w : World} {B : Nat} {e : TypeId} {n : Nat} {v : Value} {l : List Ety} (h : OwnR etyE w B e v l) (hn : n ≤ l.length) : ∃ p c, v = .slice p l.length c ∧ subV v 0 n 3 = .slice p n c ∧ OwnR etyE w B e (.slice p n c) (l.take n) := by
  have hl : (l.take n).length = n := by rw [List.length_take]; omega
  rcases Own.head h with ⟨rfl, h0⟩ | ⟨g, cap, rfl, _⟩
  · have hz : l = [] := List.length_eq_zero_iff.1 h0
    subst hz
    have : n = 0 := by simpa using hn
    subst this
    exact ⟨none, 0, rfl, rfl, OwnR.nil _ _ _⟩
  · refine ⟨some ⟨g, 0, none⟩, cap, rfl, ?_, ?_⟩
    · show Value.slice (subP _ _ _ _) _ _ = _
      have e1 : subP (some ⟨g, 0, none⟩) cap 0 3 = some ⟨g, 0, none⟩ := by
        unfold subP; split
        · rfl
        · simp [addr_add]
      rw [e1]; rfl
    · have h1 := Own.cut h n hn
      exact OwnR.of h1 hl.symm (etyE.all_take l n)

theorem segDone {w : World} {B g : Nat} {v : Value} {s : Sg} (h : SegV w B g v s) :
    Calls Tryd.prog 74 #[.pointer (some ⟨g, 0, none⟩)] w fun e w' => e = .returned (.bool (doneS s).isSome) ∧ SegAt w' B g ((doneS s).getD s) ∧ Below B w w' := by
  have c1 := h.c7
  have c2 := h.c8
  have f2 := h.blk.frozen 8
  have hy := Lib.hid (h.set (i := 8) (u := .bool true) (s' := { s with whole := true }) rfl rfl)
  have hb := Lib.hid (h.below 8 (.bool true))
  by_cases hc : s.begun = true ∧ s.whole = false
  · have hd : doneS s = some { s with whole := true } := if_pos hc
    rw [hd]
    rw [hc.1] at c1
    rw [hc.2] at c2
    clear hd hc
    go_enter Tryd.func74, Tryd.ntmps74
    go_wp2
    go_ret
    exact ⟨rfl, ⟨v, hy.out⟩, hb.out⟩
  · have hd : doneS s = none := if_neg hc
    rw [hd]
    clear hd
    have Hc := Lib.hid hc
    clear hc
    cases hb1 : s.begun <;> cases hw1 : s.whole
    all_goals
      rw [hb1] at c1
      rw [hw1] at c2
    case true.false => exact absurd ⟨hb1, hw1⟩ Hc.out
    all_goals
      clear hb1 hw1
      go_enter Tryd.func74, Tryd.ntmps74
      go_wp2
      go_ret
      exact ⟨rfl, ⟨v, h⟩, Below.refl _ _⟩

set_option maxRecDepth 4000 in
set_option maxHeartbeats 2000000 in
theorem segVoted {w : World} {B g : Nat} {v : Value} {s : Sg} (h : SegV w B g v s) (t x : Int) :
    Calls Tryd.prog 75 #[.pointer (some ⟨g, 0, none⟩), .int .i64 t, .int .i64 x] w fun e w' => e = .returned (.bool (votedS s t x).isSome) ∧ SegAt w' B g ((votedS s t x).getD s) ∧ Below B w w' := by
  have c0 := h.c0
  have c1 := h.c1
  have c8 := h.c8
  have f0 := h.blk.frozen 0
  have f1 := h.blk.frozen 1
  have h1 := h.set (i := 0) (u := .int .i64 t) (s' := { s with h := { s.h with term := t } }) rfl rfl
  have h2 := h1.set (i := 1) (u := .int .i64 x) (s' := { s with h := { s.h with term := t, vote := x } }) rfl rfl
  have hy := Lib.hid (And.intro h2 ((h.below 0 (.int .i64 t)).trans (h1.below 1 (.int .i64 x))))
  have hd : votedS s t x = if s.whole = true ∧ s.h.term ≤ t ∧ ¬ (t = s.h.term ∧ s.h.vote ≠ -1) ∧ t ≤ 1099511627776 ∧ -1 ≤ x ∧ x < 7 then some { s with h := { s.h with term := t, vote := x } } else none := rfl
  have Hd := Lib.hid hd
  clear h1 h2 hd
  rcases (Bool.eq_false_or_eq_true s.whole).symm with hw | hw
  · skip
    rw [hw] at c8
    have e : votedS s t x = none := by rw [Hd.out, hw]; exact if_neg (fun h => by simp at h)
    rw [e]
    clear e
    go_enter Tryd.func75, Tryd.ntmps75
    go_wp2
    go_ret
    exact ⟨rfl, ⟨v, h⟩, Below.refl _ _⟩
  · skip
    rw [hw] at c8
    have q1 : (t == s.h.term) = decide (t = s.h.term) := rfl
    have q2 : (s.h.vote != -1) = decide (s.h.vote ≠ -1) := by simp [bne, BEq.beq]
    have Hq := Lib.hid (And.intro q1 q2)
    clear q1 q2
    by_cases hc : s.h.term ≤ t ∧ ¬ (t = s.h.term ∧ s.h.vote ≠ -1) ∧ t ≤ 1099511627776 ∧ -1 ≤ x ∧ x < 7
    · have e : votedS s t x = some { s with h := { s.h with term := t, vote := x } } := Hd.out.trans (if_pos ⟨hw, hc⟩)
      rw [e]
      clear e hw
      obtain ⟨k1, k2, k3, k4, k5⟩ := hc
      have k2' : t = s.h.term → s.h.vote = -1 := fun e => Decidable.not_not.1 (fun hn => k2 ⟨e, hn⟩)
      have K2 := Lib.hid k2'
      clear k2 k2'
      by_cases g1 : (t == s.h.term) = true
      · have g2 : (s.h.vote != -1) = false := by rw [Hq.out.2]; exact decide_eq_false (fun hn => hn (K2.out (by simpa using g1)))
        go_enter Tryd.func75, Tryd.ntmps75
        go_wp2
        go_ret
        exact ⟨rfl, ⟨v, hy.out.1⟩, hy.out.2⟩
      · have g1' : (t == s.h.term) = false := by simpa using g1
        clear g1
        go_enter Tryd.func75, Tryd.ntmps75
        go_wp2
        go_ret
        exact ⟨rfl, ⟨v, hy.out.1⟩, hy.out.2⟩
    · have e : votedS s t x = none := Hd.out.trans (if_neg (fun h => hc h.2))
      rw [e]
      clear e
      have Hc := Lib.hid hc
      clear hc
      cases g1 : (t == s.h.term) <;> cases g2 : (s.h.vote != -1)
      all_goals
        go_enter Tryd.func75, Tryd.ntmps75
        go_wp2
      all_goals
        first
        | (go_ret; exact ⟨rfl, ⟨v, h⟩, Below.refl _ _⟩)
        | (exfalso
           have a1 := Hq.out.1
           have a2 := Hq.out.2
           rw [g1] at a1
           rw [g2] at a2
           have b1 := of_decide_eq_true (p := True) rfl
           refine Hc.out ⟨by omega, ?_, by omega, by omega, by omega⟩
           rintro ⟨z1, z2⟩
           first | exact of_decide_eq_false a1.symm z1 | exact of_decide_eq_false a2.symm z2)
end Go.Proofs.YtgpgcnmnfnnkjaaDoor
end
