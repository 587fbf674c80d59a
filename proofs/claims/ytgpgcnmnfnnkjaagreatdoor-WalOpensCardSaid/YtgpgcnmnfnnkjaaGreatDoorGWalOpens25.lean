/- Walks of package wal: a segment in memory; done, voted, shorter, began, grown. Walks of package wal: a segment's shorter, began. Walks of package wal: a segment's began. -/
import Derived.Test.YtgpgcnmnfnnkjaaGreatDoorGWalOpens24
import Derived.Test.YtgpgcnmnfnnkjaaGreatDoorGWalOpens2
import Derived.Test.YtgpgcnmnfnnkjaaGreatDoorGWalOpens11
set_option linter.unusedVariables false
set_option linter.unusedSimpArgs false
section
namespace Go.Proofs.YtgpgcnmnfnnkjaaGreatDoor
open Go Go.RowKit Go.PlainAid
attribute [local go_sem] After.same

@[reducible] def segA (s : Sg) (v : Value) : Array Value := #[.int .i64 s.h.term, .int .i64 s.h.vote, .int .i64 s.h.base, .int .i64 s.h.bterm, .int .i64 s.h.members, .string s.h.snap, v, .bool s.begun, .bool s.whole, .int .i64 (s.size : Int)]
structure SegV (w : World) (B g : Nat) (v : Value) (s : Sg) : Prop where
 blk : Blk w g (segA s v) 102
 log : OwnR etyE w B 73 v s.h.log
 off : v.ownBlock ≠ some g
 low : B ≤ g
 few : s.h.log.length ≤ 200
def SegAt (w : World) (B g : Nat) (s : Sg) : Prop := ∃ v, SegV w B g v s
section
variable {w w' : World} {B g : Nat} {v : Value} {s : Sg}
theorem SegV.chg {G : Nat → Prop} (h : SegV w B g v s) (hc : Chg G w w') (hg : ¬ G g) (hv : ∀ k, v.ownBlock = some k → ¬ G k) : SegV w' B g v s :=
 ⟨hc.blk h.blk hg, hc.ownR h.log hv, h.off, h.low, h.few⟩
theorem SegV.ext (h : SegV w B g v s) (hb : Below w.heap.size w w') : SegV w' B g v s := h.chg (G := fun _ => False) (.of_below hb) id fun _ _ => id
theorem SegV.c0 (h : SegV w B g v s) : w.cell? ⟨g, 0, none⟩ = some (.int .i64 s.h.term) := h.blk.cell 0 _ rfl
theorem SegV.c1 (h : SegV w B g v s) : w.cell? ⟨g, 1, none⟩ = some (.int .i64 s.h.vote) := h.blk.cell 1 _ rfl
theorem SegV.c2 (h : SegV w B g v s) : w.cell? ⟨g, 2, none⟩ = some (.int .i64 s.h.base) := h.blk.cell 2 _ rfl
theorem SegV.c3 (h : SegV w B g v s) : w.cell? ⟨g, 3, none⟩ = some (.int .i64 s.h.bterm) := h.blk.cell 3 _ rfl
theorem SegV.c4 (h : SegV w B g v s) : w.cell? ⟨g, 4, none⟩ = some (.int .i64 s.h.members) := h.blk.cell 4 _ rfl
theorem SegV.c5 (h : SegV w B g v s) : w.cell? ⟨g, 5, none⟩ = some (.string s.h.snap) := h.blk.cell 5 _ rfl
theorem SegV.c6 (h : SegV w B g v s) : w.cell? ⟨g, 6, none⟩ = some v := h.blk.cell 6 _ rfl
theorem SegV.c7 (h : SegV w B g v s) : w.cell? ⟨g, 7, none⟩ = some (.bool s.begun) := h.blk.cell 7 _ rfl
theorem SegV.c8 (h : SegV w B g v s) : w.cell? ⟨g, 8, none⟩ = some (.bool s.whole) := h.blk.cell 8 _ rfl
theorem SegV.c9 (h : SegV w B g v s) : w.cell? ⟨g, 9, none⟩ = some (.int .i64 (s.size : Int)) := h.blk.cell 9 _ rfl
theorem SegV.lt (h : SegV w B g v s) : B ≤ g ∧ g < w.heap.size := ⟨h.low, h.blk.lt⟩
theorem SegV.set {u : Value} {i : Nat} {s' : Sg} (h : SegV w B g v s) (hs : (segA s v).setIfInBounds i u = segA s' v) (hl : s'.h.log = s.h.log) : SegV (w.setCell ⟨g, i, none⟩ u) B g v s' :=
 ⟨hs ▸ h.blk.set i u, hl ▸ (chg_cell g i u w).ownR h.log fun k hk e => h.off (by rw [hk, e]), h.off, h.low, by rw [hl]; exact h.few⟩
theorem SegV.below (h : SegV w B g v s) (i : Nat) (u : Value) : Below B w (w.setCell ⟨g, i, none⟩ u) := (Below.refl B w).setCell (p := ⟨g, i, none⟩) h.low u
theorem SegAt.ext (h : SegAt w B g s) (hb : Below w.heap.size w w') : SegAt w' B g s := by obtain ⟨v, h⟩ := h; exact ⟨v, h.ext hb⟩
end
theorem own_len (p : Option Addr) (n m c : Nat) : (Value.slice p n c).ownBlock = (Value.slice p m c).ownBlock := by cases p <;> rfl
theorem cutE {w : World} {B : Nat} {e : TypeId} {n : Nat} {v : Value} {l : List Ety} (h : OwnR etyE w B e v l) (hn : n ≤ l.length) : ∃ p c, v = .slice p l.length c ∧ subV v 0 n 3 = .slice p n c ∧ OwnR etyE w B e (.slice p n c) (l.take n) := by
 have hl : (l.take n).length = n := by rw [List.length_take]; omega
 rcases Own.head h with ⟨rfl, h0⟩ | ⟨g, cap, rfl, _⟩
 · have hz : l = [] := List.length_eq_zero_iff.1 h0
   subst hz
   have : n = 0 := by simpa using hn
   subst this
   exact ⟨none, 0, rfl, rfl, OwnR.nil _ _ _⟩
 · refine ⟨some ⟨g, 0, none⟩, cap, rfl, ?_, ?_⟩
   · show Value.slice (subP _ _ _ _) _ _ = _
     have e1 : subP (some ⟨g, 0, none⟩) cap 0 3 = some ⟨g, 0, none⟩ := by
      unfold subP; split
      · rfl
      · simp [addr_add]
     rw [e1]; rfl
   · have h1 := Own.cut h n hn
     exact OwnR.of h1 hl.symm (etyE.all_take l n)

theorem segDone {w : World} {B g : Nat} {v : Value} {s : Sg} (h : SegV w B g v s) :
 Calls Tryz.prog 131 #[.pointer (some ⟨g, 0, none⟩)] w fun e w' => e = .returned (.bool (doneS s).isSome) ∧ SegAt w' B g ((doneS s).getD s) ∧ Below B w w' := by
 have c1 := h.c7
 have c2 := h.c8
 have f2 := h.blk.frozen 8
 have hy := Lib.hid (h.set (i := 8) (u := .bool true) (s' := { s with whole := true }) rfl rfl)
 have hb := Lib.hid (h.below 8 (.bool true))
 by_cases hc : s.begun = true ∧ s.whole = false
 · have hd : doneS s = some { s with whole := true } := if_pos hc
   rw [hd]
   rw [hc.1] at c1
   rw [hc.2] at c2
   clear hd hc
   go_enter Tryz.func131, Tryz.ntmps131
   go_wp2
   go_ret
   exact ⟨rfl, ⟨v, hy.out⟩, hb.out⟩
 · have hd : doneS s = none := if_neg hc
   rw [hd]
   clear hd
   have Hc := Lib.hid hc
   clear hc
   cases hb1 : s.begun <;> cases hw1 : s.whole
   all_goals
    rw [hb1] at c1
    rw [hw1] at c2
   case true.false => exact absurd ⟨hb1, hw1⟩ Hc.out
   all_goals
    clear hb1 hw1
    go_enter Tryz.func131, Tryz.ntmps131
    go_wp2
    go_ret
    exact ⟨rfl, ⟨v, h⟩, Below.refl _ _⟩

set_option maxRecDepth 4000 in
set_option maxHeartbeats 2000000 in
theorem segVoted {w : World} {B g : Nat} {v : Value} {s : Sg} (h : SegV w B g v s) (t x : Int) :
 Calls Tryz.prog 132 #[.pointer (some ⟨g, 0, none⟩), .int .i64 t, .int .i64 x] w fun e w' => e = .returned (.bool (votedS s t x).isSome) ∧ SegAt w' B g ((votedS s t x).getD s) ∧ Below B w w' := by
 have c0 := h.c0
 have c1 := h.c1
 have c8 := h.c8
 have f0 := h.blk.frozen 0
 have f1 := h.blk.frozen 1
 have h1 := h.set (i := 0) (u := .int .i64 t) (s' := { s with h := { s.h with term := t } }) rfl rfl
 have h2 := h1.set (i := 1) (u := .int .i64 x) (s' := { s with h := { s.h with term := t, vote := x } }) rfl rfl
 have hy := Lib.hid (And.intro h2 ((h.below 0 (.int .i64 t)).trans (h1.below 1 (.int .i64 x))))
 have hd : votedS s t x = if s.whole = true ∧ s.h.term ≤ t ∧ ¬ (t = s.h.term ∧ s.h.vote ≠ -1) ∧ t ≤ 1099511627776 ∧ -1 ≤ x ∧ x < 7 then some { s with h := { s.h with term := t, vote := x } } else none := rfl
 have Hd := Lib.hid hd
 clear h1 h2 hd
 rcases (Bool.eq_false_or_eq_true s.whole).symm with hw | hw
 · skip
   rw [hw] at c8
   have e : votedS s t x = none := by rw [Hd.out, hw]; exact if_neg (fun h => by simp at h)
   rw [e]
   clear e
   go_enter Tryz.func132, Tryz.ntmps132
   go_wp2
   go_ret
   exact ⟨rfl, ⟨v, h⟩, Below.refl _ _⟩
 · skip
   rw [hw] at c8
   have q1 : (t == s.h.term) = decide (t = s.h.term) := rfl
   have q2 : (s.h.vote != -1) = decide (s.h.vote ≠ -1) := by simp [bne, BEq.beq]
   have Hq := Lib.hid (And.intro q1 q2)
   clear q1 q2
   by_cases hc : s.h.term ≤ t ∧ ¬ (t = s.h.term ∧ s.h.vote ≠ -1) ∧ t ≤ 1099511627776 ∧ -1 ≤ x ∧ x < 7
   · have e : votedS s t x = some { s with h := { s.h with term := t, vote := x } } := Hd.out.trans (if_pos ⟨hw, hc⟩)
     rw [e]
     clear e hw
     obtain ⟨k1, k2, k3, k4, k5⟩ := hc
     have k2' : t = s.h.term → s.h.vote = -1 := fun e => Decidable.not_not.1 (fun hn => k2 ⟨e, hn⟩)
     have K2 := Lib.hid k2'
     clear k2 k2'
     by_cases g1 : (t == s.h.term) = true
     · have g2 : (s.h.vote != -1) = false := by rw [Hq.out.2]; exact decide_eq_false (fun hn => hn (K2.out (by simpa using g1)))
       go_enter Tryz.func132, Tryz.ntmps132
       go_wp2
       go_ret
       exact ⟨rfl, ⟨v, hy.out.1⟩, hy.out.2⟩
     · have g1' : (t == s.h.term) = false := by simpa using g1
       clear g1
       go_enter Tryz.func132, Tryz.ntmps132
       go_wp2
       go_ret
       exact ⟨rfl, ⟨v, hy.out.1⟩, hy.out.2⟩
   · have e : votedS s t x = none := Hd.out.trans (if_neg (fun h => hc h.2))
     rw [e]
     clear e
     have Hc := Lib.hid hc
     clear hc
     cases g1 : (t == s.h.term) <;> cases g2 : (s.h.vote != -1)
     all_goals
      go_enter Tryz.func132, Tryz.ntmps132
      go_wp2
     all_goals
      first
      | (go_ret; exact ⟨rfl, ⟨v, h⟩, Below.refl _ _⟩)
      | (exfalso
         have a1 := Hq.out.1
         have a2 := Hq.out.2
         rw [g1] at a1
         rw [g2] at a2
         have b1 := of_decide_eq_true (p := True) rfl
         refine Hc.out ⟨by omega, ?_, by omega, by omega, by omega⟩
         rintro ⟨z1, z2⟩
         first | exact of_decide_eq_false a1.symm z1 | exact of_decide_eq_false a2.symm z2)
end Go.Proofs.YtgpgcnmnfnnkjaaGreatDoor
end

section
namespace Go.Proofs.YtgpgcnmnfnnkjaaGreatDoor
open Go Go.RowKit Go.PlainAid
attribute [local go_sem] After.same

set_option maxRecDepth 4000 in
set_option maxHeartbeats 2000000 in
theorem segShorter {w : World} {B g : Nat} {v : Value} {s : Sg} (h : SegV w B g v s) (hbase : s.whole = true → 0 ≤ s.h.base) (n : Int) (hn : In64 n) :
 Calls Tryz.prog 133 #[.pointer (some ⟨g, 0, none⟩), .int .i64 n] w fun e w' => e = .returned (.bool (shorterS s n).isSome) ∧ SegAt w' B g ((shorterS s n).getD s) ∧ Below B w w' := by
 obtain ⟨n1, n2⟩ := hn
 have c8 := h.c8
 have c2 := h.c2
 have hd : shorterS s n = if s.whole = true ∧ s.h.base ≤ n ∧ n - s.h.base ≤ s.h.log.length then some { s with h := { s.h with log := s.h.log.take (n - s.h.base).toNat } } else none := rfl
 have Hd := Lib.hid hd
 clear hd
 have hfew := h.few
 rcases (Bool.eq_false_or_eq_true s.whole).symm with hw | hw
 · skip
   rw [hw] at c8
   have e : shorterS s n = none := Hd.out.trans (if_neg (fun h => by rw [hw] at h; simp at h))
   rw [e]
   clear e
   go_enter Tryz.func133, Tryz.ntmps133
   go_wp2
   go_quiet (fail)
   go_wp2
   go_ret
   exact ⟨rfl, ⟨v, h.ext (below_drawn _ _ _)⟩, below_drawn _ _ _⟩
 · skip
   rw [hw] at c8
   have hb0 := hbase hw
   obtain ⟨p0, c0, rfl⟩ := h.log.rd.shape
   have c6 := h.c6
   have hwr : s.h.base ≤ n → IntKind.i64.wrap (n - s.h.base) = n - s.h.base := fun h => by rw [IntKind.wrap_i64]; omega
   by_cases hc : s.h.base ≤ n ∧ n - s.h.base ≤ s.h.log.length
   · have e : shorterS s n = some { s with h := { s.h with log := s.h.log.take (n - s.h.base).toNat } } := Hd.out.trans (if_pos ⟨hw, hc⟩)
     rw [e]
     clear e
     obtain ⟨m, hm⟩ : ∃ m : Nat, n - s.h.base = (m : Int) := ⟨(n - s.h.base).toNat, by omega⟩
     have hmt : (n - s.h.base).toNat = m := by omega
     rw [hmt]
     have hml : m ≤ s.h.log.length := by omega
     obtain ⟨p, c, hv, hsub, hown⟩ := cutE h.log hml
     simp only [Value.slice.injEq, true_and] at hv
     obtain ⟨rfl, rfl⟩ := hv
     have hsl := run_sub_to tEty (P := Tryz.prog) h.log.rd .i64 (n - s.h.base) m hm hml
     rw [hsub] at hsl
     have hml2 : (s.h.log.take m).length = m := by rw [List.length_take]; omega
     have hend : ∀ k, SegV ((w.drewN k).setCell ⟨g, 6, none⟩ (.slice p0 m c0)) B g (.slice p0 m c0) { s with h := { s.h with log := s.h.log.take m } } := fun k =>
      ⟨(h.ext (below_drawn _ _ _)).blk.set 6 (.slice p0 m c0), (chg_cell g 6 _ (w.drewN k)).ownR hown (fun j hj e => h.off (by subst e; exact (own_len _ _ _ _).trans hj)), (fun e => h.off ((own_len _ _ _ _).trans e)), h.low, by show (s.h.log.take m).length ≤ 200; omega⟩
     have hbel : ∀ k, Below B w ((w.drewN k).setCell ⟨g, 6, none⟩ (.slice p0 m c0)) := fun k => (below_drawn B w k).setCell (p := ⟨g, 6, none⟩) h.low _
     have Hend := Lib.hid (And.intro hend hbel)
     have f6 := h.blk.frozen 6
     have hc1 := hc.1
     have hwr1 := hwr hc.1
     have hc2 := hc.2
     have Hm := Lib.hid hm
     clear hm hwr hw hc hmt hend hbel hown hsub
     go_enter Tryz.func133, Tryz.ntmps133
     go_wp2
     go_quiet (fail)
     go_wp2_with fail
     refine wp_region_F (n := 17) (S := fun w' => w'.cell? ⟨g, 6, none⟩ = some (.slice p0 s.h.log.length c0) ∧ w'.cell? ⟨g, 2, none⟩ = some (.int .i64 s.h.base)) (by kernel_rfl) ?_
     have hHeld : (fun w' : World => w'.cell? ⟨g, 6, none⟩ = some (.slice p0 s.h.log.length c0) ∧ w'.cell? ⟨g, 2, none⟩ = some (.int .i64 s.h.base)) (w.drewN nq).drew := ⟨c6, c2⟩
     refine wpAnyF_tk 0 _ _ _ (v := ?_) rfl (by kernel_rfl) (fun _ _ _ h => h) ?_ hHeld ?_
     rotate_left
     · intro w hSw
       try dsimp only at hSw
       obtain ⟨_, _⟩ := hSw
       dsimp only [bare]
       go_simp <;> with_reducible rfl
     try simp only [bare, Act.put, lyA, lyZ, lyS]
     refine wpAnyF_tk 1 _ _ _ (v := ?_) rfl (by kernel_rfl) (fun _ _ _ h => h) ?_ hHeld ?_
     rotate_left
     · intro w hSw
       try dsimp only at hSw
       obtain ⟨_, _⟩ := hSw
       dsimp only [bare]
       go_simp <;> with_reducible rfl
     try simp only [bare, Act.put, lyA, lyZ, lyS]
     refine wpAnyF_tk 2 _ _ _ (v := ?_) rfl (by kernel_rfl) (fun _ _ _ h => h) ?_ hHeld ?_
     rotate_left
     · intro w hSw
       try dsimp only at hSw
       obtain ⟨_, _⟩ := hSw
       dsimp only [bare]
       go_simp <;> with_reducible rfl
     try simp only [bare, Act.put, lyA, lyZ, lyS]
     refine wpAnyF_tk 3 _ _ _ (v := ?_) rfl (by kernel_rfl) (fun _ _ _ h => h) ?_ hHeld ?_
     rotate_left
     · intro w hSw
       try dsimp only at hSw
       obtain ⟨_, _⟩ := hSw
       dsimp only [bare]
       go_simp <;> with_reducible rfl
     try simp only [bare, Act.put, lyA, lyZ, lyS]
     refine wpAnyF_tk 4 _ _ _ (v := ?_) rfl (by kernel_rfl) (fun _ _ _ h => h) ?_ hHeld ?_
     rotate_left
     · intro w hSw
       try dsimp only at hSw
       obtain ⟨_, _⟩ := hSw
       dsimp only [bare]
       go_simp <;> with_reducible rfl
     try simp only [bare, Act.put, lyA, lyZ, lyS]
     refine wpAnyF_tk 5 _ _ _ (v := ?_) rfl (by kernel_rfl) (fun _ _ _ h => h) ?_ hHeld ?_
     rotate_left
     · intro w hSw
       try dsimp only at hSw
       obtain ⟨_, _⟩ := hSw
       dsimp only [bare]
       go_simp <;> with_reducible rfl
     try simp only [bare, Act.put, lyA, lyZ, lyS]
     refine wpAnyF_tk 6 _ _ _ (v := ?_) rfl (by kernel_rfl) (fun _ _ _ h => h) ?_ hHeld ?_
     rotate_left
     · intro w hSw
       try dsimp only at hSw
       obtain ⟨_, _⟩ := hSw
       dsimp only [bare]
       go_simp <;> with_reducible rfl
     try simp only [bare, Act.put, lyA, lyZ, lyS]
     refine wpAnyF_tk 7 _ _ _ (v := ?_) rfl (by kernel_rfl) (fun _ _ _ h => h) ?_ hHeld ?_
     rotate_left
     · intro w hSw
       try dsimp only at hSw
       obtain ⟨_, _⟩ := hSw
       dsimp only [bare]
       go_simp <;> with_reducible rfl
     try simp only [bare, Act.put, lyA, lyZ, lyS]
     refine wpAnyF_tk 8 _ _ _ (v := ?_) rfl (by kernel_rfl) (fun _ _ _ h => h) ?_ hHeld ?_
     rotate_left
     · intro w hSw
       try dsimp only at hSw
       obtain ⟨_, _⟩ := hSw
       dsimp only [bare]
       go_simp <;> with_reducible rfl
     try simp only [bare, Act.put, lyA, lyZ, lyS]
     refine wpAnyF_tk 9 _ _ _ (v := ?_) rfl (by kernel_rfl) (fun _ _ _ h => h) ?_ hHeld ?_
     rotate_left
     · intro w hSw
       try dsimp only at hSw
       obtain ⟨_, _⟩ := hSw
       dsimp only [bare]
       go_simp <;> with_reducible rfl
     try simp only [bare, Act.put, lyA, lyZ, lyS]
     refine wpAnyF_tk 10 _ _ _ (v := ?_) rfl (by kernel_rfl) (fun _ _ _ h => h) ?_ hHeld ?_
     rotate_left
     · intro w hSw
       try dsimp only at hSw
       obtain ⟨_, _⟩ := hSw
       dsimp only [bare]
       go_simp <;> with_reducible rfl
     try simp only [bare, Act.put, lyA, lyZ, lyS]
     refine wpAnyF_tk 11 _ _ _ (v := ?_) rfl (by kernel_rfl) (fun _ _ _ h => h) ?_ hHeld ?_
     rotate_left
     · intro w hSw
       try dsimp only at hSw
       obtain ⟨_, _⟩ := hSw
       dsimp only [bare]
       go_simp <;> with_reducible rfl
     try simp only [bare, Act.put, lyA, lyZ, lyS]
     refine wpAnyF_tk 12 _ _ _ (v := ?_) rfl (by kernel_rfl) (fun _ _ _ h => h) ?_ hHeld ?_
     rotate_left
     · intro w hSw
       try dsimp only at hSw
       obtain ⟨_, _⟩ := hSw
       dsimp only [bare]
       go_simp <;> with_reducible rfl
     try simp only [bare, Act.put, lyA, lyZ, lyS]
     refine wpAnyF_tk 13 _ _ _ (v := ?_) rfl (by kernel_rfl) (fun _ _ _ h => h) ?_ hHeld ?_
     rotate_left
     · intro w hSw
       try dsimp only at hSw
       obtain ⟨_, _⟩ := hSw
       dsimp only [bare]
       go_simp <;> with_reducible rfl
     try simp only [bare, Act.put, lyA, lyZ, lyS]
     refine wpAnyF_tk 14 _ _ _ (v := ?_) rfl (by kernel_rfl) (fun _ _ _ h => h) ?_ hHeld ?_
     rotate_left
     · intro w hSw
       try dsimp only at hSw
       obtain ⟨_, _⟩ := hSw
       dsimp only [bare]
       go_simp <;> with_reducible rfl
     try simp only [bare, Act.put, lyA, lyZ, lyS]
     refine wpAnyF_tk 15 _ _ _ (v := ?_) rfl (by kernel_rfl) (fun _ _ _ h => h) ?_ hHeld ?_
     rotate_left
     · intro w hSw
       try dsimp only at hSw
       obtain ⟨_, _⟩ := hSw
       dsimp only [bare]
       go_simp <;> with_reducible rfl
     try simp only [bare, Act.put, lyA, lyZ, lyS]
     refine wpAnyF_tk 16 _ _ _ (v := ?_) rfl (by kernel_rfl) (fun _ _ _ h => h) ?_ hHeld ?_
     rotate_left
     · intro w hSw
       try dsimp only at hSw
       obtain ⟨_, _⟩ := hSw
       dsimp only [bare]
       go_simp <;> with_reducible rfl
     try simp only [bare, Act.put, lyA, lyZ, lyS]
     refine wpAnyF_end (none) (Op.store 22 (Operand.tmp 51) (Operand.tmp 48)) 0 rfl (by kernel_rfl) (by kernel_rfl) (fun K hK => ?_)
     dsimp only [bare]; go_simp
     refine hK _ _ ?_
     clear hK K
     try simp only [bare, Act.put, lyA, lyZ, lyS]
     go_wp2_with fail
     go_ret
     exact ⟨rfl, ⟨_, Hend.out.1 (nq + 1)⟩, Hend.out.2 (nq + 1)⟩
   · have e : shorterS s n = none := Hd.out.trans (if_neg (fun h => hc h.2))
     rw [e]
     clear e
     have hc' : n < s.h.base ∨ (s.h.base ≤ n ∧ (s.h.log.length : Int) < n - s.h.base) := by omega
     clear hc
     rcases hc' with hc | ⟨hc, hc2⟩
     all_goals
      try have hwr1 := hwr hc
      clear hwr hw
      go_enter Tryz.func133, Tryz.ntmps133
      go_wp2
      go_quiet (fail)
      go_wp2
      go_ret
      exact ⟨rfl, ⟨_, h.ext (below_drawn _ _ _)⟩, below_drawn _ _ _⟩
end Go.Proofs.YtgpgcnmnfnnkjaaGreatDoor
end

section
namespace Go.Proofs.YtgpgcnmnfnnkjaaGreatDoor
open Go Go.RowKit Go.PlainAid
attribute [local go_sem] After.same

theorem segA_fill (s : Sg) (v : Value) (x : Hrd) : (((((((((segA s v).setIfInBounds 0 (.int .i64 x.term)).setIfInBounds 1 (.int .i64 x.vote)).setIfInBounds 2 (.int .i64 x.base)).setIfInBounds 3 (.int .i64 x.bterm)).setIfInBounds 4 (.int .i64 x.members)).setIfInBounds 5 (.string x.snap)).setIfInBounds 6 (.slice none 0 0)).setIfInBounds 7 (.bool true)) = segA { s with h := x, begun := true } (.slice none 0 0) := by kernel_rfl
set_option maxHeartbeats 4000000 in
theorem SegV.fill {w : World} {B g : Nat} {v : Value} {s : Sg} (h : SegV w B g v s) {x : Hrd} (hx : x.log = []) : SegV ((((((((w.setCell ⟨g, 0, none⟩ (.int .i64 x.term)).setCell ⟨g, 1, none⟩ (.int .i64 x.vote)).setCell ⟨g, 2, none⟩ (.int .i64 x.base)).setCell ⟨g, 3, none⟩ (.int .i64 x.bterm)).setCell ⟨g, 4, none⟩ (.int .i64 x.members)).setCell ⟨g, 5, none⟩ (.string x.snap)).setCell ⟨g, 6, none⟩ (.slice none 0 0)).setCell ⟨g, 7, none⟩ (.bool true)) B g (.slice none 0 0) { s with h := x, begun := true } ∧ Below B w ((((((((w.setCell ⟨g, 0, none⟩ (.int .i64 x.term)).setCell ⟨g, 1, none⟩ (.int .i64 x.vote)).setCell ⟨g, 2, none⟩ (.int .i64 x.base)).setCell ⟨g, 3, none⟩ (.int .i64 x.bterm)).setCell ⟨g, 4, none⟩ (.int .i64 x.members)).setCell ⟨g, 5, none⟩ (.string x.snap)).setCell ⟨g, 6, none⟩ (.slice none 0 0)).setCell ⟨g, 7, none⟩ (.bool true)) :=
 ⟨⟨segA_fill s v x ▸ ((((((((h.blk.set 0 (.int .i64 x.term)).set 1 (.int .i64 x.vote)).set 2 (.int .i64 x.base)).set 3 (.int .i64 x.bterm)).set 4 (.int .i64 x.members)).set 5 (.string x.snap)).set 6 (.slice none 0 0)).set 7 (.bool true)), by show OwnR etyE _ _ _ _ x.log; rw [hx]; exact OwnR.nil _ _ _, by simp [Value.ownBlock], h.low, by show x.log.length ≤ 200; rw [hx]; decide⟩, (((((((((Below.refl B w).setCell (p := ⟨g, 0, none⟩) h.low (.int .i64 x.term)).setCell (p := ⟨g, 1, none⟩) h.low (.int .i64 x.vote)).setCell (p := ⟨g, 2, none⟩) h.low (.int .i64 x.base)).setCell (p := ⟨g, 3, none⟩) h.low (.int .i64 x.bterm)).setCell (p := ⟨g, 4, none⟩) h.low (.int .i64 x.members)).setCell (p := ⟨g, 5, none⟩) h.low (.string x.snap)).setCell (p := ⟨g, 6, none⟩) h.low (.slice none 0 0)).setCell (p := ⟨g, 7, none⟩) h.low (.bool true))⟩
set_option maxRecDepth 4000 in
set_option maxHeartbeats 2000000 in
theorem segBegan {w : World} {B g : Nat} {v : Value} {s : Sg} (h : SegV w B g v s) (x : Hrd) (hx : x.log = []) :
 Calls Tryz.prog 129 #[.pointer (some ⟨g, 0, none⟩), hrdA x (.slice none 0 0)] w fun e w' => e = .returned (.bool (beganS s x).isSome) ∧ SegAt w' B g ((beganS s x).getD s) ∧ Below B w w' := by
 have c7 := h.c7
 have hl := h.lt
 have hBw : B ≤ w.heap.size := by omega
 have ca := below_alloc w (.cells #[.int .i64 x.term, .int .i64 x.vote, .int .i64 x.base, .int .i64 x.bterm, .int .i64 x.members, .string x.snap, .slice none 0 0] 24)
 have hne : g ≠ w.heap.size := by omega
 have hcall := walBare x (.slice none 0 0) (w.alloc (.cells #[.int .i64 x.term, .int .i64 x.vote, .int .i64 x.base, .int .i64 x.bterm, .int .i64 x.members, .string x.snap, .slice none 0 0] 24)) (by rw [hx]; exact Rd.nil _)
 have hd : beganS s x = if s.begun = false ∧ bareH x = true then some { s with h := x, begun := true } else none := rfl
 have Hd := Lib.hid hd
 have h2 := h.ext ca
 have kb := Blk.new w #[.int .i64 x.term, .int .i64 x.vote, .int .i64 x.base, .int .i64 x.bterm, .int .i64 x.members, .string x.snap, .slice none 0 0] 24
 clear hd
 cases hb : s.begun with
 | true =>
  rw [hb] at c7
  have e : beganS s x = none := Hd.out.trans (if_neg (fun h => by rw [hb] at h; simp at h))
  rw [e]
  clear e hcall kb
  go_enter Tryz.func129, Tryz.ntmps129
  go_wp2_with fail
  go_ret
  exact ⟨rfl, ⟨v, h2⟩, ca.mono hBw⟩
 | false =>
  rw [hb] at c7
  cases hr : bareH x with
  | false =>
   have e : beganS s x = none := Hd.out.trans (if_neg (fun h => by rw [hr] at h; simp at h))
   rw [e]
   rw [hr] at hcall
   clear e kb
   go_enter Tryz.func129, Tryz.ntmps129
   go_wp2_with fail
   refine hcall.mono ?_
   rintro e w2 ⟨rfl, b2⟩
   go_wp2_with fail
   go_ret
   exact ⟨rfl, ⟨v, h2.ext b2⟩, (ca.trans (b2.mono (by simp))).mono hBw⟩
  | true =>
   have e : beganS s x = some { s with h := x, begun := true } := Hd.out.trans (if_pos ⟨hb, hr⟩)
   rw [e]
   rw [hr] at hcall
   clear e
   go_enter Tryz.func129, Tryz.ntmps129
   go_wp2_with fail
   refine hcall.mono ?_
   rintro e w2 ⟨rfl, b2⟩
   have h3 := h2.ext b2
   have b02 := (ca.trans (b2.mono (by simp))).mono hBw
   have k2 := kb.ext b2
   have kc0 := k2.cell 0 _ rfl
   have f0 := h3.blk.frozen 0
   have kc1 := k2.cell 1 _ rfl
   have f1 := h3.blk.frozen 1
   have kc2 := k2.cell 2 _ rfl
   have f2 := h3.blk.frozen 2
   have kc3 := k2.cell 3 _ rfl
   have f3 := h3.blk.frozen 3
   have kc4 := k2.cell 4 _ rfl
   have f4 := h3.blk.frozen 4
   have kc5 := k2.cell 5 _ rfl
   have f5 := h3.blk.frozen 5
   have kc6 := k2.cell 6 _ rfl
   have f6 := h3.blk.frozen 6
   have f7 := h3.blk.frozen 7
   have d0 := h3.c0
   have d1 := h3.c1
   have d2 := h3.c2
   have d3 := h3.c3
   have d4 := h3.c4
   have d5 := h3.c5
   have d6 := h3.c6
   have d7 := h3.c7
   have Hy := Lib.hid (h3.fill hx)
   clear kb k2 hcall ca h2
   go_wp2_with fail
   go_ret
   exact ⟨rfl, ⟨_, Hy.out.1⟩, b02.trans Hy.out.2⟩
end Go.Proofs.YtgpgcnmnfnnkjaaGreatDoor
end
