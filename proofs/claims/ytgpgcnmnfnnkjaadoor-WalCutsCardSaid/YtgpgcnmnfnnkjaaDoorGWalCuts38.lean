/- Walks of package wal: a segment's shorter, began. Walks of package wal: a segment's began. -/
import Derived.Test.YtgpgcnmnfnnkjaaDoorGWalCuts34
set_option linter.unusedVariables false
set_option linter.unusedSimpArgs false
section
namespace Go.Proofs.YtgpgcnmnfnnkjaaDoor
open Go Go.RowKit Go.PlainAid
attribute [local go_sem] After.same

set_option maxRecDepth 4000 in
set_option maxHeartbeats 2000000 in
theorem segShorter {w : World} {B g : Nat} {v : Value} {s : Sg} (h : SegV w B g v s) (hbase : s.whole = true → 0 ≤ s.h.base) (n : Int) (hn : In64 n) :
    Calls Tryd.prog 76 #[.pointer (some ⟨g, 0, none⟩), .int .i64 n] w fun e w' => e = .returned (.bool (shorterS s n).isSome) ∧ SegAt w' B g ((shorterS s n).getD s) ∧ Below B w w' := by
  obtain ⟨n1, n2⟩ := hn
  have c8 := h.c8
  have c2 := h.c2
  have hd : shorterS s n = if s.whole = true ∧ s.h.base ≤ n ∧ n - s.h.base ≤ s.h.log.length then some { s with h := { s.h with log := s.h.log.take (n - s.h.base).toNat } } else none := rfl
  have Hd := Lib.hid hd
  clear hd
  have hfew := h.few
  rcases (Bool.eq_false_or_eq_true s.whole).symm with hw | hw
  · skip
    rw [hw] at c8
    have e : shorterS s n = none := Hd.out.trans (if_neg (fun h => by rw [hw] at h; simp at h))
    rw [e]
    clear e
    go_enter Tryd.func76, Tryd.ntmps76
    go_wp2
    go_quiet (fail)
    go_wp2
    go_ret
    exact ⟨rfl, ⟨v, h.ext (below_drawn _ _ _)⟩, below_drawn _ _ _⟩
  · skip
    rw [hw] at c8
    have hb0 := hbase hw
    obtain ⟨p0, c0, rfl⟩ := h.log.rd.shape
    have c6 := h.c6
    have hwr : s.h.base ≤ n → IntKind.i64.wrap (n - s.h.base) = n - s.h.base := fun h => by rw [IntKind.wrap_i64]; omega
    by_cases hc : s.h.base ≤ n ∧ n - s.h.base ≤ s.h.log.length
    · have e : shorterS s n = some { s with h := { s.h with log := s.h.log.take (n - s.h.base).toNat } } := Hd.out.trans (if_pos ⟨hw, hc⟩)
      rw [e]
      clear e
      obtain ⟨m, hm⟩ : ∃ m : Nat, n - s.h.base = (m : Int) := ⟨(n - s.h.base).toNat, by omega⟩
      have hmt : (n - s.h.base).toNat = m := by omega
      rw [hmt]
      have hml : m ≤ s.h.log.length := by omega
      obtain ⟨p, c, hv, hsub, hown⟩ := cutE h.log hml
      simp only [Value.slice.injEq, true_and] at hv
      obtain ⟨rfl, rfl⟩ := hv
      have hsl := run_sub_to tEty (P := Tryd.prog) h.log.rd .i64 (n - s.h.base) m hm hml
      rw [hsub] at hsl
      have hml2 : (s.h.log.take m).length = m := by rw [List.length_take]; omega
      have hend : ∀ k, SegV ((w.drewN k).setCell ⟨g, 6, none⟩ (.slice p0 m c0)) B g (.slice p0 m c0) { s with h := { s.h with log := s.h.log.take m } } := fun k =>
        ⟨(h.ext (below_drawn _ _ _)).blk.set 6 (.slice p0 m c0), (chg_cell g 6 _ (w.drewN k)).ownR hown (fun j hj e => h.off (by subst e; exact (own_len _ _ _ _).trans hj)), (fun e => h.off ((own_len _ _ _ _).trans e)), h.low, by show (s.h.log.take m).length ≤ 200; omega⟩
      have hbel : ∀ k, Below B w ((w.drewN k).setCell ⟨g, 6, none⟩ (.slice p0 m c0)) := fun k => (below_drawn B w k).setCell (p := ⟨g, 6, none⟩) h.low _
      have Hend := Lib.hid (And.intro hend hbel)
      have f6 := h.blk.frozen 6
      have hc1 := hc.1
      have hwr1 := hwr hc.1
      have hc2 := hc.2
      have Hm := Lib.hid hm
      clear hm hwr hw hc hmt hend hbel hown hsub
      go_enter Tryd.func76, Tryd.ntmps76
      go_wp2
      go_quiet (fail)
      go_wp2_with fail
      refine wp_region_F (n := 17) (S := fun w' => w'.cell? ⟨g, 6, none⟩ = some (.slice p0 s.h.log.length c0) ∧ w'.cell? ⟨g, 2, none⟩ = some (.int .i64 s.h.base)) (by kernel_rfl) ?_
      have hHeld : (fun w' : World => w'.cell? ⟨g, 6, none⟩ = some (.slice p0 s.h.log.length c0) ∧ w'.cell? ⟨g, 2, none⟩ = some (.int .i64 s.h.base)) (w.drewN nq).drew := ⟨c6, c2⟩
      refine wpAnyF_tk 0 (some 35) (Op.move (Operand.tmp 0)) 104 (v := ?_) rfl (by kernel_rfl) (fun _ _ _ h => h) ?_ hHeld ?_
      rotate_left
      · intro w hSw
        try dsimp only at hSw
        obtain ⟨_, _⟩ := hSw
        dsimp only [bare]
        go_simp <;> with_reducible rfl
      try simp only [bare, Act.put, List.setIfInBounds_toArray, List.set_cons_zero, List.set_cons_succ]
      refine wpAnyF_tk 1 (some 36) (Op.move (Operand.tmp 0)) 104 (v := ?_) rfl (by kernel_rfl) (fun _ _ _ h => h) ?_ hHeld ?_
      rotate_left
      · intro w hSw
        try dsimp only at hSw
        obtain ⟨_, _⟩ := hSw
        dsimp only [bare]
        go_simp <;> with_reducible rfl
      try simp only [bare, Act.put, List.setIfInBounds_toArray, List.set_cons_zero, List.set_cons_succ]
      refine wpAnyF_tk 2 (some 37) (Op.nilCheck (Operand.tmp 36)) 0 (v := ?_) rfl (by kernel_rfl) (fun _ _ _ h => h) ?_ hHeld ?_
      rotate_left
      · intro w hSw
        try dsimp only at hSw
        obtain ⟨_, _⟩ := hSw
        dsimp only [bare]
        go_simp <;> with_reducible rfl
      try simp only [bare, Act.put, List.setIfInBounds_toArray, List.set_cons_zero, List.set_cons_succ]
      refine wpAnyF_tk 3 (some 38) (Op.fieldAddr 63 (Operand.tmp 37) 0) 0 (v := ?_) rfl (by kernel_rfl) (fun _ _ _ h => h) ?_ hHeld ?_
      rotate_left
      · intro w hSw
        try dsimp only at hSw
        obtain ⟨_, _⟩ := hSw
        dsimp only [bare]
        go_simp <;> with_reducible rfl
      try simp only [bare, Act.put, List.setIfInBounds_toArray, List.set_cons_zero, List.set_cons_succ]
      refine wpAnyF_tk 4 (some 39) (Op.fieldAddr 30 (Operand.tmp 38) 6) 0 (v := ?_) rfl (by kernel_rfl) (fun _ _ _ h => h) ?_ hHeld ?_
      rotate_left
      · intro w hSw
        try dsimp only at hSw
        obtain ⟨_, _⟩ := hSw
        dsimp only [bare]
        go_simp <;> with_reducible rfl
      try simp only [bare, Act.put, List.setIfInBounds_toArray, List.set_cons_zero, List.set_cons_succ]
      refine wpAnyF_tk 5 (some 40) (Op.load 28 (Operand.tmp 39)) 28 (v := ?_) rfl (by kernel_rfl) (fun _ _ _ h => h) ?_ hHeld ?_
      rotate_left
      · intro w hSw
        try dsimp only at hSw
        obtain ⟨_, _⟩ := hSw
        dsimp only [bare]
        go_simp <;> with_reducible rfl
      try simp only [bare, Act.put, List.setIfInBounds_toArray, List.set_cons_zero, List.set_cons_succ]
      refine wpAnyF_tk 6 (some 41) (Op.move (Operand.tmp 1)) 3 (v := ?_) rfl (by kernel_rfl) (fun _ _ _ h => h) ?_ hHeld ?_
      rotate_left
      · intro w hSw
        try dsimp only at hSw
        obtain ⟨_, _⟩ := hSw
        dsimp only [bare]
        go_simp <;> with_reducible rfl
      try simp only [bare, Act.put, List.setIfInBounds_toArray, List.set_cons_zero, List.set_cons_succ]
      refine wpAnyF_tk 7 (some 42) (Op.move (Operand.tmp 0)) 104 (v := ?_) rfl (by kernel_rfl) (fun _ _ _ h => h) ?_ hHeld ?_
      rotate_left
      · intro w hSw
        try dsimp only at hSw
        obtain ⟨_, _⟩ := hSw
        dsimp only [bare]
        go_simp <;> with_reducible rfl
      try simp only [bare, Act.put, List.setIfInBounds_toArray, List.set_cons_zero, List.set_cons_succ]
      refine wpAnyF_tk 8 (some 43) (Op.nilCheck (Operand.tmp 42)) 0 (v := ?_) rfl (by kernel_rfl) (fun _ _ _ h => h) ?_ hHeld ?_
      rotate_left
      · intro w hSw
        try dsimp only at hSw
        obtain ⟨_, _⟩ := hSw
        dsimp only [bare]
        go_simp <;> with_reducible rfl
      try simp only [bare, Act.put, List.setIfInBounds_toArray, List.set_cons_zero, List.set_cons_succ]
      refine wpAnyF_tk 9 (some 44) (Op.fieldAddr 63 (Operand.tmp 43) 0) 0 (v := ?_) rfl (by kernel_rfl) (fun _ _ _ h => h) ?_ hHeld ?_
      rotate_left
      · intro w hSw
        try dsimp only at hSw
        obtain ⟨_, _⟩ := hSw
        dsimp only [bare]
        go_simp <;> with_reducible rfl
      try simp only [bare, Act.put, List.setIfInBounds_toArray, List.set_cons_zero, List.set_cons_succ]
      refine wpAnyF_tk 10 (some 45) (Op.fieldAddr 30 (Operand.tmp 44) 2) 0 (v := ?_) rfl (by kernel_rfl) (fun _ _ _ h => h) ?_ hHeld ?_
      rotate_left
      · intro w hSw
        try dsimp only at hSw
        obtain ⟨_, _⟩ := hSw
        dsimp only [bare]
        go_simp <;> with_reducible rfl
      try simp only [bare, Act.put, List.setIfInBounds_toArray, List.set_cons_zero, List.set_cons_succ]
      refine wpAnyF_tk 11 (some 46) (Op.load 3 (Operand.tmp 45)) 3 (v := ?_) rfl (by kernel_rfl) (fun _ _ _ h => h) ?_ hHeld ?_
      rotate_left
      · intro w hSw
        try dsimp only at hSw
        obtain ⟨_, _⟩ := hSw
        dsimp only [bare]
        go_simp <;> with_reducible rfl
      try simp only [bare, Act.put, List.setIfInBounds_toArray, List.set_cons_zero, List.set_cons_succ]
      refine wpAnyF_tk 12 (some 47) (Op.binOp BinOp.sub 3 (Operand.tmp 41) (Operand.tmp 46) 3) 3 (v := ?_) rfl (by kernel_rfl) (fun _ _ _ h => h) ?_ hHeld ?_
      rotate_left
      · intro w hSw
        try dsimp only at hSw
        obtain ⟨_, _⟩ := hSw
        dsimp only [bare]
        go_simp <;> with_reducible rfl
      try simp only [bare, Act.put, List.setIfInBounds_toArray, List.set_cons_zero, List.set_cons_succ]
      refine wpAnyF_tk 13 (some 48) (Op.slice 28 (Operand.tmp 40) none (some (Operand.tmp 47)) none) 28 (v := ?_) rfl (by kernel_rfl) (fun _ _ _ h => h) ?_ hHeld ?_
      rotate_left
      · intro w hSw
        try dsimp only at hSw
        obtain ⟨_, _⟩ := hSw
        dsimp only [bare]
        go_simp <;> with_reducible rfl
      try simp only [bare, Act.put, List.setIfInBounds_toArray, List.set_cons_zero, List.set_cons_succ]
      refine wpAnyF_tk 14 (some 49) (Op.nilCheck (Operand.tmp 35)) 0 (v := ?_) rfl (by kernel_rfl) (fun _ _ _ h => h) ?_ hHeld ?_
      rotate_left
      · intro w hSw
        try dsimp only at hSw
        obtain ⟨_, _⟩ := hSw
        dsimp only [bare]
        go_simp <;> with_reducible rfl
      try simp only [bare, Act.put, List.setIfInBounds_toArray, List.set_cons_zero, List.set_cons_succ]
      refine wpAnyF_tk 15 (some 50) (Op.fieldAddr 63 (Operand.tmp 49) 0) 0 (v := ?_) rfl (by kernel_rfl) (fun _ _ _ h => h) ?_ hHeld ?_
      rotate_left
      · intro w hSw
        try dsimp only at hSw
        obtain ⟨_, _⟩ := hSw
        dsimp only [bare]
        go_simp <;> with_reducible rfl
      try simp only [bare, Act.put, List.setIfInBounds_toArray, List.set_cons_zero, List.set_cons_succ]
      refine wpAnyF_tk 16 (some 51) (Op.fieldAddr 30 (Operand.tmp 50) 6) 0 (v := ?_) rfl (by kernel_rfl) (fun _ _ _ h => h) ?_ hHeld ?_
      rotate_left
      · intro w hSw
        try dsimp only at hSw
        obtain ⟨_, _⟩ := hSw
        dsimp only [bare]
        go_simp <;> with_reducible rfl
      try simp only [bare, Act.put, List.setIfInBounds_toArray, List.set_cons_zero, List.set_cons_succ]
      refine wpAnyF_end (none) (Op.store 28 (Operand.tmp 51) (Operand.tmp 48)) 0 rfl (by kernel_rfl) (by kernel_rfl) (fun K hK => ?_)
      dsimp only [bare]; go_simp
      refine hK _ _ ?_
      clear hK K
      try simp only [bare, Act.put, List.setIfInBounds_toArray, List.set_cons_zero, List.set_cons_succ]
      go_wp2_with fail
      go_ret
      exact ⟨rfl, ⟨_, Hend.out.1 (nq + 1)⟩, Hend.out.2 (nq + 1)⟩
    · have e : shorterS s n = none := Hd.out.trans (if_neg (fun h => hc h.2))
      rw [e]
      clear e
      have hc' : n < s.h.base ∨ (s.h.base ≤ n ∧ (s.h.log.length : Int) < n - s.h.base) := by omega
      clear hc
      rcases hc' with hc | ⟨hc, hc2⟩
      all_goals
        try have hwr1 := hwr hc
        clear hwr hw
        go_enter Tryd.func76, Tryd.ntmps76
        go_wp2
        go_quiet (fail)
        go_wp2
        go_ret
        exact ⟨rfl, ⟨_, h.ext (below_drawn _ _ _)⟩, below_drawn _ _ _⟩
end Go.Proofs.YtgpgcnmnfnnkjaaDoor
end

section
namespace Go.Proofs.YtgpgcnmnfnnkjaaDoor
open Go Go.RowKit Go.PlainAid
attribute [local go_sem] After.same

theorem segA_fill (s : Sg) (v : Value) (x : Hrd) : (((((((((segA s v).setIfInBounds 0 (.int .i64 x.term)).setIfInBounds 1 (.int .i64 x.vote)).setIfInBounds 2 (.int .i64 x.base)).setIfInBounds 3 (.int .i64 x.bterm)).setIfInBounds 4 (.int .i64 x.members)).setIfInBounds 5 (.string x.snap)).setIfInBounds 6 (.slice none 0 0)).setIfInBounds 7 (.bool true)) = segA { s with h := x, begun := true } (.slice none 0 0) := by kernel_rfl
set_option maxHeartbeats 4000000 in
theorem SegV.fill {w : World} {B g : Nat} {v : Value} {s : Sg} (h : SegV w B g v s) {x : Hrd} (hx : x.log = []) : SegV ((((((((w.setCell ⟨g, 0, none⟩ (.int .i64 x.term)).setCell ⟨g, 1, none⟩ (.int .i64 x.vote)).setCell ⟨g, 2, none⟩ (.int .i64 x.base)).setCell ⟨g, 3, none⟩ (.int .i64 x.bterm)).setCell ⟨g, 4, none⟩ (.int .i64 x.members)).setCell ⟨g, 5, none⟩ (.string x.snap)).setCell ⟨g, 6, none⟩ (.slice none 0 0)).setCell ⟨g, 7, none⟩ (.bool true)) B g (.slice none 0 0) { s with h := x, begun := true } ∧ Below B w ((((((((w.setCell ⟨g, 0, none⟩ (.int .i64 x.term)).setCell ⟨g, 1, none⟩ (.int .i64 x.vote)).setCell ⟨g, 2, none⟩ (.int .i64 x.base)).setCell ⟨g, 3, none⟩ (.int .i64 x.bterm)).setCell ⟨g, 4, none⟩ (.int .i64 x.members)).setCell ⟨g, 5, none⟩ (.string x.snap)).setCell ⟨g, 6, none⟩ (.slice none 0 0)).setCell ⟨g, 7, none⟩ (.bool true)) :=
  ⟨⟨segA_fill s v x ▸ ((((((((h.blk.set 0 (.int .i64 x.term)).set 1 (.int .i64 x.vote)).set 2 (.int .i64 x.base)).set 3 (.int .i64 x.bterm)).set 4 (.int .i64 x.members)).set 5 (.string x.snap)).set 6 (.slice none 0 0)).set 7 (.bool true)), by show OwnR etyE _ _ _ _ x.log; rw [hx]; exact OwnR.nil _ _ _, by simp [Value.ownBlock], h.low, by show x.log.length ≤ 200; rw [hx]; decide⟩, (((((((((Below.refl B w).setCell (p := ⟨g, 0, none⟩) h.low (.int .i64 x.term)).setCell (p := ⟨g, 1, none⟩) h.low (.int .i64 x.vote)).setCell (p := ⟨g, 2, none⟩) h.low (.int .i64 x.base)).setCell (p := ⟨g, 3, none⟩) h.low (.int .i64 x.bterm)).setCell (p := ⟨g, 4, none⟩) h.low (.int .i64 x.members)).setCell (p := ⟨g, 5, none⟩) h.low (.string x.snap)).setCell (p := ⟨g, 6, none⟩) h.low (.slice none 0 0)).setCell (p := ⟨g, 7, none⟩) h.low (.bool true))⟩
set_option maxRecDepth 4000 in
set_option maxHeartbeats 2000000 in
theorem segBegan {w : World} {B g : Nat} {v : Value} {s : Sg} (h : SegV w B g v s) (x : Hrd) (hx : x.log = []) :
    Calls Tryd.prog 72 #[.pointer (some ⟨g, 0, none⟩), hrdA x (.slice none 0 0)] w fun e w' => e = .returned (.bool (beganS s x).isSome) ∧ SegAt w' B g ((beganS s x).getD s) ∧ Below B w w' := by
  have c7 := h.c7
  have hl := h.lt
  have hBw : B ≤ w.heap.size := by omega
  have ca := below_alloc w (.cells #[.int .i64 x.term, .int .i64 x.vote, .int .i64 x.base, .int .i64 x.bterm, .int .i64 x.members, .string x.snap, .slice none 0 0] 30)
  have hne : g ≠ w.heap.size := by omega
  have hcall := walBare x (.slice none 0 0) (w.alloc (.cells #[.int .i64 x.term, .int .i64 x.vote, .int .i64 x.base, .int .i64 x.bterm, .int .i64 x.members, .string x.snap, .slice none 0 0] 30)) (by rw [hx]; exact Rd.nil _)
  have hd : beganS s x = if s.begun = false ∧ bareH x = true then some { s with h := x, begun := true } else none := rfl
  have Hd := Lib.hid hd
  have h2 := h.ext ca
  have kb := Blk.new w #[.int .i64 x.term, .int .i64 x.vote, .int .i64 x.base, .int .i64 x.bterm, .int .i64 x.members, .string x.snap, .slice none 0 0] 30
  clear hd
  cases hb : s.begun with
  | true =>
    rw [hb] at c7
    have e : beganS s x = none := Hd.out.trans (if_neg (fun h => by rw [hb] at h; simp at h))
    rw [e]
    clear e hcall kb
    go_enter Tryd.func72, Tryd.ntmps72
    go_wp2_with fail
    go_ret
    exact ⟨rfl, ⟨v, h2⟩, ca.mono hBw⟩
  | false =>
    rw [hb] at c7
    cases hr : bareH x with
    | false =>
      have e : beganS s x = none := Hd.out.trans (if_neg (fun h => by rw [hr] at h; simp at h))
      rw [e]
      rw [hr] at hcall
      clear e kb
      go_enter Tryd.func72, Tryd.ntmps72
      go_wp2_with fail
      refine hcall.mono ?_
      rintro e w2 ⟨rfl, b2⟩
      go_wp2_with fail
      go_ret
      exact ⟨rfl, ⟨v, h2.ext b2⟩, (ca.trans (b2.mono (by simp))).mono hBw⟩
    | true =>
      have e : beganS s x = some { s with h := x, begun := true } := Hd.out.trans (if_pos ⟨hb, hr⟩)
      rw [e]
      rw [hr] at hcall
      clear e
      go_enter Tryd.func72, Tryd.ntmps72
      go_wp2_with fail
      refine hcall.mono ?_
      rintro e w2 ⟨rfl, b2⟩
      have h3 := h2.ext b2
      have b02 := (ca.trans (b2.mono (by simp))).mono hBw
      have k2 := kb.ext b2
      have kc0 := k2.cell 0 _ rfl
      have f0 := h3.blk.frozen 0
      have kc1 := k2.cell 1 _ rfl
      have f1 := h3.blk.frozen 1
      have kc2 := k2.cell 2 _ rfl
      have f2 := h3.blk.frozen 2
      have kc3 := k2.cell 3 _ rfl
      have f3 := h3.blk.frozen 3
      have kc4 := k2.cell 4 _ rfl
      have f4 := h3.blk.frozen 4
      have kc5 := k2.cell 5 _ rfl
      have f5 := h3.blk.frozen 5
      have kc6 := k2.cell 6 _ rfl
      have f6 := h3.blk.frozen 6
      have f7 := h3.blk.frozen 7
      have d0 := h3.c0
      have d1 := h3.c1
      have d2 := h3.c2
      have d3 := h3.c3
      have d4 := h3.c4
      have d5 := h3.c5
      have d6 := h3.c6
      have d7 := h3.c7
      have Hy := Lib.hid (h3.fill hx)
      clear kb k2 hcall ca h2
      go_wp2_with fail
      go_ret
      exact ⟨rfl, ⟨_, Hy.out.1⟩, b02.trans Hy.out.2⟩
end Go.Proofs.YtgpgcnmnfnnkjaaDoor
end
