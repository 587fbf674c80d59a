/- Walks of package wal: a segment's grown. Walks of package wal: a segment and a reader side by side (for take). -/
import Derived.Test.YtgpgcnmnfnnkjaaGreatDoorGWalOpens25
set_option linter.unusedVariables false
set_option linter.unusedSimpArgs false
section
namespace Go.Proofs.YtgpgcnmnfnnkjaaGreatDoor
open Go Go.RowKit Go.PlainAid
attribute [local go_sem] After.same
theorem lastT_some {l : List Ety} {b : Int} {m : Nat} (h : l.length = m + 1) : lastT l b = (l[m]'(by omega)).term := by
 have e : l.getLast? = some (l[m]'(by omega)) := by
  rw [List.getLast?_eq_getElem?, show l.length - 1 = m from by omega]; exact List.getElem?_eq_getElem _
 unfold lastT
 rw [e]
theorem lastT_none {l : List Ety} {b : Int} (h : l.length = 0) : lastT l b = b := by
 rw [List.length_eq_zero_iff.1 h]; rfl
theorem SegV.grow {w w' : World} {B g : Nat} {v v' : Value} {s : Sg} {x : Ety} (h : SegV w B g v s) (hg : w.grownBy w' v.ownBlock) (hb : Below B w w') (own : OwnR etyE w' B 73 v' (s.h.log ++ [x])) (hw : v'.ownBlock = v.ownBlock ∨ v'.ownBlock = some w.heap.size) (hf : s.h.log.length < 200) :
 SegV (w'.setCell ⟨g, 6, none⟩ v') B g v' { s with h := { s.h with log := s.h.log ++ [x] } } ∧ Below B w (w'.setCell ⟨g, 6, none⟩ v') := by
 have hoff : v'.ownBlock ≠ some g := by
  rcases hw with e | e
  · rw [e]; exact h.off
  · rw [e]; intro hq; cases hq; exact Nat.lt_irrefl _ h.blk.lt
 exact ⟨⟨(h.blk.grown hg h.off).set 6 v', (chg_cell g 6 _ w').ownR own (fun k hk e => hoff (by rw [hk, e])), hoff, h.low, by show (s.h.log ++ [x]).length ≤ 200; rw [List.length_append, List.length_singleton]; omega⟩, hb.setCell (p := ⟨g, 6, none⟩) h.low v'⟩

section
variable {P : Program} {t e : TypeId} {sz bytes : Nat} {w : World} {ops : Array Oper} {o : Oper} {a : Act} {α : Type} {E : Enc α}
theorem step_appRW {K : Act → World → Prop} {Q : Exit → Act → World → Prop} {X : Prop} (T : SlT P t e E.sz bytes) (hgd : o.guard = none) {s y : Operand} (ho : o.op = .call { callee := .builtin .append, args := #[s, y], argTypes := #[t, t] })
 {B : Nat} {v : Value} {l : List α} (own : OwnR E w B e v l) (hs : a.eval s = v)
 {x : Value} {m : List α} (src : Rd E w x m) (hx : a.eval y = x) (hbytes : (l.length + m.length) * bytes ≤ 140737488355328) (hB : B ≤ w.heap.size)
 (h : ∀ v' w', OwnR E w' B e v' (l ++ m) → w.grownBy w' v.ownBlock → Below B w w' → (v'.ownBlock = v.ownBlock ∨ v'.ownBlock = some w.heap.size) → K (a.put o.dst v') w') : if Region.wanted o (yielded ops a.tmps) = true then Oper.wp P o a w K Q else X := by
 have hw : Region.wanted o (yielded ops a.tmps) = true := by simp [Region.wanted, hgd]
 rw [if_pos hw]
 obtain ⟨v', w', hr, h2, h3, h4⟩ := run_app T o.type own src hbytes hB
 have h5 := run_app_where T o.type own src hbytes v' w' hr
 unfold Oper.wp execOp
 simp only [ho, resolve, invoke, builtin, Sem.run_bind, Sem.run_pure, Result.andThen_ok, List.map_toArray, List.map_cons, List.map_nil, hs, hx, hr]
 exact h v' w' (OwnR.snoc h2) h3 h4 h5
end
set_option maxRecDepth 8000 in
set_option maxHeartbeats 4000000 in
theorem segGrown {w : World} {B g : Nat} {v : Value} {s : Sg} (h : SegV w B g v s) (hb0 : 0 ≤ s.h.base) (hb1 : s.h.base ≤ 1099511627776) (x : Ety) :
 Calls Tryz.prog 130 #[.pointer (some ⟨g, 0, none⟩), etyV x] w fun e w' => e = .returned (.bool (grownS s x).isSome) ∧ SegAt w' B g ((grownS s x).getD s) ∧ Below B w w' := by
 have hl := h.lt
 have hBw : B ≤ w.heap.size := by omega
 have hfew := h.few
 have ca := below_alloc w (.cells #[.int .i64 x.term, .int .i64 x.members, .string x.data] 73)
 have kb := Blk.new w #[.int .i64 x.term, .int .i64 x.members, .string x.data] 73
 have hW1 : (w.alloc (.cells #[.int .i64 x.term, .int .i64 x.members, .string x.data] 73)).heap.size = w.heap.size + 1 := by simp
 have h2 := h.ext ca
 have hd : grownS s x = if s.h.log.length < 200 ∧ s.h.base + s.h.log.length < 1099511627776 ∧ fitsE x (lastT s.h.log s.h.bterm) s.h.term = true then some { s with h := { s.h with log := s.h.log ++ [x] } } else none := rfl
 have Hd := Lib.hid hd
 clear hd
 obtain ⟨p, c, rfl⟩ := h.log.rd.shape
 have hT : (s.h.log.length = 0 ∧ lastT s.h.log s.h.bterm = s.h.bterm) ∨ ∃ (m bb off : Nat) (t : Int), s.h.log.length = m + 1 ∧ p = some ⟨bb, off, none⟩ ∧ lastT s.h.log s.h.bterm = t ∧ w.cell? ⟨bb, off + m * 3, none⟩ = some (.int .i64 t) ∧ bb < w.heap.size := by
  rcases Nat.eq_zero_or_pos s.h.log.length with h0 | h0
  · exact .inl ⟨h0, lastT_none h0⟩
  · obtain ⟨bb, off, rfl⟩ := Rd.blk h.log.rd h0
    obtain ⟨m, hm⟩ : ∃ m, s.h.log.length = m + 1 := ⟨s.h.log.length - 1, by omega⟩
    exact .inr ⟨m, bb, off, _, hm, rfl, lastT_some hm, (ety3 h.log.rd (show m < s.h.log.length by omega)).1, (h.log.lt bb rfl).2⟩
 have hcl : ∀ (T : Int) (z : After (w.alloc (.cells #[.int .i64 x.term, .int .i64 x.members, .string x.data] 73))), lastT s.h.log s.h.bterm = T → Calls Tryz.prog 102 #[.agg #[.int .i64 x.term, .int .i64 x.members, .string x.data], .int .i64 T, .int .i64 s.h.term] z.1 fun e w' => e = .returned (.bool (fitsE x T s.h.term)) ∧ ∃ y : After (w.alloc (.cells #[.int .i64 x.term, .int .i64 x.members, .string x.data] 73)), w' = y.1 := fun T z _ => z.call (walFits x T s.h.term z.1)
 have z0 : ∀ z : After (w.alloc (.cells #[.int .i64 x.term, .int .i64 x.members, .string x.data] 73)), z.1.cell? ⟨g, 0, none⟩ = some (.int .i64 s.h.term) := fun z => (h2.ext z.2).c0
 have z2 : ∀ z : After (w.alloc (.cells #[.int .i64 x.term, .int .i64 x.members, .string x.data] 73)), z.1.cell? ⟨g, 2, none⟩ = some (.int .i64 s.h.base) := fun z => (h2.ext z.2).c2
 have zx0 : ∀ z : After (w.alloc (.cells #[.int .i64 x.term, .int .i64 x.members, .string x.data] 73)), z.1.cell? ⟨w.heap.size, 0, none⟩ = some (.int .i64 x.term) := fun z => (kb.ext z.2).cell 0 _ rfl
 have zx1 : ∀ z : After (w.alloc (.cells #[.int .i64 x.term, .int .i64 x.members, .string x.data] 73)), z.1.cell? ⟨w.heap.size, 1, none⟩ = some (.int .i64 x.members) := fun z => (kb.ext z.2).cell 1 _ rfl
 have zx2 : ∀ z : After (w.alloc (.cells #[.int .i64 x.term, .int .i64 x.members, .string x.data] 73)), z.1.cell? ⟨w.heap.size, 2, none⟩ = some (.string x.data) := fun z => (kb.ext z.2).cell 2 _ rfl
 have z6 : ∀ z : After (w.alloc (.cells #[.int .i64 x.term, .int .i64 x.members, .string x.data] 73)), z.1.cell? ⟨g, 6, none⟩ = some (.slice p s.h.log.length c) := fun z => (h2.ext z.2).c6
 have c0 := h.c0
 have c2 := h.c2
 have c3 := h.c3
 have c6 := h.c6
 have hnw : g ≠ w.heap.size := by omega
 have hend : ∀ w7, Below (w.alloc (.cells #[.int .i64 x.term, .int .i64 x.members, .string x.data] 73)).heap.size (w.alloc (.cells #[.int .i64 x.term, .int .i64 x.members, .string x.data] 73)) w7 → SegV w7 B g (.slice p s.h.log.length c) s ∧ Blk w7 w.heap.size #[.int .i64 x.term, .int .i64 x.members, .string x.data] 73 ∧ Below B w w7 := fun w7 c7 => ⟨h2.ext c7, kb.ext c7, (ca.mono hBw).trans (c7.mono (by rw [hW1]; omega))⟩
 have Hend := Lib.hid hend
 have hvN := Lib.hid (fun k hk => (h.log.lt k hk).2)
 clear hend h2 kb h
 unfold etyV
 have enter : ∀ (T : Int), lastT s.h.log s.h.bterm = T → True := fun _ _ => trivial
 rcases hT with ⟨h0, hT⟩ | ⟨m, bb, off, T, hm, rfl, hT, cT, hbw⟩
 · rw [hT] at Hd
   have hcl := fun z => hcl s.h.bterm z hT
   rw [h0] at hfew Hd c6 z6
   have hwr : IntKind.i64.wrap s.h.base = s.h.base := by rw [IntKind.wrap_i64]; omega
   by_cases q1 : 0 < 200
   · by_cases q2 : s.h.base + ((0 : Nat) : Int) < 1099511627776
     · cases q3 : fitsE x s.h.bterm s.h.term with
       | false =>
        have e : grownS s x = none := Hd.out.trans (if_neg (fun h => by rw [q3] at h; simp at h))
        rw [e]
        rw [q3] at hcl
        have qi2 : decide ((1099511627776 : Int) ≤ s.h.base) = false := decide_eq_false (by omega)
        clear e
        go_enter Tryz.func130, Tryz.ntmps130
        go_wp2_with fail
        generalize w.alloc (.cells #[.int .i64 x.term, .int .i64 x.members, .string x.data] 73) = W at *
        refine wp_region_after (by kernel_rfl) (by kernel_rfl) ?_
        repeat (go_big_quiet_step (exact hcl _))
        refine wpQuiet_nil ?_
        rintro w7 ⟨⟨w8, c7⟩, hw⟩
        obtain rfl : w7 = w8 := hw
        obtain ⟨h7, k7, b7⟩ := Hend.out w7 c7
        clear hcl z0 z2 z6 zx0 zx1 zx2
        go_wp2_with fail
        go_ret
        exact ⟨rfl, ⟨_, h7⟩, b7⟩
       | true =>
        have e : grownS s x = some { s with h := { s.h with log := s.h.log ++ [x] } } := Hd.out.trans (if_pos ⟨q1, q2, q3⟩)
        rw [e]
        rw [q3] at hcl
        have qi2 : decide ((1099511627776 : Int) ≤ s.h.base) = false := decide_eq_false (by omega)
        clear e
        go_enter Tryz.func130, Tryz.ntmps130
        go_wp2_with fail
        generalize w.alloc (.cells #[.int .i64 x.term, .int .i64 x.members, .string x.data] 73) = W at *
        refine wp_region_after (by kernel_rfl) (by kernel_rfl) ?_
        repeat (go_big_quiet_step (exact hcl _))
        refine wpQuiet_nil ?_
        rintro w7 ⟨⟨w8, c7⟩, hw⟩
        obtain rfl : w7 = w8 := hw
        obtain ⟨h7, k7, b7⟩ := Hend.out w7 c7
        have y0 := k7.cell 0 _ rfl
        have y1 := k7.cell 1 _ rfl
        have y2 := k7.cell 2 _ rfl
        have y6 := h7.c6
        rw [h0] at y6
        have own := h7.log
        have hs7 := h7.lt
        clear hcl z0 z2 z6 zx0 zx1 zx2 c0 c2 c3 c6
        go_wp2_with fail
        refine wp_region_F (n := 12) (S := fun w' : World => w'.cell? ⟨g, 6, none⟩ = some (.slice p 0 c) ∧ (w'.cell? ⟨w.heap.size, 0, none⟩ = some (.int .i64 x.term) ∧ (w'.cell? ⟨w.heap.size, 1, none⟩ = some (.int .i64 x.members) ∧ w'.cell? ⟨w.heap.size, 2, none⟩ = some (.string x.data)))) (by kernel_rfl) ?_
        have hHeld : (fun w' : World => w'.cell? ⟨g, 6, none⟩ = some (.slice p 0 c) ∧ (w'.cell? ⟨w.heap.size, 0, none⟩ = some (.int .i64 x.term) ∧ (w'.cell? ⟨w.heap.size, 1, none⟩ = some (.int .i64 x.members) ∧ w'.cell? ⟨w.heap.size, 2, none⟩ = some (.string x.data)))) w7.drew := ⟨y6, y0, y1, y2⟩
        refine wpAnyF_tk 0 _ _ _ (v := ?_) rfl (by kernel_rfl) (fun _ _ _ h => h) ?_ hHeld ?_
        rotate_left
        · intro w hSw
          try dsimp only at hSw
          obtain ⟨_, _, _, _⟩ := hSw
          dsimp only [bare]
          go_simp <;> with_reducible rfl
        try simp only [bare, Act.put, lyA, lyZ, lyS]
        refine wpAnyF_tk 1 _ _ _ (v := ?_) rfl (by kernel_rfl) (fun _ _ _ h => h) ?_ hHeld ?_
        rotate_left
        · intro w hSw
          try dsimp only at hSw
          obtain ⟨_, _, _, _⟩ := hSw
          dsimp only [bare]
          go_simp <;> with_reducible rfl
        try simp only [bare, Act.put, lyA, lyZ, lyS]
        refine wpAnyF_tk 2 _ _ _ (v := ?_) rfl (by kernel_rfl) (fun _ _ _ h => h) ?_ hHeld ?_
        rotate_left
        · intro w hSw
          try dsimp only at hSw
          obtain ⟨_, _, _, _⟩ := hSw
          dsimp only [bare]
          go_simp <;> with_reducible rfl
        try simp only [bare, Act.put, lyA, lyZ, lyS]
        refine wpAnyF_tk 3 _ _ _ (v := ?_) rfl (by kernel_rfl) (fun _ _ _ h => h) ?_ hHeld ?_
        rotate_left
        · intro w hSw
          try dsimp only at hSw
          obtain ⟨_, _, _, _⟩ := hSw
          dsimp only [bare]
          go_simp <;> with_reducible rfl
        try simp only [bare, Act.put, lyA, lyZ, lyS]
        refine wpAnyF_tk 4 _ _ _ (v := ?_) rfl (by kernel_rfl) (fun _ _ _ h => h) ?_ hHeld ?_
        rotate_left
        · intro w hSw
          try dsimp only at hSw
          obtain ⟨_, _, _, _⟩ := hSw
          dsimp only [bare]
          go_simp <;> with_reducible rfl
        try simp only [bare, Act.put, lyA, lyZ, lyS]
        refine wpAnyF_tk 5 _ _ _ (v := ?_) rfl (by kernel_rfl) (fun _ _ _ h => h) ?_ hHeld ?_
        rotate_left
        · intro w hSw
          try dsimp only at hSw
          obtain ⟨_, _, _, _⟩ := hSw
          dsimp only [bare]
          go_simp <;> with_reducible rfl
        try simp only [bare, Act.put, lyA, lyZ, lyS]
        refine wpAnyF_tk 6 _ _ _ (v := ?_) rfl (by kernel_rfl) (fun _ _ _ h => h) ?_ hHeld ?_
        rotate_left
        · intro w hSw
          try dsimp only at hSw
          obtain ⟨_, _, _, _⟩ := hSw
          dsimp only [bare]
          go_simp <;> with_reducible rfl
        try simp only [bare, Act.put, lyA, lyZ, lyS]
        refine wpAnyF_one 7 (some 70) (Op.buildSlice 22 1 #[(0, Operand.tmp 69)]) 22 rfl (by kernel_rfl) (fun K hK => ?_)
        dsimp only [bare]; go_simp
        obtain ⟨w8, hw8⟩ : ∃ z, z = (w7.alloc (.cells #[.int .i64 x.term, .int .i64 x.members, .string x.data] 73)).drew := ⟨_, rfl⟩
        have bE : Below w7.heap.size w7 w8 := by rw [hw8]; exact (below_alloc w7 _).drew
        have lit : OwnR etyE w8 0 73 (.slice (some ⟨w7.heap.size, 0, none⟩) 1 1) [x] := by rw [hw8]; exact (OwnR.litAt etyE w7 #[.int .i64 x.term, .int .i64 x.members, .string x.data] 73 [x] 1 0 w7.heap.size rfl rfl rfl (by unfold maxLen; omega) (Nat.zero_le _)).drew
        rw [← hw8]
        clear hw8
        have h8 := h7.ext bE
        have k8 := k7.ext bE
        refine hK _ _ ⟨by have := h8.c6; rw [h0] at this; exact this, k8.cell 0 _ rfl, k8.cell 1 _ rfl, k8.cell 2 _ rfl⟩ (fun hHeld => ?_)
        clear hK K
        try simp only [bare, Act.put, lyA, lyZ, lyS]
        refine wpAnyF_one 8 (some 71) (Op.call { callee := Callee.builtin Builtin.append, args := #[Operand.tmp 68, Operand.tmp 70], argTypes := #[22, 22] }) 22 rfl (by kernel_rfl) (fun K hK => ?_)
        refine step_appRW (E := etyE) (s := .tmp 68) (y := .tmp 70) (B := B) (l := s.h.log) (m := [x]) tEty rfl rfl h8.log (by simp [Act.eval, Act.put, h0]) lit.rd (by simp [Act.eval, Act.put]) (by simp; omega) (by have := h8.lt; omega) ?_
        intro v9 w9 own9 g9 b9 at9
        have k9 := h8.blk.grown g9 h8.off
        have s9 := h8.grow g9 b9 own9 at9 (by rw [h0]; omega)
        have x9 : w9.cell? ⟨w.heap.size, 0, none⟩ = some (.int .i64 x.term) ∧ w9.cell? ⟨w.heap.size, 1, none⟩ = some (.int .i64 x.members) ∧ w9.cell? ⟨w.heap.size, 2, none⟩ = some (.string x.data) := by
         have hk := k8.grown g9 (fun e => absurd (hvN.out _ e) (Nat.lt_irrefl _))
         exact ⟨hk.cell 0 _ rfl, hk.cell 1 _ rfl, hk.cell 2 _ rfl⟩
        refine hK _ _ ⟨by have := k9.cell 6 _ rfl; rw [h0] at this; exact this, x9.1, x9.2.1, x9.2.2⟩ (fun hHeld => ?_)
        clear hK K
        try simp only [bare, Act.put, lyA, lyZ, lyS]
        refine wpAnyF_tk 9 _ _ _ (v := ?_) rfl (by kernel_rfl) (fun _ _ _ h => h) ?_ hHeld ?_
        rotate_left
        · intro w hSw
          try dsimp only at hSw
          obtain ⟨_, _, _, _⟩ := hSw
          dsimp only [bare]
          go_simp <;> with_reducible rfl
        try simp only [bare, Act.put, lyA, lyZ, lyS]
        refine wpAnyF_tk 10 _ _ _ (v := ?_) rfl (by kernel_rfl) (fun _ _ _ h => h) ?_ hHeld ?_
        rotate_left
        · intro w hSw
          try dsimp only at hSw
          obtain ⟨_, _, _, _⟩ := hSw
          dsimp only [bare]
          go_simp <;> with_reducible rfl
        try simp only [bare, Act.put, lyA, lyZ, lyS]
        refine wpAnyF_tk 11 _ _ _ (v := ?_) rfl (by kernel_rfl) (fun _ _ _ h => h) ?_ hHeld ?_
        rotate_left
        · intro w hSw
          try dsimp only at hSw
          obtain ⟨_, _, _, _⟩ := hSw
          dsimp only [bare]
          go_simp <;> with_reducible rfl
        try simp only [bare, Act.put, lyA, lyZ, lyS]
        have f9 := k9.frozen 6
        have y9 := k9.cell 6 _ rfl
        have S9 := Lib.hid (And.intro s9.1 (b7.trans ((bE.mono (by have := h7.lt; omega)).trans s9.2)))
        obtain ⟨p9, q9, hv9⟩ := own9.rd.shape
        generalize (s.h.log ++ [x]).length = n9 at hv9
        subst hv9
        clear s9 own9 at9 g9 k9 h8 k8 lit hHeld x9
        refine wpAnyF_end (none) (Op.store 22 (Operand.tmp 74) (Operand.tmp 71)) 0 rfl (by kernel_rfl) (by kernel_rfl) (fun K hK => ?_)
        dsimp only [bare]; go_simp
        refine hK _ _ ?_
        clear hK K
        try simp only [bare, Act.put, lyA, lyZ, lyS]
        go_wp2_with fail
        go_ret
        exact ⟨rfl, ⟨_, S9.out.1⟩, S9.out.2⟩
     · have e : grownS s x = none := Hd.out.trans (if_neg (fun h => q2 h.2.1))
       rw [e]
       have qi2 : decide ((1099511627776 : Int) ≤ s.h.base) = true := decide_eq_true (by omega)
       clear e

       go_enter Tryz.func130, Tryz.ntmps130
       go_wp2_with fail
       generalize w.alloc (.cells #[.int .i64 x.term, .int .i64 x.members, .string x.data] 73) = W at *
       refine wp_region_after (by kernel_rfl) (by kernel_rfl) ?_
       repeat (go_big_quiet_step (exact hcl _))
       refine wpQuiet_nil ?_
       rintro w7 ⟨⟨w8, c7⟩, hw⟩
       obtain rfl : w7 = w8 := hw
       obtain ⟨h7, k7, b7⟩ := Hend.out w7 c7
       clear hcl z0 z2 z6 zx0 zx1 zx2
       go_wp2_with fail
       go_ret
       exact ⟨rfl, ⟨_, h7⟩, b7⟩
   · exact absurd (by decide) q1
 · rw [hT] at Hd
   have hcl := fun z => hcl T z hT
   rw [hm] at hfew Hd c6 z6
   have cT2 : (w.alloc (.cells #[.int .i64 x.term, .int .i64 x.members, .string x.data] 73)).cell? ⟨bb, off + m * 3, none⟩ = some (.int .i64 T) := by rw [ca.cell (p := ⟨bb, off + m * 3, none⟩) (by show bb < _; omega)]; exact cT
   have hwr : IntKind.i64.wrap (s.h.base + ((m : Int) + 1)) = s.h.base + ((m : Int) + 1) := by rw [IntKind.wrap_i64]; omega
   by_cases q1 : (m + 1) < 200
   · by_cases q2 : s.h.base + (((m + 1) : Nat) : Int) < 1099511627776
     · cases q3 : fitsE x T s.h.term with
       | false =>
        have e : grownS s x = none := Hd.out.trans (if_neg (fun h => by rw [q3] at h; simp at h))
        rw [e]
        rw [q3] at hcl
        have qi2 : decide ((1099511627776 : Int) ≤ s.h.base + ((m : Int) + 1)) = false := decide_eq_false (by omega)
        clear e
        have qi1 : decide ((200 : Int) ≤ ((m : Int) + 1)) = false := decide_eq_false (by omega)
        go_enter Tryz.func130, Tryz.ntmps130
        go_wp2_with fail
        generalize w.alloc (.cells #[.int .i64 x.term, .int .i64 x.members, .string x.data] 73) = W at *
        refine wp_region_after (by kernel_rfl) (by kernel_rfl) ?_
        repeat (go_big_quiet_step (exact hcl _))
        refine wpQuiet_nil ?_
        rintro w7 ⟨⟨w8, c7⟩, hw⟩
        obtain rfl : w7 = w8 := hw
        obtain ⟨h7, k7, b7⟩ := Hend.out w7 c7
        clear hcl z0 z2 z6 zx0 zx1 zx2
        go_wp2_with fail
        go_ret
        exact ⟨rfl, ⟨_, h7⟩, b7⟩
       | true =>
        have e : grownS s x = some { s with h := { s.h with log := s.h.log ++ [x] } } := Hd.out.trans (if_pos ⟨q1, q2, q3⟩)
        rw [e]
        rw [q3] at hcl
        have qi2 : decide ((1099511627776 : Int) ≤ s.h.base + ((m : Int) + 1)) = false := decide_eq_false (by omega)
        clear e
        have qi1 : decide ((200 : Int) ≤ ((m : Int) + 1)) = false := decide_eq_false (by omega)
        go_enter Tryz.func130, Tryz.ntmps130
        go_wp2_with fail
        generalize w.alloc (.cells #[.int .i64 x.term, .int .i64 x.members, .string x.data] 73) = W at *
        refine wp_region_after (by kernel_rfl) (by kernel_rfl) ?_
        repeat (go_big_quiet_step (exact hcl _))
        refine wpQuiet_nil ?_
        rintro w7 ⟨⟨w8, c7⟩, hw⟩
        obtain rfl : w7 = w8 := hw
        obtain ⟨h7, k7, b7⟩ := Hend.out w7 c7
        have y0 := k7.cell 0 _ rfl
        have y1 := k7.cell 1 _ rfl
        have y2 := k7.cell 2 _ rfl
        have y6 := h7.c6
        rw [hm] at y6
        have own := h7.log
        have hs7 := h7.lt
        clear hcl z0 z2 z6 zx0 zx1 zx2 c0 c2 c3 c6
        go_wp2_with fail
        refine wp_region_F (n := 12) (S := fun w' : World => w'.cell? ⟨g, 6, none⟩ = some (.slice (some ⟨bb, off, none⟩) (m + 1) c) ∧ (w'.cell? ⟨w.heap.size, 0, none⟩ = some (.int .i64 x.term) ∧ (w'.cell? ⟨w.heap.size, 1, none⟩ = some (.int .i64 x.members) ∧ w'.cell? ⟨w.heap.size, 2, none⟩ = some (.string x.data)))) (by kernel_rfl) ?_
        have hHeld : (fun w' : World => w'.cell? ⟨g, 6, none⟩ = some (.slice (some ⟨bb, off, none⟩) (m + 1) c) ∧ (w'.cell? ⟨w.heap.size, 0, none⟩ = some (.int .i64 x.term) ∧ (w'.cell? ⟨w.heap.size, 1, none⟩ = some (.int .i64 x.members) ∧ w'.cell? ⟨w.heap.size, 2, none⟩ = some (.string x.data)))) w7.drew := ⟨y6, y0, y1, y2⟩
        refine wpAnyF_tk 0 _ _ _ (v := ?_) rfl (by kernel_rfl) (fun _ _ _ h => h) ?_ hHeld ?_
        rotate_left
        · intro w hSw
          try dsimp only at hSw
          obtain ⟨_, _, _, _⟩ := hSw
          dsimp only [bare]
          go_simp <;> with_reducible rfl
        try simp only [bare, Act.put, lyA, lyZ, lyS]
        refine wpAnyF_tk 1 _ _ _ (v := ?_) rfl (by kernel_rfl) (fun _ _ _ h => h) ?_ hHeld ?_
        rotate_left
        · intro w hSw
          try dsimp only at hSw
          obtain ⟨_, _, _, _⟩ := hSw
          dsimp only [bare]
          go_simp <;> with_reducible rfl
        try simp only [bare, Act.put, lyA, lyZ, lyS]
        refine wpAnyF_tk 2 _ _ _ (v := ?_) rfl (by kernel_rfl) (fun _ _ _ h => h) ?_ hHeld ?_
        rotate_left
        · intro w hSw
          try dsimp only at hSw
          obtain ⟨_, _, _, _⟩ := hSw
          dsimp only [bare]
          go_simp <;> with_reducible rfl
        try simp only [bare, Act.put, lyA, lyZ, lyS]
        refine wpAnyF_tk 3 _ _ _ (v := ?_) rfl (by kernel_rfl) (fun _ _ _ h => h) ?_ hHeld ?_
        rotate_left
        · intro w hSw
          try dsimp only at hSw
          obtain ⟨_, _, _, _⟩ := hSw
          dsimp only [bare]
          go_simp <;> with_reducible rfl
        try simp only [bare, Act.put, lyA, lyZ, lyS]
        refine wpAnyF_tk 4 _ _ _ (v := ?_) rfl (by kernel_rfl) (fun _ _ _ h => h) ?_ hHeld ?_
        rotate_left
        · intro w hSw
          try dsimp only at hSw
          obtain ⟨_, _, _, _⟩ := hSw
          dsimp only [bare]
          go_simp <;> with_reducible rfl
        try simp only [bare, Act.put, lyA, lyZ, lyS]
        refine wpAnyF_tk 5 _ _ _ (v := ?_) rfl (by kernel_rfl) (fun _ _ _ h => h) ?_ hHeld ?_
        rotate_left
        · intro w hSw
          try dsimp only at hSw
          obtain ⟨_, _, _, _⟩ := hSw
          dsimp only [bare]
          go_simp <;> with_reducible rfl
        try simp only [bare, Act.put, lyA, lyZ, lyS]
        refine wpAnyF_tk 6 _ _ _ (v := ?_) rfl (by kernel_rfl) (fun _ _ _ h => h) ?_ hHeld ?_
        rotate_left
        · intro w hSw
          try dsimp only at hSw
          obtain ⟨_, _, _, _⟩ := hSw
          dsimp only [bare]
          go_simp <;> with_reducible rfl
        try simp only [bare, Act.put, lyA, lyZ, lyS]
        refine wpAnyF_one 7 (some 70) (Op.buildSlice 22 1 #[(0, Operand.tmp 69)]) 22 rfl (by kernel_rfl) (fun K hK => ?_)
        dsimp only [bare]; go_simp
        obtain ⟨w8, hw8⟩ : ∃ z, z = (w7.alloc (.cells #[.int .i64 x.term, .int .i64 x.members, .string x.data] 73)).drew := ⟨_, rfl⟩
        have bE : Below w7.heap.size w7 w8 := by rw [hw8]; exact (below_alloc w7 _).drew
        have lit : OwnR etyE w8 0 73 (.slice (some ⟨w7.heap.size, 0, none⟩) 1 1) [x] := by rw [hw8]; exact (OwnR.litAt etyE w7 #[.int .i64 x.term, .int .i64 x.members, .string x.data] 73 [x] 1 0 w7.heap.size rfl rfl rfl (by unfold maxLen; omega) (Nat.zero_le _)).drew
        rw [← hw8]
        clear hw8
        have h8 := h7.ext bE
        have k8 := k7.ext bE
        refine hK _ _ ⟨by have := h8.c6; rw [hm] at this; exact this, k8.cell 0 _ rfl, k8.cell 1 _ rfl, k8.cell 2 _ rfl⟩ (fun hHeld => ?_)
        clear hK K
        try simp only [bare, Act.put, lyA, lyZ, lyS]
        refine wpAnyF_one 8 (some 71) (Op.call { callee := Callee.builtin Builtin.append, args := #[Operand.tmp 68, Operand.tmp 70], argTypes := #[22, 22] }) 22 rfl (by kernel_rfl) (fun K hK => ?_)
        refine step_appRW (E := etyE) (s := .tmp 68) (y := .tmp 70) (B := B) (l := s.h.log) (m := [x]) tEty rfl rfl h8.log (by simp [Act.eval, Act.put, hm]) lit.rd (by simp [Act.eval, Act.put]) (by simp; omega) (by have := h8.lt; omega) ?_
        intro v9 w9 own9 g9 b9 at9
        have k9 := h8.blk.grown g9 h8.off
        have s9 := h8.grow g9 b9 own9 at9 (by rw [hm]; omega)
        have x9 : w9.cell? ⟨w.heap.size, 0, none⟩ = some (.int .i64 x.term) ∧ w9.cell? ⟨w.heap.size, 1, none⟩ = some (.int .i64 x.members) ∧ w9.cell? ⟨w.heap.size, 2, none⟩ = some (.string x.data) := by
         have hk := k8.grown g9 (fun e => absurd (hvN.out _ e) (Nat.lt_irrefl _))
         exact ⟨hk.cell 0 _ rfl, hk.cell 1 _ rfl, hk.cell 2 _ rfl⟩
        refine hK _ _ ⟨by have := k9.cell 6 _ rfl; rw [hm] at this; exact this, x9.1, x9.2.1, x9.2.2⟩ (fun hHeld => ?_)
        clear hK K
        try simp only [bare, Act.put, lyA, lyZ, lyS]
        refine wpAnyF_tk 9 _ _ _ (v := ?_) rfl (by kernel_rfl) (fun _ _ _ h => h) ?_ hHeld ?_
        rotate_left
        · intro w hSw
          try dsimp only at hSw
          obtain ⟨_, _, _, _⟩ := hSw
          dsimp only [bare]
          go_simp <;> with_reducible rfl
        try simp only [bare, Act.put, lyA, lyZ, lyS]
        refine wpAnyF_tk 10 _ _ _ (v := ?_) rfl (by kernel_rfl) (fun _ _ _ h => h) ?_ hHeld ?_
        rotate_left
        · intro w hSw
          try dsimp only at hSw
          obtain ⟨_, _, _, _⟩ := hSw
          dsimp only [bare]
          go_simp <;> with_reducible rfl
        try simp only [bare, Act.put, lyA, lyZ, lyS]
        refine wpAnyF_tk 11 _ _ _ (v := ?_) rfl (by kernel_rfl) (fun _ _ _ h => h) ?_ hHeld ?_
        rotate_left
        · intro w hSw
          try dsimp only at hSw
          obtain ⟨_, _, _, _⟩ := hSw
          dsimp only [bare]
          go_simp <;> with_reducible rfl
        try simp only [bare, Act.put, lyA, lyZ, lyS]
        have f9 := k9.frozen 6
        have y9 := k9.cell 6 _ rfl
        have S9 := Lib.hid (And.intro s9.1 (b7.trans ((bE.mono (by have := h7.lt; omega)).trans s9.2)))
        obtain ⟨p9, q9, hv9⟩ := own9.rd.shape
        generalize (s.h.log ++ [x]).length = n9 at hv9
        subst hv9
        clear s9 own9 at9 g9 k9 h8 k8 lit hHeld x9
        refine wpAnyF_end (none) (Op.store 22 (Operand.tmp 74) (Operand.tmp 71)) 0 rfl (by kernel_rfl) (by kernel_rfl) (fun K hK => ?_)
        dsimp only [bare]; go_simp
        refine hK _ _ ?_
        clear hK K
        try simp only [bare, Act.put, lyA, lyZ, lyS]
        go_wp2_with fail
        go_ret
        exact ⟨rfl, ⟨_, S9.out.1⟩, S9.out.2⟩
     · have e : grownS s x = none := Hd.out.trans (if_neg (fun h => q2 h.2.1))
       rw [e]
       have qi2 : decide ((1099511627776 : Int) ≤ s.h.base + ((m : Int) + 1)) = true := decide_eq_true (by omega)
       clear e
       have qi1 : decide ((200 : Int) ≤ ((m : Int) + 1)) = false := decide_eq_false (by omega)
       go_enter Tryz.func130, Tryz.ntmps130
       go_wp2_with fail
       generalize w.alloc (.cells #[.int .i64 x.term, .int .i64 x.members, .string x.data] 73) = W at *
       refine wp_region_after (by kernel_rfl) (by kernel_rfl) ?_
       repeat (go_big_quiet_step (exact hcl _))
       refine wpQuiet_nil ?_
       rintro w7 ⟨⟨w8, c7⟩, hw⟩
       obtain rfl : w7 = w8 := hw
       obtain ⟨h7, k7, b7⟩ := Hend.out w7 c7
       clear hcl z0 z2 z6 zx0 zx1 zx2
       go_wp2_with fail
       go_ret
       exact ⟨rfl, ⟨_, h7⟩, b7⟩
   · have e : grownS s x = none := Hd.out.trans (if_neg (fun h => q1 h.1))
     rw [e]
     have qi1 : decide ((200 : Int) ≤ ((m : Int) + 1)) = true := decide_eq_true (by omega)
     clear e
     go_enter Tryz.func130, Tryz.ntmps130
     go_wp2_with fail
     generalize w.alloc (.cells #[.int .i64 x.term, .int .i64 x.members, .string x.data] 73) = W at *
     refine wp_region_after (by kernel_rfl) (by kernel_rfl) ?_
     repeat (go_big_quiet_step (exact hcl _))
     refine wpQuiet_nil ?_
     rintro w7 ⟨⟨w8, c7⟩, hw⟩
     obtain rfl : w7 = w8 := hw
     obtain ⟨h7, k7, b7⟩ := Hend.out w7 c7
     clear hcl z0 z2 z6 zx0 zx1 zx2
     go_wp2_with fail
     go_ret
     exact ⟨rfl, ⟨_, h7⟩, b7⟩
end Go.Proofs.YtgpgcnmnfnnkjaaGreatDoor
end

section
namespace Go.Proofs.YtgpgcnmnfnnkjaaGreatDoor
open Go Go.RowKit Go.PlainAid
structure TkW (w0 w : World) (B g gr : Nat) (v vr : Value) (s : Sg) (r : Rdr) : Prop where
 seg : SegV w B g v s
 rdr : RdrAt w gr vr r
 low : B ≤ gr
 ng : g ≠ gr
 nv : v.ownBlock ≠ some gr
 bel : Below B w0 w
 start : B ≤ w0.heap.size
section
variable {w0 w w' : World} {B g gr : Nat} {v vr : Value} {s : Sg} {r : Rdr}
theorem TkW.ext (h : TkW w0 w B g gr v vr s r) (hb : Below w.heap.size w w') : TkW w0 w' B g gr v vr s r :=
 ⟨h.seg.ext hb, h.rdr.ext hb, h.low, h.ng, h.nv, h.bel.trans (hb.mono (Nat.le_trans h.start h.bel.size)), h.start⟩
theorem TkW.read (h : TkW w0 w B g gr v vr s r) {r' : Rdr} (hr : RdrAt w' gr vr r') (hc : Chg (fun k => k = gr) w w') : TkW w0 w' B g gr v vr s r' :=
 ⟨h.seg.chg hc h.ng (fun k hk e => h.nv (by rw [hk, e])), hr, h.low, h.ng, h.nv, h.bel.trans (hc.below (fun k hk => by rw [hk]; exact h.low) (Nat.le_trans h.start h.bel.size)), h.start⟩
theorem TkW.num (h : TkW w0 w B g gr v vr s r) :
 Calls Tryz.prog 109 #[.pointer (some ⟨gr, 0, none⟩)] w fun x w' => x = .returned (.int .i64 (rNum r).1) ∧ TkW w0 w' B g gr v vr s (rNum r).2 ∧ Chg (fun k => k = gr) w w' :=
 (rdrNum gr vr r w h.rdr).mono fun _ _ ⟨h1, h2, h3⟩ => ⟨h1, h.read h2 h3, h3⟩
theorem TkW.text (h : TkW w0 w B g gr v vr s r) (most : Int) :
 Calls Tryz.prog 110 #[.pointer (some ⟨gr, 0, none⟩), .int .i64 most] w fun x w' => x = .returned (.string ⟨(rText most r).1.toArray⟩) ∧ TkW w0 w' B g gr v vr s (rText most r).2 ∧ Chg (fun k => k = gr) w w' :=
 (rdrText gr vr r most w h.rdr).mono fun _ _ ⟨h1, h2, h3⟩ => ⟨h1, h.read h2 h3, h3⟩
theorem TkW.fin (h : TkW w0 w B g gr v vr s r) :
 Calls Tryz.prog 111 #[.pointer (some ⟨gr, 0, none⟩)] w fun x w' => x = .returned (.int .i64 (rEnd r).1) ∧ TkW w0 w' B g gr v vr s (rEnd r).2 ∧ Chg (fun k => k = gr) w w' :=
 (rdrEnd gr vr r w h.rdr).mono fun _ _ ⟨h1, h2, h3⟩ => ⟨h1, h.read h2 h3, h3⟩
end
structure TkH (w0 w : World) (B g gr : Nat) (v vr : Value) (s : Sg) (r : Rdr) (H : Nat) (cs : Array Value) (t : TypeId) : Prop where
 tk : TkW w0 w B g gr v vr s r
 blk : Blk w H cs t
 lowH : B ≤ H
 nH : g ≠ H ∧ gr ≠ H ∧ v.ownBlock ≠ some H ∧ vr.ownBlock ≠ some H
section
variable {w0 w w' : World} {B g gr H : Nat} {v vr : Value} {s : Sg} {r : Rdr} {cs : Array Value} {t : TypeId}
theorem TkW.alloc (h : TkW w0 w B g gr v vr s r) (hvr : ∀ k, vr.ownBlock = some k → k < w.heap.size) (cs : Array Value) (t : TypeId) : TkH w0 (w.alloc (.cells cs t)) B g gr v vr s r w.heap.size cs t := by
 have h1 := h.seg.blk.lt
 have h2 := h.rdr.blk.lt
 exact ⟨h.ext (below_alloc _ _), Blk.new _ _ _, Nat.le_trans h.start h.bel.size, by omega, by omega, fun e => by have := (h.seg.log.lt _ e).2; omega, fun e => by have := hvr _ e; omega⟩
theorem TkH.read (h : TkH w0 w B g gr v vr s r H cs t) {r' : Rdr} (hr : TkW w0 w' B g gr v vr s r') (hc : Chg (fun k => k = gr) w w') : TkH w0 w' B g gr v vr s r' H cs t :=
 ⟨hr, hc.blk h.blk (fun e => h.nH.2.1 e.symm), h.lowH, h.nH⟩
theorem TkH.num (h : TkH w0 w B g gr v vr s r H cs t) :
 Calls Tryz.prog 109 #[.pointer (some ⟨gr, 0, none⟩)] w fun x w' => x = .returned (.int .i64 (rNum r).1) ∧ TkH w0 w' B g gr v vr s (rNum r).2 H cs t := h.tk.num.mono fun _ _ ⟨h1, h2, h3⟩ => ⟨h1, h.read h2 h3⟩
theorem TkH.text (h : TkH w0 w B g gr v vr s r H cs t) (most : Int) :
 Calls Tryz.prog 110 #[.pointer (some ⟨gr, 0, none⟩), .int .i64 most] w fun x w' => x = .returned (.string ⟨(rText most r).1.toArray⟩) ∧ TkH w0 w' B g gr v vr s (rText most r).2 H cs t := (h.tk.text most).mono fun _ _ ⟨h1, h2, h3⟩ => ⟨h1, h.read h2 h3⟩
theorem TkH.fin (h : TkH w0 w B g gr v vr s r H cs t) :
 Calls Tryz.prog 111 #[.pointer (some ⟨gr, 0, none⟩)] w fun x w' => x = .returned (.int .i64 (rEnd r).1) ∧ TkH w0 w' B g gr v vr s (rEnd r).2 H cs t := h.tk.fin.mono fun _ _ ⟨h1, h2, h3⟩ => ⟨h1, h.read h2 h3⟩
theorem TkH.set (h : TkH w0 w B g gr v vr s r H cs t) (i : Nat) (u : Value) : TkH w0 (w.setCell ⟨H, i, none⟩ u) B g gr v vr s r H (cs.setIfInBounds i u) t := by
 have hc := chg_cell H i u w
 obtain ⟨n1, n2, n3, n4⟩ := h.nH
 exact ⟨⟨h.tk.seg.chg hc n1 (fun k hk e => n3 (by rw [hk, e])), h.tk.rdr.chg hc n2 (fun k hk e => n4 (by rw [hk, e])), h.tk.low, h.tk.ng, h.tk.nv, h.tk.bel.setCell (p := ⟨H, i, none⟩) h.lowH u, h.tk.start⟩, h.blk.set i u, h.lowH, h.nH⟩
end
theorem rNum_in (r : Rdr) : In64 (rNum r).1 := rNum_fits r
theorem takeS_none {s : Sg} {p : List UInt8} (h : parseR p = none) : takeS s p = none := by unfold takeS; rw [h]; rfl
theorem takeS_some {s : Sg} {p : List UInt8} {x : Rec} (h : parseR p = some x) : takeS s p = stepS s x := by unfold takeS; rw [h]; rfl
theorem parse_kind {p : List UInt8} (h : (rNum (rd0 p)).2.err ≠ 0) : (rNum (rd0 p)).1 = 0 := by
 have : ∀ r : Rdr, (rNum r).2.err ≠ 0 → (rNum r).1 = 0 := fun r h => by
  unfold rNum at *
  split at h
  · split at h
    · exact absurd rfl h
    · split <;> rfl
  · split <;> first | rfl | contradiction
 exact this _ h
end Go.Proofs.YtgpgcnmnfnnkjaaGreatDoor
end
