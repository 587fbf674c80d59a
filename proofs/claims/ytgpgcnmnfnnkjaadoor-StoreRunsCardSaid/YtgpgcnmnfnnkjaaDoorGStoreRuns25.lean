/- Walks of package wal: a segment's began. -/
import Derived.Test.YtgpgcnmnfnnkjaaDoorGStoreRuns24
set_option linter.unusedVariables false
set_option linter.unusedSimpArgs false
section
namespace Go.Proofs.YtgpgcnmnfnnkjaaDoor
open Go Go.RowKit Go.PlainAid
attribute [local go_sem] After.same

theorem segA_fill (s : Sg) (v : Value) (x : Hrd) : (((((((((segA s v).setIfInBounds 0 (.int .i64 x.term)).setIfInBounds 1 (.int .i64 x.vote)).setIfInBounds 2 (.int .i64 x.base)).setIfInBounds 3 (.int .i64 x.bterm)).setIfInBounds 4 (.int .i64 x.members)).setIfInBounds 5 (.string x.snap)).setIfInBounds 6 (.slice none 0 0)).setIfInBounds 7 (.bool true)) = segA { s with h := x, begun := true } (.slice none 0 0) := by kernel_rfl
set_option maxHeartbeats 4000000 in
theorem SegV.fill {w : World} {B g : Nat} {v : Value} {s : Sg} (h : SegV w B g v s) {x : Hrd} (hx : x.log = []) : SegV ((((((((w.setCell ⟨g, 0, none⟩ (.int .i64 x.term)).setCell ⟨g, 1, none⟩ (.int .i64 x.vote)).setCell ⟨g, 2, none⟩ (.int .i64 x.base)).setCell ⟨g, 3, none⟩ (.int .i64 x.bterm)).setCell ⟨g, 4, none⟩ (.int .i64 x.members)).setCell ⟨g, 5, none⟩ (.string x.snap)).setCell ⟨g, 6, none⟩ (.slice none 0 0)).setCell ⟨g, 7, none⟩ (.bool true)) B g (.slice none 0 0) { s with h := x, begun := true } ∧ Below B w ((((((((w.setCell ⟨g, 0, none⟩ (.int .i64 x.term)).setCell ⟨g, 1, none⟩ (.int .i64 x.vote)).setCell ⟨g, 2, none⟩ (.int .i64 x.base)).setCell ⟨g, 3, none⟩ (.int .i64 x.bterm)).setCell ⟨g, 4, none⟩ (.int .i64 x.members)).setCell ⟨g, 5, none⟩ (.string x.snap)).setCell ⟨g, 6, none⟩ (.slice none 0 0)).setCell ⟨g, 7, none⟩ (.bool true)) :=
 ⟨⟨segA_fill s v x ▸ ((((((((h.blk.set 0 (.int .i64 x.term)).set 1 (.int .i64 x.vote)).set 2 (.int .i64 x.base)).set 3 (.int .i64 x.bterm)).set 4 (.int .i64 x.members)).set 5 (.string x.snap)).set 6 (.slice none 0 0)).set 7 (.bool true)), by show OwnR etyE _ _ _ _ x.log; rw [hx]; exact OwnR.nil _ _ _, by simp [Value.ownBlock], h.low, by show x.log.length ≤ 200; rw [hx]; decide⟩, (((((((((Below.refl B w).setCell (p := ⟨g, 0, none⟩) h.low (.int .i64 x.term)).setCell (p := ⟨g, 1, none⟩) h.low (.int .i64 x.vote)).setCell (p := ⟨g, 2, none⟩) h.low (.int .i64 x.base)).setCell (p := ⟨g, 3, none⟩) h.low (.int .i64 x.bterm)).setCell (p := ⟨g, 4, none⟩) h.low (.int .i64 x.members)).setCell (p := ⟨g, 5, none⟩) h.low (.string x.snap)).setCell (p := ⟨g, 6, none⟩) h.low (.slice none 0 0)).setCell (p := ⟨g, 7, none⟩) h.low (.bool true))⟩
set_option maxRecDepth 4000 in
set_option maxHeartbeats 2000000 in
theorem segBegan {w : World} {B g : Nat} {v : Value} {s : Sg} (h : SegV w B g v s) (x : Hrd) (hx : x.log = []) :
 Calls Tryd.prog 72 #[.pointer (some ⟨g, 0, none⟩), hrdA x (.slice none 0 0)] w fun e w' => e = .returned (.bool (beganS s x).isSome) ∧ SegAt w' B g ((beganS s x).getD s) ∧ Below B w w' := by
 have c7 := h.c7
 have hl := h.lt
 have hBw : B ≤ w.heap.size := by omega
 have ca := below_alloc w (.cells #[.int .i64 x.term, .int .i64 x.vote, .int .i64 x.base, .int .i64 x.bterm, .int .i64 x.members, .string x.snap, .slice none 0 0] 30)
 have hne : g ≠ w.heap.size := by omega
 have hcall := walBare x (.slice none 0 0) (w.alloc (.cells #[.int .i64 x.term, .int .i64 x.vote, .int .i64 x.base, .int .i64 x.bterm, .int .i64 x.members, .string x.snap, .slice none 0 0] 30)) (by rw [hx]; exact Rd.nil _)
 have hd : beganS s x = if s.begun = false ∧ bareH x = true then some { s with h := x, begun := true } else none := rfl
 have Hd := Lib.hid hd
 have h2 := h.ext ca
 have kb := Blk.new w #[.int .i64 x.term, .int .i64 x.vote, .int .i64 x.base, .int .i64 x.bterm, .int .i64 x.members, .string x.snap, .slice none 0 0] 30
 clear hd
 cases hb : s.begun with
 | true =>
  rw [hb] at c7
  have e : beganS s x = none := Hd.out.trans (if_neg (fun h => by rw [hb] at h; simp at h))
  rw [e]
  clear e hcall kb
  go_enter Tryd.func72, Tryd.ntmps72
  go_wp2_with fail
  go_ret
  exact ⟨rfl, ⟨v, h2⟩, ca.mono hBw⟩
 | false =>
  rw [hb] at c7
  cases hr : bareH x with
  | false =>
   have e : beganS s x = none := Hd.out.trans (if_neg (fun h => by rw [hr] at h; simp at h))
   rw [e]
   rw [hr] at hcall
   clear e kb
   go_enter Tryd.func72, Tryd.ntmps72
   go_wp2_with fail
   refine hcall.mono ?_
   rintro e w2 ⟨rfl, b2⟩
   go_wp2_with fail
   go_ret
   exact ⟨rfl, ⟨v, h2.ext b2⟩, (ca.trans (b2.mono (by simp))).mono hBw⟩
  | true =>
   have e : beganS s x = some { s with h := x, begun := true } := Hd.out.trans (if_pos ⟨hb, hr⟩)
   rw [e]
   rw [hr] at hcall
   clear e
   go_enter Tryd.func72, Tryd.ntmps72
   go_wp2_with fail
   refine hcall.mono ?_
   rintro e w2 ⟨rfl, b2⟩
   have h3 := h2.ext b2
   have b02 := (ca.trans (b2.mono (by simp))).mono hBw
   have k2 := kb.ext b2
   have kc0 := k2.cell 0 _ rfl
   have f0 := h3.blk.frozen 0
   have kc1 := k2.cell 1 _ rfl
   have f1 := h3.blk.frozen 1
   have kc2 := k2.cell 2 _ rfl
   have f2 := h3.blk.frozen 2
   have kc3 := k2.cell 3 _ rfl
   have f3 := h3.blk.frozen 3
   have kc4 := k2.cell 4 _ rfl
   have f4 := h3.blk.frozen 4
   have kc5 := k2.cell 5 _ rfl
   have f5 := h3.blk.frozen 5
   have kc6 := k2.cell 6 _ rfl
   have f6 := h3.blk.frozen 6
   have f7 := h3.blk.frozen 7
   have d0 := h3.c0
   have d1 := h3.c1
   have d2 := h3.c2
   have d3 := h3.c3
   have d4 := h3.c4
   have d5 := h3.c5
   have d6 := h3.c6
   have d7 := h3.c7
   have Hy := Lib.hid (h3.fill hx)
   clear kb k2 hcall ca h2
   go_wp2_with fail
   go_ret
   exact ⟨rfl, ⟨_, Hy.out.1⟩, b02.trans Hy.out.2⟩
end Go.Proofs.YtgpgcnmnfnnkjaaDoor
end
