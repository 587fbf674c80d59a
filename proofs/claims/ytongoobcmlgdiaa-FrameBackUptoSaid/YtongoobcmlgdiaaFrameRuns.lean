/- FrameRuns: chapter 17's runs, walked by the contracts of package frame. -/
import Derived.Test.YtongoobcmlgdiaaFrameScan
import Derived.Test.YtongoobcmlgdiaaFrameRefNext
import Derived.Lib.SlBytesConst
namespace Go.Proofs.Ytongoobcmlgdiaa
open Go Go.RowKit

theorem fruns1 : Frm.put [] [97, 98] = [2, 0, 0, 0, 97, 98, 106, 99, 142, 158] := by decide +kernel
theorem fruns2 : Frm.toAt [2, 0, 0, 0, 97, 98, 106, 99, 142, 158] 0 = 10 ∧ Frm.errAt [2, 0, 0, 0, 97, 98, 106, 99, 142, 158] 0 = 0 ∧ Frm.payAt [2, 0, 0, 0, 97, 98, 106, 99, 142, 158] 0 = [97, 98] := by decide +kernel
theorem fruns3 : Frm.errAt [0, 0, 0, 0, 0, 0, 0, 0] 0 = 4 := by decide +kernel
theorem fruns4 : Frm.errAt [2, 0, 0, 0, 97, 98, 106, 99, 142] 0 = 3 := by decide +kernel
theorem fruns5 : Frm.all [2, 0, 0, 0, 97, 98, 106, 99, 142, 158, 2, 0, 0, 0, 97, 98, 106, 99, 142, 158, 0] = ([[97, 98], [97, 98]], 20) := by decide +kernel

set_option maxHeartbeats 1000000 in
theorem frameRuns (w : World) : Calls Try.prog 9 #[] w fun e w' => e = .returned (.bool true) ∧ Below w.heap.size w w' := by
  have kc := fun (w : World) (C : Array Value) (n c : Nat) => Lib.run_convert_bytes_const (P := Try.prog) w 22 5 C n c Try.underlying22 Try.underlying5
  go_enter Try.func9, Try.ntmps9
  go_wp2_with fail
  with_reducible refine (framePut _ _ [] [97, 98] _ (Bytes.nil _) ?_ (by decide) (by decide)).mono ?_
  · exact litBytes _ [97, 98] _ _
  rintro e w1 ⟨r1, rfl, own1, b1⟩
  rw [fruns1] at own1
  replace b1 := (below_alloc w _).trans (b1.mono (by simp))
  clear kc
  obtain ⟨p1, c1, rfl⟩ := own1.bytes.shapeN (n := 10) rfl
  have own1b : Bytes w1 (.slice p1 10 c1) [2, 0, 0, 0, 97, 98, 106, 99, 142, 158] := own1.bytes
  clear own1
  go_wp2_with fail
  with_reducible refine (frameNext _ _ 0 _ own1b (by decide)).mono ?_
  rintro e w2 ⟨r2, rfl, own2, b2⟩
  rw [fruns2.2.2] at own2
  rw [fruns2.1, fruns2.2.1]
  have b02 := b1.trans (b2.mono b1.size)
  have own1b2 := own1b.ext b2
  clear own1b b1 b2
  go_wp2_with (first
    | (at_make; refine wpList_mkFull tBytes rfl rfl _ 8 (.int .u8 0) (by kernel_rfl) rfl rfl rfl rfl rfl rfl (by omega) (by unfold maxLen; omega) (Nat.le_refl _) ?_; intro g w3 own3 hg g3 b3; clear g3)
    | fail)
  with_reducible refine (frameNext _ [0, 0, 0, 0, 0, 0, 0, 0] 0 _ ?_ (by decide)).mono ?_
  · exact (OwnB.of (l := [0, 0, 0, 0, 0, 0, 0, 0]) own3 rfl rfl).bytes
  rintro e w4 ⟨r4, rfl, _, b4⟩
  rw [fruns3]
  have b24 := b3.trans (b4.mono b3.size)
  have own1b4 := own1b2.ext b24
  have own24 := own2.ext b24
  have b04 := b02.trans (b24.mono b02.size)
  have hsub := run_sub_to tBytes (P := Try.prog) own1b4 .i64 9 9 rfl (by decide)
  have gsub := own1b4.sub 0 9 (by decide) (by decide)
  have e9 : (([2, 0, 0, 0, 97, 98, 106, 99, 142, 158] : List UInt8).drop 0).take (9 - 0) = [2, 0, 0, 0, 97, 98, 106, 99, 142] := rfl
  rw [e9] at gsub
  generalize subV _ 0 9 1 = v9 at *
  obtain ⟨p9, c9, rfl⟩ := gsub.shapeN (n := 9) rfl
  clear own1b2 own2 b02 b24 b3 b4 own3 hg e9
  go_wp2_with fail
  with_reducible refine (frameNext _ _ 0 _ gsub (by decide)).mono ?_
  rintro e w5 ⟨r5, rfl, _, b5⟩
  rw [fruns4]
  have own15 := own1b4.ext b5
  have own25 := own24.ext b5
  have b05 := b04.trans (b5.mono b04.size)
  clear own1b4 own24 b04 b5 gsub hsub
  have c15 : Cells w5 1 (.slice p1 10 c1) 10 (([2, 0, 0, 0, 97, 98, 106, 99, 142, 158] : List UInt8).map byteV) := own15
  clear own15
  go_wp2_with (first
    | (at_builtin; refine wpList_app tBytes rfl rfl (Own.lit _ #[] _ 0 _ rfl (by simp) (Nat.zero_le _) (Nat.le_refl _)) rfl (Cells.ext c15 (below_alloc _ _)) rfl (by omega) (by simp) ?_; intro v6 w6 own6 g6 b6; clear g6; replace b6 := (below_alloc _ _).trans b6)
    | (at_builtin; refine wpList_app tBytes rfl rfl own6 rfl (Cells.ext c15 b6) rfl (by omega) b6.size ?_; intro v7 w7 own7 g7 b7; clear g7 own6; replace b7 := b6.trans b7; clear b6)
    | (at_builtin; refine wpList_app tBytes rfl rfl (Own.ext own7 (below_alloc _ _)) rfl (Own.cells (Own.lit _ _ _ 1 0 rfl (by simp [Value.oneCell']) (by unfold maxLen; omega) (Nat.zero_le _))) rfl (by omega) (by have := b7.size; simp; omega) ?_; intro v8 w8 own8 g8 b8; clear g8; replace b8 := b7.trans (((below_alloc _ _).mono b7.size).trans b8); clear b7)
    | fail)
  with_reducible refine (frameScan _ [2, 0, 0, 0, 97, 98, 106, 99, 142, 158, 2, 0, 0, 0, 97, 98, 106, 99, 142, 158, 0] _ ?_ (by decide)).mono ?_
  · exact (OwnB.of (l := [2, 0, 0, 0, 97, 98, 106, 99, 142, 158, 2, 0, 0, 0, 97, 98, 106, 99, 142, 158, 0]) own8 rfl rfl).bytes
  rintro e w9 ⟨r9, rfl, own9, b9⟩
  rw [fruns5] at own9
  rw [fruns5]
  have b59 := b8.trans (b9.mono b8.size)
  have own29 := own25.ext b59
  have b09 := b05.trans (b59.mono b05.size)
  clear own7 own8 b8 b9 own25 b59 b05 c15
  obtain ⟨vs, ho, hro⟩ := own9
  have hvl := hro.len
  obtain ⟨x0, x1, rfl⟩ : ∃ x0 x1, vs = [x0, x1] := by
    match vs, hvl with
    | [a, b], _ => exact ⟨a, b, rfl⟩
  have hx1 := hro.own 1 x1 [97, 98] rfl rfl
  obtain ⟨g, cap, rfl, _⟩ : ∃ g cap, r9 = .slice (some ⟨g, 0, none⟩) 2 cap ∧ True := by
    rcases Own.head ho with ⟨_, h⟩ | ⟨g, cap, h, _⟩
    · simp at h
    · exact ⟨g, cap, h, trivial⟩
  have hcell : w9.cell? ⟨g, 1, none⟩ = some x1 := ho.cellAt 1 (by simp)
  have hs2 := run_bytes_string (P := Try.prog) Try.underlying22 Try.underlying5 Try.underlying9 own29.bytes
  have hs1 := run_bytes_string (P := Try.prog) Try.underlying22 Try.underlying5 Try.underlying9 hx1.bytes
  obtain ⟨px, cx, rfl⟩ := hx1.bytes.shapeN (n := 2) rfl
  clear hvl hro ho hx1
  go_wp2_with fail
  go_ret
  exact ⟨rfl, b09⟩

end Go.Proofs.Ytongoobcmlgdiaa
