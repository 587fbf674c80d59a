/- SessionRuns: chapter 13's runs, walked by the contracts of package session. -/
import Derived.Test.YtmchkhofcjgeaaaSesG
import Derived.KernelRfl
namespace Go.Proofs.Ytmchkhofcjgeaaa
open Go Go.RowKit

@[reducible] def srR : Rep := ⟨0, 7, 0⟩
def srM : List Ses := [⟨3, 5, srR⟩]
theorem sr1 : joinS [] 3 = .ok [⟨3, 0, rep0⟩] := by kernel_rfl
theorem sr2 : keepS [⟨3, 0, rep0⟩] 3 5 srR = .ok srM := by kernel_rfl
theorem sr3 : lookS srM 3 5 = (srR, true, 0) := by kernel_rfl
theorem sr4 : lookS srM 3 4 = (rep0, false, 16) := by kernel_rfl
theorem sr5 : lookS srM 3 6 = (rep0, false, 0) := by kernel_rfl
theorem sr6 : lookS srM 9 1 = (rep0, false, 15) := by kernel_rfl
theorem sr7 : keepS srM 3 5 srR = .error 12 := by kernel_rfl
theorem sr8 : joinS srM 3 = .error 12 := by kernel_rfl
theorem sr9 : leaveS srM 9 = .error 11 := by kernel_rfl

set_option maxHeartbeats 2000000 in
set_option maxRecDepth 100000 in
theorem sessionRuns_walk (w : World) : Calls Try.prog 3 #[] w fun e w' => e = .returned (.bool true) ∧ Below w.heap.size w w' := by
  have heq := eql_rep srR srR
  rw [decide_eq_true rfl] at heq
  simp only [show srR.why = 0 from rfl, show srR.num = 7 from rfl, show srR.gross = 0 from rfl] at heq
  go_enter Try.func3, Try.ntmps3
  go_wp2_with fail
  with_reducible refine (sesJoin _ [] 3 _ (Rd.nil _)).mono ?_
  rintro e w1 ⟨h, b1⟩
  rw [sr1] at h
  obtain ⟨v1, rfl, own1⟩ := h
  have hk1 : Blk w1 w.heap.size #[.int .i64 0, .int .i64 7, .int .i64 0] 24 := (Blk.new w _ _).ext b1
  have c1 := (below_alloc w (.cells #[.int .i64 0, .int .i64 7, .int .i64 0] 24)).trans (b1.mono (by simp))
  have r1 := own1.rd
  obtain ⟨x0, x1, x2, _⟩ := rep_cells hk1
  clear own1 b1
  go_wp2_with fail
  with_reducible refine (sesKeep _ [⟨3, 0, rep0⟩] 3 5 srR _ r1).mono ?_
  rintro e w2 ⟨h, b2⟩
  rw [sr2] at h
  obtain ⟨v2, rfl, own2⟩ := h
  have r2 := own2.rd
  have hk2 := hk1.ext b2
  have c2 := c1.trans (b2.mono c1.size)
  obtain ⟨x0, x1, x2, _⟩ := rep_cells hk2
  clear own2 b2 c1 hk1 r1
  go_wp2_with fail
  with_reducible refine (sesLook _ srM 3 5 _ r2).mono ?_
  rintro e u3 ⟨he, b3⟩
  obtain rfl : e = .returned (.tuple #[.agg #[.int .i64 0, .int .i64 7, .int .i64 0], .bool true, .int .i64 0]) := by rw [he, sr3]; try rfl
  have a3 := b3.trans ((below_alloc u3 (.cells #[.int .i64 0, .int .i64 7, .int .i64 0] 24)).mono b3.size)
  have r3 := r2.ext a3
  have hk3 := hk2.ext a3
  have c3 := c2.trans (a3.mono c2.size)
  have hq3 : Blk (u3.alloc (.cells #[.int .i64 0, .int .i64 7, .int .i64 0] 24)) u3.heap.size #[.int .i64 0, .int .i64 7, .int .i64 0] 24 := Blk.new _ _ _
  clear he b3 a3 c2 hk2 r2 x0 x1 x2
  go_wp2_with fail
  generalize hw3 : u3.alloc (.cells #[.int .i64 0, .int .i64 7, .int .i64 0] 24) = w3 at *
  clear hw3
  with_reducible refine (sesLook _ srM 3 4 _ r3).mono ?_
  rintro e u4 ⟨he, b4⟩
  obtain rfl : e = .returned (.tuple #[.agg #[.int .i64 0, .int .i64 0, .int .i64 0], .bool false, .int .i64 16]) := by rw [he, sr4]; try rfl
  have a4 := b4.trans ((below_alloc u4 (.cells #[.int .i64 0, .int .i64 0, .int .i64 0] 24)).mono b4.size)
  have r4 := r3.ext a4
  have hk4 := hk3.ext a4
  have c4 := c3.trans (a4.mono c3.size)
  have hq4 := hq3.ext a4
  clear he b4 a4 c3 hk3 r3 hq3
  go_wp2_with fail
  generalize hw4 : u4.alloc (.cells #[.int .i64 0, .int .i64 0, .int .i64 0] 24) = w4 at *
  clear hw4
  with_reducible refine (sesLook _ srM 3 6 _ r4).mono ?_
  rintro e u5 ⟨he, b5⟩
  obtain rfl : e = .returned (.tuple #[.agg #[.int .i64 0, .int .i64 0, .int .i64 0], .bool false, .int .i64 0]) := by rw [he, sr5]; try rfl
  have a5 := b5.trans ((below_alloc u5 (.cells #[.int .i64 0, .int .i64 0, .int .i64 0] 24)).mono b5.size)
  have r5 := r4.ext a5
  have hk5 := hk4.ext a5
  have c5 := c4.trans (a5.mono c4.size)
  have hq5 := hq4.ext a5
  clear he b5 a5 c4 hk4 r4 hq4
  go_wp2_with fail
  generalize hw5 : u5.alloc (.cells #[.int .i64 0, .int .i64 0, .int .i64 0] 24) = w5 at *
  clear hw5
  with_reducible refine (sesLook _ srM 9 1 _ r5).mono ?_
  rintro e u6 ⟨he, b6⟩
  obtain rfl : e = .returned (.tuple #[.agg #[.int .i64 0, .int .i64 0, .int .i64 0], .bool false, .int .i64 15]) := by rw [he, sr6]; try rfl
  have a6 := b6.trans ((below_alloc u6 (.cells #[.int .i64 0, .int .i64 0, .int .i64 0] 24)).mono b6.size)
  have r6 := r5.ext a6
  have hk6 := hk5.ext a6
  have c6 := c5.trans (a6.mono c5.size)
  have hq6 := hq5.ext a6
  clear he b6 a6 c5 hk5 r5 hq5
  obtain ⟨x0, x1, x2, _⟩ := rep_cells hk6
  go_wp2_with fail
  generalize hw6 : u6.alloc (.cells #[.int .i64 0, .int .i64 0, .int .i64 0] 24) = w6 at *
  clear hw6
  with_reducible refine (sesKeep _ srM 3 5 srR _ r6).mono ?_
  rintro e w7 ⟨h, b7⟩
  rw [sr7] at h
  obtain rfl := h
  have r7 := r6.ext b7
  have hk7 := hk6.ext b7
  have hq7 := hq6.ext b7
  have c7 := c6.trans (b7.mono c6.size)
  clear b7 c6 hk6 r6 hq6 x0 x1 x2
  obtain ⟨x0, x1, x2, _⟩ := rep_cells hk7
  go_wp2_with fail
  with_reducible refine (sesJoin _ srM 3 _ r7).mono ?_
  rintro e w8 ⟨h, b8⟩
  rw [sr8] at h
  obtain rfl := h
  have r8 := r7.ext b8
  have hk8 := hk7.ext b8
  have hq8 := hq7.ext b8
  have c8 := c7.trans (b8.mono c7.size)
  clear b8 c7 hk7 r7 hq7 x0 x1 x2
  obtain ⟨x0, x1, x2, _⟩ := rep_cells hk8
  go_wp2_with fail
  with_reducible refine (sesLeave _ srM 9 _ r8).mono ?_
  rintro e w9 ⟨h, b9⟩
  rw [sr9] at h
  obtain rfl := h
  have r9 := r8.ext b9
  have hk9 := hk8.ext b9
  have hq9 := hq8.ext b9
  have c9 := c8.trans (b9.mono c8.size)
  clear b9 c8 hk8 r8 hq8 x0 x1 x2
  obtain ⟨x0, x1, x2, _⟩ := rep_cells hk9
  obtain ⟨y0, y1, y2, _⟩ := rep_cells hq9
  go_wp2_with fail
  go_ret
  exact ⟨rfl, c9⟩
end Go.Proofs.Ytmchkhofcjgeaaa
