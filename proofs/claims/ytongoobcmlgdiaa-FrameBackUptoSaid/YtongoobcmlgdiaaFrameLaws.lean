/- The walks of layer 17's laws FrameRuns, FramePuts. -/
import Derived.Test.YtongoobcmlgdiaaFrameRuns
namespace Go.Proofs.Ytongoobcmlgdiaa
open Go Go.RowKit

theorem frameRuns_walk (w : World) : Calls Try.prog 9 #[] w fun e w' => e = .returned (.bool true) ∧ Below w.heap.size w w' := frameRuns w

theorem size_drew (w : World) : w.drew.heap.size = w.heap.size := rfl

set_option maxHeartbeats 1000000 in
theorem framePuts_walk (v : Value) (b : List UInt8) (u : Value) (p : List UInt8) (w : World) (hv : Bytes w v b) (hb : b.length ≤ 1048576) (hu : Bytes w u p) (hp : p.length ≤ 1048576) :
    Calls Try.prog 10 #[v, u] w fun e w' => e = .returned (.bool true) ∧ Below w.heap.size w w' := by
  obtain ⟨p0, c0, rfl⟩ := hv.shape
  obtain ⟨q0, d0, rfl⟩ := hu.shape
  go_enter Try.func10, Try.ntmps10
  go_wp2_with fail
  with_reducible refine (roomyBytes _ b 5 5 rfl _ hv (by omega)).mono ?_
  rintro e w1 ⟨g1, rfl, own1, b1⟩
  go_wp2_with fail
  with_reducible refine (roomyBytes _ p 6 6 rfl _ (hu.ext b1) (by omega)).mono ?_
  rintro e w2 ⟨g2, rfl, own2, b2⟩
  have own1' := own1.ext b2
  have b02 := b1.trans (b2.mono b1.size)
  have s1 := run_sub_to tBytes (P := Try.prog) (Own.cells own1') .i64 (b.length : Int) b.length rfl (by rw [roomy_length]; omega)
  have s2 := run_sub_to tBytes (P := Try.prog) (Own.cells own2) .i64 (p.length : Int) p.length rfl (by rw [roomy_length]; omega)
  have f1 := own1'.bytes.sub 0 b.length (by omega) (by rw [roomy_length]; omega)
  have f2 := own2.bytes.sub 0 p.length (by omega) (by rw [roomy_length]; omega)
  have e1 : ((roomy b 5).drop 0).take (b.length - 0) = b := by simp [roomy]
  have e2 : ((roomy p 6).drop 0).take (p.length - 0) = p := by simp [roomy]
  rw [e1] at f1; rw [e2] at f2
  generalize subV _ 0 b.length 1 = v1 at *
  generalize subV _ 0 p.length 1 = v2 at *
  obtain ⟨r1, k1, rfl⟩ := f1.shape
  obtain ⟨r2, k2, rfl⟩ := f2.shape
  have hv2 := hv.ext b02
  have hu2 := hu.ext b02
  clear e1 e2 own1 b1 b2 hv hu
  go_wp2
  go_region_held3 (fun _ => True) (exact trivial) ((first
    | (go_at_call 25; (with_reducible refine (framePut _ _ b p _ (bytes_drew f1) (bytes_drew f2) (by omega) (by omega)).mono ?_); (rintro e w3 ⟨x, rfl, ownx, b3⟩; (replace b3 : Below w2.heap.size w2 w3 := (below_drew _ _).trans b3)))
    | (go_at_call 28; (with_reducible refine (refFrame _ _ b p _ (hv2.ext b3) (hu2.ext b3) (by omega) (by omega)).mono ?_); (rintro e w4 ⟨y, rfl, owny, b4⟩))
    | (go_at_call 17; (with_reducible refine (sameBytes _ _ _ _ _ (ownx.ext b4).bytes owny.bytes).mono ?_); (rintro e w5 ⟨rfl, n5, h5⟩; (replace h5 : Below w2.heap.size w2 w5 := by rw [h5]; exact b3.trans ((b4.mono b3.size).trans (below_drawn _ _ _))); rw [decide_eq_true rfl]))
    | (go_at_call 21; (with_reducible refine (intactBytes _ _ _ b 5 5 rfl _ (own1'.ext h5).bytes (hv2.ext h5) (by omega)).mono ?_); (rintro e w6 ⟨rfl, n6, h6⟩; (replace h6 : Below w2.heap.size w2 w6 := by rw [h6]; exact h5.trans (below_drawn _ _ _)); rw [decide_eq_true rfl]))
    | (go_at_call 21; (with_reducible refine (intactBytes _ _ _ p 6 6 rfl _ (own2.ext h6).bytes (hu2.ext h6) (by omega)).mono ?_); (rintro e w7 ⟨rfl, n7, h7⟩; (replace h7 : Below w2.heap.size w2 w7 := by rw [h7]; exact h6.trans (below_drawn _ _ _)); rw [decide_eq_true rfl]))
    | (go_at_call 9; (with_reducible refine (frameRuns _).mono ?_); (rintro e w8 ⟨rfl, b8⟩))))
  go_wp2
  go_ret
  exact ⟨rfl, b02.trans ((h7.trans (b8.mono h7.size)).mono b02.size)⟩

end Go.Proofs.Ytongoobcmlgdiaa
