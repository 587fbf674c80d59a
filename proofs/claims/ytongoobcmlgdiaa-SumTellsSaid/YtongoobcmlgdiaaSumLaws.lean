/- The walks of layer 1's laws: each returns true and writes nothing that was there. -/
import Derived.Test.YtongoobcmlgdiaaSumRuns
namespace Go.Proofs.Ytongoobcmlgdiaa
open Go Go.RowKit

theorem sumRuns_walk (w : World) : Calls Try.prog 3 #[] w fun e w' => e = .returned (.bool true) ∧ Below w.heap.size w w' := sumRuns w

set_option maxHeartbeats 1000000 in
theorem sumTells_walk (c : BitVec 32) (v : Value) (p : List UInt8) (u : Value) (q : List UInt8) (w : World) (hv : Bytes w v p) (hp : p.length ≤ 140737488351232) (hu : Bytes w u q) (_hq : q.length ≤ 140737488351232) :
    Calls Try.prog 4 #[.int .u32 (c.toNat : Int), v, u] w fun e w' => e = .returned (.bool true) ∧ Below w.heap.size w w' := by
  obtain ⟨p0, cap0, rfl⟩ := hv.shape
  obtain ⟨q0, dap0, rfl⟩ := hu.shape
  go_enter Try.func4, Try.ntmps4
  go_wp2_with fail
  with_reducible refine (roomyBytes _ p 91 91 rfl _ hv (by omega)).mono ?_
  rintro e w1 ⟨g, rfl, own, b1⟩
  have hs := run_sub_to tBytes (P := Try.prog) (Own.cells own) .i64 (p.length : Int) p.length rfl (by rw [roomy_length]; omega)
  have hb := own.bytes.sub 0 p.length (by omega) (by rw [roomy_length]; omega)
  have e0 : ((roomy p 91).drop 0).take (p.length - 0) = p := by simp [roomy]
  rw [e0] at hb
  generalize subV _ 0 p.length 1 = vo at *
  obtain ⟨r, rap, rfl⟩ := hb.shape
  have hv1 := hv.ext b1
  have hu1 := hu.ext b1
  clear e0
  go_wp2_with fail
  with_reducible refine (refOn0 _ p _ hv1).mono ?_
  rintro e w' ⟨rfl, rfl⟩
  go_wp2_with fail
  with_reducible refine (sumOn c _ p _ hb).mono ?_
  rintro e w' ⟨rfl, rfl⟩
  go_wp2_with fail
  with_reducible refine (refOn c _ p _ hv1).mono ?_
  rintro e w' ⟨rfl, rfl⟩
  go_wp2_with fail
  with_reducible refine (sumOf1 _ p _ hb _ rfl _).mono ?_
  rintro e w2 ⟨rfl, b2⟩
  go_wp2_with fail
  with_reducible refine (sumOfL [_, _] [p, q] _ ?_ _ 2 rfl ?_ ?_ _).mono ?_
  · exact ⟨hb.ext b2, hu1.ext b2, trivial⟩
  · rfl
  · unfold maxLen; decide
  rintro e w3 ⟨rfl, b3⟩
  rw [show [p, q].flatten = p ++ q from by simp, Crc.on_append]
  replace b3 := b2.trans (b3.mono b2.size)
  go_wp2_with fail
  with_reducible refine (refOn (Crc.on 0#32 p) _ q _ (hu1.ext b3)).mono ?_
  rintro e w' ⟨rfl, rfl⟩
  go_wp2_with fail
  with_reducible refine (intactBytes _ _ _ p 91 91 rfl _ (own.ext b3).bytes (hv1.ext b3) (by omega)).mono ?_
  rintro e w4 ⟨rfl, n, hw4⟩
  rw [decide_eq_true rfl]
  have b4 : Below w.heap.size w w4 := by subst hw4; exact b1.trans ((b3.mono b1.size).trans (below_drawn _ _ _))
  clear hw4
  go_wp2_with fail
  with_reducible refine (sumRuns _).mono ?_
  rintro e w5 ⟨rfl, b5⟩
  replace b5 := b4.trans (b5.mono b4.size)
  go_wp2_with fail
  go_ret
  exact ⟨rfl, b5⟩

end Go.Proofs.Ytongoobcmlgdiaa
