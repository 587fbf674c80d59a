/- The walks of layer 1's laws: each returns true and writes nothing that was there. -/
import Derived.Test.YtongoobcmlgdiaaSumRuns
import Derived.Deep.RegionHeld3
namespace Go.Proofs.Ytongoobcmlgdiaa
open Go Go.RowKit

theorem sumRuns_walk (w : World) : Calls Try.prog 3 #[] w fun e w' => e = .returned (.bool true) ∧ Below w.heap.size w w' := sumRuns w

set_option maxHeartbeats 1000000 in
theorem sumTells_walk (c : BitVec 32) (v : Value) (p : List UInt8) (u : Value) (q : List UInt8) (w : World) (hv : Bytes w v p) (hp : p.length ≤ 140737488351232) (hu : Bytes w u q) (_hq : q.length ≤ 140737488351232) :
    Calls Try.prog 4 #[.int .u32 (c.toNat : Int), v, u] w fun e w' => e = .returned (.bool true) ∧ Below w.heap.size w w' := by
  obtain ⟨p0, cap0, rfl⟩ := hv.shape
  obtain ⟨q0, dap0, rfl⟩ := hu.shape
  go_enter Try.func4, Try.ntmps4
  go_wp2_with fail
  with_reducible refine (roomyBytes _ p 91 91 rfl _ hv (by omega)).mono ?_
  rintro e w1 ⟨g, rfl, own, b1⟩
  have hs := run_sub_to tBytes (P := Try.prog) (Own.cells own) .i64 (p.length : Int) p.length rfl (by rw [roomy_length]; omega)
  have hb := own.bytes.sub 0 p.length (by omega) (by rw [roomy_length]; omega)
  have e0 : ((roomy p 91).drop 0).take (p.length - 0) = p := by simp [roomy]
  rw [e0] at hb
  generalize subV _ 0 p.length 1 = vo at *
  obtain ⟨r, rap, rfl⟩ := hb.shape
  have hv1 := hv.ext b1
  have hu1 := hu.ext b1
  clear e0
  go_wp2_with fail
  with_reducible refine (refOn0 _ p _ hv1).mono ?_
  rintro e w' ⟨rfl, rfl⟩
  go_wp2_with fail
  with_reducible refine (sumOn c _ p _ hb).mono ?_
  rintro e w' ⟨rfl, rfl⟩
  go_wp2_with fail
  with_reducible refine (refOn c _ p _ hv1).mono ?_
  rintro e w' ⟨rfl, rfl⟩
  go_wp2_with fail
  with_reducible refine (sumOf1 _ p _ hb _ rfl _).mono ?_
  rintro e w2 ⟨rfl, b2⟩
  go_wp2_with fail
  with_reducible refine (sumOfL [_, _] [p, q] _ ?_ _ 2 rfl ?_ ?_ _).mono ?_
  · exact ⟨hb.ext b2, hu1.ext b2, trivial⟩
  · rfl
  · unfold maxLen; decide
  rintro e w3 ⟨rfl, b3⟩
  rw [show [p, q].flatten = p ++ q from by simp, Crc.on_append]
  replace b3 := b2.trans (b3.mono b2.size)
  go_wp2_with fail
  with_reducible refine (refOn (Crc.on 0#32 p) _ q _ (hu1.ext b3)).mono ?_
  rintro e w' ⟨rfl, rfl⟩
  go_wp2_with fail
  with_reducible refine (intactBytes _ _ _ p 91 91 rfl _ (own.ext b3).bytes (hv1.ext b3) (by omega)).mono ?_
  rintro e w4 ⟨rfl, n, hw4⟩
  rw [decide_eq_true rfl]
  have b4 : Below w.heap.size w w4 := by subst hw4; exact b1.trans ((b3.mono b1.size).trans (below_drawn _ _ _))
  clear hw4
  go_wp2_with fail
  with_reducible refine (sumRuns _).mono ?_
  rintro e w5 ⟨rfl, b5⟩
  replace b5 := b4.trans (b5.mono b4.size)
  go_wp2_with fail
  go_ret
  exact ⟨rfl, b5⟩

set_option maxHeartbeats 1000000 in
theorem sumParts_walk (v : Value) (p : List UInt8) (at' to : Int) (w : World) (hv : Bytes w v p) (hp : p.length ≤ 140737488351232) (_h1 : -9223372036854775808 ≤ at') (_h2 : at' ≤ 9223372036854775807) (_h3 : -9223372036854775808 ≤ to) (_h4 : to ≤ 9223372036854775807) :
    Calls Try.prog 5 #[v, .int .i64 at', .int .i64 to] w fun e w' => e = .returned (.bool true) ∧ Below w.heap.size w w' := by
  obtain ⟨p0, cap0, rfl⟩ := hv.shape
  go_enter Try.func5, Try.ntmps5
  go_wp2_with fail
  with_reducible refine (withinCalls at' 0 (p.length : Int) _ (by omega) (by omega) (by omega)).mono ?_
  rintro e w' ⟨rfl, rfl⟩
  obtain ⟨i, hi⟩ : ∃ i : Nat, within at' 0 (p.length : Int) = i := ⟨_, (Int.toNat_of_nonneg (within_bounds at' 0 p.length (by omega)).1).symm⟩
  have hib : i ≤ p.length := by have := (within_bounds at' 0 p.length (by omega)).2; omega
  rw [hi]
  clear hi
  go_wp2_with fail
  with_reducible refine (withinCalls to (i : Int) (p.length : Int) _ (by omega) (by omega) (by omega)).mono ?_
  rintro e w' ⟨rfl, rfl⟩
  obtain ⟨k, hk⟩ : ∃ k : Nat, within to (i : Int) (p.length : Int) = k := ⟨_, (Int.toNat_of_nonneg (by have := (within_bounds to i p.length (by omega)).1; omega)).symm⟩
  have hkb : i ≤ k ∧ k ≤ p.length := by have := within_bounds to i p.length (by omega); omega
  rw [hk]
  clear hk
  go_wp2_with fail
  with_reducible refine (sumOf1 _ p _ hv _ rfl _).mono ?_
  rintro e w1 ⟨rfl, b1⟩
  replace hv := hv.ext b1
  have r1 := run_sub_to tBytes (P := Try.prog) hv .i64 (i : Int) i rfl hib
  have r2 := run_sub tBytes (P := Try.prog) hv .i64 .i64 (i : Int) (k : Int) i k rfl rfl hkb.1 hkb.2
  have r3 := run_sub_from tBytes (P := Try.prog) hv .i64 (k : Int) k rfl hkb.2
  have r4 := run_sub_from tBytes (P := Try.prog) hv .i64 (i : Int) i rfl hib
  have g1 := hv.sub 0 i (by omega) hib
  have g2 := hv.sub i k hkb.1 hkb.2
  have g3 := hv.sub k p.length hkb.2 (Nat.le_refl _)
  have g4 := hv.sub i p.length hib (Nat.le_refl _)
  generalize subV _ 0 i 1 = v1 at *
  generalize subV _ i k 1 = v2 at *
  generalize subV _ k p.length 1 = v3 at *
  generalize subV _ i p.length 1 = v4 at *
  obtain ⟨a1, c1, rfl⟩ := g1.shapeN (n := i) (by simp; omega)
  obtain ⟨a2, c2, rfl⟩ := g2.shapeN (n := k - i) (by simp; omega)
  obtain ⟨a3, c3, rfl⟩ := g3.shapeN (n := p.length - k) (by simp)
  obtain ⟨a4, c4, rfl⟩ := g4.shapeN (n := p.length - i) (by simp)
  go_wp2_with fail
  have q1 : Crc.on 0#32 [(p.drop 0).take (i - 0), [], (p.drop i).take (k - i), (p.drop k).take (p.length - k)].flatten = Crc.on 0#32 p := by
    congr 1
    have e1 : (p.drop 0).take (i - 0) = p.take i := by simp
    have e2 : (p.drop k).take (p.length - k) = p.drop k := List.take_of_length_le (by simp)
    have e3 : p.take i ++ (p.drop i).take (k - i) = p.take k := by
      rw [← List.take_add]; congr 1; omega
    rw [e1, e2]; simp only [List.flatten_cons, List.flatten_nil, List.nil_append, List.append_nil]
    rw [← List.append_assoc, e3, List.take_append_drop]
  have q2 : Crc.on (Crc.on 0#32 ((p.drop 0).take (i - 0))) ((p.drop i).take (p.length - i)) = Crc.on 0#32 p := by
    rw [← Crc.on_append]
    have e2 : (p.drop i).take (p.length - i) = p.drop i := List.take_of_length_le (by simp)
    rw [e2]; simp
  generalize Crc.on 0#32 p = c0 at *
  generalize hl1 : (p.drop 0).take (i - 0) = l1 at *
  generalize hl2 : (p.drop i).take (k - i) = l2 at *
  generalize hl3 : (p.drop k).take (p.length - k) = l3 at *
  generalize hl4 : (p.drop i).take (p.length - i) = l4 at *
  have Q1 := Lib.hid q1
  generalize hc1 : Crc.on 0#32 l1 = c1' at *
  have Q2 := Lib.hid q2
  have Q3 := Lib.hid hc1
  clear q1 q2 hl1 hl2 hl3 hl4 hc1
  go_region_held3 (fun _ => True) (exact trivial) ((first
    | (go_at_call 15; (with_reducible refine (sumOfLd [_, .slice none 0 0, _, _] [l1, [], l2, l3] _ ?_ _ 4 rfl ?_ ?_ _).mono ?_); exact ⟨g1, Bytes.nil _, g2, g3, trivial⟩; rfl; (unfold maxLen; decide); (rintro e w2 ⟨rfl, b2⟩; rw [Q1.out]))
    | (go_at_call 15; (with_reducible refine (sumOf1 _ _ _ (g1.ext b2) _ rfl _).mono ?_); (rintro e w3 ⟨rfl, b3⟩; rw [Q3.out]))
    | (go_at_call 16; (with_reducible refine (sumOn _ _ _ _ (g4.ext (b2.trans (b3.mono b2.size)))).mono ?_); (rintro e w3' ⟨rfl, rfl⟩; rw [Q2.out]))
    | (go_at_call 3; (with_reducible refine (sumRuns _).mono ?_); (rintro e w5 ⟨rfl, b5⟩))))
  go_wp2
  go_ret
  exact ⟨rfl, b1.trans (b2.trans ((b3.mono b2.size).trans (b5.mono (by have := b2.size; have := b3.size; omega))) |>.mono b1.size)⟩

end Go.Proofs.Ytongoobcmlgdiaa
