/- The walk of MoneyUndoes. -/
import Derived.Test.YtfimaamndcdofaaDoorMoneyTellsW
import Derived.Test.YtfimaamndcdofaaDoorHalf
namespace Go.Proofs.YtfimaamndcdofaaDoor
open Go Go.RowKit Go.Shelf Go.Lib Go.Sort

set_option maxHeartbeats 2000000 in
theorem moneyUndoes_walk (a b : Int) (w : World) (a1 : -9223372036854775808 ≤ a) (a2 : a ≤ 9223372036854775807) (b1 : -9223372036854775808 ≤ b) (b2 : b ≤ 9223372036854775807) (htab : TabIs Tryd.prog w "internal/strconv.uint64pow10" .u64 pow10Tab) :
    Calls Tryd.prog 7 #[.int .i64 a, .int .i64 b] w fun e w' => e = .returned (.bool true) ∧ Below w.heap.size w w' := by
  have ha : Hid (Mon.fits a) := ⟨a1, a2⟩
  have hb : Hid (Mon.fits b) := ⟨b1, b2⟩
  have hadd : Mon.told (b + a) = Mon.told (a + b) := by rw [Int.add_comm]
  have hmul : Mon.told (b * a) = Mon.told (a * b) := by rw [Int.mul_comm]
  have Hadd := Lib.hid hadd
  have Hmul := Lib.hid hmul
  clear hadd hmul
  obtain ⟨c, hc, c1, c2, hhalf⟩ := half_ex a b
  have Hhalf := Lib.hid hhalf
  clear hhalf
  obtain ⟨x, y, hx⟩ : ∃ x y, Hid (Mon.told (a * b) = .tuple #[.int .i64 x, .int .i64 y]) := ⟨_, _, rfl⟩
  by_cases hs : Mon.fits (a - b)
  · have Hs := Lib.hid hs
    clear hs
    by_cases hf : Mon.fits (a + b)
    · have f1 : -4611686018427387904 ≤ a / 2 + b / 2 + c := by have := Hhalf.out; unfold Mon.fits at hf; omega
      have f2 : a / 2 + b / 2 + c < 4611686018427387904 := by have := Hhalf.out; unfold Mon.fits at hf; omega
      have f3 : -9223372036854775808 ≤ a + b := hf.1
      have f4 : a + b ≤ 9223372036854775807 := hf.2
      have Hf := Lib.hid hf
      clear hf
      go_enter Tryd.func7, Tryd.ntmps7
      go_wp2_with fail
      with_reducible refine (moneySub _ _ _ ha.out hb.out).mono ?_
      rintro e w' ⟨rfl, rfl⟩
      rw [Mon.told_ok Hs.out]
      go_wp2_with fail
      with_reducible refine (moneyAdd _ _ _ Hs.out hb.out).mono ?_
      rintro e w' ⟨rfl, rfl⟩
      rw [show a - b + b = a from by omega, Mon.told_ok ha.out]
      go_wp2_with fail
      with_reducible refine (moneyAdd _ _ _ ha.out hb.out).mono ?_
      rintro e w' ⟨rfl, rfl⟩
      rw [Mon.told_ok Hf.out]
      go_wp2_with fail
      with_reducible refine (moneyAdd _ _ _ hb.out ha.out).mono ?_
      rintro e w' ⟨rfl, rfl⟩
      rw [Hadd.out, Mon.told_ok Hf.out]
      go_wp2_with fail
      with_reducible refine (moneyMul _ _ _ ha.out hb.out).mono ?_
      rintro e w' ⟨rfl, rfl⟩
      rw [hx.out]
      go_wp2_with fail
      with_reducible refine (moneyMul _ _ _ hb.out ha.out).mono ?_
      rintro e w' ⟨rfl, rfl⟩
      rw [Hmul.out, hx.out]
      go_wp2_with fail
      all_goals
        with_reducible refine (moneyRuns_walk _ htab).mono ?_
        rintro e w3 ⟨rfl, b3⟩
        go_wp2_with fail
        go_ret
        first | exact ⟨rfl, b3⟩ | exact ⟨ret_bool (a := !decide (a / 2 + b / 2 + c < 4611686018427387904)) (by rw [decide_eq_false (by omega)]; rfl), b3⟩
    · have f0 : (¬ -4611686018427387904 ≤ a / 2 + b / 2 + c) ∨ (-4611686018427387904 ≤ a / 2 + b / 2 + c ∧ ¬ a / 2 + b / 2 + c < 4611686018427387904) := by have := Hhalf.out; unfold Mon.fits at hf; omega
      have Hf := Lib.hid hf
      clear hf
      rcases f0 with f1 | ⟨f1, f2⟩
      all_goals
        go_enter Tryd.func7, Tryd.ntmps7
        go_wp2_with fail
        with_reducible refine (moneySub _ _ _ ha.out hb.out).mono ?_
        rintro e w' ⟨rfl, rfl⟩
        rw [Mon.told_ok Hs.out]
        go_wp2_with fail
        with_reducible refine (moneyAdd _ _ _ Hs.out hb.out).mono ?_
        rintro e w' ⟨rfl, rfl⟩
        rw [show a - b + b = a from by omega, Mon.told_ok ha.out]
        go_wp2_with fail
        with_reducible refine (moneyAdd _ _ _ ha.out hb.out).mono ?_
        rintro e w' ⟨rfl, rfl⟩
        rw [Mon.told_no Hf.out]
        go_wp2_with fail
        with_reducible refine (moneyAdd _ _ _ hb.out ha.out).mono ?_
        rintro e w' ⟨rfl, rfl⟩
        rw [Hadd.out, Mon.told_no Hf.out]
        go_wp2_with fail
        with_reducible refine (moneyMul _ _ _ ha.out hb.out).mono ?_
        rintro e w' ⟨rfl, rfl⟩
        rw [hx.out]
        go_wp2_with fail
        with_reducible refine (moneyMul _ _ _ hb.out ha.out).mono ?_
        rintro e w' ⟨rfl, rfl⟩
        rw [Hmul.out, hx.out]
        go_wp2_with fail
        all_goals
          with_reducible refine (moneyRuns_walk _ htab).mono ?_
          rintro e w3 ⟨rfl, b3⟩
          go_wp2_with fail
          go_ret
          first | exact ⟨rfl, b3⟩ | exact ⟨ret_bool (a := !decide (a / 2 + b / 2 + c < 4611686018427387904)) (by rw [decide_eq_false (by omega)]; rfl), b3⟩
  · have Hs := Lib.hid hs
    clear hs
    by_cases hf : Mon.fits (a + b)
    · have f1 : -4611686018427387904 ≤ a / 2 + b / 2 + c := by have := Hhalf.out; unfold Mon.fits at hf; omega
      have f2 : a / 2 + b / 2 + c < 4611686018427387904 := by have := Hhalf.out; unfold Mon.fits at hf; omega
      have f3 : -9223372036854775808 ≤ a + b := hf.1
      have f4 : a + b ≤ 9223372036854775807 := hf.2
      have Hf := Lib.hid hf
      clear hf
      go_enter Tryd.func7, Tryd.ntmps7
      go_wp2_with fail
      with_reducible refine (moneySub _ _ _ ha.out hb.out).mono ?_
      rintro e w' ⟨rfl, rfl⟩
      rw [Mon.told_no Hs.out]
      go_wp2_with fail
      with_reducible refine (moneyAdd _ _ _ ha.out hb.out).mono ?_
      rintro e w' ⟨rfl, rfl⟩
      rw [Mon.told_ok Hf.out]
      go_wp2_with fail
      with_reducible refine (moneyAdd _ _ _ hb.out ha.out).mono ?_
      rintro e w' ⟨rfl, rfl⟩
      rw [Hadd.out, Mon.told_ok Hf.out]
      go_wp2_with fail
      with_reducible refine (moneyMul _ _ _ ha.out hb.out).mono ?_
      rintro e w' ⟨rfl, rfl⟩
      rw [hx.out]
      go_wp2_with fail
      with_reducible refine (moneyMul _ _ _ hb.out ha.out).mono ?_
      rintro e w' ⟨rfl, rfl⟩
      rw [Hmul.out, hx.out]
      go_wp2_with fail
      all_goals
        with_reducible refine (moneyRuns_walk _ htab).mono ?_
        rintro e w3 ⟨rfl, b3⟩
        go_wp2_with fail
        go_ret
        first | exact ⟨rfl, b3⟩ | exact ⟨ret_bool (a := !decide (a / 2 + b / 2 + c < 4611686018427387904)) (by rw [decide_eq_false (by omega)]; rfl), b3⟩
    · have f0 : (¬ -4611686018427387904 ≤ a / 2 + b / 2 + c) ∨ (-4611686018427387904 ≤ a / 2 + b / 2 + c ∧ ¬ a / 2 + b / 2 + c < 4611686018427387904) := by have := Hhalf.out; unfold Mon.fits at hf; omega
      have Hf := Lib.hid hf
      clear hf
      rcases f0 with f1 | ⟨f1, f2⟩
      all_goals
        go_enter Tryd.func7, Tryd.ntmps7
        go_wp2_with fail
        with_reducible refine (moneySub _ _ _ ha.out hb.out).mono ?_
        rintro e w' ⟨rfl, rfl⟩
        rw [Mon.told_no Hs.out]
        go_wp2_with fail
        with_reducible refine (moneyAdd _ _ _ ha.out hb.out).mono ?_
        rintro e w' ⟨rfl, rfl⟩
        rw [Mon.told_no Hf.out]
        go_wp2_with fail
        with_reducible refine (moneyAdd _ _ _ hb.out ha.out).mono ?_
        rintro e w' ⟨rfl, rfl⟩
        rw [Hadd.out, Mon.told_no Hf.out]
        go_wp2_with fail
        with_reducible refine (moneyMul _ _ _ ha.out hb.out).mono ?_
        rintro e w' ⟨rfl, rfl⟩
        rw [hx.out]
        go_wp2_with fail
        with_reducible refine (moneyMul _ _ _ hb.out ha.out).mono ?_
        rintro e w' ⟨rfl, rfl⟩
        rw [Hmul.out, hx.out]
        go_wp2_with fail
        all_goals
          with_reducible refine (moneyRuns_walk _ htab).mono ?_
          rintro e w3 ⟨rfl, b3⟩
          go_wp2_with fail
          go_ret
          first | exact ⟨rfl, b3⟩ | exact ⟨ret_bool (a := !decide (a / 2 + b / 2 + c < 4611686018427387904)) (by rw [decide_eq_false (by omega)]; rfl), b3⟩

end Go.Proofs.YtfimaamndcdofaaDoor
