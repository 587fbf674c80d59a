/- Walks of package date and of the document's days. -/
import Derived.Test.YtpobhlnlnplbdaaDateP
import Derived.Test.YtpobhlnlnplbdaaRdAt
import Derived.Test.YtpobhlnlnplbdaaRows
namespace Go.Proofs.Ytpobhlnlnplbdaa
open Go Go.RowKit BigFrame
theorem leap_cases (y : Int) (h : 0 ≤ y) : y.tmod 4 = y % 4 ∧ y.tmod 100 = y % 100 ∧ y.tmod 400 = y % 400 := ⟨Int.tmod_eq_emod_of_nonneg h, Int.tmod_eq_emod_of_nonneg h, Int.tmod_eq_emod_of_nonneg h⟩
theorem dateLeap (y : Int) (w : World) (h1 : 1 ≤ y) (h2 : y ≤ 9999) :
    Calls Try.prog 79 #[.int .i64 y] w fun e w' => e = .returned (.bool (leapB y)) ∧ w = w' := by
  obtain ⟨e4, e100, e400⟩ := leap_cases y (by omega)
  cases d4 : (y % 4 == 0) <;> cases d100 : (y % 100 == 0) <;> cases d400 : (y % 400 == 0)
  all_goals
    have n100 : (y % 100 != 0) = !(y % 100 == 0) := rfl
    rw [d100] at n100
    go_enter Try.func79, Try.ntmps79
    go_wp2
    go_ret
    refine ⟨ret_bool ?_, rfl⟩
    unfold leapB
    rw [d4, n100, d400]
    rfl
theorem refLeap (y : Int) (w : World) (h1 : 1 ≤ y) (h2 : y ≤ 9999) :
    Calls Try.prog 71 #[.int .i64 y] w fun e w' => e = .returned (.bool (leapB y)) ∧ w = w' := by
  obtain ⟨e4, e100, e400⟩ := leap_cases y (by omega)
  cases d4 : (y % 4 == 0) <;> cases d100 : (y % 100 == 0) <;> cases d400 : (y % 400 == 0)
  all_goals
    have n100 : (y % 100 != 0) = !(y % 100 == 0) := rfl
    rw [d100] at n100
    go_enter Try.func71, Try.ntmps71
    go_wp2
    go_ret
    refine ⟨ret_bool ?_, rfl⟩
    unfold leapB
    rw [d4, n100, d400]
    rfl
/-- the document's: 0 for what is no month -/
def lenR (y m : Int) : Int := if 1 ≤ m ∧ m ≤ 12 then lenM y m else 0
set_option maxHeartbeats 1000000 in
theorem dateLength (y m : Int) (w : World) (h1 : 1 ≤ y) (h2 : y ≤ 9999) :
    Calls Try.prog 67 #[.int .i64 y, .int .i64 m] w fun e w' => e = .returned (.int .i64 (lenM y m)) ∧ w = w' := by
  have e2 : (m == 2) = decide (m = 2) := by rw [Bool.eq_iff_iff]; simp
  by_cases c2 : m = 2
  · subst c2
    cases hl : leapB y
    all_goals
      have Hl := Lib.hid hl
      clear hl
      go_enter Try.func67, Try.ntmps67
      go_wp2_with fail
      with_reducible refine (dateLeap y _ h1 h2).mono ?_
      rintro e w' ⟨rfl, rfl⟩
      rw [Hl.out]
      go_wp2_with fail
      go_ret
      exact ⟨ret_int (by unfold lenM; rw [Hl.out]; rfl), rfl⟩
  · have d2 : (m == 2) = false := by simpa using c2
    by_cases c : m = 4 ∨ m = 6 ∨ m = 9 ∨ m = 11
    · rcases c with rfl | rfl | rfl | rfl
      all_goals
        clear d2
        go_enter Try.func67, Try.ntmps67
        go_wp2_with fail
        go_ret
        exact ⟨ret_int (by unfold lenM; rfl), rfl⟩
    · have d4 : (m == 4) = false := by simp; omega
      have d6 : (m == 6) = false := by simp; omega
      have d9 : (m == 9) = false := by simp; omega
      have d11 : (m == 11) = false := by simp; omega
      go_enter Try.func67, Try.ntmps67
      go_wp2_with fail
      go_ret
      exact ⟨ret_int (by unfold lenM; rw [if_neg c2, if_neg c]), rfl⟩
set_option maxHeartbeats 1000000 in
theorem refLength (y m : Int) (w : World) (h1 : 1 ≤ y) (h2 : y ≤ 9999) :
    Calls Try.prog 54 #[.int .i64 y, .int .i64 m] w fun e w' => e = .returned (.int .i64 (lenR y m)) ∧ w = w' := by
  by_cases c2 : m = 2
  · subst c2
    cases hl : leapB y
    all_goals
      have Hl := Lib.hid hl
      clear hl
      go_enter Try.func54, Try.ntmps54
      go_wp2_with fail
      with_reducible refine (refLeap y _ h1 h2).mono ?_
      rintro e w' ⟨rfl, rfl⟩
      rw [Hl.out]
      go_wp2_with fail
      go_ret
      exact ⟨ret_int (by unfold lenR lenM; rw [Hl.out]; rfl), rfl⟩
  · by_cases c : 1 ≤ m ∧ m ≤ 12
    · have : m = 1 ∨ m = 3 ∨ m = 4 ∨ m = 5 ∨ m = 6 ∨ m = 7 ∨ m = 8 ∨ m = 9 ∨ m = 10 ∨ m = 11 ∨ m = 12 := by omega
      rcases this with rfl | rfl | rfl | rfl | rfl | rfl | rfl | rfl | rfl | rfl | rfl
      all_goals
        clear c2
        go_enter Try.func54, Try.ntmps54
        go_wp2_with fail
        go_ret
        exact ⟨ret_int (by unfold lenR lenM; rfl), rfl⟩
    · have d1 : (m == 1) = false := by simp; omega
      have d2 : (m == 2) = false := by simp; omega
      have d3 : (m == 3) = false := by simp; omega
      have d4 : (m == 4) = false := by simp; omega
      have d5 : (m == 5) = false := by simp; omega
      have d6 : (m == 6) = false := by simp; omega
      have d7 : (m == 7) = false := by simp; omega
      have d8 : (m == 8) = false := by simp; omega
      have d9 : (m == 9) = false := by simp; omega
      have d10 : (m == 10) = false := by simp; omega
      have d11 : (m == 11) = false := by simp; omega
      have d12 : (m == 12) = false := by simp; omega
      go_enter Try.func54, Try.ntmps54
      go_wp2_with fail
      go_ret
      exact ⟨ret_int (by unfold lenR; rw [if_neg c]), rfl⟩
theorem rightD_cases (d : Day) : (rightD d = false ∧ decide (1 ≤ d.y) = false) ∨ (rightD d = false ∧ decide (1 ≤ d.y) = true ∧ decide (d.y ≤ 9999) = false) ∨
    (rightD d = false ∧ decide (1 ≤ d.y) = true ∧ decide (d.y ≤ 9999) = true ∧ decide (1 ≤ d.m) = false) ∨ (rightD d = false ∧ decide (1 ≤ d.y) = true ∧ decide (d.y ≤ 9999) = true ∧ decide (1 ≤ d.m) = true ∧ decide (d.m ≤ 12) = false) ∨
    (rightD d = false ∧ decide (1 ≤ d.y) = true ∧ decide (d.y ≤ 9999) = true ∧ decide (1 ≤ d.m) = true ∧ decide (d.m ≤ 12) = true ∧ decide (1 ≤ d.d) = false) ∨
    (decide (1 ≤ d.y) = true ∧ decide (d.y ≤ 9999) = true ∧ decide (1 ≤ d.m) = true ∧ decide (d.m ≤ 12) = true ∧ decide (1 ≤ d.d) = true ∧ rightD d = decide (d.d ≤ lenM d.y d.m)) := by
  unfold rightD
  cases h1 : decide (1 ≤ d.y)
  · simp
  · cases h2 : decide (d.y ≤ 9999)
    · simp
    · cases h3 : decide (1 ≤ d.m)
      · simp
      · cases h4 : decide (d.m ≤ 12)
        · simp
        · cases h5 : decide (1 ≤ d.d) <;> simp
set_option maxHeartbeats 1000000 in
theorem dateRight (d : Day) (w : World) :
    Calls Try.prog 49 #[.agg #[.int .i64 d.y, .int .i64 d.m, .int .i64 d.d]] w fun e w' => e = .returned (.bool (rightD d)) ∧ Below w.heap.size w w' := by
  rcases rightD_cases d with ⟨hq, t1⟩ | ⟨hq, t1, t2⟩ | ⟨hq, t1, t2, t3⟩ | ⟨hq, t1, t2, t3, t4⟩ | ⟨hq, t1, t2, t3, t4, t5⟩ | ⟨t1, t2, t3, t4, t5, hq⟩
  rotate_right
  · have y1 : 1 ≤ d.y := by simpa using t1
    have y2 : d.y ≤ 9999 := by simpa using t2
    have Hq := Lib.hid hq
    clear hq
    have hcl := fun w => dateLength d.y d.m w y1 y2
    generalize lenM d.y d.m = L at *
    clear y1 y2
    go_enter Try.func49, Try.ntmps49
    go_wp2_with fail
    go_quiet ((exact Calls.quiet_of_same ((hcl _).mono fun _ _ h => ⟨h.1, h.2.symm⟩)))
    go_wp2_with fail
    go_ret
    exact ⟨ret_bool Hq.out.symm, (below_alloc _ _).trans (below_drawn _ _ _)⟩
  all_goals
    have Hq := Lib.hid hq
    clear hq
    go_enter Try.func49, Try.ntmps49
    go_wp2_with fail
    go_quiet ((fail))
    go_wp2_with fail
    go_ret
    exact ⟨ret_bool Hq.out.symm, (below_alloc _ _).trans (below_drawn _ _ _)⟩
theorem rightD_cases2 (d : Day) : (rightD d = false ∧ decide (1 ≤ d.y) = false) ∨ (rightD d = false ∧ decide (1 ≤ d.y) = true ∧ decide (d.y ≤ 9999) = false) ∨
    (rightD d = false ∧ decide (1 ≤ d.y) = true ∧ decide (d.y ≤ 9999) = true ∧ decide (1 ≤ d.d) = false) ∨
    (decide (1 ≤ d.y) = true ∧ decide (d.y ≤ 9999) = true ∧ decide (1 ≤ d.d) = true ∧ rightD d = decide (d.d ≤ lenR d.y d.m)) := by
  unfold rightD
  cases h1 : decide (1 ≤ d.y)
  · simp
  · cases h2 : decide (d.y ≤ 9999)
    · simp
    · cases h5 : decide (1 ≤ d.d)
      · simp
      · have h5' : 1 ≤ d.d := by simpa using h5
        by_cases c : 1 ≤ d.m ∧ d.m ≤ 12
        · have e : lenR d.y d.m = lenM d.y d.m := by unfold lenR; rw [if_pos c]
          rw [e, decide_eq_true c.1, decide_eq_true c.2]; simp
        · have e : lenR d.y d.m = 0 := by unfold lenR; rw [if_neg c]
          rw [e, decide_eq_false (p := d.d ≤ 0) (by omega)]
          by_cases c1 : 1 ≤ d.m
          · rw [decide_eq_false (p := d.m ≤ 12) (by omega)]; simp
          · rw [decide_eq_false c1]; simp
set_option maxHeartbeats 1000000 in
theorem refRightD (d : Day) (w : World) :
    Calls Try.prog 32 #[.agg #[.int .i64 d.y, .int .i64 d.m, .int .i64 d.d]] w fun e w' => e = .returned (.bool (rightD d)) ∧ Below w.heap.size w w' := by
  rcases rightD_cases2 d with ⟨hq, t1⟩ | ⟨hq, t1, t2⟩ | ⟨hq, t1, t2, t3⟩ | ⟨t1, t2, t3, hq⟩
  rotate_right
  · have y1 : 1 ≤ d.y := by simpa using t1
    have y2 : d.y ≤ 9999 := by simpa using t2
    have Hq := Lib.hid hq
    clear hq
    have hcl := fun w => refLength d.y d.m w y1 y2
    generalize lenR d.y d.m = L at *
    clear y1 y2
    go_enter Try.func32, Try.ntmps32
    go_wp2_with fail
    go_quiet ((exact Calls.quiet_of_same ((hcl _).mono fun _ _ h => ⟨h.1, h.2.symm⟩)))
    go_wp2_with fail
    go_ret
    exact ⟨ret_bool Hq.out.symm, (below_alloc _ _).trans (below_drawn _ _ _)⟩
  all_goals
    have Hq := Lib.hid hq
    clear hq
    go_enter Try.func32, Try.ntmps32
    go_wp2_with fail
    go_quiet ((fail))
    go_wp2_with fail
    go_ret
    exact ⟨ret_bool Hq.out.symm, (below_alloc _ _).trans (below_drawn _ _ _)⟩
/-- of the months ahead: the sum's step, and how large it is -/
theorem sumM_le (y : Int) : ∀ k : Nat, 0 ≤ sumM y k ∧ sumM y k ≤ 31 * (k : Int)
  | 0 => ⟨Int.le_refl _, Int.le_refl _⟩
  | k + 1 => by
    have h := sumM_le y k
    have h2 := lenM_range y ((k : Int) + 1)
    show 0 ≤ sumM y k + lenM y ((k : Int) + 1) ∧ sumM y k + lenM y ((k : Int) + 1) ≤ 31 * ((k + 1 : Nat) : Int)
    omega
theorem aheadY_le {y : Int} (h1 : 1 ≤ y) (h2 : y ≤ 9999) : 0 ≤ aheadY y ∧ aheadY y ≤ 4000000 := by unfold aheadY; omega
theorem dateAhead (y : Int) (w : World) (h1 : 1 ≤ y) (h2 : y ≤ 9999) :
    Calls Try.prog 80 #[.int .i64 y] w fun e w' => e = .returned (.int .i64 (aheadY y)) ∧ w = w' := by
  have w1 : 0 ≤ y - 1 := by omega
  have w2 : y - 1 ≤ 9998 := by omega
  go_enter Try.func80, Try.ntmps80
  go_wp2_with fail
  go_ret
  exact ⟨ret_int (by unfold aheadY; rfl), rfl⟩
theorem days_yes {d : Day} (h : rightD d = true) : daysD d = aheadY d.y + sumM d.y (d.m - 1).toNat + d.d - 1 := by unfold daysD; rw [if_pos h]
theorem days_no {d : Day} (h : rightD d = false) : daysD d = -1 := by unfold daysD; rw [if_neg (by rw [h]; simp)]
set_option maxHeartbeats 2000000 in
theorem dateDays (d : Day) (w : World) :
    Calls Try.prog 68 #[.agg #[.int .i64 d.y, .int .i64 d.m, .int .i64 d.d]] w fun e w' => e = .returned (.int .i64 (daysD d)) ∧ Below w.heap.size w w' := by
  have hb1 := below_alloc w (.cells #[.int .i64 d.y, .int .i64 d.m, .int .i64 d.d] 23)
  have kx := Blk.new w #[.int .i64 d.y, .int .i64 d.m, .int .i64 d.d] 23
  go_enter Try.func68, Try.ntmps68
  go_wp2_with fail
  generalize hW : w.alloc (.cells #[.int .i64 d.y, .int .i64 d.m, .int .i64 d.d] 23) = W at *
  clear hW
  with_reducible refine (dateRight d _).mono ?_
  rintro e w1 ⟨rfl, b1⟩
  have bx := hb1.trans (b1.mono hb1.size)
  have k1 := kx.ext b1
  clear kx b1 hb1
  have x0 := k1.cell 0 _ rfl
  have x1 := k1.cell 1 _ rfl
  have x2 := k1.cell 2 _ rfl
  cases hr : rightD d with
  | false =>
    have Hd := Lib.hid (days_no hr)
    clear hr
    go_wp2_with fail
    go_ret
    exact ⟨ret_int Hd.out.symm, bx⟩
  | true =>
    have Hd := Lib.hid (days_yes hr)
    obtain ⟨a1, a2, a3, a4, a5, a6⟩ := (rightD_iff d).1 hr
    have hl := lenM_range d.y d.m
    have ha := aheadY_le a1 a2
    clear hr
    go_wp2_with fail
    with_reducible refine (dateAhead d.y _ a1 a2).mono ?_
    rintro e w' ⟨rfl, rfl⟩
    go_wp2_with fail
    go_loop [3, 4] (fun n i => ∃ k : Nat, (k : Int) + 1 ≤ d.m ∧ i = .int .i64 ((k : Int) + 1) ∧ n = .int .i64 (aheadY d.y + sumM d.y k)) (fun _ i => (d.m - intOf i).toNat)
    case atStart => exact ⟨0, by omega, rfl, by rw [show sumM d.y 0 = 0 from rfl, Int.add_zero]⟩
    case round =>
      obtain ⟨k, hk, rfl, rfl⟩ := hrel
      have hs := sumM_le d.y k
      by_cases hlt : (k : Int) + 1 < d.m
      · have hl2 := lenM_range d.y ((k : Int) + 1)
        have hst : Hid (sumM d.y (k + 1) = sumM d.y k + lenM d.y ((k : Int) + 1)) := rfl
        go_wp2_with fail
        with_reducible refine (dateLength d.y ((k : Int) + 1) _ a1 a2).mono ?_
        rintro e w' ⟨rfl, rfl⟩
        skip
        generalize lenM d.y ((k : Int) + 1) = L at *
        go_wp2_with fail
        go_round
        case rel => exact ⟨k + 1, by omega, by go_num, by rw [hst.out]; go_num⟩
        case measure => simp [intOf]; omega
      · have he : (d.m - 1).toNat = k := by omega
        have HD := Hd.out
        rw [he] at HD
        have HD' := Lib.hid HD
        clear he HD
        go_wp2_with fail
        go_ret
        exact ⟨ret_int (by rw [HD'.out]; try omega), bx⟩
set_option maxHeartbeats 2000000 in
theorem refDays (d : Day) (w : World) :
    Calls Try.prog 33 #[.agg #[.int .i64 d.y, .int .i64 d.m, .int .i64 d.d]] w fun e w' => e = .returned (.int .i64 (daysD d)) ∧ Below w.heap.size w w' := by
  have hb1 := below_alloc w (.cells #[.int .i64 d.y, .int .i64 d.m, .int .i64 d.d] 23)
  have kx := Blk.new w #[.int .i64 d.y, .int .i64 d.m, .int .i64 d.d] 23
  go_enter Try.func33, Try.ntmps33
  go_wp2_with fail
  generalize hW : w.alloc (.cells #[.int .i64 d.y, .int .i64 d.m, .int .i64 d.d] 23) = W at *
  clear hW
  with_reducible refine (refRightD d _).mono ?_
  rintro e w1 ⟨rfl, b1⟩
  have bx := hb1.trans (b1.mono hb1.size)
  have k1 := kx.ext b1
  clear kx b1 hb1
  have x0 := k1.cell 0 _ rfl
  have x1 := k1.cell 1 _ rfl
  have x2 := k1.cell 2 _ rfl
  cases hr : rightD d with
  | false =>
    have Hd := Lib.hid (days_no hr)
    clear hr
    go_wp2_with fail
    go_ret
    exact ⟨ret_int Hd.out.symm, bx⟩
  | true =>
    have Hd := Lib.hid (days_yes hr)
    obtain ⟨a1, a2, a3, a4, a5, a6⟩ := (rightD_iff d).1 hr
    have hl := lenM_range d.y d.m
    have ha := aheadY_le a1 a2
    clear hr
    go_wp2_with fail
    rw [show 365 * (d.y - 1) + (d.y - 1) / 4 - (d.y - 1) / 100 + (d.y - 1) / 400 = aheadY d.y from rfl]
    go_loop [4, 5] (fun n i => ∃ k : Nat, (k : Int) + 1 ≤ d.m ∧ i = .int .i64 ((k : Int) + 1) ∧ n = .int .i64 (aheadY d.y + sumM d.y k)) (fun _ i => (d.m - intOf i).toNat)
    case atStart => exact ⟨0, by omega, rfl, by rw [show sumM d.y 0 = 0 from rfl, Int.add_zero]⟩
    case round =>
      obtain ⟨k, hk, rfl, rfl⟩ := hrel
      have hs := sumM_le d.y k
      by_cases hlt : (k : Int) + 1 < d.m
      · have hl2 := lenM_range d.y ((k : Int) + 1)
        have hst : Hid (sumM d.y (k + 1) = sumM d.y k + lenM d.y ((k : Int) + 1)) := rfl
        go_wp2_with fail
        with_reducible refine (refLength d.y ((k : Int) + 1) _ a1 a2).mono ?_
        rintro e w' ⟨rfl, rfl⟩
        rw [show lenR d.y ((k : Int) + 1) = lenM d.y ((k : Int) + 1) from by unfold lenR; rw [if_pos (by omega)]]
        generalize lenM d.y ((k : Int) + 1) = L at *
        go_wp2_with fail
        go_round
        case rel => exact ⟨k + 1, by omega, by go_num, by rw [hst.out]; go_num⟩
        case measure => simp [intOf]; omega
      · have he : (d.m - 1).toNat = k := by omega
        have HD := Hd.out
        rw [he] at HD
        have HD' := Lib.hid HD
        clear he HD
        go_wp2_with fail
        go_ret
        exact ⟨ret_int (by rw [HD'.out]; try omega), bx⟩
end Go.Proofs.Ytpobhlnlnplbdaa
