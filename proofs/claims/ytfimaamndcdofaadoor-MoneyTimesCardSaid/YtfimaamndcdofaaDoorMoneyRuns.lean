/- MoneyRuns: chapter 4's runs, walked by the contracts of package money. -/
import Derived.Test.YtfimaamndcdofaaDoorRead
import Derived.Test.YtfimaamndcdofaaDoorShowRef
import Derived.Test.YtfimaamndcdofaaDoorMoneyMul2
namespace Go.Proofs.YtfimaamndcdofaaDoor
open Go Go.RowKit Go.Shelf Go.Lib Go.Sort

theorem mruns1 : Mon.text 5 = [48, 46, 48, 53] := by decide +kernel
theorem mruns2 : Mon.text (-1230) = [45, 49, 50, 46, 51, 48] := by decide +kernel
theorem mruns3 : Mon.text (-9223372036854775808) = [45, 57, 50, 50, 51, 51, 55, 50, 48, 51, 54, 56, 53, 52, 55, 55, 53, 56, 46, 48, 56] := by decide +kernel
theorem mruns4 : Mon.rd [49, 50, 46, 51, 48] = .tuple #[.int .i64 1230, .int .i64 0] := by kernel_rfl
theorem mruns5 : Mon.rd [48, 49, 50, 46, 51, 48] = .tuple #[.int .i64 0, .int .i64 4] := by kernel_rfl
theorem mruns6 : Mon.rd [49, 46, 53] = .tuple #[.int .i64 0, .int .i64 4] := by kernel_rfl
theorem mruns7 : Mon.rd [45, 48, 46, 48, 48] = .tuple #[.int .i64 0, .int .i64 4] := by kernel_rfl
theorem mruns8 : Mon.rd [57, 50, 50, 51, 51, 55, 50, 48, 51, 54, 56, 53, 52, 55, 55, 53, 56, 46, 48, 56] = .tuple #[.int .i64 0, .int .i64 7] := by kernel_rfl

set_option maxHeartbeats 400000 in
theorem readsYes (l : List UInt8) (n f : Int) (w : World) (hl : l.length ≤ 140737488355328) (h : Mon.rd l = .tuple #[.int .i64 n, .int .i64 f]) :
    Calls Tryd.prog 11 #[.string { data := l.toArray }, .int .i64 n, .int .i64 f] w fun e w' => e = .returned (.bool true) ∧ w = w' := by
  have H := Lib.hid h
  clear h
  go_enter Tryd.func11, Tryd.ntmps11
  go_wp2_with fail
  with_reducible refine (moneyRead l _ hl).mono ?_
  rintro e w' ⟨rfl, rfl⟩
  rw [H.out]
  go_wp2_with fail
  all_goals
    go_ret
    exact ⟨by simp, rfl⟩

theorem mruns9 : Mon.told (9223372036854775807 + 1) = .tuple #[.int .i64 0, .int .i64 7] := by kernel_rfl
theorem mruns10 : Mon.told (0 - -9223372036854775808) = .tuple #[.int .i64 0, .int .i64 7] := by kernel_rfl
theorem mruns11 : Mon.told (-9223372036854775808 * -1) = .tuple #[.int .i64 0, .int .i64 7] := by kernel_rfl
theorem mruns12 : Mon.told (4294967296 * -2147483648) = .tuple #[.int .i64 (-9223372036854775808), .int .i64 0] := by kernel_rfl

set_option maxHeartbeats 1000000 in
theorem moneyRuns_walk (w : World) (htab : TabIs Tryd.prog w "internal/strconv.uint64pow10" .u64 pow10Tab) :
    Calls Tryd.prog 3 #[] w fun e w' => e = .returned (.bool true) ∧ Below w.heap.size w w' := by
  go_enter Tryd.func3, Tryd.ntmps3
  go_wp2_with fail
  with_reducible refine (moneyShow 5 _ (by decide) htab).mono ?_
  rintro e w1 ⟨rfl, b1⟩
  rw [mruns1]
  go_wp2_with fail
  with_reducible refine (moneyShow (-1230) _ (by decide) (tabIs_below htab b1)).mono ?_
  rintro e w2 ⟨rfl, b2⟩
  replace b2 := b1.trans (b2.mono b1.size)
  rw [mruns2]
  clear b1
  go_wp2_with fail
  with_reducible refine (moneyShow (-9223372036854775808) _ (by decide) (tabIs_below htab b2)).mono ?_
  rintro e w3 ⟨rfl, b3⟩
  replace b3 := b2.trans (b3.mono b2.size)
  rw [mruns3]
  clear b2
  go_wp2_with fail
  with_reducible refine (readsYes _ _ _ _ (by decide) mruns4).mono ?_
  rintro e w' ⟨rfl, rfl⟩
  go_wp2_with fail
  with_reducible refine (readsYes _ _ _ _ (by decide) mruns5).mono ?_
  rintro e w' ⟨rfl, rfl⟩
  go_wp2_with fail
  with_reducible refine (readsYes _ _ _ _ (by decide) mruns6).mono ?_
  rintro e w' ⟨rfl, rfl⟩
  go_wp2_with fail
  with_reducible refine (readsYes _ _ _ _ (by decide) mruns7).mono ?_
  rintro e w' ⟨rfl, rfl⟩
  go_wp2_with fail
  with_reducible refine (readsYes _ _ _ _ (by decide) mruns8).mono ?_
  rintro e w' ⟨rfl, rfl⟩
  go_wp2_with fail
  with_reducible refine (moneyAdd _ _ _ (by decide) (by decide)).mono ?_
  rintro e w' ⟨rfl, rfl⟩
  rw [mruns9]
  go_wp2_with fail
  with_reducible refine (moneySub _ _ _ (by decide) (by decide)).mono ?_
  rintro e w' ⟨rfl, rfl⟩
  rw [mruns10]
  go_wp2_with fail
  with_reducible refine (moneyMul _ _ _ (by decide) (by decide)).mono ?_
  rintro e w' ⟨rfl, rfl⟩
  rw [mruns11]
  go_wp2_with fail
  with_reducible refine (moneyMul _ _ _ (by decide) (by decide)).mono ?_
  rintro e w' ⟨rfl, rfl⟩
  rw [mruns12]
  go_wp2_with fail
  go_ret
  exact ⟨rfl, b3⟩

end Go.Proofs.YtfimaamndcdofaaDoor
