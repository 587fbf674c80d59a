/- The walks of MoneyTells, MoneyTexts, MoneyUndoes. -/
import Derived.Test.YtfimaamndcdofaaDoorMoneyRuns
import Derived.Test.YtfimaamndcdofaaDoorReadRef
namespace Go.Proofs.YtfimaamndcdofaaDoor
open Go Go.RowKit Go.Shelf Go.Lib Go.Sort

theorem told_eq (z : Int) : Mon.told z = .tuple #[.int .i64 (Mon.val z), .int .i64 (Mon.err z)] := rfl

set_option maxHeartbeats 1000000 in
theorem moneyTells_walk (a b : Int) (w : World) (a1 : -9223372036854775808 ≤ a) (a2 : a ≤ 9223372036854775807) (b1 : -9223372036854775808 ≤ b) (b2 : b ≤ 9223372036854775807) (htab : TabIs Tryd.prog w "internal/strconv.uint64pow10" .u64 pow10Tab) :
    Calls Tryd.prog 4 #[.int .i64 a, .int .i64 b] w fun e w' => e = .returned (.bool true) ∧ Below w.heap.size w w' := by
  have ha : Hid (Mon.fits a) := ⟨a1, a2⟩
  have hb : Hid (Mon.fits b) := ⟨b1, b2⟩
  clear a1 a2 b1 b2
  go_enter Tryd.func4, Tryd.ntmps4
  go_wp2_with fail
  with_reducible refine (moneyAdd _ _ _ ha.out hb.out).mono ?_
  rintro e w' ⟨rfl, rfl⟩
  rw [told_eq]
  go_wp2_with fail
  with_reducible refine (moneySub _ _ _ ha.out hb.out).mono ?_
  rintro e w' ⟨rfl, rfl⟩
  rw [told_eq (a - b)]
  go_wp2_with fail
  with_reducible refine (moneyMul _ _ _ ha.out hb.out).mono ?_
  rintro e w' ⟨rfl, rfl⟩
  rw [told_eq (a * b)]
  go_wp2_with fail
  with_reducible refine (refAdd _ _ _ ha.out hb.out).mono ?_
  rintro e w' ⟨rfl, rfl⟩
  rw [told_eq]
  go_wp2_with fail
  with_reducible refine (refSub _ _ _ ha.out hb.out).mono ?_
  rintro e w' ⟨rfl, rfl⟩
  rw [told_eq (a - b)]
  go_wp2_with fail
  with_reducible refine (refMul _ _ _ ha.out hb.out).mono ?_
  rintro e w' ⟨rfl, rfl⟩
  rw [told_eq (a * b)]
  generalize Mon.val (a + b) = x1 at *
  generalize Mon.val (a - b) = x2 at *
  generalize Mon.val (a * b) = x3 at *
  generalize Mon.err (a + b) = y1 at *
  generalize Mon.err (a - b) = y2 at *
  generalize Mon.err (a * b) = y3 at *
  go_wp2_with fail
  with_reducible refine (moneyRuns_walk _ htab).mono ?_
  rintro e w' ⟨rfl, hb⟩
  go_wp2_with fail
  go_ret
  exact ⟨rfl, hb⟩

theorem rd_form (l : List UInt8) : ∃ a b : Int, Mon.rd l = .tuple #[.int .i64 a, .int .i64 b] := by
  unfold Mon.rd Mon.rdBody
  split
  · exact ⟨0, 4, rfl⟩
  · split
    · exact ⟨_, _, rfl⟩
    · exact ⟨0, 4, rfl⟩

set_option maxHeartbeats 1000000 in
theorem moneyTexts_walk (a : Int) (s : ByteArray) (w : World) (a1 : -9223372036854775808 ≤ a) (a2 : a ≤ 9223372036854775807) (hs : s.size ≤ 140737488351232) (htab : TabIs Tryd.prog w "internal/strconv.uint64pow10" .u64 pow10Tab) :
    Calls Tryd.prog 5 #[.int .i64 a, .string s] w fun e w' => e = .returned (.bool true) ∧ Below w.heap.size w w' := by
  have ha : Hid (Mon.fits a) := ⟨a1, a2⟩
  clear a1 a2
  obtain ⟨l, rfl⟩ := str_ex s
  rw [str_size] at hs
  obtain ⟨m, hm, hml, hcase⟩ : ∃ m : List UInt8, Hid (m = l.take 200) ∧ m.length ≤ 140737488351232 ∧ (200 < l.length ∨ ¬ 200 < l.length) := ⟨_, rfl, by simp; omega, Classical.em _⟩
  obtain ⟨x, y, hx⟩ := rd_form m
  have Hx := Lib.hid hx
  clear hx
  rcases hcase with hc | hc
  · have hsl := run_str_to Tryd.underlying9 l 200 200 rfl (by omega)
    rw [← hm.out] at hsl
    have hq : (200 : Int) < (l.length : Int) := by omega
    have hsz := str_size l
    go_enter Tryd.func5, Tryd.ntmps5
    go_wp2_with fail
    clear hsl hsz
    with_reducible refine (moneyRead m _ (by omega)).mono ?_
    rintro e w' ⟨rfl, rfl⟩
    rw [Hx.out]
    go_wp2_with fail
    with_reducible refine (refRead m _ (by omega)).mono ?_
    rintro e w' ⟨rfl, rfl⟩
    rw [Hx.out]
    go_wp2_with fail
    with_reducible refine (moneyShow a _ ha.out htab).mono ?_
    rintro e w1 ⟨rfl, b1⟩
    go_wp2_with fail
    with_reducible refine (refShow a _ ha.out (tabIs_below htab b1)).mono ?_
    rintro e w2 ⟨rfl, b2⟩
    replace b2 := b1.trans (b2.mono b1.size)
    generalize Mon.text a = ta at *
    clear b1
    go_wp2_with fail
    with_reducible refine (moneyRuns_walk _ (tabIs_below htab b2)).mono ?_
    rintro e w3 ⟨rfl, b3⟩
    replace b3 := b2.trans (b3.mono b2.size)
    go_wp2_with fail
    go_ret
    exact ⟨rfl, b3⟩
  · have hm' : m = l := by rw [hm.out]; exact List.take_of_length_le (by omega)
    clear hm
    subst hm'
    have hq : ¬ (200 : Int) < (m.length : Int) := by omega
    have hsz := str_size m
    go_enter Tryd.func5, Tryd.ntmps5
    go_wp2_with fail
    clear hsz
    with_reducible refine (moneyRead m _ (by omega)).mono ?_
    rintro e w' ⟨rfl, rfl⟩
    rw [Hx.out]
    go_wp2_with fail
    with_reducible refine (refRead m _ (by omega)).mono ?_
    rintro e w' ⟨rfl, rfl⟩
    rw [Hx.out]
    go_wp2_with fail
    with_reducible refine (moneyShow a _ ha.out htab).mono ?_
    rintro e w1 ⟨rfl, b1⟩
    go_wp2_with fail
    with_reducible refine (refShow a _ ha.out (tabIs_below htab b1)).mono ?_
    rintro e w2 ⟨rfl, b2⟩
    replace b2 := b1.trans (b2.mono b1.size)
    generalize Mon.text a = ta at *
    clear b1
    go_wp2_with fail
    with_reducible refine (moneyRuns_walk _ (tabIs_below htab b2)).mono ?_
    rintro e w3 ⟨rfl, b3⟩
    replace b3 := b2.trans (b3.mono b2.size)
    go_wp2_with fail
    go_ret
    exact ⟨rfl, b3⟩

end Go.Proofs.YtfimaamndcdofaaDoor
