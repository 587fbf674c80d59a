/- The walk of MoneyBack. -/
import Derived.Test.YtfimaamndcdofaaDoorMoneyTellsW
import Derived.Test.YtfimaamndcdofaaDoorMonBack
namespace Go.Proofs.YtfimaamndcdofaaDoor
open Go Go.RowKit Go.Shelf Go.Lib Go.Sort

theorem text_short (n : Int) (h : Mon.fits n) : (Mon.text n).length ≤ 140737488355328 := by
  have hu : n.natAbs ≤ 9223372036854775808 := by unfold Mon.fits at h; omega
  have hd : (decDigits (n.natAbs / 100)).length ≤ 20 := by rw [decDigits_length]; exact nDigits_le20 (n.natAbs / 100) (by omega)
  have h2 := Mon.texts_length n.natAbs
  unfold Mon.text
  split
  · rw [List.length_cons]; omega
  · omega

set_option maxHeartbeats 1000000 in
theorem moneyBack_walk (a : Int) (s : ByteArray) (w : World) (a1 : -9223372036854775808 ≤ a) (a2 : a ≤ 9223372036854775807) (hs : s.size ≤ 140737488351232) (htab : TabIs Tryd.prog w "internal/strconv.uint64pow10" .u64 pow10Tab) :
    Calls Tryd.prog 6 #[.int .i64 a, .string s] w fun e w' => e = .returned (.bool true) ∧ Below w.heap.size w w' := by
  have ha : Hid (Mon.fits a) := ⟨a1, a2⟩
  clear a1 a2
  obtain ⟨l, rfl⟩ := str_ex s
  rw [str_size] at hs
  obtain ⟨x, y, hx⟩ := rd_form l
  have Hx := Lib.hid hx
  clear hx
  go_enter Tryd.func6, Tryd.ntmps6
  go_wp2_with fail
  with_reducible refine (moneyShow a _ ha.out htab).mono ?_
  rintro e w1 ⟨rfl, b1⟩
  go_wp2_with fail
  with_reducible refine (moneyRead (Mon.text a) _ (text_short a ha.out)).mono ?_
  rintro e w' ⟨rfl, rfl⟩
  rw [Mon.rd_text a ha.out]
  go_wp2_with fail
  with_reducible refine (moneyRead l _ (by omega)).mono ?_
  rintro e w' ⟨rfl, rfl⟩
  rw [Hx.out]
  by_cases hy : y = 0
  · obtain ⟨hm, hf⟩ := Mon.text_rd (by rw [Hx.out, hy])
    clear Hx
    have Hm := Lib.hid hm
    have Hf := Lib.hid hf
    clear hm hf
    subst hy
    go_wp2_with fail
    with_reducible refine (moneyShow x _ Hf.out (tabIs_below htab b1)).mono ?_
    rintro e w2 ⟨rfl, b2⟩
    rw [Hm.out]
    replace b2 := b1.trans (b2.mono b1.size)
    clear b1
    go_wp2_with fail
    with_reducible refine (moneyRuns_walk _ (tabIs_below htab b2)).mono ?_
    rintro e w3 ⟨rfl, b3⟩
    replace b3 := b2.trans (b3.mono b2.size)
    go_wp2_with fail
    go_ret
    exact ⟨rfl, b3⟩
  · have hm := Mon.rd_no Hx.out hy
    subst hm
    have hy1 : (y == 0) = false := by simp; exact hy
    have hy2 : (y != 0) = true := by simp; exact hy
    clear Hx
    have Hy := Lib.hid hy
    clear hy
    go_wp2_with fail
    with_reducible refine (moneyRuns_walk _ (tabIs_below htab b1)).mono ?_
    rintro e w3 ⟨rfl, b3⟩
    replace b3 := b1.trans (b3.mono b1.size)
    go_wp2_with fail
    go_ret
    exact ⟨rfl, b3⟩

end Go.Proofs.YtfimaamndcdofaaDoor
