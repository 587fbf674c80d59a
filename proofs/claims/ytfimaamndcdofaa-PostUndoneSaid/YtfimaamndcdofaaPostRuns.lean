/- PostRuns: chapter 12's runs, walked by the contracts of package post. -/
import Derived.Test.YtfimaamndcdofaaPostFacts
import Derived.Test.YtfimaamndcdofaaPostSmall
import Derived.Test.YtfimaamndcdofaaEntries
import Derived.Test.YtfimaamndcdofaaEnter
import Derived.Test.YtfimaamndcdofaaBalanced
import Derived.Test.YtfimaamndcdofaaBookBal
namespace Go.Proofs.Ytfimaamndcdofaa
open Go Go.RowKit

theorem one_max : 1 ≤ maxLen := by unfold maxLen; decide
theorem three_max : 3 ≤ maxLen := by unfold maxLen; decide
theorem lit1 (w : World) (x : Bal) : Rd balE (w.alloc (.cells #[.string x.1, .int .i64 x.2] 33)) (.slice (some ⟨w.heap.size, 0, none⟩) 1 1) [x] := OwnR.rd (OwnR.litAt balE w _ _ [x] 1 0 w.heap.size rfl rfl rfl one_max (Nat.zero_le _))
theorem lit3 (w : World) (x y z : Bal) : Rd balE (w.alloc (.cells #[.string x.1, .int .i64 x.2, .string y.1, .int .i64 y.2, .string z.1, .int .i64 z.2] 33)) (.slice (some ⟨w.heap.size, 0, none⟩) 3 3) [x, y, z] := OwnR.rd (OwnR.litAt balE w _ _ [x, y, z] 3 0 w.heap.size rfl rfl rfl three_max (Nat.zero_le _))

set_option maxHeartbeats 2000000 in
theorem postRuns_walk (w : World) : Calls Try.prog 3 #[] w fun e w' => e = .returned (.bool true) ∧ Below w.heap.size w w' := by
  go_enter Try.func3, Try.ntmps3
  go_wp2_with fail
  with_reducible refine (postEntries 100 19 119 _ [⟨stdS, 1900, 100, 19⟩] _ ?_ ?_ ?_ ?_).mono ?_
  · exact OwnR.rd (OwnR.litAt partE w _ _ [⟨stdS, 1900, 100, 19⟩] 1 0 w.heap.size rfl rfl rfl one_max (Nat.zero_le _))
  · intro p hp; simp at hp; subst hp; constructor <;> (show Mon.fits _; unfold Mon.fits; decide)
  · intro p hp; simp at hp; subst hp; show stdS.size ≤ _; decide
  · decide
  rintro e w1 ⟨h, b1⟩
  rw [pruns1] at h
  obtain ⟨v1, rfl, own1⟩ := h
  have hr1 := own1.rd
  replace b1 := (below_alloc w _).trans (b1.mono (by simp))
  clear own1
  go_wp2_with fail
  with_reducible refine (toCalls _ _ _).mono ?_
  rintro e w2 ⟨rfl, b2⟩
  have hr2 := hr1.ext b2
  replace b2 := b1.trans (b2.mono b1.size)
  clear hr1 b1
  go_wp2_with fail
  with_reducible refine (postEnter _ _ [(sOwed, 5)] [(sOwed, 119), (netStd, -100), (taxStd, -19)] _ ?_ (hr2.ext (below_alloc _ _)) ?_ ?_ ?_).mono ?_
  · exact lit1 w2 (sOwed, 5)
  · intro p hp; simp at hp; subst hp; show Mon.fits _; unfold Mon.fits; decide
  · intro p hp; simp at hp; rcases hp with rfl | rfl | rfl <;> (show Mon.fits _; unfold Mon.fits; decide)
  · decide
  rintro e w3 ⟨h, b3⟩
  rw [pruns2] at h
  obtain ⟨v3, rfl, own3⟩ := h
  replace b3 := (below_alloc w2 _).trans (b3.mono (by simp))
  have hl3 := hr2.ext b3
  have hb3 := own3.rd
  replace b3 := b2.trans (b3.mono b2.size)
  clear own3 hr2 b2
  go_wp2_with fail
  with_reducible refine (toCalls _ _ _).mono ?_
  rintro e w4 ⟨rfl, c4⟩
  go_wp2_with fail
  with_reducible refine (toCalls _ _ _).mono ?_
  rintro e w5 ⟨rfl, c5⟩
  replace c5 := c4.trans (c5.mono c4.size)
  clear c4
  go_wp2_with fail
  with_reducible refine (toCalls _ _ _).mono ?_
  rintro e w6 ⟨rfl, c6⟩
  replace c6 := c5.trans (c6.mono c5.size)
  have hl6 := hl3.ext c6
  have hb6 := hb3.ext c6
  have b6 := b3.trans (c6.mono b3.size)
  clear c5 c6 hl3 hb3 b3
  go_wp2_with fail
  with_reducible refine (sameBal _ _ [(sOwed, 119), (netStd, -100), (taxStd, -19)] [(sOwed, 119), (netStd, -100), (taxStd, -19)] _ ?_ ?_).mono ?_
  · exact hl6.ext (below_alloc _ _)
  · exact lit3 w6 (sOwed, 119) (netStd, -100) (taxStd, -19)
  rintro e w7 ⟨rfl, n7, hw7⟩
  rw [decide_eq_true rfl]
  have c7 : Below w6.heap.size w6 w7 := by rw [hw7]; exact (below_alloc w6 _).trans (below_drawn _ _ _)
  clear hw7
  have hl7 := hl6.ext c7
  have hb7 := hb6.ext c7
  replace c7 := b6.trans (c7.mono b6.size)
  clear hl6 hb6 b6
  go_wp2_with fail
  with_reducible refine (toCalls _ _ _).mono ?_
  rintro e w8 ⟨rfl, c8⟩
  go_wp2_with fail
  with_reducible refine (toCalls _ _ _).mono ?_
  rintro e w9 ⟨rfl, c9⟩
  replace c9 := c8.trans (c9.mono c8.size)
  clear c8
  go_wp2_with fail
  with_reducible refine (toCalls _ _ _).mono ?_
  rintro e w10 ⟨rfl, c10⟩
  replace c10 := c9.trans (c10.mono c9.size)
  have hl10 := hl7.ext c10
  have hb10 := hb7.ext c10
  replace c10 := c7.trans (c10.mono c7.size)
  clear c9 hl7 hb7 c7
  go_wp2_with fail
  with_reducible refine (sameBal _ _ [(netStd, -100), (sOwed, 124), (taxStd, -19)] [(netStd, -100), (sOwed, 124), (taxStd, -19)] _ ?_ ?_).mono ?_
  · exact hb10.ext (below_alloc _ _)
  · exact lit3 w10 (netStd, -100) (sOwed, 124) (taxStd, -19)
  rintro e w11 ⟨rfl, n11, hw11⟩
  rw [decide_eq_true rfl]
  have c11 : Below w10.heap.size w10 w11 := by rw [hw11]; exact (below_alloc w10 _).trans (below_drawn _ _ _)
  clear hw11
  have hl11 := hl10.ext c11
  have hb11 := hb10.ext c11
  replace c11 := c10.trans (c11.mono c10.size)
  clear hl10 hb10 c10
  go_wp2_with fail
  with_reducible refine (postBalanced _ _ _ hl11 ?_ (by decide)).mono ?_
  · intro p hp; simp at hp; rcases hp with rfl | rfl | rfl <;> (show Mon.fits _; unfold Mon.fits; decide)
  rintro e w12 ⟨rfl, c12⟩
  rw [show decide ((amts [(sOwed, 119), (netStd, -100), (taxStd, -19)]).sum = 0) = true from by decide +kernel]
  have hb12 := hb11.ext c12
  replace c12 := c11.trans (c12.mono c11.size)
  clear c11 hl11 hb11
  go_wp2_with fail
  with_reducible refine (toCalls _ _ _).mono ?_
  rintro e w13 ⟨rfl, c13⟩
  go_wp2_with fail
  with_reducible refine (toCalls _ _ _).mono ?_
  rintro e w14 ⟨rfl, c14⟩
  replace c14 := c13.trans (c14.mono c13.size)
  clear c13
  go_wp2_with fail
  with_reducible refine (toCalls _ _ _).mono ?_
  rintro e w15 ⟨rfl, c15⟩
  replace c15 := c14.trans (c15.mono c14.size)
  have hb15 := hb12.ext c15
  replace c15 := c12.trans (c15.mono c12.size)
  clear c14 hb12 c12
  go_wp2_with fail
  with_reducible refine (postBalanced _ [({ data := #[97] }, 9223372036854775807), ({ data := #[98] }, 1), ({ data := #[99] }, -9223372036854775808)] _ ?_ ?_ (by decide)).mono ?_
  · exact lit3 w15 ({ data := #[97] }, 9223372036854775807) ({ data := #[98] }, 1) ({ data := #[99] }, -9223372036854775808)
  · intro p hp; simp at hp; rcases hp with rfl | rfl | rfl <;> (show Mon.fits _; unfold Mon.fits; decide)
  rintro e w16 ⟨rfl, c16⟩
  rw [show decide ((amts [({ data := #[97] }, 9223372036854775807), ({ data := #[98] }, 1), ({ data := #[99] }, -9223372036854775808)]).sum = 0) = true from by decide +kernel]
  replace c16 := (below_alloc w15 _).trans (c16.mono (by simp))
  have hb16 := hb15.ext c16
  replace c16 := c15.trans (c16.mono c15.size)
  clear c15 hb15
  go_wp2_with fail
  with_reducible refine (postBalanced _ _ _ hb16 ?_ (by decide)).mono ?_
  · intro p hp; simp at hp; rcases hp with rfl | rfl | rfl <;> (show Mon.fits _; unfold Mon.fits; decide)
  rintro e w17 ⟨rfl, c17⟩
  rw [show decide ((amts [(netStd, -100), (sOwed, 124), (taxStd, -19)]).sum = 0) = false from by decide +kernel]
  replace c17 := c16.trans (c17.mono c16.size)
  go_wp2_with fail
  go_ret
  exact ⟨rfl, c17⟩
end Go.Proofs.Ytfimaamndcdofaa
