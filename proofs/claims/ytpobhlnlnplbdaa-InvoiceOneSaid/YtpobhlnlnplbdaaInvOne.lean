/- The walk of InvoiceOne. -/
import Derived.Test.YtpobhlnlnplbdaaInvRuns
import Derived.Test.YtpobhlnlnplbdaaInvOneP
import Derived.Test.YtpobhlnlnplbdaaWithin
namespace Go.Proofs.Ytpobhlnlnplbdaa
open Go Go.RowKit
set_option maxHeartbeats 4000000 in
set_option maxRecDepth 100000 in
theorem invoiceOne_walk (a b c : Int) (w : World) (_ : -9223372036854775808 ≤ a) (_ : a ≤ 9223372036854775807) (_ : -9223372036854775808 ≤ b) (_ : b ≤ 9223372036854775807) (_ : -9223372036854775808 ≤ c) (_ : c ≤ 9223372036854775807) :
    Calls Try.prog 11 #[.int .i64 a, .int .i64 b, .int .i64 c] w fun e w' => e = .returned (.bool true) ∧ Below w.heap.size w w' := by
  obtain ⟨w0, hw0⟩ : ∃ w0, w0 = w := ⟨_, rfl⟩
  rw [← hw0]
  have b_0 := Below.refl w0.heap.size w0
  clear hw0
  have hbp := within_bounds a 0 100000 (by decide)
  have hn := within_bounds b 1 1000 (by decide)
  have hp := within_bounds c 0 1073741824 (by decide)
  go_enter Try.func11, Try.ntmps11
  go_wp2_with fail
  with_reducible refine (withinCalls a 0 100000 _ (by decide) (by decide) (by decide)).mono ?_
  rintro e w' ⟨rfl, rfl⟩
  generalize within a 0 100000 = bp at *
  go_wp2_with fail
  with_reducible refine (withinCalls b 1 1000 _ (by decide) (by decide) (by decide)).mono ?_
  rintro e w' ⟨rfl, rfl⟩
  generalize within b 1 1000 = n at *
  go_wp2_with fail
  with_reducible refine (withinCalls c 0 1073741824 _ (by decide) (by decide) (by decide)).mono ?_
  rintro e w' ⟨rfl, rfl⟩
  generalize within c 0 1073741824 = p at *
  have hL := Lib.hid (one_total hbp hn hp)
  have hm := one_prod hn hp
  have ht := one_tax hbp hm
  go_wp2_with fail
  with_reducible refine (invMkRow ⟨#[115, 116, 100]⟩ 2000 1 bp _).mono ?_
  rintro e w1 ⟨rfl, c1⟩
  have b_1 := b_0.trans (c1.mono b_0.size)
  clear b_0
  clear c1
  have hA1 := below_alloc w1 (.cells #[.string ⟨#[115, 116, 100]⟩, .int .i64 2000, .int .i64 1, .int .i64 1, .int .i64 bp] 25)
  have rA : Rd rateE (w1.alloc (.cells #[.string ⟨#[115, 116, 100]⟩, .int .i64 2000, .int .i64 1, .int .i64 1, .int .i64 bp] 25)) (.slice (some ⟨w1.heap.size, 0, none⟩) 1 1) (oneT bp) := OwnR.rd (OwnR.litAt rateE w1 _ _ (oneT bp) 1 0 w1.heap.size rfl rfl rfl (by unfold maxLen; omega) (Nat.zero_le _))
  have b_2 := b_1.trans (hA1.mono b_1.size)
  clear b_1
  go_wp2_with fail
  generalize hw2 : w1.alloc (.cells #[.string ⟨#[115, 116, 100]⟩, .int .i64 2000, .int .i64 1, .int .i64 1, .int .i64 bp] 25) = w2 at *
  clear hw2 hA1
  have rA_2 := rA
  clear rA
  with_reducible refine (invMkLine n p ⟨#[115, 116, 100]⟩ _).mono ?_
  rintro e w3 ⟨rfl, c3⟩
  have b_3 := b_2.trans (c3.mono b_2.size)
  have rA_3 := rA_2.ext c3
  clear b_2 rA_2
  clear c3
  have hB1 := below_alloc w3 (.cells #[.string ⟨#[]⟩, .string ⟨#[115, 116, 100]⟩, .int .i64 n, .int .i64 p] 60)
  have rB : Rd lnE (w3.alloc (.cells #[.string ⟨#[]⟩, .string ⟨#[115, 116, 100]⟩, .int .i64 n, .int .i64 p] 60)) (.slice (some ⟨w3.heap.size, 0, none⟩) 1 1) (oneL n p) := OwnR.rd (OwnR.litAt lnE w3 _ _ (oneL n p) 1 0 w3.heap.size rfl rfl rfl (by unfold maxLen; omega) (Nat.zero_le _))
  have b2 := b_3.trans (hB1.mono b_3.size)
  have rA2 := rA_3.ext hB1
  clear b_3 rA_3 hB1
  have hff : ∀ x ∈ oneL n p, Mon.fits x.count ∧ Mon.fits x.price := by intro x hx; simp only [oneL, List.mem_cons, List.not_mem_nil, or_false] at hx; subst hx; constructor <;> (show Mon.fits _; unfold Mon.fits; simp only []; omega)
  go_wp2_with fail
  with_reducible refine (invTotal _ _ (oneT bp) ⟨2026, 11, 15⟩ (oneL n p) _ rA2 rB hff).mono ?_
  rintro e w4 ⟨hT, c4⟩
  rw [hL.out] at hT
  obtain ⟨vT, rfl, ownT⟩ := hT
  have rT := ownT.rd
  obtain ⟨pT, cT, rfl⟩ := rT.shape
  have b3 := b2.trans (c4.mono b2.size)
  clear hL ownT rT b2 c4 rA2 rB hff
  obtain ⟨e1, e2, e3, e4, e5, e6⟩ := one_calc hbp hn hp
  have f1 : (n * p == wrap64 (n * p)) = true := by rw [e1]; simp
  have f2 : (((n * p * bp + 5000) / 10000) == (wrap64 ((wrap64 (wrap64 (wrap64 (n * p) * bp) + 5000)).tdiv 10000))) = true := by rw [e1, e2, e3, e4, e5]; simp
  have f3 : (n * p + ((n * p * bp + 5000) / 10000) == wrap64 (wrap64 (n * p) + (wrap64 ((wrap64 (wrap64 (wrap64 (n * p) * bp) + 5000)).tdiv 10000)))) = true := by rw [e1, e2, e3, e4, e5, e6]; simp
  clear e1 e2 e3 e4 e5 e6
  go_wp2_with fail
  with_reducible refine (invoiceRuns_walk _).mono ?_
  rintro e w9 ⟨rfl, c9⟩
  have b9 := (b3.trans ((below_alloc _ _).mono b3.size)).trans (c9.mono (b3.trans ((below_alloc _ _).mono b3.size)).size)
  go_wp2_with fail
  go_ret
  exact ⟨rfl, b9⟩
end Go.Proofs.Ytpobhlnlnplbdaa
