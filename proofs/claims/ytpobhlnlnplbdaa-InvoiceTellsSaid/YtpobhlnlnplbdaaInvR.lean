/- Walks of rate.Tax and of the document's Tax. -/
import Derived.Test.YtpobhlnlnplbdaaInvP
import Derived.Test.YtpobhlnlnplbdaaMoneyMul
namespace Go.Proofs.Ytpobhlnlnplbdaa
open Go Go.RowKit
def taxA (n bp : Int) : Int := match taxV n bp with | .ok x => x | .error _ => 0
def taxE (n bp : Int) : Int := match taxV n bp with | .ok _ => 0 | .error e => e
theorem tax_bad {n bp : Int} (h : bp < 0 ∨ 100000 < bp) : taxV n bp = .error 1 := by unfold taxV; rw [if_pos h]
theorem tax_over {n bp : Int} (h : ¬ (bp < 0 ∨ 100000 < bp)) (h2 : 9223372036854775807 < taxN n bp) : taxV n bp = .error 7 := by unfold taxV; rw [if_neg h, if_neg (by omega)]
theorem tax_ok {n bp : Int} (h : ¬ (bp < 0 ∨ 100000 < bp)) (h2 : taxN n bp ≤ 9223372036854775807) : taxV n bp = .ok (if n < 0 then -taxN n bp else taxN n bp) := by unfold taxV; rw [if_neg h, if_pos h2]
theorem ret_two {a b c d : Int} (h1 : a = b) (h2 : c = d) : Ending.returned (.tuple #[.int .i64 a, .int .i64 c]) = .returned (.tuple #[.int .i64 b, .int .i64 d]) := by rw [h1, h2]
set_option maxRecDepth 10000 in
/-- the share, by quotient and rest -/
theorem taxN_parts {n bp : Int} {u q r : Nat} (hu : n.natAbs = u) (hq : u / 10000 = q) (hr : u % 10000 = r) (h0 : 0 ≤ bp) : taxN n bp = (q : Int) * bp + ((r : Int) * bp + 5000) / 10000 := by
  unfold taxN
  have h1 : u = 10000 * q + r := by omega
  have h2 : (n.natAbs : Int) * bp = 10000 * ((q : Int) * bp) + (r : Int) * bp := by
    have h3 : (u : Int) = 10000 * (q : Int) + (r : Int) := by omega
    rw [hu, h3, Int.add_mul, Int.mul_assoc]
  rw [h2]
  generalize (q : Int) * bp = A
  generalize (r : Int) * bp = B
  omega
theorem half_parts (X : Int) : (2 * X + 10000) / 20000 = (X + 5000) / 10000 := by omega
theorem small_rest {r : Nat} {bp : Int} (hr : r < 10000) (h0 : 0 ≤ bp) (h1 : bp ≤ 100000) : 0 ≤ (r : Int) * bp ∧ (r : Int) * bp ≤ 999900000 := by
  constructor
  · exact Int.mul_nonneg (by omega) h0
  · calc (r : Int) * bp ≤ 9999 * bp := Int.mul_le_mul_of_nonneg_right (by omega) h0
      _ ≤ 9999 * 100000 := Int.mul_le_mul_of_nonneg_left h1 (by omega)
      _ = 999900000 := by decide
/-- too many: the quotient alone is too large -/
theorem many_over {q : Nat} {bp : Int} (h0 : 0 < bp) (h : 9223372036854775807 / bp < (q : Int)) : 9223372036854775807 < (q : Int) * bp := by
  rw [Int.ediv_lt_iff_lt_mul h0] at h; exact h
theorem many_fit {q : Nat} {bp : Int} (h0 : 0 < bp) (h : ¬ 9223372036854775807 / bp < (q : Int)) : (q : Int) * bp ≤ 9223372036854775807 := by
  rw [Int.ediv_lt_iff_lt_mul h0] at h; omega

set_option maxHeartbeats 2000000 in
theorem rateShare (n bp : Int) (w : World) (hn : Mon.fits n) (hb1 : -9223372036854775808 ≤ bp) (hb2 : bp ≤ 9223372036854775807) :
    Calls Try.prog 85 #[.int .i64 n, .int .i64 bp, .int .i64 10000] w fun e w' => e = .returned (.tuple #[.int .i64 (taxA n bp), .int .i64 (taxE n bp)]) ∧ ∃ m, w' = w.drewN m := by
  obtain ⟨a1, a2⟩ := hn
  by_cases hbad : bp < 0 ∨ 100000 < bp
  · have Hv := Lib.hid (tax_bad (n := n) hbad)
    rcases hbad with h | h
    · go_enter Try.func85, Try.ntmps85
      go_wp2_with fail
      go_ret2
      exact ⟨ret_two (by unfold taxA; rw [Hv.out]) (by unfold taxE; rw [Hv.out]), 0, rfl⟩
    · have h' : ¬ bp < 0 := by omega
      go_enter Try.func85, Try.ntmps85
      go_wp2_with fail
      go_ret2
      exact ⟨ret_two (by unfold taxA; rw [Hv.out]) (by unfold taxE; rw [Hv.out]), 0, rfl⟩
  · have b0 : 0 ≤ bp := by omega
    have b1 : bp ≤ 100000 := by omega
    have n0 : ¬ bp < 0 := by omega
    have n1 : ¬ 100000 < bp := by omega
    obtain ⟨u, hu⟩ : ∃ u : Nat, n.natAbs = u := ⟨_, rfl⟩
    obtain ⟨q, hq⟩ : ∃ q, u / 10000 = q := ⟨_, rfl⟩
    obtain ⟨r, hr⟩ : ∃ r, u % 10000 = r := ⟨_, rfl⟩
    have hp := taxN_parts (bp := bp) hu hq hr b0
    have hr1 := small_rest (r := r) (by omega) b0 b1
    have hover := Lib.hid (tax_over (n := n) hbad)
    have hok := Lib.hid (tax_ok (n := n) hbad)
    have hqs : q ≤ 922337203685478 := by omega
    have hrr : r < 10000 := by omega
    have hqi : (u : Int) / 10000 = (q : Int) := by omega
    have hri : (u : Int) % 10000 = (r : Int) := by omega
    have hwu : IntKind.u64.wrap (u : Int) = (u : Int) := by rw [IntKind.wrap_u64]; omega
    have hcase : (n < 0 ∧ IntKind.u64.wrap n = n + 18446744073709551616 ∧ bits .xor .u64 IntKind.u64.max (n + 18446744073709551616) = 18446744073709551615 - (n + 18446744073709551616) ∧ (18446744073709551615 - (n + 18446744073709551616) + 1 : Int) = (u : Int)) ∨ (¬ n < 0 ∧ IntKind.u64.wrap n = (u : Int)) := by
      by_cases hneg : n < 0
      · exact .inl ⟨hneg, by rw [IntKind.wrap_u64]; omega, u64_not_int _ (by omega) (by omega), by omega⟩
      · exact .inr ⟨hneg, by rw [IntKind.wrap_u64]; omega⟩
    have hA0 : 0 ≤ (q : Int) * bp := Int.mul_nonneg (by omega) b0
    have hw1 : IntKind.u64.wrap (2 * (r : Int)) = 2 * (r : Int) := by rw [IntKind.wrap_u64]; omega
    have hw2 : IntKind.u64.wrap (2 * (r : Int) * bp) = 2 * (r : Int) * bp := by rw [IntKind.wrap_u64, Int.mul_assoc]; omega
    have hw3 : IntKind.u64.wrap (2 * (r : Int) * bp + 10000) = 2 * (r : Int) * bp + 10000 := by rw [IntKind.wrap_u64, Int.mul_assoc]; omega
    have hw4 : (2 * (r : Int) * bp + 10000).tdiv 20000 = (2 * (r : Int) * bp + 10000) / 20000 := Int.tdiv_eq_ediv_of_nonneg (by rw [Int.mul_assoc]; omega)
    have hhalf := half_parts ((r : Int) * bp)
    rw [← Int.mul_assoc] at hhalf
    have hw5 : ((9223372036854775807 : Int)).tdiv bp = 9223372036854775807 / bp := Int.tdiv_eq_ediv_of_nonneg (by decide)
    have hw10 : IntKind.u64.wrap ((2 * (r : Int) * bp + 10000) / 20000) = (2 * (r : Int) * bp + 10000) / 20000 := by rw [hhalf, IntKind.wrap_u64]; omega
    have Hh := Lib.hid hhalf
    have Hp := Lib.hid hp
    clear hp hbad hhalf
    rcases hcase with ⟨hneg, e1, e2, e3⟩ | ⟨hneg, e1⟩
    all_goals
      have Hu := Lib.hid hu
      clear hu hq hr
      go_enter Try.func85, Try.ntmps85
      go_wp2_with fail
      go_quiet ((fail))
      try clear e1
      try clear e2
      try clear e3
      try rw [hqi]
      try rw [hri]
      clear hqi hri hwu
      by_cases hz : 0 < bp
      · have hd0 : 0 ≤ 9223372036854775807 / bp := Int.ediv_nonneg (by decide) (by omega)
        have hd1 : 9223372036854775807 / bp ≤ 9223372036854775807 := Int.ediv_le_self _ (by decide)
        have hw11 : IntKind.u64.wrap (9223372036854775807 / bp) = 9223372036854775807 / bp := by rw [IntKind.wrap_u64]; omega
        by_cases hov : 9223372036854775807 / bp < (q : Int)
        · have hmo := many_over hz hov
          have Hv := Lib.hid (hover.out (by rw [Hp.out]; omega))
          go_wp2_with fail
          go_ret2
          exact ⟨ret_two (by unfold taxA; rw [Hv.out]) (by unfold taxE; rw [Hv.out]), _, rfl⟩
        · have hmf := many_fit hz hov
          have hw6 : IntKind.u64.wrap ((q : Int) * bp) = (q : Int) * bp := by rw [IntKind.wrap_u64]; omega
          have hw7 : IntKind.u64.wrap ((q : Int) * bp + (2 * (r : Int) * bp + 10000) / 20000) = taxN n bp := by rw [Hh.out, Hp.out, IntKind.wrap_u64]; omega
          have hT0 : 0 ≤ taxN n bp := by rw [Hp.out]; omega
          have hT1 : taxN n bp < 18446744073709551616 := by rw [Hp.out]; omega
          clear hmf hA0 hr1
          generalize taxN n bp = t at *
          by_cases hto : 9223372036854775807 < t
          · have Hv := Lib.hid (hover.out hto)
            go_wp2_with fail
            go_ret2
            exact ⟨ret_two (by unfold taxA; rw [Hv.out]) (by unfold taxE; rw [Hv.out]), _, rfl⟩
          · have hv := hok.out (by omega)
            first | rw [if_pos hneg] at hv | rw [if_neg (Int.not_lt.2 hneg)] at hv
            have Hv := Lib.hid hv
            have hw8 : IntKind.i64.wrap t = t := by rw [IntKind.wrap_i64]; omega
            have hw9 : IntKind.i64.wrap (-t) = -t := by rw [IntKind.wrap_i64]; omega
            clear hv
            go_wp2_with fail
            go_ret2
            exact ⟨ret_two (by unfold taxA; rw [Hv.out]) (by unfold taxE; rw [Hv.out]), _, rfl⟩
      · have hb0 : bp = 0 := by omega
        have hmf : (q : Int) * bp ≤ 9223372036854775807 := by rw [hb0, Int.mul_zero]; decide
        have hw6 : IntKind.u64.wrap ((q : Int) * bp) = (q : Int) * bp := by rw [IntKind.wrap_u64]; omega
        clear hb0
        have hw7 : IntKind.u64.wrap ((q : Int) * bp + (2 * (r : Int) * bp + 10000) / 20000) = taxN n bp := by rw [Hh.out, Hp.out, IntKind.wrap_u64]; omega
        have hT0 : 0 ≤ taxN n bp := by rw [Hp.out]; omega
        have hT1 : taxN n bp < 18446744073709551616 := by rw [Hp.out]; omega
        clear hmf hA0 hr1
        generalize taxN n bp = t at *
        by_cases hto : 9223372036854775807 < t
        · have Hv := Lib.hid (hover.out hto)
          go_wp2_with fail
          go_ret2
          exact ⟨ret_two (by unfold taxA; rw [Hv.out]) (by unfold taxE; rw [Hv.out]), _, rfl⟩
        · have hv := hok.out (by omega)
          first | rw [if_pos hneg] at hv | rw [if_neg (Int.not_lt.2 hneg)] at hv
          have Hv := Lib.hid hv
          have hw8 : IntKind.i64.wrap t = t := by rw [IntKind.wrap_i64]; omega
          have hw9 : IntKind.i64.wrap (-t) = -t := by rw [IntKind.wrap_i64]; omega
          clear hv
          go_wp2_with fail
          go_ret2
          exact ⟨ret_two (by unfold taxA; rw [Hv.out]) (by unfold taxE; rw [Hv.out]), _, rfl⟩
theorem rateTax (n bp : Int) (w : World) (hn : Mon.fits n) (hb1 : -9223372036854775808 ≤ bp) (hb2 : bp ≤ 9223372036854775807) :
    Calls Try.prog 75 #[.int .i64 n, .int .i64 bp] w fun e w' => e = .returned (.tuple #[.int .i64 (taxA n bp), .int .i64 (taxE n bp)]) ∧ ∃ m, w' = w.drewN m := by
  go_enter Try.func75, Try.ntmps75
  go_wp2_with fail
  with_reducible refine (rateShare n bp _ hn hb1 hb2).mono ?_
  rintro e w1 ⟨rfl, m, rfl⟩
  go_wp2_with fail
  go_ret2
  exact ⟨rfl, m, rfl⟩
set_option maxHeartbeats 2000000 in
theorem refTax (n bp : Int) (w : World) (hn : Mon.fits n) (hb1 : -9223372036854775808 ≤ bp) (hb2 : bp ≤ 9223372036854775807) :
    Calls Try.prog 61 #[.int .i64 n, .int .i64 bp] w fun e w' => e = .returned (.tuple #[.int .i64 (taxA n bp), .int .i64 (taxE n bp)]) ∧ w = w' := by
  have hsize := refSize n w hn
  obtain ⟨a1, a2⟩ := hn
  by_cases hbad : bp < 0 ∨ 100000 < bp
  · have Hv := Lib.hid (tax_bad (n := n) hbad)
    rcases hbad with h | h
    · go_enter Try.func61, Try.ntmps61
      go_wp2_with fail
      go_ret2
      exact ⟨ret_two (by unfold taxA; rw [Hv.out]) (by unfold taxE; rw [Hv.out]), rfl⟩
    · have h' : ¬ bp < 0 := by omega
      go_enter Try.func61, Try.ntmps61
      go_wp2_with fail
      go_ret2
      exact ⟨ret_two (by unfold taxA; rw [Hv.out]) (by unfold taxE; rw [Hv.out]), rfl⟩
  · have b0 : 0 ≤ bp := by omega
    have b1 : bp ≤ 100000 := by omega
    have n0 : ¬ bp < 0 := by omega
    have n1 : ¬ 100000 < bp := by omega
    obtain ⟨u, hu⟩ : ∃ u : Nat, n.natAbs = u := ⟨_, rfl⟩
    obtain ⟨q, hq⟩ : ∃ q, u / 10000 = q := ⟨_, rfl⟩
    obtain ⟨r, hr⟩ : ∃ r, u % 10000 = r := ⟨_, rfl⟩
    have hp := taxN_parts (bp := bp) hu hq hr b0
    have hr1 := small_rest (r := r) (by omega) b0 b1
    have hover := Lib.hid (tax_over (n := n) hbad)
    have hok := Lib.hid (tax_ok (n := n) hbad)
    have hqs : q ≤ 922337203685478 := by omega
    have hrr : r < 10000 := by omega
    have hqi : (u : Int) / 10000 = (q : Int) := by omega
    have hri : (u : Int) % 10000 = (r : Int) := by omega
    have hwu : IntKind.u64.wrap bp = bp := by rw [IntKind.wrap_u64]; omega
    have hA0 : 0 ≤ (q : Int) * bp := Int.mul_nonneg (by omega) b0
    have hw2 : IntKind.u64.wrap ((r : Int) * bp) = (r : Int) * bp := by rw [IntKind.wrap_u64]; omega
    have hw3 : IntKind.u64.wrap ((r : Int) * bp + 5000) = (r : Int) * bp + 5000 := by rw [IntKind.wrap_u64]; omega
    have hw4 : ((r : Int) * bp + 5000).tdiv 10000 = ((r : Int) * bp + 5000) / 10000 := Int.tdiv_eq_ediv_of_nonneg (by omega)
    have hw10 : IntKind.u64.wrap (((r : Int) * bp + 5000) / 10000) = ((r : Int) * bp + 5000) / 10000 := by rw [IntKind.wrap_u64]; omega
    have hw5 : ((9223372036854775807 : Int)).tdiv bp = 9223372036854775807 / bp := Int.tdiv_eq_ediv_of_nonneg (by decide)
    have Hp := Lib.hid hp
    rw [hu] at hsize
    have Hu := Lib.hid hu
    clear hp hbad hu hq hr
    go_enter Try.func61, Try.ntmps61
    go_wp2_with fail
    with_reducible refine hsize.mono ?_
    rintro e w' ⟨rfl, rfl⟩
    by_cases hz : 0 < bp
    · have hd0 : 0 ≤ 9223372036854775807 / bp := Int.ediv_nonneg (by decide) (by omega)
      have hd1 : 9223372036854775807 / bp ≤ 9223372036854775807 := Int.ediv_le_self _ (by decide)
      have hw11 : IntKind.u64.wrap (9223372036854775807 / bp) = 9223372036854775807 / bp := by rw [IntKind.wrap_u64]; omega
      by_cases hov : 9223372036854775807 / bp < (q : Int)
      · have hmo := many_over hz hov
        have Hv := Lib.hid (hover.out (by rw [Hp.out]; omega))
        go_wp2_with fail
        go_ret2
        exact ⟨ret_two (by unfold taxA; rw [Hv.out]) (by unfold taxE; rw [Hv.out]), rfl⟩
      · have hmf := many_fit hz hov
        have hw6 : IntKind.u64.wrap ((q : Int) * bp) = (q : Int) * bp := by rw [IntKind.wrap_u64]; omega
        have hw7 : IntKind.u64.wrap ((q : Int) * bp + ((r : Int) * bp + 5000) / 10000) = taxN n bp := by rw [Hp.out, IntKind.wrap_u64]; omega
        have hT0 : 0 ≤ taxN n bp := by rw [Hp.out]; omega
        have hT1 : taxN n bp < 18446744073709551616 := by rw [Hp.out]; omega
        clear hmf hA0 hr1
        generalize taxN n bp = t at *
        by_cases hto : 9223372036854775807 < t
        · have Hv := Lib.hid (hover.out hto)
          go_wp2_with fail
          go_ret2
          exact ⟨ret_two (by unfold taxA; rw [Hv.out]) (by unfold taxE; rw [Hv.out]), rfl⟩
        · have hv := hok.out (by omega)
          have hw8 : IntKind.i64.wrap t = t := by rw [IntKind.wrap_i64]; omega
          have hw9 : IntKind.i64.wrap (-t) = -t := by rw [IntKind.wrap_i64]; omega
          by_cases hneg : n < 0
          · rw [if_pos hneg] at hv
            have Hv := Lib.hid hv
            clear hv
            go_wp2_with fail
            go_ret2
            exact ⟨ret_two (by unfold taxA; rw [Hv.out]) (by unfold taxE; rw [Hv.out]), rfl⟩
          · rw [if_neg hneg] at hv
            have Hv := Lib.hid hv
            clear hv
            go_wp2_with fail
            go_ret2
            exact ⟨ret_two (by unfold taxA; rw [Hv.out]) (by unfold taxE; rw [Hv.out]), rfl⟩
    · have hb0 : bp = 0 := by omega
      have hmf : (q : Int) * bp ≤ 9223372036854775807 := by rw [hb0, Int.mul_zero]; decide
      have hw6 : IntKind.u64.wrap ((q : Int) * bp) = (q : Int) * bp := by rw [IntKind.wrap_u64]; omega
      clear hb0
      have hw7 : IntKind.u64.wrap ((q : Int) * bp + ((r : Int) * bp + 5000) / 10000) = taxN n bp := by rw [Hp.out, IntKind.wrap_u64]; omega
      have hT0 : 0 ≤ taxN n bp := by rw [Hp.out]; omega
      have hT1 : taxN n bp < 18446744073709551616 := by rw [Hp.out]; omega
      clear hmf hA0 hr1
      generalize taxN n bp = t at *
      by_cases hto : 9223372036854775807 < t
      · have Hv := Lib.hid (hover.out hto)
        go_wp2_with fail
        go_ret2
        exact ⟨ret_two (by unfold taxA; rw [Hv.out]) (by unfold taxE; rw [Hv.out]), rfl⟩
      · have hv := hok.out (by omega)
        have hw8 : IntKind.i64.wrap t = t := by rw [IntKind.wrap_i64]; omega
        have hw9 : IntKind.i64.wrap (-t) = -t := by rw [IntKind.wrap_i64]; omega
        by_cases hneg : n < 0
        · rw [if_pos hneg] at hv
          have Hv := Lib.hid hv
          clear hv
          go_wp2_with fail
          go_ret2
          exact ⟨ret_two (by unfold taxA; rw [Hv.out]) (by unfold taxE; rw [Hv.out]), rfl⟩
        · rw [if_neg hneg] at hv
          have Hv := Lib.hid hv
          clear hv
          go_wp2_with fail
          go_ret2
          exact ⟨ret_two (by unfold taxA; rw [Hv.out]) (by unfold taxE; rw [Hv.out]), rfl⟩
end Go.Proofs.Ytpobhlnlnplbdaa
