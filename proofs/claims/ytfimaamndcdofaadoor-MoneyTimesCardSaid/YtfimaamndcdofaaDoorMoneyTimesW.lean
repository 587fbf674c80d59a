/- The walk of MoneyTimes. -/
import Derived.Test.YtfimaamndcdofaaDoorMoneySumsW
import Derived.Test.YtfimaamndcdofaaDoorWithin
namespace Go.Proofs.YtfimaamndcdofaaDoor
open Go Go.RowKit

theorem sum_rep (a : Int) (i m : Nat) (h : Mon.fits (a * i)) : Mon.sumTo (a * i) (List.replicate m a) = if Mon.fits (a * ((i + m : Nat) : Int)) then some (a * ((i + m : Nat) : Int)) else none := by
  induction m generalizing i with
  | zero => simp [Mon.sumTo, h]
  | succ m ih =>
    rw [List.replicate_succ]
    have e : a * (i : Int) + a = a * ((i + 1 : Nat) : Int) := by rw [Int.natCast_add, Int.mul_add]; simp
    have e2 : i + (m + 1) = i + 1 + m := by omega
    unfold Mon.sumTo
    rw [e, e2]
    by_cases hf : Mon.fits (a * ((i + 1 : Nat) : Int))
    · rw [if_pos hf, ih (i + 1) hf]
    · rw [if_neg hf, if_neg]
      intro hg
      apply hf
      have h0 : a * ((i + 1 + m : Nat) : Int) = a * ((i + 1 : Nat) : Int) + a * (m : Int) := by rw [Int.natCast_add (i + 1) m, Int.mul_add]
      rw [h0] at hg
      rcases Int.le_total 0 a with ha | ha
      · have h1 : 0 ≤ a * (m : Int) := Int.mul_nonneg ha (by omega)
        have h2 : 0 ≤ a * ((i + 1 : Nat) : Int) := Int.mul_nonneg ha (by omega)
        unfold Mon.fits at *; omega
      · have h1 : a * (m : Int) ≤ 0 := Int.mul_nonpos_of_nonpos_of_nonneg ha (by omega)
        have h2 : a * ((i + 1 : Nat) : Int) ≤ 0 := Int.mul_nonpos_of_nonpos_of_nonneg ha (by omega)
        unfold Mon.fits at *; omega
theorem sumV_rep (a : Int) (m : Nat) : Mon.sumV (List.replicate m a) = Mon.told (a * (m : Int)) := by
  have h := sum_rep a 0 m (by simp; decide)
  simp only [Int.natCast_zero, Int.mul_zero, Nat.zero_add] at h
  by_cases hf : Mon.fits (a * (m : Int))
  · rw [if_pos hf] at h; rw [Mon.sum_some h, Mon.told_ok hf]
  · rw [if_neg hf] at h; rw [Mon.sum_none h, Mon.told_no hf]

set_option maxHeartbeats 1000000 in
theorem moneyTimes_walk (a n : Int) (w : World) (a1 : -9223372036854775808 ≤ a) (a2 : a ≤ 9223372036854775807) (n1 : -9223372036854775808 ≤ n) (n2 : n ≤ 9223372036854775807) (htab : Lib.TabIs Tryd.prog w "internal/strconv.uint64pow10" .u64 Lib.pow10Tab) :
    Calls Tryd.prog 9 #[.int .i64 a, .int .i64 n] w fun e w' => e = .returned (.bool true) ∧ Below w.heap.size w w' := by
  have ha : Hid (Mon.fits a) := ⟨a1, a2⟩
  obtain ⟨k1, k2⟩ := within_bounds n 0 30 (by omega)
  go_enter Tryd.func9, Tryd.ntmps9
  go_wp2_with fail
  with_reducible refine (withinCalls n 0 30 _ (by omega) (by omega) (by omega)).mono ?_
  rintro e w' ⟨rfl, rfl⟩
  generalize within n 0 30 = K at *
  obtain ⟨k, rfl⟩ := Int.eq_ofNat_of_zero_le k1
  go_wp2_with fail
  go_loopw [6, 7] (fun v i wr => ∃ j : Nat, j ≤ k ∧ i = .int .i64 j ∧ OwnR intsE wr w.heap.size 3 v (List.replicate j a) ∧ Below w.heap.size w wr) (fun _ i _ => k - (intOf i).toNat)
  case atStart => exact ⟨0, by omega, rfl, OwnR.nil _ _ _, Below.refl _ _⟩
  case round =>
    obtain ⟨j, hj, rfl, own, hb⟩ := hrel
    have hs := hb.size
    by_cases hlt : j < k
    · have hi : (j : Int) < (k : Int) := by omega
      go_wp2_with (first
        | (at_builtin; refine wpList_app tInts rfl rfl (OwnR.ext own (below_alloc _ _)) rfl (Own.cells (Own.lit _ _ _ 1 0 rfl (by simp [Value.oneCell']) (by unfold maxLen; omega) (Nat.zero_le _))) rfl (by simp; omega) (by simp; omega) ?_; intro v8 w8 own8 g8 b8; clear g8)
        | fail)
      have own9 : OwnR intsE w8 w.heap.size 3 v8 (List.replicate (j + 1) a) := OwnR.of own8 (by simp) (by
        rw [List.replicate_succ', intsE.all_append]; rfl)
      clear own8 own
      go_roundw
      case rel => exact ⟨j + 1, by omega, by go_num, own9, (hb.trans ((below_alloc _ _).mono hs)).trans b8⟩
      case measure => simp [intOf]; omega
    · have hj' : j = k := by omega
      subst hj'
      have hr := own.rd
      have hfall : ∀ x ∈ List.replicate j a, Mon.fits x := fun x hx => by rw [(List.mem_replicate.1 hx).2]; exact ha.out
      have Hfall := Lib.hid hfall
      have hkf : Hid (Mon.fits (j : Int)) := by show Mon.fits _; unfold Mon.fits; omega
      have ht := tabIs_below htab hb
      clear htab own hfall
      go_wp2_with fail
      with_reducible refine (moneyMul _ _ _ ha.out hkf.out).mono ?_
      rintro e w' ⟨rfl, rfl⟩
      obtain ⟨x, y, hx⟩ : ∃ x y, Hid (Mon.told (a * (j : Int)) = .tuple #[.int .i64 x, .int .i64 y]) := ⟨_, _, rfl⟩
      rw [hx.out]
      go_wp2_with fail
      with_reducible refine (moneySum _ _ _ hr Hfall.out).mono ?_
      rintro e w' ⟨rfl, rfl⟩
      rw [sumV_rep, hx.out]
      go_wp2_with fail
      with_reducible refine (moneyRuns_walk _ ht).mono ?_
      rintro e w7 ⟨rfl, b7⟩
      go_wp2_with fail
      go_ret
      exact ⟨rfl, hb.trans (b7.mono hs)⟩
end Go.Proofs.YtfimaamndcdofaaDoor
