/- The walks of impostref8's wide.plus, and of both Balanced. -/
import Derived.Test.YtfimaamndcdofaaExact
import Derived.Test.YtfimaamndcdofaaBal
import Derived.Test.YtfimaamndcdofaaBook1
import Derived.Laws.StructEq
namespace Go.Proofs.Ytfimaamndcdofaa
open Go Go.RowKit

/-- a sum of 128 bits, with a number added -/
def PlusP (hi lo n : Int) (e : Ending) : Prop := ∃ hi' lo', e = .returned (.agg #[.int .i64 hi', .int .u64 lo']) ∧ hi' * 18446744073709551616 + lo' = hi * 18446744073709551616 + lo + n ∧ 0 ≤ lo' ∧ lo' < 18446744073709551616 ∧ hi - 1 ≤ hi' ∧ hi' ≤ hi + 1

set_option maxHeartbeats 1000000 in
theorem widePlus (hi lo n : Int) (w : World) (hn : Mon.fits n) (h1 : -4611686018427387904 ≤ hi) (h2 : hi ≤ 4611686018427387904) (l1 : 0 ≤ lo) (l2 : lo < 18446744073709551616) :
    Calls Try.prog 28 #[.agg #[.int .i64 hi, .int .u64 lo], .int .i64 n] w fun e w' => PlusP hi lo n e ∧ Below w.heap.size w w' := by
  obtain ⟨n1, n2⟩ := hn
  by_cases hneg : n < 0
  · obtain ⟨y, hy⟩ : ∃ y, y = n % 18446744073709551616 := ⟨_, rfl⟩
    have hwn : IntKind.u64.wrap n = y := by rw [IntKind.wrap_u64, hy]
    obtain ⟨L, hL⟩ : ∃ L, L = (lo + y) % 18446744073709551616 := ⟨_, rfl⟩
    have hwl : IntKind.u64.wrap (lo + y) = L := by rw [IntKind.wrap_u64, hL]
    have hL0 : 0 ≤ L := by omega
    have hL1 : L < 18446744073709551616 := by omega
    have hfin : (L < lo → hi * 18446744073709551616 + L = hi * 18446744073709551616 + lo + n) ∧ (¬ L < lo → (hi - 1) * 18446744073709551616 + L = hi * 18446744073709551616 + lo + n) := by omega
    have Hfin := Lib.hid hfin
    clear hy hL hfin
    by_cases hc : L < lo
    · go_enter Try.func28, Try.ntmps28
      go_wp2_with fail
      refine bodyPost_ret (v := .agg #[.int .i64 hi, .int .u64 L]) (by simp [results, Try.results28, go_sem]) rfl ⟨⟨_, _, rfl, Hfin.out.1 hc, hL0, hL1, by omega, by omega⟩, ?_⟩
      exact ((Below.refl _ _).alloc (Nat.le_refl _) _).alloc (by simp) _
    · go_enter Try.func28, Try.ntmps28
      go_wp2_with fail
      refine bodyPost_ret (v := .agg #[.int .i64 (hi - 1), .int .u64 L]) (by simp [results, Try.results28, go_sem]) rfl ⟨⟨_, _, rfl, Hfin.out.2 (by omega), hL0, hL1, by omega, by omega⟩, ?_⟩
      exact ((Below.refl _ _).alloc (Nat.le_refl _) _).alloc (by simp) _
  · obtain ⟨L, hL⟩ : ∃ L, L = (lo + n) % 18446744073709551616 := ⟨_, rfl⟩
    have hwl : IntKind.u64.wrap (lo + n) = L := by rw [IntKind.wrap_u64, hL]
    have hL0 : 0 ≤ L := by omega
    have hL1 : L < 18446744073709551616 := by omega
    have hfin : (L < lo → (hi + 1) * 18446744073709551616 + L = hi * 18446744073709551616 + lo + n) ∧ (¬ L < lo → hi * 18446744073709551616 + L = hi * 18446744073709551616 + lo + n) := by omega
    have Hfin := Lib.hid hfin
    clear hL hfin
    by_cases hc : L < lo
    · go_enter Try.func28, Try.ntmps28
      go_wp2_with fail
      refine bodyPost_ret (v := .agg #[.int .i64 (hi + 1), .int .u64 L]) (by simp [results, Try.results28, go_sem]) rfl ⟨⟨_, _, rfl, Hfin.out.1 hc, hL0, hL1, by omega, by omega⟩, ?_⟩
      exact ((Below.refl _ _).alloc (Nat.le_refl _) _).alloc (by simp) _
    · go_enter Try.func28, Try.ntmps28
      go_wp2_with fail
      refine bodyPost_ret (v := .agg #[.int .i64 hi, .int .u64 L]) (by simp [results, Try.results28, go_sem]) rfl ⟨⟨_, _, rfl, Hfin.out.2 (by omega), hL0, hL1, by omega, by omega⟩, ?_⟩
      exact ((Below.refl _ _).alloc (Nat.le_refl _) _).alloc (by simp) _
end Go.Proofs.Ytfimaamndcdofaa
