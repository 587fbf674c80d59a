/- The walk of money.Exact. -/
import Derived.Test.YtfimaamndcdofaaWide
import Derived.Test.YtfimaamndcdofaaRds2
import Derived.Laws.Externs
import Derived.Laws.DeepNot64
namespace Go.Proofs.Ytfimaamndcdofaa
open Go Go.RowKit

theorem add64Calls (x y c : Int) (hx : 0 ≤ x) (hy : 0 ≤ y) (hc0 : 0 ≤ c) (hc : c ≤ 1) (w : World) :
    (callFunc 31 #[.int .u64 x, .int .u64 y, .int .u64 c]).run Try.prog w = .ok (.value (.tuple #[.int .u64 ((x + y + c) % 18446744073709551616), .int .u64 ((x + y + c) / 18446744073709551616)])) w := by
  rw [run_callFunc_extern Try.func31 (by kernel_rfl) (by kernel_rfl) (by kernel_rfl) (e := add64Entry) (by kernel_rfl), run_add64 x y c hx hy hc0 hc]
  rfl

/-- what Exact tells of a sum -/
def ExactP (S : Int) (e : Ending) : Prop := ∃ n ok, e = .returned (.tuple #[.int .i64 n, .bool ok]) ∧ (ok = true ↔ Mon.fits S) ∧ (ok = true → n = S)

set_option maxHeartbeats 1000000 in
theorem moneyExact (v : Value) (l : List Int) (w : World) (hv : Rd intsE w v l) (hf : ∀ x ∈ l, Mon.fits x) (hl : l.length ≤ 140737488355328) :
    Calls Try.prog 25 #[v] w fun e w' => ExactP l.sum e ∧ w = w' := by
  obtain ⟨p, cap, rfl, h1, h2, h3, h4⟩ := hv.form
  clear hv h3
  unfold maxLen at h2
  have Hf := Lib.hid hf
  clear hf
  go_enter Try.func25, Try.ntmps25
  go_wp2_with fail
  go_loop [4, 5, 12] (fun hi lo i => ∃ (k : Nat) (H L : Int), k ≤ l.length ∧ i = .int .i64 k ∧ hi = .int .u64 H ∧ lo = .int .u64 L ∧ 0 ≤ H ∧ H < 18446744073709551616 ∧ 0 ≤ L ∧ L < 18446744073709551616 ∧ Hid (Mon.Words (l.take k).sum H L)) (fun _ _ i => l.length - (intOf i).toNat)
  case atStart => exact ⟨0, 0, 0, by omega, rfl, rfl, rfl, by omega, by omega, by omega, by omega, Mon.words_zero⟩
  case round =>
    obtain ⟨k, H, L, hk, rfl, rfl, rfl, hH0, hH, hL0, hL, hw⟩ := hrel
    by_cases hlt : k < l.length
    · obtain ⟨b, off, rfl, hc⟩ := h4 (by omega)
      have hc := intsE_cell hlt hc
      have hi : (k : Int) < (l.length : Int) := by omega
      have hx := Lib.hid (Hf.out l[k] (List.getElem_mem hlt))
      have hs := Lib.hid (sum_take_succ hlt)
      have hb := hx.out
      obtain ⟨hb1, hb2⟩ := hb
      clear h4
      generalize l[k] = x at *
      obtain ⟨y, hy⟩ : ∃ y, y = x % 18446744073709551616 := ⟨_, rfl⟩
      have hwx : IntKind.u64.wrap x = y := by rw [IntKind.wrap_u64, hy]
      have hy0 : 0 ≤ y := by omega
      have Hy := Lib.hid hy
      clear hy
      obtain ⟨L', hL'⟩ : ∃ L', L' = (L + y + 0) % 18446744073709551616 := ⟨_, rfl⟩
      obtain ⟨c, hc'⟩ : ∃ c, c = (L + y + 0) / 18446744073709551616 := ⟨_, rfl⟩
      have hc0 : 0 ≤ c := by have := Hy.out; omega
      have hc1 : c ≤ 1 := by have := Hy.out; omega
      have hL0' : 0 ≤ L' := by omega
      have hL1' : L' < 18446744073709551616 := by omega
      have hadd1 := add64Calls L y 0 hL0 hy0 (by omega) (by omega)
      rw [← hL', ← hc'] at hadd1
      have HL := Lib.hid hL'
      have Hc := Lib.hid hc'
      clear hL' hc'
      by_cases hneg : x < 0
      · have hxor : bits BinOp.xor IntKind.u64 IntKind.u64.max 0 = 18446744073709551615 := by decide +kernel
        have hsg : IntKind.u64.signed = false := rfl
        obtain ⟨H', hH'⟩ : ∃ H', H' = (H + 18446744073709551615 + c) % 18446744073709551616 := ⟨_, rfl⟩
        have hadd2 := add64Calls H 18446744073709551615 c hH0 (by omega) hc0 hc1
        rw [← hH'] at hadd2
        have hH0' : 0 ≤ H' := by omega
        have hH1' : H' < 18446744073709551616 := by omega
        have HH := Lib.hid hH'
        clear hH'
        go_wp2_with (first | simp only [hwx, hadd1] | simp only [hadd2])
        go_round
        case rel =>
          refine ⟨k + 1, H', L', by omega, by go_num, rfl, rfl, hH0', hH1', hL0', hL1', ?_⟩
          show Mon.Words _ _ _
          rw [hs.out, HH.out, HL.out, Hc.out]
          exact Mon.words_step hw.out Hy.out (.inr ⟨hneg, rfl⟩) hx.out
        case measure => simp [intOf]; omega
      · obtain ⟨H', hH'⟩ : ∃ H', H' = (H + 0 + c) % 18446744073709551616 := ⟨_, rfl⟩
        have hadd2 := add64Calls H 0 c hH0 (by omega) hc0 hc1
        rw [← hH'] at hadd2
        have hH0' : 0 ≤ H' := by omega
        have hH1' : H' < 18446744073709551616 := by omega
        have HH := Lib.hid hH'
        clear hH'
        go_wp2_with (first | simp only [hwx, hadd1] | simp only [hadd2])
        go_round
        case rel =>
          refine ⟨k + 1, H', L', by omega, by go_num, rfl, rfl, hH0', hH1', hL0', hL1', ?_⟩
          show Mon.Words _ _ _
          rw [hs.out, HH.out, HL.out, Hc.out]
          exact Mon.words_step hw.out Hy.out (.inl ⟨by omega, rfl⟩) hx.out
        case measure => simp [intOf]; omega
    · have hk' : k = l.length := by omega
      have hW := hw.out
      rw [hk', List.take_of_length_le (Nat.le_refl _)] at hW
      have hbd := sum_bound l Hf.out
      have hlow := Mon.words_low hW (by omega)
      have Hlow := Lib.hid hlow
      clear hk' hW hbd hlow hw
      by_cases hsm : L < 9223372036854775808
      · have hq : (L / 9223372036854775808 == 0) = true := by simp; omega
        obtain ⟨q1, q2⟩ := Hlow.out.1 hsm
        have Q1 := Lib.hid q1
        have Q2 := Lib.hid q2
        clear q1 q2 Hlow
        go_wp2_with fail
        go_ret2
        refine ⟨⟨_, _, rfl, ?_, fun h => Q2.out (Q1.out.1 (by simpa using h))⟩, rfl⟩
        rw [← Q1.out]; simp
      · have hq : (L / 9223372036854775808 == 0) = false := by simp; omega
        obtain ⟨q1, q2⟩ := Hlow.out.2 hsm
        have Q1 := Lib.hid q1
        have Q2 := Lib.hid q2
        clear q1 q2 Hlow
        go_wp2_with fail
        go_ret2
        refine ⟨⟨_, _, rfl, ?_, fun h => ?_⟩, rfl⟩
        · rw [← Q1.out]; simp
        · have := Q2.out (Q1.out.1 (by simpa using h))
          rw [← this]
          unfold wrap64; omega
end Go.Proofs.Ytfimaamndcdofaa
