/- Walks of money's and impostref3's size, signed, Mul. -/
import Derived.Test.YtpobhlnlnplbdaaMoney
import Derived.Laws.DeepNot64
namespace Go.Proofs.Ytpobhlnlnplbdaa
open Go Go.RowKit

theorem u64_not (a : Nat) (ha : a < 18446744073709551616) : bits .xor .u64 IntKind.u64.max (a : Int) = 18446744073709551615 - (a : Int) := by
  show IntKind.u64.wrap ((BitVec.ofInt 64 IntKind.u64.max ^^^ BitVec.ofInt 64 (a : Int)).toNat : Int) = _
  have h1 : BitVec.ofInt 64 IntKind.u64.max = BitVec.allOnes 64 := by decide
  rw [h1, BitVec.allOnes_xor, BitVec.toNat_not, ofInt_u64 a (by omega), IntKind.wrap_u64]
  omega
theorem u64_not_int (x : Int) (h0 : 0 ≤ x) (h1 : x < 18446744073709551616) : bits .xor .u64 IntKind.u64.max x = 18446744073709551615 - x := by
  obtain ⟨a, rfl⟩ : ∃ a : Nat, x = a := ⟨x.toNat, by omega⟩
  exact u64_not a (by omega)

theorem ret_u64 {a b : Int} (h : a = b) : Ending.returned (.int .u64 a) = .returned (.int .u64 b) := by rw [h]

set_option maxHeartbeats 400000 in
theorem moneySize (n : Int) (w : World) (hn : Mon.fits n) : Calls Try.prog 81 #[.int .i64 n] w fun e w' => e = .returned (.int .u64 (n.natAbs : Int)) ∧ w = w' := by
  obtain ⟨a1, a2⟩ := hn
  go_enter Try.func81, Try.ntmps81
  go_wp2
  all_goals
    go_ret
    refine ⟨ret_u64 ?_, rfl⟩
    first | omega | (try simp only [IntKind.wrap_u64]); rw [u64_not_int (n % 18446744073709551616) (by omega) (by omega)]; omega

set_option maxHeartbeats 400000 in
theorem refSize (n : Int) (w : World) (hn : Mon.fits n) : Calls Try.prog 76 #[.int .i64 n] w fun e w' => e = .returned (.int .u64 (n.natAbs : Int)) ∧ w = w' := by
  obtain ⟨a1, a2⟩ := hn
  go_enter Try.func76, Try.ntmps76
  go_wp2
  all_goals
    go_ret
    refine ⟨ret_u64 ?_, rfl⟩
    first | omega | (simp [IntKind.wrap_u64]; omega)

def sgn (u : Nat) (b : Bool) : Int := if b then -(u : Int) else u

theorem ret_signed {z s : Int} {c : Bool} (h1 : c = decide (Mon.fits s)) (h2 : Mon.fits s → z = s) (w : World) :
    (∃ z', Ending.returned (.tuple #[.int .i64 z, .bool c]) = .returned (.tuple #[.int .i64 z', .bool (decide (Mon.fits s))]) ∧ (Mon.fits s → z' = s)) ∧ w = w := ⟨⟨z, by rw [h1], h2⟩, rfl⟩

set_option maxHeartbeats 400000 in
theorem moneySigned (u : Nat) (b : Bool) (w : World) (hu : u < 18446744073709551616) : Calls Try.prog 82 #[.int .u64 (u : Int), .bool b] w fun e w' => (∃ z, e = .returned (.tuple #[.int .i64 z, .bool (decide (Mon.fits (sgn u b)))]) ∧ (Mon.fits (sgn u b) → z = sgn u b)) ∧ w = w' := by
  have hn := u64_not u hu
  go_enter Try.func82, Try.ntmps82
  cases b
  · go_wp2
    go_ret2
    refine ret_signed (by unfold sgn Mon.fits; apply decide_eq_decide.2; simp <;> omega) (fun h => ?_) _
    unfold sgn Mon.fits at *
    simp only [wrap64, IntKind.wrap_u64, IntKind.wrap_i64, if_true, if_false, Bool.false_eq_true] at h ⊢; omega
  · go_wp2
    go_ret2
    refine ret_signed (by unfold sgn Mon.fits; apply decide_eq_decide.2; simp <;> omega) (fun h => ?_) _
    unfold sgn Mon.fits at *
    simp only [wrap64, IntKind.wrap_u64, IntKind.wrap_i64, if_true, if_false, Bool.false_eq_true] at h ⊢; omega

end Go.Proofs.Ytpobhlnlnplbdaa
