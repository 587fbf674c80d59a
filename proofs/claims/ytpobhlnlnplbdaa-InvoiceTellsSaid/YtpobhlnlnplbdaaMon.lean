/- Amounts of 64 bits: what is told of sums, differences, products. No program in sight. -/
import Derived.Test.YtpobhlnlnplbdaaRows
import Derived.Test.YtpobhlnlnplbdaaBase
namespace Go.Proofs.Ytpobhlnlnplbdaa
open Go Go.RowKit
namespace Mon
def fits (z : Int) : Prop := -9223372036854775808 ≤ z ∧ z ≤ 9223372036854775807
instance (z : Int) : Decidable (fits z) := by unfold fits; infer_instance
/-- an amount, or none: it is too large -/
def val (z : Int) : Int := if fits z then z else 0
def err (z : Int) : Int := if fits z then 0 else 7
theorem val_fits (z : Int) : fits (val z) := by unfold val; split; assumption; decide
def told (z : Int) : Value := .tuple #[.int .i64 (val z), .int .i64 (err z)]
theorem told_ok {z : Int} (h : fits z) : told z = .tuple #[.int .i64 z, .int .i64 0] := by unfold told val err; rw [if_pos h, if_pos h]
theorem told_no {z : Int} (h : ¬ fits z) : told z = .tuple #[.int .i64 0, .int .i64 7] := by unfold told val err; rw [if_neg h, if_neg h]
end Mon
theorem told_eq' (z : Int) : Mon.told z = .tuple #[.int .i64 (Mon.val z), .int .i64 (Mon.err z)] := rfl
end Go.Proofs.Ytpobhlnlnplbdaa
