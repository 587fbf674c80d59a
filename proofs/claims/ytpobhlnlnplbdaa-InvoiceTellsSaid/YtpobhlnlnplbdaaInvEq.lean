/- '==' of parts and of lines. -/
import Derived.Test.YtpobhlnlnplbdaaInvP
import Derived.Test.YtpobhlnlnplbdaaVatA
namespace Go.Proofs.Ytpobhlnlnplbdaa
open Go Go.RowKit
theorem part_eqb (x y : Part) : (eqS x.cat y.cat && (x.bp == y.bp && (x.net == y.net && x.tax == y.tax))) = decide (x = y) := by
  rw [Bool.eq_iff_iff, decide_eq_true_iff]
  cases x; cases y; simp [eqS_iff]
theorem eqin_part (x y : Part) (w : World) : (Op.equalIn 10000 64 (.agg #[.string x.cat, .int .i64 x.bp, .int .i64 x.net, .int .i64 x.tax]) (.agg #[.string y.cat, .int .i64 y.bp, .int .i64 y.net, .int .i64 y.tax])).run Try.prog w = .ok (decide (x = y)) w := by
  have u3 := Try.underlying3
  have a3 := Try.isAgg3
  have z3 := Try.sizeOf3
  have u9 := Try.underlying9
  have a9 := Try.isAgg9
  have z9 := Try.sizeOf9
  have hS : Try.prog.underlying 64 = some (.struct (Try.prog.fieldsOf 64)) := by kernel_rfl
  have hp : Try.prog.stoodInHeld 64 = false := by kernel_rfl
  rw [← part_eqb]
  rw [show (10000 : Nat) = 9999 + 1 from rfl, run_equalIn_agg w 9999 64 _ _ hS hp]
  simp only [Program.fieldsOf, Try.underlying64]
  unfold eqS
  go_simp
  generalize x.cat.toList = a
  generalize y.cat.toList = b
  by_cases h1 : a = b <;> by_cases h2 : x.bp = y.bp <;> by_cases h3 : x.net = y.net <;> by_cases h4 : x.tax = y.tax <;> simp [h1, h2, h3, h4]
theorem neq_Part (x y : Part) (w : World) : (binOp .neq 64 (.agg #[.string x.cat, .int .i64 x.bp, .int .i64 x.net, .int .i64 x.tax]) (.agg #[.string y.cat, .int .i64 y.bp, .int .i64 y.net, .int .i64 y.tax])).run Try.prog w = .ok (.bool (!decide (x = y))) w := by
  rw [run_neq_struct, eqin_part]; rfl
theorem ln_eqb (x y : Ln) : (eqS x.text y.text && (eqS x.cat y.cat && (x.count == y.count && x.price == y.price))) = decide (x = y) := by
  rw [Bool.eq_iff_iff, decide_eq_true_iff]
  cases x; cases y; simp [eqS_iff]
theorem eqin_ln (x y : Ln) (w : World) : (Op.equalIn 10000 60 (.agg #[.string x.text, .string x.cat, .int .i64 x.count, .int .i64 x.price]) (.agg #[.string y.text, .string y.cat, .int .i64 y.count, .int .i64 y.price])).run Try.prog w = .ok (decide (x = y)) w := by
  have u3 := Try.underlying3
  have a3 := Try.isAgg3
  have z3 := Try.sizeOf3
  have u9 := Try.underlying9
  have a9 := Try.isAgg9
  have z9 := Try.sizeOf9
  have hS : Try.prog.underlying 60 = some (.struct (Try.prog.fieldsOf 60)) := by kernel_rfl
  have hp : Try.prog.stoodInHeld 60 = false := by kernel_rfl
  rw [← ln_eqb]
  rw [show (10000 : Nat) = 9999 + 1 from rfl, run_equalIn_agg w 9999 60 _ _ hS hp]
  simp only [Program.fieldsOf, Try.underlying60]
  unfold eqS
  go_simp
  generalize x.text.toList = a
  generalize y.text.toList = b
  generalize x.cat.toList = c
  generalize y.cat.toList = d
  by_cases h1 : a = b <;> by_cases h2 : c = d <;> by_cases h3 : x.count = y.count <;> by_cases h4 : x.price = y.price <;> simp [h1, h2, h3, h4]
theorem neq_Ln (x y : Ln) (w : World) : (binOp .neq 60 (.agg #[.string x.text, .string x.cat, .int .i64 x.count, .int .i64 x.price]) (.agg #[.string y.text, .string y.cat, .int .i64 y.count, .int .i64 y.price])).run Try.prog w = .ok (.bool (!decide (x = y))) w := by
  rw [run_neq_struct, eqin_ln]; rfl
end Go.Proofs.Ytpobhlnlnplbdaa
