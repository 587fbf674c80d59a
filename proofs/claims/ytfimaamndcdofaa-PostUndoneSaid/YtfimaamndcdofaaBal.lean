/- api.Balance in memory: a text and a number. -/
import Derived.Test.YtfimaamndcdofaaRows
import Derived.Test.YtfimaamndcdofaaRds
namespace Go.Proofs.Ytfimaamndcdofaa
open Go Go.RowKit
def balE : Enc (ByteArray × Int) := ⟨2, fun x => [.string x.1, .int .i64 x.2], fun _ => rfl, fun x v hv => by simp only [List.mem_cons, List.not_mem_nil, or_false] at hv; rcases hv with rfl | rfl <;> rfl, by decide⟩
theorem tBal : SlT Try.prog 22 33 2 24 := SlT.mk' (z := .agg #[.string .empty, .int .i64 0]) Try.underlying22 (by kernel_rfl) rfl (by decide) (by decide)
end Go.Proofs.Ytfimaamndcdofaa
