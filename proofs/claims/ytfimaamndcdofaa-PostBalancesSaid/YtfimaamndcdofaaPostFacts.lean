/- The closed sums of PostRuns. -/
import Derived.Test.YtfimaamndcdofaaBookE
import Derived.KernelRfl
namespace Go.Proofs.Ytfimaamndcdofaa
open Go Go.RowKit
def stdS : ByteArray := { data := #[115, 116, 100] }
def netStd : ByteArray := { data := #[110, 101, 116, 47, 115, 116, 100] }
def taxStd : ByteArray := { data := #[116, 97, 120, 47, 115, 116, 100] }
theorem pruns1 : entries 119 [⟨stdS, 1900, 100, 19⟩] = .ok [(sOwed, 119), (netStd, -100), (taxStd, -19)] := by kernel_rfl
theorem pruns2 : enter [(sOwed, 5)] [(sOwed, 119), (netStd, -100), (taxStd, -19)] = .ok [(netStd, -100), (sOwed, 124), (taxStd, -19)] := by kernel_rfl
end Go.Proofs.Ytfimaamndcdofaa
