/- How rows of rates lie in memory . -/
import Derived.Test.YtpobhlnlnplbdaaVatP
import Derived.Test.YtpobhlnlnplbdaaRdAt
import Derived.Test.YtpobhlnlnplbdaaRows
namespace Go.Proofs.Ytpobhlnlnplbdaa
open Go Go.RowKit
theorem tRate : SlT Try.prog 27 25 5 48 := SlT.mk' (z := .agg #[.string .empty, .int .i64 0, .int .i64 0, .int .i64 0, .int .i64 0]) Try.underlying27 (by kernel_rfl) rfl (by decide) (by decide)
theorem rate5 {w : World} {b off n c : Nat} {l : List Rate} (h : Rd rateE w (.slice (some ⟨b, off, none⟩) n c) l) {k : Nat} (hk : k < l.length) :
    w.cell? ⟨b, off + k * 5, none⟩ = some (.string l[k].cat) ∧ w.cell? ⟨b, off + k * 5 + 1, none⟩ = some (.int .i64 l[k].day.y) ∧ w.cell? ⟨b, off + k * 5 + 2, none⟩ = some (.int .i64 l[k].day.m) ∧ w.cell? ⟨b, off + k * 5 + 3, none⟩ = some (.int .i64 l[k].day.d) ∧ w.cell? ⟨b, off + k * 5 + 4, none⟩ = some (.int .i64 l[k].bp) :=
  ⟨h.at_ hk 0 (by decide), h.at_ hk 1 (by decide), h.at_ hk 2 (by decide), h.at_ hk 3 (by decide), h.at_ hk 4 (by decide)⟩
end Go.Proofs.Ytpobhlnlnplbdaa
