/-
  No cell of these rows narrows 'for every input' (looked for: loops, veiled, ifaces, maps, wideKeys, modest, calm, conditions, laid).
  DERIVED. THE GIVEN ROWS OF THIS SEAT. 13 by the template 'for every input the law returns true; each argument reads behind the call as it read before'; 0 by the template 'total and deterministic' (their statements: YtpobhlnlnplbdaaTotals.lean).
  GIVEN WITH THE SEED: the statements are not yours to turn. If you find one false, say at which input.
  Laid BY PROGRAM, IN A SANDBOX (cutbox-rows.mjs): the forced cells as the released guide's own fill.sh prints them over the translation 15cf0794f93703ec… (all of the seat's roots in one cut). By AI agents, Wed Nov 11 2026. No macro, syntax, notation, axiom, sorry.
-/
import Derived.Test.YtpobhlnlnplbdaaChecked
import GoSem.Claim
import GoSem.ClaimJoined
import GoSem.ClaimMapViews
import Derived.JoinedTies
import Derived.KernelRfl
namespace Go.Proofs.Ytpobhlnlnplbdaa
/- THE CELL 'sum', in the pinned program and in every row, IS THE sha256 OF THE DUMP (.gsa) THAT YtpobhlnlnplbdaaProg.lean LOADS. Nothing in Lean hashes anything: it is a label: what it is worth is what the hold of that sum in a sandbox is worth. -/
noncomputable def Try.pinned : Pinned := { name := "ytpobhlnlnplbdaa", sum := "15cf0794f93703ecd9882d18ce1e9587089ecb9a8167d5af9985b618227f0f56", checked := Try.checked }
namespace Rows
def none {H : Type} : Left H := { results := [], args := [] }

/-- 'impostlaw7.VatRuns': WHATEVER THE INPUT: true; the input reads as it did. -/
def vatRunsSpec : ChangeSpec := { name := "vatRuns", fn := fun _ => fun
  | [] => { results := [.lit (.bool true)], args := [] }
  | _ => none }
def vatRunsRow : OpenClaim := { program := "ytpobhlnlnplbdaa", sum := "15cf0794f93703ecd9882d18ce1e9587089ecb9a8167d5af9985b618227f0f56", func := "impost/impostlaw7.VatRuns", spec := "vatRuns", inPlace := ["slices.overlaps[impost/api.Rate]"], apart := false }
def VatRunsSaid : Prop := vatRunsRow.holds Try.pinned (OpenSpec.ofChange vatRunsSpec)

/-- ITS FALSE NEIGHBOUR: 'it returns false'. Refute it at one input. -/
def vatRunsWrong : ChangeSpec := { name := "vatRuns", fn := fun _ => fun
  | [] => { results := [.lit (.bool false)], args := [] }
  | _ => none }
def VatRunsWrongFalsely : Prop := vatRunsRow.holds Try.pinned (OpenSpec.ofChange vatRunsWrong)

/-- 'impostlaw7.VatTells': WHATEVER THE INPUT: true; the input reads as it did. -/
def vatTellsSpec : ChangeSpec := { name := "vatTells", fn := fun _ => fun
  | [d1, d2, d3] => { results := [.lit (.bool true)], args := [d1, d2, d3] }
  | _ => none }
def vatTellsRow : OpenClaim := { program := "ytpobhlnlnplbdaa", sum := "15cf0794f93703ecd9882d18ce1e9587089ecb9a8167d5af9985b618227f0f56", func := "impost/impostlaw7.VatTells", spec := "vatTells", inPlace := ["slices.overlaps[impost/api.Rate]"], apart := false }
def VatTellsSaid : Prop := vatTellsRow.holds Try.pinned (OpenSpec.ofChange vatTellsSpec)

/-- ITS FALSE NEIGHBOUR: 'it returns false'. Refute it at one input. -/
def vatTellsWrong : ChangeSpec := { name := "vatTells", fn := fun _ => fun
  | [d1, d2, d3] => { results := [.lit (.bool false)], args := [d1, d2, d3] }
  | _ => none }
def VatTellsWrongFalsely : Prop := vatTellsRow.holds Try.pinned (OpenSpec.ofChange vatTellsWrong)

/-- 'impostlaw7.VatPuts': WHATEVER THE INPUT: true; the input reads as it did. -/
def vatPutsSpec : ChangeSpec := { name := "vatPuts", fn := fun _ => fun
  | [d1, d2] => { results := [.lit (.bool true)], args := [d1, d2] }
  | _ => none }
def vatPutsRow : OpenClaim := { program := "ytpobhlnlnplbdaa", sum := "15cf0794f93703ecd9882d18ce1e9587089ecb9a8167d5af9985b618227f0f56", func := "impost/impostlaw7.VatPuts", spec := "vatPuts", inPlace := ["slices.overlaps[impost/api.Rate]"], apart := false }
def VatPutsSaid : Prop := vatPutsRow.holds Try.pinned (OpenSpec.ofChange vatPutsSpec)

/-- ITS FALSE NEIGHBOUR: 'it returns false'. Refute it at one input. -/
def vatPutsWrong : ChangeSpec := { name := "vatPuts", fn := fun _ => fun
  | [d1, d2] => { results := [.lit (.bool false)], args := [d1, d2] }
  | _ => none }
def VatPutsWrongFalsely : Prop := vatPutsRow.holds Try.pinned (OpenSpec.ofChange vatPutsWrong)

/-- 'impostlaw7.VatGrows': WHATEVER THE INPUT: true; the input reads as it did. -/
def vatGrowsSpec : ChangeSpec := { name := "vatGrows", fn := fun _ => fun
  | [d1, d2, d3, d4] => { results := [.lit (.bool true)], args := [d1, d2, d3, d4] }
  | _ => none }
def vatGrowsRow : OpenClaim := { program := "ytpobhlnlnplbdaa", sum := "15cf0794f93703ecd9882d18ce1e9587089ecb9a8167d5af9985b618227f0f56", func := "impost/impostlaw7.VatGrows", spec := "vatGrows", inPlace := ["slices.overlaps[impost/api.Rate]"], apart := false }
def VatGrowsSaid : Prop := vatGrowsRow.holds Try.pinned (OpenSpec.ofChange vatGrowsSpec)

/-- ITS FALSE NEIGHBOUR: 'it returns false'. Refute it at one input. -/
def vatGrowsWrong : ChangeSpec := { name := "vatGrows", fn := fun _ => fun
  | [d1, d2, d3, d4] => { results := [.lit (.bool false)], args := [d1, d2, d3, d4] }
  | _ => none }
def VatGrowsWrongFalsely : Prop := vatGrowsRow.holds Try.pinned (OpenSpec.ofChange vatGrowsWrong)

/-- 'impostlaw7.VatOrder': WHATEVER THE INPUT: true; the input reads as it did. -/
def vatOrderSpec : ChangeSpec := { name := "vatOrder", fn := fun _ => fun
  | [d1, d2] => { results := [.lit (.bool true)], args := [d1, d2] }
  | _ => none }
def vatOrderRow : OpenClaim := { program := "ytpobhlnlnplbdaa", sum := "15cf0794f93703ecd9882d18ce1e9587089ecb9a8167d5af9985b618227f0f56", func := "impost/impostlaw7.VatOrder", spec := "vatOrder", inPlace := ["slices.overlaps[impost/api.Rate]"], apart := false }
def VatOrderSaid : Prop := vatOrderRow.holds Try.pinned (OpenSpec.ofChange vatOrderSpec)

/-- ITS FALSE NEIGHBOUR: 'it returns false'. Refute it at one input. -/
def vatOrderWrong : ChangeSpec := { name := "vatOrder", fn := fun _ => fun
  | [d1, d2] => { results := [.lit (.bool false)], args := [d1, d2] }
  | _ => none }
def VatOrderWrongFalsely : Prop := vatOrderRow.holds Try.pinned (OpenSpec.ofChange vatOrderWrong)

/-- 'impostlaw7.VatLast': WHATEVER THE INPUT: true; the input reads as it did. -/
def vatLastSpec : ChangeSpec := { name := "vatLast", fn := fun _ => fun
  | [d1, d2, d3] => { results := [.lit (.bool true)], args := [d1, d2, d3] }
  | _ => none }
def vatLastRow : OpenClaim := { program := "ytpobhlnlnplbdaa", sum := "15cf0794f93703ecd9882d18ce1e9587089ecb9a8167d5af9985b618227f0f56", func := "impost/impostlaw7.VatLast", spec := "vatLast", inPlace := ["slices.overlaps[impost/api.Rate]"], apart := false }
def VatLastSaid : Prop := vatLastRow.holds Try.pinned (OpenSpec.ofChange vatLastSpec)

/-- ITS FALSE NEIGHBOUR: 'it returns false'. Refute it at one input. -/
def vatLastWrong : ChangeSpec := { name := "vatLast", fn := fun _ => fun
  | [d1, d2, d3] => { results := [.lit (.bool false)], args := [d1, d2, d3] }
  | _ => none }
def VatLastWrongFalsely : Prop := vatLastRow.holds Try.pinned (OpenSpec.ofChange vatLastWrong)

/-- 'impostlaw11.InvoiceRuns': WHATEVER THE INPUT: true; the input reads as it did. -/
def invoiceRunsSpec : ChangeSpec := { name := "invoiceRuns", fn := fun _ => fun
  | [] => { results := [.lit (.bool true)], args := [] }
  | _ => none }
def invoiceRunsRow : OpenClaim := { program := "ytpobhlnlnplbdaa", sum := "15cf0794f93703ecd9882d18ce1e9587089ecb9a8167d5af9985b618227f0f56", func := "impost/impostlaw11.InvoiceRuns", spec := "invoiceRuns", inPlace := ["slices.overlaps[impost/api.Part]"], apart := false }
def InvoiceRunsSaid : Prop := invoiceRunsRow.holds Try.pinned (OpenSpec.ofChange invoiceRunsSpec)

/-- ITS FALSE NEIGHBOUR: 'it returns false'. Refute it at one input. -/
def invoiceRunsWrong : ChangeSpec := { name := "invoiceRuns", fn := fun _ => fun
  | [] => { results := [.lit (.bool false)], args := [] }
  | _ => none }
def InvoiceRunsWrongFalsely : Prop := invoiceRunsRow.holds Try.pinned (OpenSpec.ofChange invoiceRunsWrong)

/-- 'impostlaw11.InvoiceTells': WHATEVER THE INPUT: true; the input reads as it did. -/
def invoiceTellsSpec : ChangeSpec := { name := "invoiceTells", fn := fun _ => fun
  | [d1, d2, d3] => { results := [.lit (.bool true)], args := [d1, d2, d3] }
  | _ => none }
def invoiceTellsRow : OpenClaim := { program := "ytpobhlnlnplbdaa", sum := "15cf0794f93703ecd9882d18ce1e9587089ecb9a8167d5af9985b618227f0f56", func := "impost/impostlaw11.InvoiceTells", spec := "invoiceTells", inPlace := ["slices.overlaps[impost/api.Part]"], apart := false }
def InvoiceTellsSaid : Prop := invoiceTellsRow.holds Try.pinned (OpenSpec.ofChange invoiceTellsSpec)

/-- ITS FALSE NEIGHBOUR: 'it returns false'. Refute it at one input. -/
def invoiceTellsWrong : ChangeSpec := { name := "invoiceTells", fn := fun _ => fun
  | [d1, d2, d3] => { results := [.lit (.bool false)], args := [d1, d2, d3] }
  | _ => none }
def InvoiceTellsWrongFalsely : Prop := invoiceTellsRow.holds Try.pinned (OpenSpec.ofChange invoiceTellsWrong)

/-- 'impostlaw11.InvoiceOne': WHATEVER THE INPUT: true; the input reads as it did. -/
def invoiceOneSpec : ChangeSpec := { name := "invoiceOne", fn := fun _ => fun
  | [d1, d2, d3] => { results := [.lit (.bool true)], args := [d1, d2, d3] }
  | _ => none }
def invoiceOneRow : OpenClaim := { program := "ytpobhlnlnplbdaa", sum := "15cf0794f93703ecd9882d18ce1e9587089ecb9a8167d5af9985b618227f0f56", func := "impost/impostlaw11.InvoiceOne", spec := "invoiceOne", inPlace := ["slices.overlaps[impost/api.Part]"], apart := false }
def InvoiceOneSaid : Prop := invoiceOneRow.holds Try.pinned (OpenSpec.ofChange invoiceOneSpec)

/-- ITS FALSE NEIGHBOUR: 'it returns false'. Refute it at one input. -/
def invoiceOneWrong : ChangeSpec := { name := "invoiceOne", fn := fun _ => fun
  | [d1, d2, d3] => { results := [.lit (.bool false)], args := [d1, d2, d3] }
  | _ => none }
def InvoiceOneWrongFalsely : Prop := invoiceOneRow.holds Try.pinned (OpenSpec.ofChange invoiceOneWrong)

/-- 'impostlaw11.InvoiceSums': WHATEVER THE INPUT: true; the input reads as it did. -/
def invoiceSumsSpec : ChangeSpec := { name := "invoiceSums", fn := fun _ => fun
  | [d1, d2, d3] => { results := [.lit (.bool true)], args := [d1, d2, d3] }
  | _ => none }
def invoiceSumsRow : OpenClaim := { program := "ytpobhlnlnplbdaa", sum := "15cf0794f93703ecd9882d18ce1e9587089ecb9a8167d5af9985b618227f0f56", func := "impost/impostlaw11.InvoiceSums", spec := "invoiceSums", inPlace := ["slices.overlaps[impost/api.Rate]", "slices.overlaps[impost/api.Part]"], apart := false }
def InvoiceSumsSaid : Prop := invoiceSumsRow.holds Try.pinned (OpenSpec.ofChange invoiceSumsSpec)

/-- ITS FALSE NEIGHBOUR: 'it returns false'. Refute it at one input. -/
def invoiceSumsWrong : ChangeSpec := { name := "invoiceSums", fn := fun _ => fun
  | [d1, d2, d3] => { results := [.lit (.bool false)], args := [d1, d2, d3] }
  | _ => none }
def InvoiceSumsWrongFalsely : Prop := invoiceSumsRow.holds Try.pinned (OpenSpec.ofChange invoiceSumsWrong)

/-- 'impostlaw11.InvoiceOrder': WHATEVER THE INPUT: true; the input reads as it did. -/
def invoiceOrderSpec : ChangeSpec := { name := "invoiceOrder", fn := fun _ => fun
  | [d1, d2, d3, d4] => { results := [.lit (.bool true)], args := [d1, d2, d3, d4] }
  | _ => none }
def invoiceOrderRow : OpenClaim := { program := "ytpobhlnlnplbdaa", sum := "15cf0794f93703ecd9882d18ce1e9587089ecb9a8167d5af9985b618227f0f56", func := "impost/impostlaw11.InvoiceOrder", spec := "invoiceOrder", inPlace := ["slices.overlaps[impost/api.Rate]", "slices.overlaps[impost/api.Part]"], apart := false }
def InvoiceOrderSaid : Prop := invoiceOrderRow.holds Try.pinned (OpenSpec.ofChange invoiceOrderSpec)

/-- ITS FALSE NEIGHBOUR: 'it returns false'. Refute it at one input. -/
def invoiceOrderWrong : ChangeSpec := { name := "invoiceOrder", fn := fun _ => fun
  | [d1, d2, d3, d4] => { results := [.lit (.bool false)], args := [d1, d2, d3, d4] }
  | _ => none }
def InvoiceOrderWrongFalsely : Prop := invoiceOrderRow.holds Try.pinned (OpenSpec.ofChange invoiceOrderWrong)

/-- 'impostlaw11.InvoiceBack': WHATEVER THE INPUT: true; the input reads as it did. -/
def invoiceBackSpec : ChangeSpec := { name := "invoiceBack", fn := fun _ => fun
  | [d] => { results := [.lit (.bool true)], args := [d] }
  | _ => none }
def invoiceBackRow : OpenClaim := { program := "ytpobhlnlnplbdaa", sum := "15cf0794f93703ecd9882d18ce1e9587089ecb9a8167d5af9985b618227f0f56", func := "impost/impostlaw11.InvoiceBack", spec := "invoiceBack", inPlace := ["slices.overlaps[impost/api.Part]"], apart := false }
def InvoiceBackSaid : Prop := invoiceBackRow.holds Try.pinned (OpenSpec.ofChange invoiceBackSpec)

/-- ITS FALSE NEIGHBOUR: 'it returns false'. Refute it at one input. -/
def invoiceBackWrong : ChangeSpec := { name := "invoiceBack", fn := fun _ => fun
  | [d] => { results := [.lit (.bool false)], args := [d] }
  | _ => none }
def InvoiceBackWrongFalsely : Prop := invoiceBackRow.holds Try.pinned (OpenSpec.ofChange invoiceBackWrong)

/-- 'impostlaw11.InvoiceMirror': WHATEVER THE INPUT: true; the input reads as it did. -/
def invoiceMirrorSpec : ChangeSpec := { name := "invoiceMirror", fn := fun _ => fun
  | [d1, d2, d3] => { results := [.lit (.bool true)], args := [d1, d2, d3] }
  | _ => none }
def invoiceMirrorRow : OpenClaim := { program := "ytpobhlnlnplbdaa", sum := "15cf0794f93703ecd9882d18ce1e9587089ecb9a8167d5af9985b618227f0f56", func := "impost/impostlaw11.InvoiceMirror", spec := "invoiceMirror", inPlace := ["slices.overlaps[impost/api.Rate]", "slices.overlaps[impost/api.Part]"], apart := false }
def InvoiceMirrorSaid : Prop := invoiceMirrorRow.holds Try.pinned (OpenSpec.ofChange invoiceMirrorSpec)

/-- ITS FALSE NEIGHBOUR: 'it returns false'. Refute it at one input. -/
def invoiceMirrorWrong : ChangeSpec := { name := "invoiceMirror", fn := fun _ => fun
  | [d1, d2, d3] => { results := [.lit (.bool false)], args := [d1, d2, d3] }
  | _ => none }
def InvoiceMirrorWrongFalsely : Prop := invoiceMirrorRow.holds Try.pinned (OpenSpec.ofChange invoiceMirrorWrong)

/- THE SECOND FORM. 'bulk': how many values and letters a reading holds, each counted each time it is reached (what is shared counts as often as it is met; a slice's spare places count too). A statement '..UptoSaid' is the law's where the arguments, and the package variables that the reading takes, are together of bulk at most 1048576: NARROWER than '..Said'. Prove '..Said' where nothing that the law and all that it calls make is longer than what came in: it says more and counts as full. Else prove '..UptoSaid'. A law counts once. -/
mutual
def uptoBulk {H : Type} : DataW H → Nat
  | .lit (.string bytes) => bytes.length + 1
  | .lit _ => 1
  | .nil => 1
  | .ptr d => uptoBulk d + 1
  | .slice elems spare => uptoBulkAll elems + uptoBulkAll spare + 1
  | .agg parts => uptoBulkAll parts + 1
  | .iface _ d => uptoBulk d + 1
  | .map entries => uptoBulkEntries entries + 1
  | .held _ => 1
def uptoBulkAll {H : Type} : List (DataW H) → Nat
  | [] => 0
  | d :: r => uptoBulk d + uptoBulkAll r
def uptoBulkEntries {H : Type} : List (Lit × DataW H) → Nat
  | [] => 0
  | x :: r => uptoBulkEntry x + uptoBulkEntries r
def uptoBulkEntry {H : Type} : Lit × DataW H → Nat
  | (.string bytes, d) => bytes.length + uptoBulk d + 1
  | (_, d) => uptoBulk d + 1
 end
def uptoSmall : (H : Type) → List (DataW H) → Bool := fun _ ds => decide (uptoBulkAll ds ≤ 1048576)
def OpenSpec.upto (s : _root_.Go.ChangeSpec) : _root_.Go.OpenSpec := { _root_.Go.OpenSpec.ofChange s with cond := some uptoSmall }

/-- 'impostlaw7.VatRuns', WHERE WHAT IT READS IS OF BULK AT MOST 1048576: true; the input reads as it did. -/
def vatRunsUptoRow : OpenClaim := { program := "ytpobhlnlnplbdaa", sum := "15cf0794f93703ecd9882d18ce1e9587089ecb9a8167d5af9985b618227f0f56", func := "impost/impostlaw7.VatRuns", spec := "vatRuns", inPlace := ["slices.overlaps[impost/api.Rate]"], apart := false, narrowed := true }
def VatRunsUptoSaid : Prop := vatRunsUptoRow.holds Try.pinned (OpenSpec.upto vatRunsSpec)

/-- 'impostlaw7.VatTells', WHERE WHAT IT READS IS OF BULK AT MOST 1048576: true; the input reads as it did. -/
def vatTellsUptoRow : OpenClaim := { program := "ytpobhlnlnplbdaa", sum := "15cf0794f93703ecd9882d18ce1e9587089ecb9a8167d5af9985b618227f0f56", func := "impost/impostlaw7.VatTells", spec := "vatTells", inPlace := ["slices.overlaps[impost/api.Rate]"], apart := false, narrowed := true }
def VatTellsUptoSaid : Prop := vatTellsUptoRow.holds Try.pinned (OpenSpec.upto vatTellsSpec)

/-- 'impostlaw7.VatPuts', WHERE WHAT IT READS IS OF BULK AT MOST 1048576: true; the input reads as it did. -/
def vatPutsUptoRow : OpenClaim := { program := "ytpobhlnlnplbdaa", sum := "15cf0794f93703ecd9882d18ce1e9587089ecb9a8167d5af9985b618227f0f56", func := "impost/impostlaw7.VatPuts", spec := "vatPuts", inPlace := ["slices.overlaps[impost/api.Rate]"], apart := false, narrowed := true }
def VatPutsUptoSaid : Prop := vatPutsUptoRow.holds Try.pinned (OpenSpec.upto vatPutsSpec)

/-- 'impostlaw7.VatGrows', WHERE WHAT IT READS IS OF BULK AT MOST 1048576: true; the input reads as it did. -/
def vatGrowsUptoRow : OpenClaim := { program := "ytpobhlnlnplbdaa", sum := "15cf0794f93703ecd9882d18ce1e9587089ecb9a8167d5af9985b618227f0f56", func := "impost/impostlaw7.VatGrows", spec := "vatGrows", inPlace := ["slices.overlaps[impost/api.Rate]"], apart := false, narrowed := true }
def VatGrowsUptoSaid : Prop := vatGrowsUptoRow.holds Try.pinned (OpenSpec.upto vatGrowsSpec)

/-- 'impostlaw7.VatOrder', WHERE WHAT IT READS IS OF BULK AT MOST 1048576: true; the input reads as it did. -/
def vatOrderUptoRow : OpenClaim := { program := "ytpobhlnlnplbdaa", sum := "15cf0794f93703ecd9882d18ce1e9587089ecb9a8167d5af9985b618227f0f56", func := "impost/impostlaw7.VatOrder", spec := "vatOrder", inPlace := ["slices.overlaps[impost/api.Rate]"], apart := false, narrowed := true }
def VatOrderUptoSaid : Prop := vatOrderUptoRow.holds Try.pinned (OpenSpec.upto vatOrderSpec)

/-- 'impostlaw7.VatLast', WHERE WHAT IT READS IS OF BULK AT MOST 1048576: true; the input reads as it did. -/
def vatLastUptoRow : OpenClaim := { program := "ytpobhlnlnplbdaa", sum := "15cf0794f93703ecd9882d18ce1e9587089ecb9a8167d5af9985b618227f0f56", func := "impost/impostlaw7.VatLast", spec := "vatLast", inPlace := ["slices.overlaps[impost/api.Rate]"], apart := false, narrowed := true }
def VatLastUptoSaid : Prop := vatLastUptoRow.holds Try.pinned (OpenSpec.upto vatLastSpec)

/-- 'impostlaw11.InvoiceRuns', WHERE WHAT IT READS IS OF BULK AT MOST 1048576: true; the input reads as it did. -/
def invoiceRunsUptoRow : OpenClaim := { program := "ytpobhlnlnplbdaa", sum := "15cf0794f93703ecd9882d18ce1e9587089ecb9a8167d5af9985b618227f0f56", func := "impost/impostlaw11.InvoiceRuns", spec := "invoiceRuns", inPlace := ["slices.overlaps[impost/api.Part]"], apart := false, narrowed := true }
def InvoiceRunsUptoSaid : Prop := invoiceRunsUptoRow.holds Try.pinned (OpenSpec.upto invoiceRunsSpec)

/-- 'impostlaw11.InvoiceTells', WHERE WHAT IT READS IS OF BULK AT MOST 1048576: true; the input reads as it did. -/
def invoiceTellsUptoRow : OpenClaim := { program := "ytpobhlnlnplbdaa", sum := "15cf0794f93703ecd9882d18ce1e9587089ecb9a8167d5af9985b618227f0f56", func := "impost/impostlaw11.InvoiceTells", spec := "invoiceTells", inPlace := ["slices.overlaps[impost/api.Part]"], apart := false, narrowed := true }
def InvoiceTellsUptoSaid : Prop := invoiceTellsUptoRow.holds Try.pinned (OpenSpec.upto invoiceTellsSpec)

/-- 'impostlaw11.InvoiceOne', WHERE WHAT IT READS IS OF BULK AT MOST 1048576: true; the input reads as it did. -/
def invoiceOneUptoRow : OpenClaim := { program := "ytpobhlnlnplbdaa", sum := "15cf0794f93703ecd9882d18ce1e9587089ecb9a8167d5af9985b618227f0f56", func := "impost/impostlaw11.InvoiceOne", spec := "invoiceOne", inPlace := ["slices.overlaps[impost/api.Part]"], apart := false, narrowed := true }
def InvoiceOneUptoSaid : Prop := invoiceOneUptoRow.holds Try.pinned (OpenSpec.upto invoiceOneSpec)

/-- 'impostlaw11.InvoiceSums', WHERE WHAT IT READS IS OF BULK AT MOST 1048576: true; the input reads as it did. -/
def invoiceSumsUptoRow : OpenClaim := { program := "ytpobhlnlnplbdaa", sum := "15cf0794f93703ecd9882d18ce1e9587089ecb9a8167d5af9985b618227f0f56", func := "impost/impostlaw11.InvoiceSums", spec := "invoiceSums", inPlace := ["slices.overlaps[impost/api.Rate]", "slices.overlaps[impost/api.Part]"], apart := false, narrowed := true }
def InvoiceSumsUptoSaid : Prop := invoiceSumsUptoRow.holds Try.pinned (OpenSpec.upto invoiceSumsSpec)

/-- 'impostlaw11.InvoiceOrder', WHERE WHAT IT READS IS OF BULK AT MOST 1048576: true; the input reads as it did. -/
def invoiceOrderUptoRow : OpenClaim := { program := "ytpobhlnlnplbdaa", sum := "15cf0794f93703ecd9882d18ce1e9587089ecb9a8167d5af9985b618227f0f56", func := "impost/impostlaw11.InvoiceOrder", spec := "invoiceOrder", inPlace := ["slices.overlaps[impost/api.Rate]", "slices.overlaps[impost/api.Part]"], apart := false, narrowed := true }
def InvoiceOrderUptoSaid : Prop := invoiceOrderUptoRow.holds Try.pinned (OpenSpec.upto invoiceOrderSpec)

/-- 'impostlaw11.InvoiceBack', WHERE WHAT IT READS IS OF BULK AT MOST 1048576: true; the input reads as it did. -/
def invoiceBackUptoRow : OpenClaim := { program := "ytpobhlnlnplbdaa", sum := "15cf0794f93703ecd9882d18ce1e9587089ecb9a8167d5af9985b618227f0f56", func := "impost/impostlaw11.InvoiceBack", spec := "invoiceBack", inPlace := ["slices.overlaps[impost/api.Part]"], apart := false, narrowed := true }
def InvoiceBackUptoSaid : Prop := invoiceBackUptoRow.holds Try.pinned (OpenSpec.upto invoiceBackSpec)

/-- 'impostlaw11.InvoiceMirror', WHERE WHAT IT READS IS OF BULK AT MOST 1048576: true; the input reads as it did. -/
def invoiceMirrorUptoRow : OpenClaim := { program := "ytpobhlnlnplbdaa", sum := "15cf0794f93703ecd9882d18ce1e9587089ecb9a8167d5af9985b618227f0f56", func := "impost/impostlaw11.InvoiceMirror", spec := "invoiceMirror", inPlace := ["slices.overlaps[impost/api.Rate]", "slices.overlaps[impost/api.Part]"], apart := false, narrowed := true }
def InvoiceMirrorUptoSaid : Prop := invoiceMirrorUptoRow.holds Try.pinned (OpenSpec.upto invoiceMirrorSpec)

end Rows
end Go.Proofs.Ytpobhlnlnplbdaa
