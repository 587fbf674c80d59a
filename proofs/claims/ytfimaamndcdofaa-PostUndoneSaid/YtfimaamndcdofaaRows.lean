/-
  No cell of these rows narrows 'for every input' (looked for: loops, veiled, ifaces, maps, wideKeys, modest, calm, conditions, laid).
  DERIVED. THE GIVEN ROWS OF THIS SEAT. 5 by the template 'for every input the law returns true; each argument reads behind the call as it read before'; 0 by the template 'total and deterministic' (their statements: YtfimaamndcdofaaTotals.lean).
  GIVEN WITH THE SEED: the statements are not yours to turn. If you find one false, say at which input.
  Laid BY PROGRAM, IN A SANDBOX (cutbox-rows.mjs): the forced cells as the released guide's own fill.sh prints them over the translation c17ae083634c68d5… (all of the seat's roots in one cut). By AI agents, Wed Nov 11 2026. No macro, syntax, notation, axiom, sorry.
-/
import Derived.Test.YtfimaamndcdofaaChecked
import GoSem.Claim
import GoSem.ClaimJoined
import GoSem.ClaimMapViews
import Derived.JoinedTies
import Derived.KernelRfl
namespace Go.Proofs.Ytfimaamndcdofaa
/- THE CELL 'sum', in the pinned program and in every row, IS THE sha256 OF THE DUMP (.gsa) THAT YtfimaamndcdofaaProg.lean LOADS. Nothing in Lean hashes anything: it is a label: what it is worth is what the hold of that sum in a sandbox is worth. -/
noncomputable def Try.pinned : Pinned := { name := "ytfimaamndcdofaa", sum := "c17ae083634c68d5a57df9271ffac1413ee2ce74cf086f4ad78c8ec1e30d3f40", checked := Try.checked }
namespace Rows
def none {H : Type} : Left H := { results := [], args := [] }

/-- 'impostlaw12.PostRuns': WHATEVER THE INPUT: true; the input reads as it did. -/
def postRunsSpec : ChangeSpec := { name := "postRuns", fn := fun _ => fun
  | [] => { results := [.lit (.bool true)], args := [] }
  | _ => none }
def postRunsRow : OpenClaim := { program := "ytfimaamndcdofaa", sum := "c17ae083634c68d5a57df9271ffac1413ee2ce74cf086f4ad78c8ec1e30d3f40", func := "impost/impostlaw12.PostRuns", spec := "postRuns", inPlace := ["slices.overlaps[impost/api.Balance]", "math/bits.Add64"], apart := false }
def PostRunsSaid : Prop := postRunsRow.holds Try.pinned (OpenSpec.ofChange postRunsSpec)

/-- ITS FALSE NEIGHBOUR: 'it returns false'. Refute it at one input. -/
def postRunsWrong : ChangeSpec := { name := "postRuns", fn := fun _ => fun
  | [] => { results := [.lit (.bool false)], args := [] }
  | _ => none }
def PostRunsWrongFalsely : Prop := postRunsRow.holds Try.pinned (OpenSpec.ofChange postRunsWrong)

/-- 'impostlaw12.PostTells': WHATEVER THE INPUT: true; the input reads as it did. -/
def postTellsSpec : ChangeSpec := { name := "postTells", fn := fun _ => fun
  | [d1, d2, d3] => { results := [.lit (.bool true)], args := [d1, d2, d3] }
  | _ => none }
def postTellsRow : OpenClaim := { program := "ytfimaamndcdofaa", sum := "c17ae083634c68d5a57df9271ffac1413ee2ce74cf086f4ad78c8ec1e30d3f40", func := "impost/impostlaw12.PostTells", spec := "postTells", inPlace := ["slices.overlaps[impost/api.Balance]", "math/bits.Add64"], apart := false }
def PostTellsSaid : Prop := postTellsRow.holds Try.pinned (OpenSpec.ofChange postTellsSpec)

/-- ITS FALSE NEIGHBOUR: 'it returns false'. Refute it at one input. -/
def postTellsWrong : ChangeSpec := { name := "postTells", fn := fun _ => fun
  | [d1, d2, d3] => { results := [.lit (.bool false)], args := [d1, d2, d3] }
  | _ => none }
def PostTellsWrongFalsely : Prop := postTellsRow.holds Try.pinned (OpenSpec.ofChange postTellsWrong)

/-- 'impostlaw12.PostBalances': WHATEVER THE INPUT: true; the input reads as it did. -/
def postBalancesSpec : ChangeSpec := { name := "postBalances", fn := fun _ => fun
  | [d1, d2] => { results := [.lit (.bool true)], args := [d1, d2] }
  | _ => none }
def postBalancesRow : OpenClaim := { program := "ytfimaamndcdofaa", sum := "c17ae083634c68d5a57df9271ffac1413ee2ce74cf086f4ad78c8ec1e30d3f40", func := "impost/impostlaw12.PostBalances", spec := "postBalances", inPlace := ["math/bits.Add64", "slices.overlaps[impost/api.Balance]"], apart := false }
def PostBalancesSaid : Prop := postBalancesRow.holds Try.pinned (OpenSpec.ofChange postBalancesSpec)

/-- ITS FALSE NEIGHBOUR: 'it returns false'. Refute it at one input. -/
def postBalancesWrong : ChangeSpec := { name := "postBalances", fn := fun _ => fun
  | [d1, d2] => { results := [.lit (.bool false)], args := [d1, d2] }
  | _ => none }
def PostBalancesWrongFalsely : Prop := postBalancesRow.holds Try.pinned (OpenSpec.ofChange postBalancesWrong)

/-- 'impostlaw12.PostEach': WHATEVER THE INPUT: true; the input reads as it did. -/
def postEachSpec : ChangeSpec := { name := "postEach", fn := fun _ => fun
  | [d1, d2] => { results := [.lit (.bool true)], args := [d1, d2] }
  | _ => none }
def postEachRow : OpenClaim := { program := "ytfimaamndcdofaa", sum := "c17ae083634c68d5a57df9271ffac1413ee2ce74cf086f4ad78c8ec1e30d3f40", func := "impost/impostlaw12.PostEach", spec := "postEach", inPlace := ["slices.overlaps[impost/api.Balance]", "math/bits.Add64"], apart := false }
def PostEachSaid : Prop := postEachRow.holds Try.pinned (OpenSpec.ofChange postEachSpec)

/-- ITS FALSE NEIGHBOUR: 'it returns false'. Refute it at one input. -/
def postEachWrong : ChangeSpec := { name := "postEach", fn := fun _ => fun
  | [d1, d2] => { results := [.lit (.bool false)], args := [d1, d2] }
  | _ => none }
def PostEachWrongFalsely : Prop := postEachRow.holds Try.pinned (OpenSpec.ofChange postEachWrong)

/-- 'impostlaw12.PostUndone': WHATEVER THE INPUT: true; the input reads as it did. -/
def postUndoneSpec : ChangeSpec := { name := "postUndone", fn := fun _ => fun
  | [d1, d2] => { results := [.lit (.bool true)], args := [d1, d2] }
  | _ => none }
def postUndoneRow : OpenClaim := { program := "ytfimaamndcdofaa", sum := "c17ae083634c68d5a57df9271ffac1413ee2ce74cf086f4ad78c8ec1e30d3f40", func := "impost/impostlaw12.PostUndone", spec := "postUndone", inPlace := ["slices.overlaps[impost/api.Balance]", "math/bits.Add64"], apart := false }
def PostUndoneSaid : Prop := postUndoneRow.holds Try.pinned (OpenSpec.ofChange postUndoneSpec)

/-- ITS FALSE NEIGHBOUR: 'it returns false'. Refute it at one input. -/
def postUndoneWrong : ChangeSpec := { name := "postUndone", fn := fun _ => fun
  | [d1, d2] => { results := [.lit (.bool false)], args := [d1, d2] }
  | _ => none }
def PostUndoneWrongFalsely : Prop := postUndoneRow.holds Try.pinned (OpenSpec.ofChange postUndoneWrong)

/- THE SECOND FORM. 'bulk': how many values and letters a reading holds, each counted each time it is reached (what is shared counts as often as it is met; a slice's spare places count too). A statement '..UptoSaid' is the law's where the arguments, and the package variables that the reading takes, are together of bulk at most 1048576: NARROWER than '..Said'. Prove '..Said' where nothing that the law and all that it calls make is longer than what came in: it says more and counts as full. Else prove '..UptoSaid'. A law counts once. -/
mutual
def uptoBulk {H : Type} : DataW H → Nat
  | .lit (.string bytes) => bytes.length + 1
  | .lit _ => 1
  | .nil => 1
  | .ptr d => uptoBulk d + 1
  | .slice elems spare => uptoBulkAll elems + uptoBulkAll spare + 1
  | .agg parts => uptoBulkAll parts + 1
  | .iface _ d => uptoBulk d + 1
  | .map entries => uptoBulkEntries entries + 1
  | .held _ => 1
def uptoBulkAll {H : Type} : List (DataW H) → Nat
  | [] => 0
  | d :: r => uptoBulk d + uptoBulkAll r
def uptoBulkEntries {H : Type} : List (Lit × DataW H) → Nat
  | [] => 0
  | x :: r => uptoBulkEntry x + uptoBulkEntries r
def uptoBulkEntry {H : Type} : Lit × DataW H → Nat
  | (.string bytes, d) => bytes.length + uptoBulk d + 1
  | (_, d) => uptoBulk d + 1
 end
def uptoSmall : (H : Type) → List (DataW H) → Bool := fun _ ds => decide (uptoBulkAll ds ≤ 1048576)
def OpenSpec.upto (s : _root_.Go.ChangeSpec) : _root_.Go.OpenSpec := { _root_.Go.OpenSpec.ofChange s with cond := some uptoSmall }

/-- 'impostlaw12.PostRuns', WHERE WHAT IT READS IS OF BULK AT MOST 1048576: true; the input reads as it did. -/
def postRunsUptoRow : OpenClaim := { program := "ytfimaamndcdofaa", sum := "c17ae083634c68d5a57df9271ffac1413ee2ce74cf086f4ad78c8ec1e30d3f40", func := "impost/impostlaw12.PostRuns", spec := "postRuns", inPlace := ["slices.overlaps[impost/api.Balance]", "math/bits.Add64"], apart := false, narrowed := true }
def PostRunsUptoSaid : Prop := postRunsUptoRow.holds Try.pinned (OpenSpec.upto postRunsSpec)

/-- 'impostlaw12.PostTells', WHERE WHAT IT READS IS OF BULK AT MOST 1048576: true; the input reads as it did. -/
def postTellsUptoRow : OpenClaim := { program := "ytfimaamndcdofaa", sum := "c17ae083634c68d5a57df9271ffac1413ee2ce74cf086f4ad78c8ec1e30d3f40", func := "impost/impostlaw12.PostTells", spec := "postTells", inPlace := ["slices.overlaps[impost/api.Balance]", "math/bits.Add64"], apart := false, narrowed := true }
def PostTellsUptoSaid : Prop := postTellsUptoRow.holds Try.pinned (OpenSpec.upto postTellsSpec)

/-- 'impostlaw12.PostBalances', WHERE WHAT IT READS IS OF BULK AT MOST 1048576: true; the input reads as it did. -/
def postBalancesUptoRow : OpenClaim := { program := "ytfimaamndcdofaa", sum := "c17ae083634c68d5a57df9271ffac1413ee2ce74cf086f4ad78c8ec1e30d3f40", func := "impost/impostlaw12.PostBalances", spec := "postBalances", inPlace := ["math/bits.Add64", "slices.overlaps[impost/api.Balance]"], apart := false, narrowed := true }
def PostBalancesUptoSaid : Prop := postBalancesUptoRow.holds Try.pinned (OpenSpec.upto postBalancesSpec)

/-- 'impostlaw12.PostEach', WHERE WHAT IT READS IS OF BULK AT MOST 1048576: true; the input reads as it did. -/
def postEachUptoRow : OpenClaim := { program := "ytfimaamndcdofaa", sum := "c17ae083634c68d5a57df9271ffac1413ee2ce74cf086f4ad78c8ec1e30d3f40", func := "impost/impostlaw12.PostEach", spec := "postEach", inPlace := ["slices.overlaps[impost/api.Balance]", "math/bits.Add64"], apart := false, narrowed := true }
def PostEachUptoSaid : Prop := postEachUptoRow.holds Try.pinned (OpenSpec.upto postEachSpec)

/-- 'impostlaw12.PostUndone', WHERE WHAT IT READS IS OF BULK AT MOST 1048576: true; the input reads as it did. -/
def postUndoneUptoRow : OpenClaim := { program := "ytfimaamndcdofaa", sum := "c17ae083634c68d5a57df9271ffac1413ee2ce74cf086f4ad78c8ec1e30d3f40", func := "impost/impostlaw12.PostUndone", spec := "postUndone", inPlace := ["slices.overlaps[impost/api.Balance]", "math/bits.Add64"], apart := false, narrowed := true }
def PostUndoneUptoSaid : Prop := postUndoneUptoRow.holds Try.pinned (OpenSpec.upto postUndoneSpec)

end Rows
end Go.Proofs.Ytfimaamndcdofaa
