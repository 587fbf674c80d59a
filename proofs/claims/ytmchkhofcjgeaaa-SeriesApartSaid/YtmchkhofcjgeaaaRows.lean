/-
  No cell of these rows narrows 'for every input' (looked for: loops, veiled, ifaces, maps, wideKeys, modest, calm, conditions, laid).
  DERIVED. THE GIVEN ROWS OF THIS SEAT. 9 by the template 'for every input the law returns true; each argument reads behind the call as it read before'; 0 by the template 'total and deterministic' (their statements: YtmchkhofcjgeaaaTotals.lean).
  GIVEN WITH THE SEED: the statements are not yours to turn. If you find one false, say at which input.
  Laid BY PROGRAM, IN A SANDBOX (cutbox-rows.mjs): the forced cells as the released guide's own fill.sh prints them over the translation 56a763bd9bc5f554… (all of the seat's roots in one cut). By AI agents, Wed Nov 11 2026. No macro, syntax, notation, axiom, sorry.
-/
import Derived.Test.YtmchkhofcjgeaaaChecked
import GoSem.Claim
import GoSem.ClaimJoined
import GoSem.ClaimMapViews
import Derived.JoinedTies
import Derived.KernelRfl
namespace Go.Proofs.Ytmchkhofcjgeaaa
/- THE CELL 'sum', in the pinned program and in every row, IS THE sha256 OF THE DUMP (.gsa) THAT YtmchkhofcjgeaaaProg.lean LOADS. Nothing in Lean hashes anything: it is a label: what it is worth is what the hold of that sum in a sandbox is worth. -/
noncomputable def Try.pinned : Pinned := { name := "ytmchkhofcjgeaaa", sum := "56a763bd9bc5f5545e9dd46022c25cbdd7bf7248729d8edc01aa82f8b76d62cc", checked := Try.checked }
namespace Rows
def none {H : Type} : Left H := { results := [], args := [] }

/-- 'impostlaw13.SessionRuns': WHATEVER THE INPUT: true; the input reads as it did. -/
def sessionRunsSpec : ChangeSpec := { name := "sessionRuns", fn := fun _ => fun
  | [] => { results := [.lit (.bool true)], args := [] }
  | _ => none }
def sessionRunsRow : OpenClaim := { program := "ytmchkhofcjgeaaa", sum := "56a763bd9bc5f5545e9dd46022c25cbdd7bf7248729d8edc01aa82f8b76d62cc", func := "impost/impostlaw13.SessionRuns", spec := "sessionRuns", inPlace := ["slices.overlaps[impost/api.Session]"], unfollowed := true, recurses := true, apart := false }
def SessionRunsSaid : Prop := sessionRunsRow.holds Try.pinned (OpenSpec.ofChange sessionRunsSpec)

/-- ITS FALSE NEIGHBOUR: 'it returns false'. Refute it at one input. -/
def sessionRunsWrong : ChangeSpec := { name := "sessionRuns", fn := fun _ => fun
  | [] => { results := [.lit (.bool false)], args := [] }
  | _ => none }
def SessionRunsWrongFalsely : Prop := sessionRunsRow.holds Try.pinned (OpenSpec.ofChange sessionRunsWrong)

/-- 'impostlaw13.SessionTells': WHATEVER THE INPUT: true; the input reads as it did. -/
def sessionTellsSpec : ChangeSpec := { name := "sessionTells", fn := fun _ => fun
  | [d1, d2, d3, d4] => { results := [.lit (.bool true)], args := [d1, d2, d3, d4] }
  | _ => none }
def sessionTellsRow : OpenClaim := { program := "ytmchkhofcjgeaaa", sum := "56a763bd9bc5f5545e9dd46022c25cbdd7bf7248729d8edc01aa82f8b76d62cc", func := "impost/impostlaw13.SessionTells", spec := "sessionTells", inPlace := ["slices.overlaps[impost/api.Session]"], unfollowed := true, recurses := true, apart := false }
def SessionTellsSaid : Prop := sessionTellsRow.holds Try.pinned (OpenSpec.ofChange sessionTellsSpec)

/-- ITS FALSE NEIGHBOUR: 'it returns false'. Refute it at one input. -/
def sessionTellsWrong : ChangeSpec := { name := "sessionTells", fn := fun _ => fun
  | [d1, d2, d3, d4] => { results := [.lit (.bool false)], args := [d1, d2, d3, d4] }
  | _ => none }
def SessionTellsWrongFalsely : Prop := sessionTellsRow.holds Try.pinned (OpenSpec.ofChange sessionTellsWrong)

/-- 'impostlaw13.SessionOnce': WHATEVER THE INPUT: true; the input reads as it did. -/
def sessionOnceSpec : ChangeSpec := { name := "sessionOnce", fn := fun _ => fun
  | [d] => { results := [.lit (.bool true)], args := [d] }
  | _ => none }
def sessionOnceRow : OpenClaim := { program := "ytmchkhofcjgeaaa", sum := "56a763bd9bc5f5545e9dd46022c25cbdd7bf7248729d8edc01aa82f8b76d62cc", func := "impost/impostlaw13.SessionOnce", spec := "sessionOnce", inPlace := ["slices.overlaps[impost/api.Session]"], unfollowed := true, recurses := true, apart := false }
def SessionOnceSaid : Prop := sessionOnceRow.holds Try.pinned (OpenSpec.ofChange sessionOnceSpec)

/-- ITS FALSE NEIGHBOUR: 'it returns false'. Refute it at one input. -/
def sessionOnceWrong : ChangeSpec := { name := "sessionOnce", fn := fun _ => fun
  | [d] => { results := [.lit (.bool false)], args := [d] }
  | _ => none }
def SessionOnceWrongFalsely : Prop := sessionOnceRow.holds Try.pinned (OpenSpec.ofChange sessionOnceWrong)

/-- 'impostlaw13.SessionFull': WHATEVER THE INPUT: true; the input reads as it did. -/
def sessionFullSpec : ChangeSpec := { name := "sessionFull", fn := fun _ => fun
  | [d] => { results := [.lit (.bool true)], args := [d] }
  | _ => none }
def sessionFullRow : OpenClaim := { program := "ytmchkhofcjgeaaa", sum := "56a763bd9bc5f5545e9dd46022c25cbdd7bf7248729d8edc01aa82f8b76d62cc", func := "impost/impostlaw13.SessionFull", spec := "sessionFull", inPlace := ["slices.overlaps[impost/api.Session]"], unfollowed := true, recurses := true, apart := false }
def SessionFullSaid : Prop := sessionFullRow.holds Try.pinned (OpenSpec.ofChange sessionFullSpec)

/-- ITS FALSE NEIGHBOUR: 'it returns false'. Refute it at one input. -/
def sessionFullWrong : ChangeSpec := { name := "sessionFull", fn := fun _ => fun
  | [d] => { results := [.lit (.bool false)], args := [d] }
  | _ => none }
def SessionFullWrongFalsely : Prop := sessionFullRow.holds Try.pinned (OpenSpec.ofChange sessionFullWrong)

/-- 'impostlaw10.SeriesRuns': WHATEVER THE INPUT: true; the input reads as it did. -/
def seriesRunsSpec : ChangeSpec := { name := "seriesRuns", fn := fun _ => fun
  | [] => { results := [.lit (.bool true)], args := [] }
  | _ => none }
def seriesRunsRow : OpenClaim := { program := "ytmchkhofcjgeaaa", sum := "56a763bd9bc5f5545e9dd46022c25cbdd7bf7248729d8edc01aa82f8b76d62cc", func := "impost/impostlaw10.SeriesRuns", spec := "seriesRuns", inPlace := ["slices.overlaps[impost/api.Series]"], unfollowed := true, recurses := true, apart := false }
def SeriesRunsSaid : Prop := seriesRunsRow.holds Try.pinned (OpenSpec.ofChange seriesRunsSpec)

/-- ITS FALSE NEIGHBOUR: 'it returns false'. Refute it at one input. -/
def seriesRunsWrong : ChangeSpec := { name := "seriesRuns", fn := fun _ => fun
  | [] => { results := [.lit (.bool false)], args := [] }
  | _ => none }
def SeriesRunsWrongFalsely : Prop := seriesRunsRow.holds Try.pinned (OpenSpec.ofChange seriesRunsWrong)

/-- 'impostlaw10.SeriesGapless': WHATEVER THE INPUT: true; the input reads as it did. -/
def seriesGaplessSpec : ChangeSpec := { name := "seriesGapless", fn := fun _ => fun
  | [d] => { results := [.lit (.bool true)], args := [d] }
  | _ => none }
def seriesGaplessRow : OpenClaim := { program := "ytmchkhofcjgeaaa", sum := "56a763bd9bc5f5545e9dd46022c25cbdd7bf7248729d8edc01aa82f8b76d62cc", func := "impost/impostlaw10.SeriesGapless", spec := "seriesGapless", inPlace := ["slices.overlaps[impost/api.Series]"], unfollowed := true, recurses := true, apart := false }
def SeriesGaplessSaid : Prop := seriesGaplessRow.holds Try.pinned (OpenSpec.ofChange seriesGaplessSpec)

/-- ITS FALSE NEIGHBOUR: 'it returns false'. Refute it at one input. -/
def seriesGaplessWrong : ChangeSpec := { name := "seriesGapless", fn := fun _ => fun
  | [d] => { results := [.lit (.bool false)], args := [d] }
  | _ => none }
def SeriesGaplessWrongFalsely : Prop := seriesGaplessRow.holds Try.pinned (OpenSpec.ofChange seriesGaplessWrong)

/-- 'impostlaw10.SeriesTells': WHATEVER THE INPUT: true; the input reads as it did. -/
def seriesTellsSpec : ChangeSpec := { name := "seriesTells", fn := fun _ => fun
  | [d1, d2, d3] => { results := [.lit (.bool true)], args := [d1, d2, d3] }
  | _ => none }
def seriesTellsRow : OpenClaim := { program := "ytmchkhofcjgeaaa", sum := "56a763bd9bc5f5545e9dd46022c25cbdd7bf7248729d8edc01aa82f8b76d62cc", func := "impost/impostlaw10.SeriesTells", spec := "seriesTells", inPlace := ["slices.overlaps[impost/api.Series]"], unfollowed := true, recurses := true, apart := false }
def SeriesTellsSaid : Prop := seriesTellsRow.holds Try.pinned (OpenSpec.ofChange seriesTellsSpec)

/-- ITS FALSE NEIGHBOUR: 'it returns false'. Refute it at one input. -/
def seriesTellsWrong : ChangeSpec := { name := "seriesTells", fn := fun _ => fun
  | [d1, d2, d3] => { results := [.lit (.bool false)], args := [d1, d2, d3] }
  | _ => none }
def SeriesTellsWrongFalsely : Prop := seriesTellsRow.holds Try.pinned (OpenSpec.ofChange seriesTellsWrong)

/-- 'impostlaw10.SeriesApart': WHATEVER THE INPUT: true; the input reads as it did. -/
def seriesApartSpec : ChangeSpec := { name := "seriesApart", fn := fun _ => fun
  | [d1, d2] => { results := [.lit (.bool true)], args := [d1, d2] }
  | _ => none }
def seriesApartRow : OpenClaim := { program := "ytmchkhofcjgeaaa", sum := "56a763bd9bc5f5545e9dd46022c25cbdd7bf7248729d8edc01aa82f8b76d62cc", func := "impost/impostlaw10.SeriesApart", spec := "seriesApart", inPlace := ["slices.overlaps[impost/api.Series]"], unfollowed := true, recurses := true, apart := false }
def SeriesApartSaid : Prop := seriesApartRow.holds Try.pinned (OpenSpec.ofChange seriesApartSpec)

/-- ITS FALSE NEIGHBOUR: 'it returns false'. Refute it at one input. -/
def seriesApartWrong : ChangeSpec := { name := "seriesApart", fn := fun _ => fun
  | [d1, d2] => { results := [.lit (.bool false)], args := [d1, d2] }
  | _ => none }
def SeriesApartWrongFalsely : Prop := seriesApartRow.holds Try.pinned (OpenSpec.ofChange seriesApartWrong)

/-- 'impostlaw10.SeriesFull': WHATEVER THE INPUT: true; the input reads as it did. -/
def seriesFullSpec : ChangeSpec := { name := "seriesFull", fn := fun _ => fun
  | [d] => { results := [.lit (.bool true)], args := [d] }
  | _ => none }
def seriesFullRow : OpenClaim := { program := "ytmchkhofcjgeaaa", sum := "56a763bd9bc5f5545e9dd46022c25cbdd7bf7248729d8edc01aa82f8b76d62cc", func := "impost/impostlaw10.SeriesFull", spec := "seriesFull", inPlace := ["slices.overlaps[impost/api.Series]"], unfollowed := true, recurses := true, apart := false }
def SeriesFullSaid : Prop := seriesFullRow.holds Try.pinned (OpenSpec.ofChange seriesFullSpec)

/-- ITS FALSE NEIGHBOUR: 'it returns false'. Refute it at one input. -/
def seriesFullWrong : ChangeSpec := { name := "seriesFull", fn := fun _ => fun
  | [d] => { results := [.lit (.bool false)], args := [d] }
  | _ => none }
def SeriesFullWrongFalsely : Prop := seriesFullRow.holds Try.pinned (OpenSpec.ofChange seriesFullWrong)

/- THE SECOND FORM. 'bulk': how many values and letters a reading holds, each counted each time it is reached (what is shared counts as often as it is met; a slice's spare places count too). A statement '..UptoSaid' is the law's where the arguments, and the package variables that the reading takes, are together of bulk at most 1048576: NARROWER than '..Said'. Prove '..Said' where nothing that the law and all that it calls make is longer than what came in: it says more and counts as full. Else prove '..UptoSaid'. A law counts once. -/
mutual
def uptoBulk {H : Type} : DataW H → Nat
  | .lit (.string bytes) => bytes.length + 1
  | .lit _ => 1
  | .nil => 1
  | .ptr d => uptoBulk d + 1
  | .slice elems spare => uptoBulkAll elems + uptoBulkAll spare + 1
  | .agg parts => uptoBulkAll parts + 1
  | .iface _ d => uptoBulk d + 1
  | .map entries => uptoBulkEntries entries + 1
  | .held _ => 1
def uptoBulkAll {H : Type} : List (DataW H) → Nat
  | [] => 0
  | d :: r => uptoBulk d + uptoBulkAll r
def uptoBulkEntries {H : Type} : List (Lit × DataW H) → Nat
  | [] => 0
  | x :: r => uptoBulkEntry x + uptoBulkEntries r
def uptoBulkEntry {H : Type} : Lit × DataW H → Nat
  | (.string bytes, d) => bytes.length + uptoBulk d + 1
  | (_, d) => uptoBulk d + 1
 end
def uptoSmall : (H : Type) → List (DataW H) → Bool := fun _ ds => decide (uptoBulkAll ds ≤ 1048576)
def OpenSpec.upto (s : _root_.Go.ChangeSpec) : _root_.Go.OpenSpec := { _root_.Go.OpenSpec.ofChange s with cond := some uptoSmall }

/-- 'impostlaw13.SessionRuns', WHERE WHAT IT READS IS OF BULK AT MOST 1048576: true; the input reads as it did. -/
def sessionRunsUptoRow : OpenClaim := { program := "ytmchkhofcjgeaaa", sum := "56a763bd9bc5f5545e9dd46022c25cbdd7bf7248729d8edc01aa82f8b76d62cc", func := "impost/impostlaw13.SessionRuns", spec := "sessionRuns", inPlace := ["slices.overlaps[impost/api.Session]"], unfollowed := true, recurses := true, apart := false, narrowed := true }
def SessionRunsUptoSaid : Prop := sessionRunsUptoRow.holds Try.pinned (OpenSpec.upto sessionRunsSpec)

/-- 'impostlaw13.SessionTells', WHERE WHAT IT READS IS OF BULK AT MOST 1048576: true; the input reads as it did. -/
def sessionTellsUptoRow : OpenClaim := { program := "ytmchkhofcjgeaaa", sum := "56a763bd9bc5f5545e9dd46022c25cbdd7bf7248729d8edc01aa82f8b76d62cc", func := "impost/impostlaw13.SessionTells", spec := "sessionTells", inPlace := ["slices.overlaps[impost/api.Session]"], unfollowed := true, recurses := true, apart := false, narrowed := true }
def SessionTellsUptoSaid : Prop := sessionTellsUptoRow.holds Try.pinned (OpenSpec.upto sessionTellsSpec)

/-- 'impostlaw13.SessionOnce', WHERE WHAT IT READS IS OF BULK AT MOST 1048576: true; the input reads as it did. -/
def sessionOnceUptoRow : OpenClaim := { program := "ytmchkhofcjgeaaa", sum := "56a763bd9bc5f5545e9dd46022c25cbdd7bf7248729d8edc01aa82f8b76d62cc", func := "impost/impostlaw13.SessionOnce", spec := "sessionOnce", inPlace := ["slices.overlaps[impost/api.Session]"], unfollowed := true, recurses := true, apart := false, narrowed := true }
def SessionOnceUptoSaid : Prop := sessionOnceUptoRow.holds Try.pinned (OpenSpec.upto sessionOnceSpec)

/-- 'impostlaw13.SessionFull', WHERE WHAT IT READS IS OF BULK AT MOST 1048576: true; the input reads as it did. -/
def sessionFullUptoRow : OpenClaim := { program := "ytmchkhofcjgeaaa", sum := "56a763bd9bc5f5545e9dd46022c25cbdd7bf7248729d8edc01aa82f8b76d62cc", func := "impost/impostlaw13.SessionFull", spec := "sessionFull", inPlace := ["slices.overlaps[impost/api.Session]"], unfollowed := true, recurses := true, apart := false, narrowed := true }
def SessionFullUptoSaid : Prop := sessionFullUptoRow.holds Try.pinned (OpenSpec.upto sessionFullSpec)

/-- 'impostlaw10.SeriesRuns', WHERE WHAT IT READS IS OF BULK AT MOST 1048576: true; the input reads as it did. -/
def seriesRunsUptoRow : OpenClaim := { program := "ytmchkhofcjgeaaa", sum := "56a763bd9bc5f5545e9dd46022c25cbdd7bf7248729d8edc01aa82f8b76d62cc", func := "impost/impostlaw10.SeriesRuns", spec := "seriesRuns", inPlace := ["slices.overlaps[impost/api.Series]"], unfollowed := true, recurses := true, apart := false, narrowed := true }
def SeriesRunsUptoSaid : Prop := seriesRunsUptoRow.holds Try.pinned (OpenSpec.upto seriesRunsSpec)

/-- 'impostlaw10.SeriesGapless', WHERE WHAT IT READS IS OF BULK AT MOST 1048576: true; the input reads as it did. -/
def seriesGaplessUptoRow : OpenClaim := { program := "ytmchkhofcjgeaaa", sum := "56a763bd9bc5f5545e9dd46022c25cbdd7bf7248729d8edc01aa82f8b76d62cc", func := "impost/impostlaw10.SeriesGapless", spec := "seriesGapless", inPlace := ["slices.overlaps[impost/api.Series]"], unfollowed := true, recurses := true, apart := false, narrowed := true }
def SeriesGaplessUptoSaid : Prop := seriesGaplessUptoRow.holds Try.pinned (OpenSpec.upto seriesGaplessSpec)

/-- 'impostlaw10.SeriesTells', WHERE WHAT IT READS IS OF BULK AT MOST 1048576: true; the input reads as it did. -/
def seriesTellsUptoRow : OpenClaim := { program := "ytmchkhofcjgeaaa", sum := "56a763bd9bc5f5545e9dd46022c25cbdd7bf7248729d8edc01aa82f8b76d62cc", func := "impost/impostlaw10.SeriesTells", spec := "seriesTells", inPlace := ["slices.overlaps[impost/api.Series]"], unfollowed := true, recurses := true, apart := false, narrowed := true }
def SeriesTellsUptoSaid : Prop := seriesTellsUptoRow.holds Try.pinned (OpenSpec.upto seriesTellsSpec)

/-- 'impostlaw10.SeriesApart', WHERE WHAT IT READS IS OF BULK AT MOST 1048576: true; the input reads as it did. -/
def seriesApartUptoRow : OpenClaim := { program := "ytmchkhofcjgeaaa", sum := "56a763bd9bc5f5545e9dd46022c25cbdd7bf7248729d8edc01aa82f8b76d62cc", func := "impost/impostlaw10.SeriesApart", spec := "seriesApart", inPlace := ["slices.overlaps[impost/api.Series]"], unfollowed := true, recurses := true, apart := false, narrowed := true }
def SeriesApartUptoSaid : Prop := seriesApartUptoRow.holds Try.pinned (OpenSpec.upto seriesApartSpec)

/-- 'impostlaw10.SeriesFull', WHERE WHAT IT READS IS OF BULK AT MOST 1048576: true; the input reads as it did. -/
def seriesFullUptoRow : OpenClaim := { program := "ytmchkhofcjgeaaa", sum := "56a763bd9bc5f5545e9dd46022c25cbdd7bf7248729d8edc01aa82f8b76d62cc", func := "impost/impostlaw10.SeriesFull", spec := "seriesFull", inPlace := ["slices.overlaps[impost/api.Series]"], unfollowed := true, recurses := true, apart := false, narrowed := true }
def SeriesFullUptoSaid : Prop := seriesFullUptoRow.holds Try.pinned (OpenSpec.upto seriesFullSpec)

end Rows
end Go.Proofs.Ytmchkhofcjgeaaa
