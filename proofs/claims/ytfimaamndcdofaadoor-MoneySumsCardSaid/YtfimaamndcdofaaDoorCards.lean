/-
  DERIVED. GIVEN WITH THE SEED: THE CARDS: each row of YtfimaamndcdofaaDoorRows.lean that lists a variable, with what it lists TIED to the program's text (the seventh form; the later family's looks); each row that meets fmt, with fmt's text TOLD by the authors' own Lean function (tested against real Go, not proved from fmt's source: count such statements apart). THE CARD IS WHAT COUNTS. Prove the row's statement (the work); the ties are given (YtfimaamndcdofaaDoorTie.lean); close each card by the builder's one call (the guide's Derived/Test/ToyasCard.lean, 'card_holds'). Laid BY PROGRAM, IN A SANDBOX (cutbox-door.mjs). By AI agents, Wed Nov 11 2026. No macro, syntax, notation, axiom, sorry.
-/
import Derived.Test.YtfimaamndcdofaaDoorRows
import GoSem.ClaimSeven
namespace Go.Proofs.YtfimaamndcdofaaDoor
namespace Rows

/-- THE TIED CARD OF 'impostlaw4.MoneyRuns'. -/
def moneyRunsCard : Claim7 := { stood := { row := moneyRunsRow, standIns := [], harness := (true, "dd5c1fda59d42c852511865fed33945448da63323dbb478cb7b3c0f9b5cc558a"), looks := false }, kinds := [], alts := [], laidByText := true, laidKinds := [.data, .data, .data], laidTests := true, laidLooks := .later }
def MoneyRunsCardSaid : Prop := Claim7.holds Tryd.pinned (.plain (OpenSpec.ofChange moneyRunsSpec)) moneyRunsCard

/-- THE TIED CARD OF 'impostlaw4.MoneyTells'. -/
def moneyTellsCard : Claim7 := { stood := { row := moneyTellsRow, standIns := [], harness := (true, "dd5c1fda59d42c852511865fed33945448da63323dbb478cb7b3c0f9b5cc558a"), looks := false }, kinds := [], alts := [], laidByText := true, laidKinds := [.data, .data, .data], laidTests := true, laidLooks := .later }
def MoneyTellsCardSaid : Prop := Claim7.holds Tryd.pinned (.plain (OpenSpec.ofChange moneyTellsSpec)) moneyTellsCard

/-- THE TIED CARD OF 'impostlaw4.MoneyTexts'. -/
def moneyTextsCard : Claim7 := { stood := { row := moneyTextsRow, standIns := [], harness := (true, "dd5c1fda59d42c852511865fed33945448da63323dbb478cb7b3c0f9b5cc558a"), looks := false }, kinds := [], alts := [], laidByText := true, laidKinds := [.data, .data, .data], laidTests := true, laidLooks := .later }
def MoneyTextsCardSaid : Prop := Claim7.holds Tryd.pinned (.plain (OpenSpec.ofChange moneyTextsSpec)) moneyTextsCard

/-- THE TIED CARD OF 'impostlaw4.MoneyBack'. -/
def moneyBackCard : Claim7 := { stood := { row := moneyBackRow, standIns := [], harness := (true, "dd5c1fda59d42c852511865fed33945448da63323dbb478cb7b3c0f9b5cc558a"), looks := false }, kinds := [], alts := [], laidByText := true, laidKinds := [.data, .data, .data], laidTests := true, laidLooks := .later }
def MoneyBackCardSaid : Prop := Claim7.holds Tryd.pinned (.plain (OpenSpec.ofChange moneyBackSpec)) moneyBackCard

/-- THE TIED CARD OF 'impostlaw4.MoneyUndoes'. -/
def moneyUndoesCard : Claim7 := { stood := { row := moneyUndoesRow, standIns := [], harness := (true, "dd5c1fda59d42c852511865fed33945448da63323dbb478cb7b3c0f9b5cc558a"), looks := false }, kinds := [], alts := [], laidByText := true, laidKinds := [.data, .data, .data], laidTests := true, laidLooks := .later }
def MoneyUndoesCardSaid : Prop := Claim7.holds Tryd.pinned (.plain (OpenSpec.ofChange moneyUndoesSpec)) moneyUndoesCard

/-- THE TIED CARD OF 'impostlaw4.MoneySums'. -/
def moneySumsCard : Claim7 := { stood := { row := moneySumsRow, standIns := [], harness := (true, "dd5c1fda59d42c852511865fed33945448da63323dbb478cb7b3c0f9b5cc558a"), looks := false }, kinds := [], alts := [], laidByText := true, laidKinds := [.data, .data, .data], laidTests := true, laidLooks := .later }
def MoneySumsCardSaid : Prop := Claim7.holds Tryd.pinned (.plain (OpenSpec.ofChange moneySumsSpec)) moneySumsCard

/-- THE TIED CARD OF 'impostlaw4.MoneyTimes'. -/
def moneyTimesCard : Claim7 := { stood := { row := moneyTimesRow, standIns := [], harness := (true, "dd5c1fda59d42c852511865fed33945448da63323dbb478cb7b3c0f9b5cc558a"), looks := false }, kinds := [], alts := [], laidByText := true, laidKinds := [.data, .data, .data], laidTests := true, laidLooks := .later }
def MoneyTimesCardSaid : Prop := Claim7.holds Tryd.pinned (.plain (OpenSpec.ofChange moneyTimesSpec)) moneyTimesCard

/-- THE SECOND FORM's CARD OF 'impostlaw4.MoneyRuns'. -/
def moneyRunsUptoCard : Claim7 := { stood := { row := moneyRunsUptoRow, standIns := [], harness := (true, "dd5c1fda59d42c852511865fed33945448da63323dbb478cb7b3c0f9b5cc558a"), looks := false }, kinds := [], alts := [], laidByText := true, laidKinds := [.data, .data, .data], laidTests := true, laidLooks := .later }
def MoneyRunsUptoCardSaid : Prop := Claim7.holds Tryd.pinned (.plain (OpenSpec.upto moneyRunsSpec)) moneyRunsUptoCard

/-- THE SECOND FORM's CARD OF 'impostlaw4.MoneyTells'. -/
def moneyTellsUptoCard : Claim7 := { stood := { row := moneyTellsUptoRow, standIns := [], harness := (true, "dd5c1fda59d42c852511865fed33945448da63323dbb478cb7b3c0f9b5cc558a"), looks := false }, kinds := [], alts := [], laidByText := true, laidKinds := [.data, .data, .data], laidTests := true, laidLooks := .later }
def MoneyTellsUptoCardSaid : Prop := Claim7.holds Tryd.pinned (.plain (OpenSpec.upto moneyTellsSpec)) moneyTellsUptoCard

/-- THE SECOND FORM's CARD OF 'impostlaw4.MoneyTexts'. -/
def moneyTextsUptoCard : Claim7 := { stood := { row := moneyTextsUptoRow, standIns := [], harness := (true, "dd5c1fda59d42c852511865fed33945448da63323dbb478cb7b3c0f9b5cc558a"), looks := false }, kinds := [], alts := [], laidByText := true, laidKinds := [.data, .data, .data], laidTests := true, laidLooks := .later }
def MoneyTextsUptoCardSaid : Prop := Claim7.holds Tryd.pinned (.plain (OpenSpec.upto moneyTextsSpec)) moneyTextsUptoCard

/-- THE SECOND FORM's CARD OF 'impostlaw4.MoneyBack'. -/
def moneyBackUptoCard : Claim7 := { stood := { row := moneyBackUptoRow, standIns := [], harness := (true, "dd5c1fda59d42c852511865fed33945448da63323dbb478cb7b3c0f9b5cc558a"), looks := false }, kinds := [], alts := [], laidByText := true, laidKinds := [.data, .data, .data], laidTests := true, laidLooks := .later }
def MoneyBackUptoCardSaid : Prop := Claim7.holds Tryd.pinned (.plain (OpenSpec.upto moneyBackSpec)) moneyBackUptoCard

/-- THE SECOND FORM's CARD OF 'impostlaw4.MoneyUndoes'. -/
def moneyUndoesUptoCard : Claim7 := { stood := { row := moneyUndoesUptoRow, standIns := [], harness := (true, "dd5c1fda59d42c852511865fed33945448da63323dbb478cb7b3c0f9b5cc558a"), looks := false }, kinds := [], alts := [], laidByText := true, laidKinds := [.data, .data, .data], laidTests := true, laidLooks := .later }
def MoneyUndoesUptoCardSaid : Prop := Claim7.holds Tryd.pinned (.plain (OpenSpec.upto moneyUndoesSpec)) moneyUndoesUptoCard

/-- THE SECOND FORM's CARD OF 'impostlaw4.MoneySums'. -/
def moneySumsUptoCard : Claim7 := { stood := { row := moneySumsUptoRow, standIns := [], harness := (true, "dd5c1fda59d42c852511865fed33945448da63323dbb478cb7b3c0f9b5cc558a"), looks := false }, kinds := [], alts := [], laidByText := true, laidKinds := [.data, .data, .data], laidTests := true, laidLooks := .later }
def MoneySumsUptoCardSaid : Prop := Claim7.holds Tryd.pinned (.plain (OpenSpec.upto moneySumsSpec)) moneySumsUptoCard

/-- THE SECOND FORM's CARD OF 'impostlaw4.MoneyTimes'. -/
def moneyTimesUptoCard : Claim7 := { stood := { row := moneyTimesUptoRow, standIns := [], harness := (true, "dd5c1fda59d42c852511865fed33945448da63323dbb478cb7b3c0f9b5cc558a"), looks := false }, kinds := [], alts := [], laidByText := true, laidKinds := [.data, .data, .data], laidTests := true, laidLooks := .later }
def MoneyTimesUptoCardSaid : Prop := Claim7.holds Tryd.pinned (.plain (OpenSpec.upto moneyTimesSpec)) moneyTimesUptoCard
end Rows
end Go.Proofs.YtfimaamndcdofaaDoor
