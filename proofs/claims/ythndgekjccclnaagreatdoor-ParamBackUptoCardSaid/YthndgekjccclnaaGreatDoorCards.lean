/-
  DERIVED. GIVEN WITH THE SEED: THE CARDS: each row of YthndgekjccclnaaGreatDoorRows.lean that lists a variable, with what it lists TIED to the program's text (the seventh form; the later family's looks); each row that meets fmt, with fmt's text TOLD by the authors' own Lean function (tested against real Go, not proved from fmt's source: count such statements apart). THE CARD IS WHAT COUNTS. Prove the row's statement (the work); the ties are given (YthndgekjccclnaaGreatDoorTie.lean); close each card by the builder's one call (the guide's Derived/Test/ToyasCard.lean, 'card_holds'). Laid BY PROGRAM, IN A SANDBOX (cutbox-door.mjs). By AI agents, Wed Nov 11 2026. No macro, syntax, notation, axiom, sorry.
-/
import Derived.Test.YthndgekjccclnaaGreatDoorRows
import GoSem.ClaimSeven
namespace Go.Proofs.YthndgekjccclnaaGreatDoor
namespace Rows

/-- THE TIED CARD OF 'colophonlaw09.NumberNames'. -/
def numberNamesCard : Claim7 := { stood := { row := numberNamesRow, standIns := [], harness := (true, "0f28619497061780245297f1402d31392db0b1fea5697ebbe3424bed10ca0ab4"), looks := true }, kinds := [], alts := [], laidByText := true, laidKinds := [.data, .data, .data, .data, .sentinel, .sentinel, .pinned], laidTests := true, laidLooks := .later }
def NumberNamesCardSaid : Prop := Claim7.holds Tryz.pinned (.plain (OpenSpec.ofChange numberNamesSpec)) numberNamesCard

/-- THE TIED CARD OF 'colophonlaw13.ParamOpens'. -/
def paramOpensCard : Claim7 := { stood := { row := paramOpensRow, standIns := [], harness := (true, "0f28619497061780245297f1402d31392db0b1fea5697ebbe3424bed10ca0ab4"), looks := true }, kinds := [], alts := [], laidByText := true, laidKinds := [.data, .data, .data, .data, .sentinel, .sentinel, .pinned], laidTests := true, laidLooks := .later }
def ParamOpensCardSaid : Prop := Claim7.holds Tryz.pinned (.plain (OpenSpec.ofChange paramOpensSpec)) paramOpensCard

/-- THE TIED CARD OF 'colophonlaw13.ParamChanges'. -/
def paramChangesCard : Claim7 := { stood := { row := paramChangesRow, standIns := [], harness := (true, "0f28619497061780245297f1402d31392db0b1fea5697ebbe3424bed10ca0ab4"), looks := true }, kinds := [], alts := [], laidByText := true, laidKinds := [.data, .data, .data, .data, .sentinel, .sentinel, .pinned], laidTests := true, laidLooks := .later }
def ParamChangesCardSaid : Prop := Claim7.holds Tryz.pinned (.plain (OpenSpec.ofChange paramChangesSpec)) paramChangesCard

/-- THE TIED CARD OF 'colophonlaw13.ParamCancels'. -/
def paramCancelsCard : Claim7 := { stood := { row := paramCancelsRow, standIns := [], harness := (true, "0f28619497061780245297f1402d31392db0b1fea5697ebbe3424bed10ca0ab4"), looks := true }, kinds := [], alts := [], laidByText := true, laidKinds := [.data, .data, .data, .data, .sentinel, .sentinel, .pinned], laidTests := true, laidLooks := .later }
def ParamCancelsCardSaid : Prop := Claim7.holds Tryz.pinned (.plain (OpenSpec.ofChange paramCancelsSpec)) paramCancelsCard

/-- THE TIED CARD OF 'colophonlaw13.ParamOdd'. -/
def paramOddCard : Claim7 := { stood := { row := paramOddRow, standIns := [], harness := (true, "0f28619497061780245297f1402d31392db0b1fea5697ebbe3424bed10ca0ab4"), looks := true }, kinds := [], alts := [], laidByText := true, laidKinds := [.data, .data, .data, .data, .sentinel, .sentinel, .pinned], laidTests := true, laidLooks := .later }
def ParamOddCardSaid : Prop := Claim7.holds Tryz.pinned (.plain (OpenSpec.ofChange paramOddSpec)) paramOddCard

/-- THE TIED CARD OF 'colophonlaw13.ParamBack'. -/
def paramBackCard : Claim7 := { stood := { row := paramBackRow, standIns := [], harness := (true, "0f28619497061780245297f1402d31392db0b1fea5697ebbe3424bed10ca0ab4"), looks := true }, kinds := [], alts := [], laidByText := true, laidKinds := [.data, .data, .data, .data, .sentinel, .sentinel, .pinned], laidTests := true, laidLooks := .later }
def ParamBackCardSaid : Prop := Claim7.holds Tryz.pinned (.plain (OpenSpec.ofChange paramBackSpec)) paramBackCard

/-- THE TIED CARD OF 'colophonlaw13.ParamTells'. -/
def paramTellsCard : Claim7 := { stood := { row := paramTellsRow, standIns := [], harness := (true, "0f28619497061780245297f1402d31392db0b1fea5697ebbe3424bed10ca0ab4"), looks := true }, kinds := [], alts := [], laidByText := true, laidKinds := [.data, .data, .data, .data, .sentinel, .sentinel, .pinned], laidTests := true, laidLooks := .later }
def ParamTellsCardSaid : Prop := Claim7.holds Tryz.pinned (.plain (OpenSpec.ofChange paramTellsSpec)) paramTellsCard

/-- THE TIED CARD OF 'colophonlaw13.ParamPublishes'. -/
def paramPublishesCard : Claim7 := { stood := { row := paramPublishesRow, standIns := [], harness := (true, "0f28619497061780245297f1402d31392db0b1fea5697ebbe3424bed10ca0ab4"), looks := true }, kinds := [], alts := [], laidByText := true, laidKinds := [.data, .data, .data, .data, .sentinel, .sentinel, .pinned], laidTests := true, laidLooks := .later }
def ParamPublishesCardSaid : Prop := Claim7.holds Tryz.pinned (.plain (OpenSpec.ofChange paramPublishesSpec)) paramPublishesCard

/-- THE TIED CARD OF 'colophonlaw13.ParamMay'. -/
def paramMayCard : Claim7 := { stood := { row := paramMayRow, standIns := [], harness := (true, "0f28619497061780245297f1402d31392db0b1fea5697ebbe3424bed10ca0ab4"), looks := true }, kinds := [], alts := [], laidByText := true, laidKinds := [.data, .data, .data, .data, .sentinel, .sentinel, .pinned], laidTests := true, laidLooks := .later }
def ParamMayCardSaid : Prop := Claim7.holds Tryz.pinned (.plain (OpenSpec.ofChange paramMaySpec)) paramMayCard

/-- THE TIED CARD OF 'colophonlaw13.ParamNames'. -/
def paramNamesCard : Claim7 := { stood := { row := paramNamesRow, standIns := [], harness := (true, "0f28619497061780245297f1402d31392db0b1fea5697ebbe3424bed10ca0ab4"), looks := true }, kinds := [], alts := [], laidByText := true, laidKinds := [.data, .data, .data, .data, .sentinel, .sentinel, .pinned], laidTests := true, laidLooks := .later }
def ParamNamesCardSaid : Prop := Claim7.holds Tryz.pinned (.plain (OpenSpec.ofChange paramNamesSpec)) paramNamesCard

/-- THE SECOND FORM's CARD OF 'colophonlaw09.NumberNames'. -/
def numberNamesUptoCard : Claim7 := { stood := { row := numberNamesUptoRow, standIns := [], harness := (true, "0f28619497061780245297f1402d31392db0b1fea5697ebbe3424bed10ca0ab4"), looks := true }, kinds := [], alts := [], laidByText := true, laidKinds := [.data, .data, .data, .data, .sentinel, .sentinel, .pinned], laidTests := true, laidLooks := .later }
def NumberNamesUptoCardSaid : Prop := Claim7.holds Tryz.pinned (.plain (OpenSpec.upto numberNamesSpec)) numberNamesUptoCard

/-- THE SECOND FORM's CARD OF 'colophonlaw13.ParamOpens'. -/
def paramOpensUptoCard : Claim7 := { stood := { row := paramOpensUptoRow, standIns := [], harness := (true, "0f28619497061780245297f1402d31392db0b1fea5697ebbe3424bed10ca0ab4"), looks := true }, kinds := [], alts := [], laidByText := true, laidKinds := [.data, .data, .data, .data, .sentinel, .sentinel, .pinned], laidTests := true, laidLooks := .later }
def ParamOpensUptoCardSaid : Prop := Claim7.holds Tryz.pinned (.plain (OpenSpec.upto paramOpensSpec)) paramOpensUptoCard

/-- THE SECOND FORM's CARD OF 'colophonlaw13.ParamChanges'. -/
def paramChangesUptoCard : Claim7 := { stood := { row := paramChangesUptoRow, standIns := [], harness := (true, "0f28619497061780245297f1402d31392db0b1fea5697ebbe3424bed10ca0ab4"), looks := true }, kinds := [], alts := [], laidByText := true, laidKinds := [.data, .data, .data, .data, .sentinel, .sentinel, .pinned], laidTests := true, laidLooks := .later }
def ParamChangesUptoCardSaid : Prop := Claim7.holds Tryz.pinned (.plain (OpenSpec.upto paramChangesSpec)) paramChangesUptoCard

/-- THE SECOND FORM's CARD OF 'colophonlaw13.ParamCancels'. -/
def paramCancelsUptoCard : Claim7 := { stood := { row := paramCancelsUptoRow, standIns := [], harness := (true, "0f28619497061780245297f1402d31392db0b1fea5697ebbe3424bed10ca0ab4"), looks := true }, kinds := [], alts := [], laidByText := true, laidKinds := [.data, .data, .data, .data, .sentinel, .sentinel, .pinned], laidTests := true, laidLooks := .later }
def ParamCancelsUptoCardSaid : Prop := Claim7.holds Tryz.pinned (.plain (OpenSpec.upto paramCancelsSpec)) paramCancelsUptoCard

/-- THE SECOND FORM's CARD OF 'colophonlaw13.ParamOdd'. -/
def paramOddUptoCard : Claim7 := { stood := { row := paramOddUptoRow, standIns := [], harness := (true, "0f28619497061780245297f1402d31392db0b1fea5697ebbe3424bed10ca0ab4"), looks := true }, kinds := [], alts := [], laidByText := true, laidKinds := [.data, .data, .data, .data, .sentinel, .sentinel, .pinned], laidTests := true, laidLooks := .later }
def ParamOddUptoCardSaid : Prop := Claim7.holds Tryz.pinned (.plain (OpenSpec.upto paramOddSpec)) paramOddUptoCard

/-- THE SECOND FORM's CARD OF 'colophonlaw13.ParamBack'. -/
def paramBackUptoCard : Claim7 := { stood := { row := paramBackUptoRow, standIns := [], harness := (true, "0f28619497061780245297f1402d31392db0b1fea5697ebbe3424bed10ca0ab4"), looks := true }, kinds := [], alts := [], laidByText := true, laidKinds := [.data, .data, .data, .data, .sentinel, .sentinel, .pinned], laidTests := true, laidLooks := .later }
def ParamBackUptoCardSaid : Prop := Claim7.holds Tryz.pinned (.plain (OpenSpec.upto paramBackSpec)) paramBackUptoCard

/-- THE SECOND FORM's CARD OF 'colophonlaw13.ParamTells'. -/
def paramTellsUptoCard : Claim7 := { stood := { row := paramTellsUptoRow, standIns := [], harness := (true, "0f28619497061780245297f1402d31392db0b1fea5697ebbe3424bed10ca0ab4"), looks := true }, kinds := [], alts := [], laidByText := true, laidKinds := [.data, .data, .data, .data, .sentinel, .sentinel, .pinned], laidTests := true, laidLooks := .later }
def ParamTellsUptoCardSaid : Prop := Claim7.holds Tryz.pinned (.plain (OpenSpec.upto paramTellsSpec)) paramTellsUptoCard

/-- THE SECOND FORM's CARD OF 'colophonlaw13.ParamPublishes'. -/
def paramPublishesUptoCard : Claim7 := { stood := { row := paramPublishesUptoRow, standIns := [], harness := (true, "0f28619497061780245297f1402d31392db0b1fea5697ebbe3424bed10ca0ab4"), looks := true }, kinds := [], alts := [], laidByText := true, laidKinds := [.data, .data, .data, .data, .sentinel, .sentinel, .pinned], laidTests := true, laidLooks := .later }
def ParamPublishesUptoCardSaid : Prop := Claim7.holds Tryz.pinned (.plain (OpenSpec.upto paramPublishesSpec)) paramPublishesUptoCard

/-- THE SECOND FORM's CARD OF 'colophonlaw13.ParamMay'. -/
def paramMayUptoCard : Claim7 := { stood := { row := paramMayUptoRow, standIns := [], harness := (true, "0f28619497061780245297f1402d31392db0b1fea5697ebbe3424bed10ca0ab4"), looks := true }, kinds := [], alts := [], laidByText := true, laidKinds := [.data, .data, .data, .data, .sentinel, .sentinel, .pinned], laidTests := true, laidLooks := .later }
def ParamMayUptoCardSaid : Prop := Claim7.holds Tryz.pinned (.plain (OpenSpec.upto paramMaySpec)) paramMayUptoCard

/-- THE SECOND FORM's CARD OF 'colophonlaw13.ParamNames'. -/
def paramNamesUptoCard : Claim7 := { stood := { row := paramNamesUptoRow, standIns := [], harness := (true, "0f28619497061780245297f1402d31392db0b1fea5697ebbe3424bed10ca0ab4"), looks := true }, kinds := [], alts := [], laidByText := true, laidKinds := [.data, .data, .data, .data, .sentinel, .sentinel, .pinned], laidTests := true, laidLooks := .later }
def ParamNamesUptoCardSaid : Prop := Claim7.holds Tryz.pinned (.plain (OpenSpec.upto paramNamesSpec)) paramNamesUptoCard
end Rows
end Go.Proofs.YthndgekjccclnaaGreatDoor
