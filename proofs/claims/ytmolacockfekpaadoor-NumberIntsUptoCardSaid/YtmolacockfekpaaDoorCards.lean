/-
  DERIVED. GIVEN WITH THE SEED: THE CARDS: each row of YtmolacockfekpaaDoorRows.lean that lists a variable, with what it lists TIED to the program's text (the seventh form; the later family's looks); each row that meets fmt, with fmt's text TOLD by the authors' own Lean function (tested against real Go, not proved from fmt's source: count such statements apart). THE CARD IS WHAT COUNTS. Prove the row's statement (the work); the ties are given (YtmolacockfekpaaDoorTie.lean); close each card by the builder's one call (the guide's Derived/Test/ToyasCard.lean, 'card_holds'). Laid BY PROGRAM, IN A SANDBOX (cutbox-door.mjs). By AI agents, Wed Nov 11 2026. No macro, syntax, notation, axiom, sorry.
-/
import Derived.Test.YtmolacockfekpaaDoorRows
import GoSem.ClaimSeven
namespace Go.Proofs.YtmolacockfekpaaDoor
namespace Rows

/-- THE TIED CARD OF 'colophonlaw09.NumberChecks'. -/
def numberChecksCard : Claim7 := { stood := { row := numberChecksRow, standIns := [], harness := (true, "5f486612e9fb479584fcf910959bceb0ef647d864817d838aa33f62dabb97a77"), looks := true }, kinds := [], alts := [], laidByText := true, laidKinds := [.data, .data, .data, .data, .sentinel, .sentinel, .pinned], laidTests := true, laidLooks := .later }
def NumberChecksCardSaid : Prop := Claim7.holds Tryd.pinned (.plain (OpenSpec.ofChange numberChecksSpec)) numberChecksCard

/-- THE TIED CARD OF 'colophonlaw09.NumberSame'. -/
def numberSameCard : Claim7 := { stood := { row := numberSameRow, standIns := [], harness := (true, "5f486612e9fb479584fcf910959bceb0ef647d864817d838aa33f62dabb97a77"), looks := true }, kinds := [], alts := [], laidByText := true, laidKinds := [.data, .data, .data, .data, .sentinel, .sentinel, .pinned], laidTests := true, laidLooks := .later }
def NumberSameCardSaid : Prop := Claim7.holds Tryd.pinned (.plain (OpenSpec.ofChange numberSameSpec)) numberSameCard

/-- THE TIED CARD OF 'colophonlaw09.NumberInts'. -/
def numberIntsCard : Claim7 := { stood := { row := numberIntsRow, standIns := [], harness := (true, "5f486612e9fb479584fcf910959bceb0ef647d864817d838aa33f62dabb97a77"), looks := true }, kinds := [], alts := [], laidByText := true, laidKinds := [.data, .data, .data, .data, .sentinel, .sentinel, .pinned], laidTests := true, laidLooks := .later }
def NumberIntsCardSaid : Prop := Claim7.holds Tryd.pinned (.plain (OpenSpec.ofChange numberIntsSpec)) numberIntsCard

/-- THE TIED CARD OF 'colophonlaw09.NumberMoved'. -/
def numberMovedCard : Claim7 := { stood := { row := numberMovedRow, standIns := [], harness := (true, "5f486612e9fb479584fcf910959bceb0ef647d864817d838aa33f62dabb97a77"), looks := true }, kinds := [], alts := [], laidByText := true, laidKinds := [.data, .data, .data, .data, .sentinel, .sentinel, .pinned], laidTests := true, laidLooks := .later }
def NumberMovedCardSaid : Prop := Claim7.holds Tryd.pinned (.plain (OpenSpec.ofChange numberMovedSpec)) numberMovedCard

/-- THE TIED CARD OF 'colophonlaw09.NumberNoughts'. -/
def numberNoughtsCard : Claim7 := { stood := { row := numberNoughtsRow, standIns := [], harness := (true, "5f486612e9fb479584fcf910959bceb0ef647d864817d838aa33f62dabb97a77"), looks := true }, kinds := [], alts := [], laidByText := true, laidKinds := [.data, .data, .data, .data, .sentinel, .sentinel, .pinned], laidTests := true, laidLooks := .later }
def NumberNoughtsCardSaid : Prop := Claim7.holds Tryd.pinned (.plain (OpenSpec.ofChange numberNoughtsSpec)) numberNoughtsCard

/-- THE TIED CARD OF 'colophonlaw09.NumberWhole'. -/
def numberWholeCard : Claim7 := { stood := { row := numberWholeRow, standIns := [], harness := (true, "5f486612e9fb479584fcf910959bceb0ef647d864817d838aa33f62dabb97a77"), looks := true }, kinds := [], alts := [], laidByText := true, laidKinds := [.data, .data, .data, .data, .sentinel, .sentinel, .pinned], laidTests := true, laidLooks := .later }
def NumberWholeCardSaid : Prop := Claim7.holds Tryd.pinned (.plain (OpenSpec.ofChange numberWholeSpec)) numberWholeCard

/-- THE TIED CARD OF 'colophonlaw09.NumberUnlike'. -/
def numberUnlikeCard : Claim7 := { stood := { row := numberUnlikeRow, standIns := [], harness := (true, "5f486612e9fb479584fcf910959bceb0ef647d864817d838aa33f62dabb97a77"), looks := true }, kinds := [], alts := [], laidByText := true, laidKinds := [.data, .data, .data, .data, .sentinel, .sentinel, .pinned], laidTests := true, laidLooks := .later }
def NumberUnlikeCardSaid : Prop := Claim7.holds Tryd.pinned (.plain (OpenSpec.ofChange numberUnlikeSpec)) numberUnlikeCard

/-- THE TIED CARD OF 'colophonlaw09.NumberPlaces'. -/
def numberPlacesCard : Claim7 := { stood := { row := numberPlacesRow, standIns := [], harness := (true, "5f486612e9fb479584fcf910959bceb0ef647d864817d838aa33f62dabb97a77"), looks := true }, kinds := [], alts := [], laidByText := true, laidKinds := [.data, .data, .data, .data, .sentinel, .sentinel, .pinned], laidTests := true, laidLooks := .later }
def NumberPlacesCardSaid : Prop := Claim7.holds Tryd.pinned (.plain (OpenSpec.ofChange numberPlacesSpec)) numberPlacesCard

/-- THE SECOND FORM's CARD OF 'colophonlaw09.NumberChecks'. -/
def numberChecksUptoCard : Claim7 := { stood := { row := numberChecksUptoRow, standIns := [], harness := (true, "5f486612e9fb479584fcf910959bceb0ef647d864817d838aa33f62dabb97a77"), looks := true }, kinds := [], alts := [], laidByText := true, laidKinds := [.data, .data, .data, .data, .sentinel, .sentinel, .pinned], laidTests := true, laidLooks := .later }
def NumberChecksUptoCardSaid : Prop := Claim7.holds Tryd.pinned (.plain (OpenSpec.upto numberChecksSpec)) numberChecksUptoCard

/-- THE SECOND FORM's CARD OF 'colophonlaw09.NumberSame'. -/
def numberSameUptoCard : Claim7 := { stood := { row := numberSameUptoRow, standIns := [], harness := (true, "5f486612e9fb479584fcf910959bceb0ef647d864817d838aa33f62dabb97a77"), looks := true }, kinds := [], alts := [], laidByText := true, laidKinds := [.data, .data, .data, .data, .sentinel, .sentinel, .pinned], laidTests := true, laidLooks := .later }
def NumberSameUptoCardSaid : Prop := Claim7.holds Tryd.pinned (.plain (OpenSpec.upto numberSameSpec)) numberSameUptoCard

/-- THE SECOND FORM's CARD OF 'colophonlaw09.NumberInts'. -/
def numberIntsUptoCard : Claim7 := { stood := { row := numberIntsUptoRow, standIns := [], harness := (true, "5f486612e9fb479584fcf910959bceb0ef647d864817d838aa33f62dabb97a77"), looks := true }, kinds := [], alts := [], laidByText := true, laidKinds := [.data, .data, .data, .data, .sentinel, .sentinel, .pinned], laidTests := true, laidLooks := .later }
def NumberIntsUptoCardSaid : Prop := Claim7.holds Tryd.pinned (.plain (OpenSpec.upto numberIntsSpec)) numberIntsUptoCard

/-- THE SECOND FORM's CARD OF 'colophonlaw09.NumberMoved'. -/
def numberMovedUptoCard : Claim7 := { stood := { row := numberMovedUptoRow, standIns := [], harness := (true, "5f486612e9fb479584fcf910959bceb0ef647d864817d838aa33f62dabb97a77"), looks := true }, kinds := [], alts := [], laidByText := true, laidKinds := [.data, .data, .data, .data, .sentinel, .sentinel, .pinned], laidTests := true, laidLooks := .later }
def NumberMovedUptoCardSaid : Prop := Claim7.holds Tryd.pinned (.plain (OpenSpec.upto numberMovedSpec)) numberMovedUptoCard

/-- THE SECOND FORM's CARD OF 'colophonlaw09.NumberNoughts'. -/
def numberNoughtsUptoCard : Claim7 := { stood := { row := numberNoughtsUptoRow, standIns := [], harness := (true, "5f486612e9fb479584fcf910959bceb0ef647d864817d838aa33f62dabb97a77"), looks := true }, kinds := [], alts := [], laidByText := true, laidKinds := [.data, .data, .data, .data, .sentinel, .sentinel, .pinned], laidTests := true, laidLooks := .later }
def NumberNoughtsUptoCardSaid : Prop := Claim7.holds Tryd.pinned (.plain (OpenSpec.upto numberNoughtsSpec)) numberNoughtsUptoCard

/-- THE SECOND FORM's CARD OF 'colophonlaw09.NumberWhole'. -/
def numberWholeUptoCard : Claim7 := { stood := { row := numberWholeUptoRow, standIns := [], harness := (true, "5f486612e9fb479584fcf910959bceb0ef647d864817d838aa33f62dabb97a77"), looks := true }, kinds := [], alts := [], laidByText := true, laidKinds := [.data, .data, .data, .data, .sentinel, .sentinel, .pinned], laidTests := true, laidLooks := .later }
def NumberWholeUptoCardSaid : Prop := Claim7.holds Tryd.pinned (.plain (OpenSpec.upto numberWholeSpec)) numberWholeUptoCard

/-- THE SECOND FORM's CARD OF 'colophonlaw09.NumberUnlike'. -/
def numberUnlikeUptoCard : Claim7 := { stood := { row := numberUnlikeUptoRow, standIns := [], harness := (true, "5f486612e9fb479584fcf910959bceb0ef647d864817d838aa33f62dabb97a77"), looks := true }, kinds := [], alts := [], laidByText := true, laidKinds := [.data, .data, .data, .data, .sentinel, .sentinel, .pinned], laidTests := true, laidLooks := .later }
def NumberUnlikeUptoCardSaid : Prop := Claim7.holds Tryd.pinned (.plain (OpenSpec.upto numberUnlikeSpec)) numberUnlikeUptoCard

/-- THE SECOND FORM's CARD OF 'colophonlaw09.NumberPlaces'. -/
def numberPlacesUptoCard : Claim7 := { stood := { row := numberPlacesUptoRow, standIns := [], harness := (true, "5f486612e9fb479584fcf910959bceb0ef647d864817d838aa33f62dabb97a77"), looks := true }, kinds := [], alts := [], laidByText := true, laidKinds := [.data, .data, .data, .data, .sentinel, .sentinel, .pinned], laidTests := true, laidLooks := .later }
def NumberPlacesUptoCardSaid : Prop := Claim7.holds Tryd.pinned (.plain (OpenSpec.upto numberPlacesSpec)) numberPlacesUptoCard
end Rows
end Go.Proofs.YtmolacockfekpaaDoor
