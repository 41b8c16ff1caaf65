/-
  DERIVED. GIVEN WITH THE SEED: THE CARDS: each row of YtfploakafbnigaaGreatDoorRows.lean that lists a variable, with what it lists TIED to the program's text (the seventh form; the later family's looks); each row that meets fmt, with fmt's text TOLD by the authors' own Lean function (tested against real Go, not proved from fmt's source: count such statements apart). THE CARD IS WHAT COUNTS. Prove the row's statement (the work); the ties are given (YtfploakafbnigaaGreatDoorTie.lean); close each card by the builder's one call (the guide's Derived/Test/ToyasCard.lean, 'card_holds'). Laid BY PROGRAM, IN A SANDBOX (cutbox-door.mjs). By AI agents, Wed Nov 11 2026. No macro, syntax, notation, axiom, sorry.
-/
import Derived.Test.YtfploakafbnigaaGreatDoorRows
import GoSem.ClaimSeven
namespace Go.Proofs.YtfploakafbnigaaGreatDoor
namespace Rows

/-- THE TIED CARD OF 'colophonlaw13.ParamNames'. -/
def paramNamesCard : Claim7 := { stood := { row := paramNamesRow, standIns := [], harness := (true, "6039b854b73b446736eed0d204d43ad63d735bd6472fe01efd2e762c57438b13"), looks := true }, kinds := [], alts := [], laidByText := true, laidKinds := [.data, .data, .data, .data, .sentinel, .sentinel, .pinned], laidTests := true, laidLooks := .later }
def ParamNamesCardSaid : Prop := Claim7.holds Tryz.pinned (.plain (OpenSpec.ofChange paramNamesSpec)) paramNamesCard

/-- THE TIED CARD OF 'colophonlaw12.RpcReads'. -/
def rpcReadsCard : Claim7 := { stood := { row := rpcReadsRow, standIns := [], harness := (true, "6039b854b73b446736eed0d204d43ad63d735bd6472fe01efd2e762c57438b13"), looks := true }, kinds := [], alts := [], laidByText := true, laidKinds := [.data, .data, .data, .data, .sentinel, .sentinel, .pinned], laidTests := true, laidLooks := .later }
def RpcReadsCardSaid : Prop := Claim7.holds Tryz.pinned (.plain (OpenSpec.ofChange rpcReadsSpec)) rpcReadsCard

/-- THE TIED CARD OF 'colophonlaw12.RpcAnswers'. -/
def rpcAnswersCard : Claim7 := { stood := { row := rpcAnswersRow, standIns := [], harness := (true, "6039b854b73b446736eed0d204d43ad63d735bd6472fe01efd2e762c57438b13"), looks := true }, kinds := [], alts := [], laidByText := true, laidKinds := [.data, .data, .data, .data, .sentinel, .sentinel, .pinned], laidTests := true, laidLooks := .later }
def RpcAnswersCardSaid : Prop := Claim7.holds Tryz.pinned (.plain (OpenSpec.ofChange rpcAnswersSpec)) rpcAnswersCard

/-- THE TIED CARD OF 'colophonlaw12.RpcIds'. -/
def rpcIdsCard : Claim7 := { stood := { row := rpcIdsRow, standIns := [], harness := (true, "6039b854b73b446736eed0d204d43ad63d735bd6472fe01efd2e762c57438b13"), looks := true }, kinds := [], alts := [], laidByText := true, laidKinds := [.data, .data, .data, .data, .sentinel, .sentinel, .pinned], laidTests := true, laidLooks := .later }
def RpcIdsCardSaid : Prop := Claim7.holds Tryz.pinned (.plain (OpenSpec.ofChange rpcIdsSpec)) rpcIdsCard

/-- THE TIED CARD OF 'colophonlaw28.PoolOnce'. -/
def poolOnceCard : Claim7 := { stood := { row := poolOnceRow, standIns := [], harness := (true, "6039b854b73b446736eed0d204d43ad63d735bd6472fe01efd2e762c57438b13"), looks := true }, kinds := [], alts := [], laidByText := true, laidKinds := [.data, .data, .data, .data, .sentinel, .sentinel, .pinned], laidTests := true, laidLooks := .later }
def PoolOnceCardSaid : Prop := Claim7.holds Tryz.pinned (.plain (OpenSpec.ofChange poolOnceSpec)) poolOnceCard

/-- THE TIED CARD OF 'colophonlaw28.PoolOrder'. -/
def poolOrderCard : Claim7 := { stood := { row := poolOrderRow, standIns := [], harness := (true, "6039b854b73b446736eed0d204d43ad63d735bd6472fe01efd2e762c57438b13"), looks := true }, kinds := [], alts := [], laidByText := true, laidKinds := [.data, .data, .data, .data, .sentinel, .sentinel, .pinned], laidTests := true, laidLooks := .later }
def PoolOrderCardSaid : Prop := Claim7.holds Tryz.pinned (.plain (OpenSpec.ofChange poolOrderSpec)) poolOrderCard

/-- THE TIED CARD OF 'colophonlaw28.PoolEnds'. -/
def poolEndsCard : Claim7 := { stood := { row := poolEndsRow, standIns := [], harness := (true, "6039b854b73b446736eed0d204d43ad63d735bd6472fe01efd2e762c57438b13"), looks := true }, kinds := [], alts := [], laidByText := true, laidKinds := [.data, .data, .data, .data, .sentinel, .sentinel, .pinned], laidTests := true, laidLooks := .later }
def PoolEndsCardSaid : Prop := Claim7.holds Tryz.pinned (.plain (OpenSpec.ofChange poolEndsSpec)) poolEndsCard

/-- THE TIED CARD OF 'colophonlaw28.PoolFull'. -/
def poolFullCard : Claim7 := { stood := { row := poolFullRow, standIns := [], harness := (true, "6039b854b73b446736eed0d204d43ad63d735bd6472fe01efd2e762c57438b13"), looks := true }, kinds := [], alts := [], laidByText := true, laidKinds := [.data, .data, .data, .data, .sentinel, .sentinel, .pinned], laidTests := true, laidLooks := .later }
def PoolFullCardSaid : Prop := Claim7.holds Tryz.pinned (.plain (OpenSpec.ofChange poolFullSpec)) poolFullCard

/-- THE TIED CARD OF 'colophonlaw28.PoolNames'. -/
def poolNamesCard : Claim7 := { stood := { row := poolNamesRow, standIns := [], harness := (true, "6039b854b73b446736eed0d204d43ad63d735bd6472fe01efd2e762c57438b13"), looks := true }, kinds := [], alts := [], laidByText := true, laidKinds := [.data, .data, .data, .data, .sentinel, .sentinel, .pinned], laidTests := true, laidLooks := .later }
def PoolNamesCardSaid : Prop := Claim7.holds Tryz.pinned (.plain (OpenSpec.ofChange poolNamesSpec)) poolNamesCard

/-- THE TIED CARD OF 'colophonlaw12.RpcAnew'. -/
def rpcAnewCard : Claim7 := { stood := { row := rpcAnewRow, standIns := [], harness := (true, "6039b854b73b446736eed0d204d43ad63d735bd6472fe01efd2e762c57438b13"), looks := true }, kinds := [], alts := [], laidByText := true, laidKinds := [.data, .data, .data, .data, .sentinel, .sentinel, .pinned], laidTests := true, laidLooks := .later }
def RpcAnewCardSaid : Prop := Claim7.holds Tryz.pinned (.plain (OpenSpec.ofChange rpcAnewSpec)) rpcAnewCard

/-- THE TIED CARD OF 'colophonlaw12.RpcMembers'. -/
def rpcMembersCard : Claim7 := { stood := { row := rpcMembersRow, standIns := [], harness := (true, "6039b854b73b446736eed0d204d43ad63d735bd6472fe01efd2e762c57438b13"), looks := true }, kinds := [], alts := [], laidByText := true, laidKinds := [.data, .data, .data, .data, .sentinel, .sentinel, .pinned], laidTests := true, laidLooks := .later }
def RpcMembersCardSaid : Prop := Claim7.holds Tryz.pinned (.plain (OpenSpec.ofChange rpcMembersSpec)) rpcMembersCard

/-- THE SECOND FORM's CARD OF 'colophonlaw13.ParamNames'. -/
def paramNamesUptoCard : Claim7 := { stood := { row := paramNamesUptoRow, standIns := [], harness := (true, "6039b854b73b446736eed0d204d43ad63d735bd6472fe01efd2e762c57438b13"), looks := true }, kinds := [], alts := [], laidByText := true, laidKinds := [.data, .data, .data, .data, .sentinel, .sentinel, .pinned], laidTests := true, laidLooks := .later }
def ParamNamesUptoCardSaid : Prop := Claim7.holds Tryz.pinned (.plain (OpenSpec.upto paramNamesSpec)) paramNamesUptoCard

/-- THE SECOND FORM's CARD OF 'colophonlaw12.RpcReads'. -/
def rpcReadsUptoCard : Claim7 := { stood := { row := rpcReadsUptoRow, standIns := [], harness := (true, "6039b854b73b446736eed0d204d43ad63d735bd6472fe01efd2e762c57438b13"), looks := true }, kinds := [], alts := [], laidByText := true, laidKinds := [.data, .data, .data, .data, .sentinel, .sentinel, .pinned], laidTests := true, laidLooks := .later }
def RpcReadsUptoCardSaid : Prop := Claim7.holds Tryz.pinned (.plain (OpenSpec.upto rpcReadsSpec)) rpcReadsUptoCard

/-- THE SECOND FORM's CARD OF 'colophonlaw12.RpcAnswers'. -/
def rpcAnswersUptoCard : Claim7 := { stood := { row := rpcAnswersUptoRow, standIns := [], harness := (true, "6039b854b73b446736eed0d204d43ad63d735bd6472fe01efd2e762c57438b13"), looks := true }, kinds := [], alts := [], laidByText := true, laidKinds := [.data, .data, .data, .data, .sentinel, .sentinel, .pinned], laidTests := true, laidLooks := .later }
def RpcAnswersUptoCardSaid : Prop := Claim7.holds Tryz.pinned (.plain (OpenSpec.upto rpcAnswersSpec)) rpcAnswersUptoCard

/-- THE SECOND FORM's CARD OF 'colophonlaw12.RpcIds'. -/
def rpcIdsUptoCard : Claim7 := { stood := { row := rpcIdsUptoRow, standIns := [], harness := (true, "6039b854b73b446736eed0d204d43ad63d735bd6472fe01efd2e762c57438b13"), looks := true }, kinds := [], alts := [], laidByText := true, laidKinds := [.data, .data, .data, .data, .sentinel, .sentinel, .pinned], laidTests := true, laidLooks := .later }
def RpcIdsUptoCardSaid : Prop := Claim7.holds Tryz.pinned (.plain (OpenSpec.upto rpcIdsSpec)) rpcIdsUptoCard

/-- THE SECOND FORM's CARD OF 'colophonlaw28.PoolOnce'. -/
def poolOnceUptoCard : Claim7 := { stood := { row := poolOnceUptoRow, standIns := [], harness := (true, "6039b854b73b446736eed0d204d43ad63d735bd6472fe01efd2e762c57438b13"), looks := true }, kinds := [], alts := [], laidByText := true, laidKinds := [.data, .data, .data, .data, .sentinel, .sentinel, .pinned], laidTests := true, laidLooks := .later }
def PoolOnceUptoCardSaid : Prop := Claim7.holds Tryz.pinned (.plain (OpenSpec.upto poolOnceSpec)) poolOnceUptoCard

/-- THE SECOND FORM's CARD OF 'colophonlaw28.PoolOrder'. -/
def poolOrderUptoCard : Claim7 := { stood := { row := poolOrderUptoRow, standIns := [], harness := (true, "6039b854b73b446736eed0d204d43ad63d735bd6472fe01efd2e762c57438b13"), looks := true }, kinds := [], alts := [], laidByText := true, laidKinds := [.data, .data, .data, .data, .sentinel, .sentinel, .pinned], laidTests := true, laidLooks := .later }
def PoolOrderUptoCardSaid : Prop := Claim7.holds Tryz.pinned (.plain (OpenSpec.upto poolOrderSpec)) poolOrderUptoCard

/-- THE SECOND FORM's CARD OF 'colophonlaw28.PoolEnds'. -/
def poolEndsUptoCard : Claim7 := { stood := { row := poolEndsUptoRow, standIns := [], harness := (true, "6039b854b73b446736eed0d204d43ad63d735bd6472fe01efd2e762c57438b13"), looks := true }, kinds := [], alts := [], laidByText := true, laidKinds := [.data, .data, .data, .data, .sentinel, .sentinel, .pinned], laidTests := true, laidLooks := .later }
def PoolEndsUptoCardSaid : Prop := Claim7.holds Tryz.pinned (.plain (OpenSpec.upto poolEndsSpec)) poolEndsUptoCard

/-- THE SECOND FORM's CARD OF 'colophonlaw28.PoolFull'. -/
def poolFullUptoCard : Claim7 := { stood := { row := poolFullUptoRow, standIns := [], harness := (true, "6039b854b73b446736eed0d204d43ad63d735bd6472fe01efd2e762c57438b13"), looks := true }, kinds := [], alts := [], laidByText := true, laidKinds := [.data, .data, .data, .data, .sentinel, .sentinel, .pinned], laidTests := true, laidLooks := .later }
def PoolFullUptoCardSaid : Prop := Claim7.holds Tryz.pinned (.plain (OpenSpec.upto poolFullSpec)) poolFullUptoCard

/-- THE SECOND FORM's CARD OF 'colophonlaw28.PoolNames'. -/
def poolNamesUptoCard : Claim7 := { stood := { row := poolNamesUptoRow, standIns := [], harness := (true, "6039b854b73b446736eed0d204d43ad63d735bd6472fe01efd2e762c57438b13"), looks := true }, kinds := [], alts := [], laidByText := true, laidKinds := [.data, .data, .data, .data, .sentinel, .sentinel, .pinned], laidTests := true, laidLooks := .later }
def PoolNamesUptoCardSaid : Prop := Claim7.holds Tryz.pinned (.plain (OpenSpec.upto poolNamesSpec)) poolNamesUptoCard

/-- THE SECOND FORM's CARD OF 'colophonlaw12.RpcAnew'. -/
def rpcAnewUptoCard : Claim7 := { stood := { row := rpcAnewUptoRow, standIns := [], harness := (true, "6039b854b73b446736eed0d204d43ad63d735bd6472fe01efd2e762c57438b13"), looks := true }, kinds := [], alts := [], laidByText := true, laidKinds := [.data, .data, .data, .data, .sentinel, .sentinel, .pinned], laidTests := true, laidLooks := .later }
def RpcAnewUptoCardSaid : Prop := Claim7.holds Tryz.pinned (.plain (OpenSpec.upto rpcAnewSpec)) rpcAnewUptoCard

/-- THE SECOND FORM's CARD OF 'colophonlaw12.RpcMembers'. -/
def rpcMembersUptoCard : Claim7 := { stood := { row := rpcMembersUptoRow, standIns := [], harness := (true, "6039b854b73b446736eed0d204d43ad63d735bd6472fe01efd2e762c57438b13"), looks := true }, kinds := [], alts := [], laidByText := true, laidKinds := [.data, .data, .data, .data, .sentinel, .sentinel, .pinned], laidTests := true, laidLooks := .later }
def RpcMembersUptoCardSaid : Prop := Claim7.holds Tryz.pinned (.plain (OpenSpec.upto rpcMembersSpec)) rpcMembersUptoCard
end Rows
end Go.Proofs.YtfploakafbnigaaGreatDoor
