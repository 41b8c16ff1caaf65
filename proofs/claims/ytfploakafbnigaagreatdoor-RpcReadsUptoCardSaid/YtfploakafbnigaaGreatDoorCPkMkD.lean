/-
  Joined texts: MkDoc.
-/
import Derived.Test.YtfploakafbnigaaGreatDoorCPkMkC
namespace Go.Proofs.YtfploakafbnigaaGreatDoor
open Go.RowKit Val Num Go.Proofs.YtfploakafbnigaaGreatDoorW.PrintLast
set_option linter.unusedVariables false
set_option linter.unusedSimpArgs false
def codeN : ByteArray := ⟨#[99, 111, 100, 101]⟩
end Go.Proofs.YtfploakafbnigaaGreatDoor
