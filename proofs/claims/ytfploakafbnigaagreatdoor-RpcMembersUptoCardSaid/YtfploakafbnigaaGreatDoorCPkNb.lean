/-
  Joined texts: ParNumber.
-/
import Derived.Test.YtfploakafbnigaaGreatDoorCPkParC
import Derived.Test.YtfploakafbnigaaGreatDoorCPkNumC
import Derived.Test.YtfploakafbnigaaGreatDoorCPkNumA
namespace Go.Proofs.YtfploakafbnigaaGreatDoor
open Go.RowKit Val Num
set_option linter.unusedVariables false
set_option linter.unusedSimpArgs false
/-- the text of a number -/
def numS (v : Int) : List UInt8 := if v < 0 then 45 :: textS v.natAbs else textS v.natAbs
end Go.Proofs.YtfploakafbnigaaGreatDoor
