/-
  Layer 12, in plain Lean: how much a message that a value says holds; what the document's reading asks.
-/
import Derived.Test.YtfploakafbnigaaGreatDoorCRpcSpec
namespace Go.Proofs.YtfploakafbnigaaGreatDoor.Val
set_option linter.unusedVariables false
set_option linter.unusedSimpArgs false
namespace VT
theorem nul_bulk10 : VT.nul.bulk ≤ 10 := Nat.le_of_ble_eq_true rfl
end VT
end Go.Proofs.YtfploakafbnigaaGreatDoor.Val
