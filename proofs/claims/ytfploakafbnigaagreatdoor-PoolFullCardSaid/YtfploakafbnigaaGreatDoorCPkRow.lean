/-
  Joined texts: NumRowKit ValRow.
-/
import Derived.Test.YtfploakafbnigaaGreatDoorCPkNumC
import Derived.Test.YtfploakafbnigaaGreatDoorCards
import Derived.Test.YtfploakafbnigaaGreatDoorTie
import Derived.WalkKit
import Derived.ProofKit
import Derived.OpenShut
import Derived.SizedLaws
import Derived.ChangeSlices
import Derived.Deep.DeepHandedRow
import Derived.Deep.DeepWitnessRowRef
import Derived.Lay
import Derived.Test.YtfploakafbnigaaGreatDoorCPkValA
import Derived.Deep.Slices
import Derived.SliceStrings
namespace Go.Proofs.YtfploakafbnigaaGreatDoor.rowkit
open Go.ChangeShapes Go.WideShapes Go.ChangeAt Go.RowKit
set_option linter.unusedVariables false
set_option linter.unusedSimpArgs false
theorem own : ownKnob Tryz.prog.godebug = none := by kernel_rfl
theorem laidOut : laidOutB Tryz.prog = true := by kernel_rfl
/-- strings.Index's variable, out of the world's shape. -/
theorem ml {W : World} (h : W.ShapedOpen Tryz.prog) : ML W := Tryz.laysM219.s1_3 W h
end Go.Proofs.YtfploakafbnigaaGreatDoor.rowkit
namespace Go.Proofs.YtfploakafbnigaaGreatDoor.rowkit
open Go.ChangeShapes Go.WideShapes Go.ChangeAt Go.RowKit Go.Deep Val
set_option linter.unusedVariables false
set_option linter.unusedSimpArgs false
instance : Inhabited VT := ⟨.leaf⟩
end Go.Proofs.YtfploakafbnigaaGreatDoor.rowkit
