/-
  A region that draws its order and only makes, each operation's blocks told apart: what it made lies between the heap's sizes ahead of it and behind it.
-/
import Derived.Test.YtfploakafbnigaaGreatDoorCPkMkA
namespace Go.Proofs.YtfploakafbnigaaGreatDoorW.PrintLast
open Go.RowKit
set_option linter.unusedVariables false
set_option linter.unusedSimpArgs false
section
variable {P : Program} {ops : Array Oper} {Q : Exit → Act → World → Prop} {md : Region.Mode} {T : Bool × List (List Nat × List Nat)} {B : List Nat} {O : List Nat}
/-- what each operation gives, between two sizes of the heap -/
abbrev ToldsZ := List (Nat × Tmp × (Nat → Nat → World → Value → Prop))
def ToldsZ.flat (L : ToldsZ) : Tolds := L.map fun e => (e.1, e.2.1, fun _ _ => True)
def ToldsZ.up (L : ToldsZ) : Prop := ∀ e ∈ L, ∀ lo hi w w' v, hi ≤ w.heap.size → e.2.2 lo hi w v → Below w.heap.size w w' → e.2.2 lo hi w' v
end
end Go.Proofs.YtfploakafbnigaaGreatDoorW.PrintLast
