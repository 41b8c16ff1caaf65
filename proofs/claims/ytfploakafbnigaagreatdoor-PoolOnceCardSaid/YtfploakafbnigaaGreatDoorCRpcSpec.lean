/-
  Layer 12 (rpc), in plain Lean: ids, messages, and what values say. No Go and no memory.
-/
import Derived.Test.YtfploakafbnigaaGreatDoorCPkValA
namespace Go.Proofs.YtfploakafbnigaaGreatDoor.Val
set_option linter.unusedVariables false
set_option linter.unusedSimpArgs false
namespace VT
/-- an id, but for what else it holds -/
def idK (t : VT) : Bool := decide (t.kind = 3) || (decide (t.kind = 2) && t.numOf.2)
def isId (t : VT) : Bool := decide (t.check = 0) && t.idK
def sameT (a b : VT) : Bool := if a.kind = 3 then decide (a.text = b.text) else Num.same a.text.data.toList b.text.data.toList
def sameId (a b : VT) : Bool := a.isId && b.isId && decide (a.kind = b.kind) && a.sameT b
theorem num_refl {a : List UInt8} (h : (Num.int a).2 = true) : Num.same a a = true := by
  unfold Num.int at h
  unfold Num.same
  cases ha : Num.ofS a <;> rw [ha] at h
  · cases h
  simp
end VT
/-- a message -/
structure MT where
  kind : Int
  id : VT
  method : ByteArray
  has : Bool
  params : VT
  result : VT
  code : Int
  text : ByteArray
namespace MT
def nul : MT := ⟨0, .nul, .empty, false, .nul, .nul, 0, .empty⟩
/-- what the values hold together -/
def bulk (m : MT) : Nat := m.id.bulk + m.params.bulk + m.result.bulk + m.method.size + m.text.size
end MT
namespace VT
end VT
end Go.Proofs.YtfploakafbnigaaGreatDoor.Val
