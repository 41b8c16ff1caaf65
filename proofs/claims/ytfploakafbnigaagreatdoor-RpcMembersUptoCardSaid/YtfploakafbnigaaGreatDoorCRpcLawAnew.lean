/-
  Layer 12, the walks: RpcAnew, at every value.
-/
import Derived.Test.YtfploakafbnigaaGreatDoorCRpcPrint
import Derived.Test.YtfploakafbnigaaGreatDoorCRpcAnewPlain
import Derived.Test.YtfploakafbnigaaGreatDoorCRpcRow
namespace Go.Proofs.YtfploakafbnigaaGreatDoor
open Go.RowKit Val Num YtfploakafbnigaaGreatDoorW.PrintLast
set_option linter.unusedVariables false
set_option linter.unusedSimpArgs false
/-- the operation that stands next is that store -/
theorem isSa {P : Program} {ops : Array Oper} {rest : List Oper} {o : Oper} {a : Act} {w : World} {Q : Exit → Act → World → Prop} (ty : TypeId) (x : Tmp) (y : Operand) (ho : o.op = .store ty (.tmp x) y) (h : wpList P ops Q (o :: rest) a w) : wpList P ops Q (o :: rest) a w := h
theorem Print_ok (m : MT) (z : Zone) (v : Value) (w : World) (h : MSV z m w v) (hM : ML w) (hP : PTab w) (ho : MTok m = true) (hk : m.bulk ≤ 1073741000) (ht : (MTtree m).bulk ≤ 1073741824) (hf : (faultT m.code m.text).bulk ≤ 1073741824) : Calls Tryz.prog 55 #[v] w fun e w' => ∃ v', e = .returned (.tuple #[v', .int .i64 0]) ∧ VLF (zNew w.heap.size) (MTtree m) w' v' ∧ Below w.heap.size w w' := by
  have := Print_any m z v w h hM hP hk ht hf
  unfold PrM at this
  rw [ho] at this
  exact this
end Go.Proofs.YtfploakafbnigaaGreatDoor
