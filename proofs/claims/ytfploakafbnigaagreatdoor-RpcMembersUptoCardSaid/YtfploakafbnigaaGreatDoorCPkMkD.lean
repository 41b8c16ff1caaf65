/-
  Joined texts: MkDoc.
-/
import Derived.Test.YtfploakafbnigaaGreatDoorCPkMkC
namespace Go.Proofs.YtfploakafbnigaaGreatDoor
open Go.RowKit Val Num Go.Proofs.YtfploakafbnigaaGreatDoorW.PrintLast
set_option linter.unusedVariables false
set_option linter.unusedSimpArgs false
def codeN : ByteArray := ⟨#[99, 111, 100, 101]⟩
theorem numS_len2 (v : Int) (h : I64 v) : (bs (numS v)).size ≤ 20 := by
  have h1 := h.1
  have h2 := h.2
  have hn : v.natAbs ≤ 9223372036854775808 := by omega
  rw [bs_size]
  have := textS_len v.natAbs 18 (by omega)
  unfold numS
  split
  · simp only [List.length_cons]; omega
  · omega
theorem nbT_bulk (v : Int) (h : I64 v) : (nbT v).bulk ≤ 21 := by
  have := numS_len2 v h
  show 1 + (bs (numS v)).size + 0 + 0 + 0 + 0 ≤ 21
  omega
end Go.Proofs.YtfploakafbnigaaGreatDoor
