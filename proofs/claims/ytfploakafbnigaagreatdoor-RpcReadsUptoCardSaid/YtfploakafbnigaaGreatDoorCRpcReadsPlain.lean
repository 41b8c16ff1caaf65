/-
  Layer 12, in plain Lean: how much a message that a value says holds; what the document's reading asks.
-/
import Derived.Test.YtfploakafbnigaaGreatDoorCRpcSpec
namespace Go.Proofs.YtfploakafbnigaaGreatDoor.Val
set_option linter.unusedVariables false
set_option linter.unusedSimpArgs false
namespace VT
theorem nul_bulk10 : VT.nul.bulk ≤ 10 := Nat.le_of_ble_eq_true rfl
theorem readM_bulk {t : VT} (h : t.bulk ≤ 1048576) : t.readM.bulk ≤ 1073741824 := by
  have h0 := nul_bulk10
  have he : ByteArray.empty.size = 0 := rfl
  have gI := VT.getD_bulk t idN
  have gM := VT.getD_bulk t methodN
  have gP := VT.getD_bulk t paramsN
  have gR := VT.getD_bulk t resultN
  have gE := VT.getD_bulk t errorN
  have gT := VT.getD_bulk (t.getD errorN) messageN
  have xM := VT.text_bulk (t.getD methodN)
  have xT := VT.text_bulk ((t.getD errorN).getD messageN)
  have lM : (t.getD methodN).text.data.toList.length = (t.getD methodN).text.size := Array.length_toList
  have lT : ((t.getD errorN).getD messageN).text.data.toList.length = ((t.getD errorN).getD messageN).text.size := Array.length_toList
  unfold readM
  split
  · unfold msgM
    split
    · show (t.getD idN).bulk + (t.getD paramsN).bulk + VT.nul.bulk + (t.getD methodN).text.size + ByteArray.empty.size ≤ _
      omega
    · unfold ansM
      split
      · show (t.getD idN).bulk + VT.nul.bulk + (t.getD resultN).bulk + ByteArray.empty.size + ByteArray.empty.size ≤ _
        omega
      · show (t.getD idN).bulk + VT.nul.bulk + VT.nul.bulk + ByteArray.empty.size + ((t.getD errorN).getD messageN).text.size ≤ _
        omega
  · show VT.nul.bulk + VT.nul.bulk + VT.nul.bulk + ByteArray.empty.size + ByteArray.empty.size ≤ _
    omega
end VT
end Go.Proofs.YtfploakafbnigaaGreatDoor.Val
