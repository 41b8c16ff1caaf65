/-
  Layer 12, in plain Lean: how much the tree of a message holds; what RpcAnew asks.
-/
import Derived.Test.YtfploakafbnigaaGreatDoorCRpcPlain
import Derived.Test.YtfploakafbnigaaGreatDoorCRpcReadsPlain
namespace Go.Proofs.YtfploakafbnigaaGreatDoor
open Go.RowKit Val
set_option linter.unusedVariables false
set_option linter.unusedSimpArgs false
theorem txT_bulk (x : ByteArray) : (txT x).bulk ≤ 1 + x.size := by
  show 1 + x.size + 0 + 0 + 0 + 0 ≤ _
  omega
theorem fault_bulk (c : Int) (x : ByteArray) (hc : I64 c) : (faultT c x).bulk ≤ 100 + x.size := by
  have h1 := nbT_bulk c hc
  have h2 := txT_bulk x
  show 1 + 0 + 2 + 2 + (4 + (7 + 0)) + (0 + (nbT c).bulk + (txT x).bulk) ≤ _
  omega
theorem code_I64 {m : MT} (h : MTmay m = true) : I64 m.code := by
  unfold MTmay at h
  simp only [Bool.and_eq_true, decide_eq_true_eq] at h
  obtain ⟨⟨-, h1⟩, h2⟩ := h
  unfold I64; omega
theorem MTtree_bulk {m : MT} (h : MTmay m = true) : (MTtree m).bulk ≤ m.bulk + 300 := by
  have hc := code_I64 h
  have h4 := ok_four h
  clear h
  obtain ⟨k, i, me, ha, p, r, c, x⟩ := m
  dsimp only at hc h4
  have e2 : (txT VT.twoS).bulk ≤ 1 + 3 := txT_bulk _
  have em := txT_bulk me
  have ef := fault_bulk c x hc
  show _ ≤ i.bulk + p.bulk + r.bulk + me.size + x.size + 300
  rcases h4 with rfl | rfl | rfl | rfl
  · cases ha
    · show 1 + 0 + 3 + 3 + (7 + (2 + (6 + 0))) + (0 + (txT VT.twoS).bulk + i.bulk + (txT me).bulk) ≤ _
      omega
    · show 1 + 0 + 4 + 4 + (7 + (2 + (6 + (6 + 0)))) + (0 + (txT VT.twoS).bulk + i.bulk + (txT me).bulk + p.bulk) ≤ _
      omega
  · cases ha
    · show 1 + 0 + 2 + 2 + (7 + (6 + 0)) + (0 + (txT VT.twoS).bulk + (txT me).bulk) ≤ _
      omega
    · show 1 + 0 + 3 + 3 + (7 + (6 + (6 + 0))) + (0 + (txT VT.twoS).bulk + (txT me).bulk + p.bulk) ≤ _
      omega
  · show 1 + 0 + 3 + 3 + (7 + (2 + (6 + 0))) + (0 + (txT VT.twoS).bulk + i.bulk + r.bulk) ≤ _
    omega
  · show 1 + 0 + 3 + 3 + (7 + (2 + (5 + 0))) + (0 + (txT VT.twoS).bulk + i.bulk + (faultT c x).bulk) ≤ _
    omega
theorem MTok_may' {m : MT} (h : MTok m = true) : MTmay m = true := by
  unfold MTok at h
  rw [Bool.and_eq_true] at h
  exact h.1
theorem readM_bulk5 (t : VT) : t.readM.bulk ≤ 5 * t.bulk + 100 := by
  have h0 := VT.nul_bulk10
  have he : ByteArray.empty.size = 0 := rfl
  have gI := VT.getD_bulk t VT.idN
  have gM := VT.getD_bulk t VT.methodN
  have gP := VT.getD_bulk t VT.paramsN
  have gR := VT.getD_bulk t VT.resultN
  have gE := VT.getD_bulk t VT.errorN
  have gT := VT.getD_bulk (t.getD VT.errorN) VT.messageN
  have xM := VT.text_bulk (t.getD VT.methodN)
  have xT := VT.text_bulk ((t.getD VT.errorN).getD VT.messageN)
  unfold VT.readM
  split
  · unfold VT.msgM
    split
    · show (t.getD VT.idN).bulk + (t.getD VT.paramsN).bulk + VT.nul.bulk + (t.getD VT.methodN).text.size + ByteArray.empty.size ≤ _
      omega
    · unfold VT.ansM
      split
      · show (t.getD VT.idN).bulk + VT.nul.bulk + (t.getD VT.resultN).bulk + ByteArray.empty.size + ByteArray.empty.size ≤ _
        omega
      · show (t.getD VT.idN).bulk + VT.nul.bulk + VT.nul.bulk + ByteArray.empty.size + ((t.getD VT.errorN).getD VT.messageN).text.size ≤ _
        omega
  · show VT.nul.bulk + VT.nul.bulk + VT.nul.bulk + ByteArray.empty.size + ByteArray.empty.size ≤ _
    omega
theorem read_yes {t : VT} (h : t.msgOk = true) : t.readM = t.msgM ∧ t.readE = 0 := by unfold VT.readM VT.readE; rw [h]; exact ⟨rfl, rfl⟩
/-- what is read, printed, read anew, and how much all that holds -/
theorem anew {t : VT} (h : t.msgOk = true) (hk : t.bulk ≤ 1048576) : MTok t.readM = true ∧ (MTtree t.readM).readE = 0 ∧ t.readM.eqv (MTtree t.readM).readM = true ∧ t.readM.bulk ≤ 6000000 ∧ (MTtree t.readM).bulk ≤ 6000300 ∧ (faultT t.readM.code t.readM.text).bulk ≤ 6000100 ∧ (MTtree t.readM).readM.bulk ≤ 40000000 := by
  have ho : MTok t.readM = true := by rw [(read_yes h).1]; exact said_ok h
  have hb := readM_bulk5 t
  have hm := MTok_may' ho
  have h1 := MTtree_bulk hm
  have h2 := fault_bulk t.readM.code t.readM.text (code_I64 hm)
  have h3 : t.readM.text.size ≤ t.readM.bulk := by unfold MT.bulk; omega
  have h4 := readM_bulk5 (MTtree t.readM)
  obtain ⟨b1, b2⟩ := print_back ho
  refine ⟨ho, (read_yes b1).2, by rw [(read_yes b1).1]; exact b2, by omega, by omega, by omega, by omega⟩
end Go.Proofs.YtfploakafbnigaaGreatDoor
