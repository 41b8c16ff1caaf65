/-
  Layer 12, in plain Lean: members turned round; what RpcMembers asks.
-/
import Derived.Test.YtfploakafbnigaaGreatDoorCRpcAnewPlain
namespace Go.Proofs.YtfploakafbnigaaGreatDoor
open Go.RowKit Val
set_option linter.unusedVariables false
set_option linter.unusedSimpArgs false
def rotP {α : Type} (l : List α) (r : Nat) : List α := l.drop r ++ l.take r
theorem rot_perm {α : Type} (l : List α) (r : Nat) : l.Perm (rotP l r) := by
  have := List.perm_append_comm (l₁ := l.take r) (l₂ := l.drop r)
  rw [List.take_append_drop] at this
  exact this
theorem rot_len {α : Type} (l : List α) (r : Nat) : (rotP l r).length = l.length := (rot_perm l r).length_eq.symm
theorem rot_get {α : Type} {l : List α} {r i : Nat} (hr : r < l.length) (hi : i < l.length) : (rotP l r)[i]? = l[(i + r) % l.length]? := by
  unfold rotP
  by_cases h : i < l.length - r
  · rw [List.getElem?_append_left (by simp; exact h), List.getElem?_drop, Nat.mod_eq_of_lt (by omega), Nat.add_comm]
  · rw [List.getElem?_append_right (by simp; omega), List.getElem?_take, List.length_drop]
    have e : (i + r) % l.length = i - (l.length - r) := by
      rw [show i + r = (i - (l.length - r)) + l.length by omega, Nat.add_mod_right, Nat.mod_eq_of_lt (by omega)]
    rw [e, if_pos (by omega)]
theorem mem_len {m : MT} (h : MTmay m = true) : 0 < (MTmem m).length ∧ (MTmem m).length ≤ 4 := by
  have h4 := ok_four h
  clear h
  obtain ⟨k, i, me, ha, p, r, c, x⟩ := m
  dsimp only at h4
  rcases h4 with rfl | rfl | rfl | rfl
  · cases ha <;> exact ⟨by show 0 < _ + 1; omega, Nat.le_of_ble_eq_true rfl⟩
  · cases ha <;> exact ⟨by show 0 < _ + 1; omega, Nat.le_of_ble_eq_true rfl⟩
  · exact ⟨by show 0 < _ + 1; omega, Nat.le_of_ble_eq_true rfl⟩
  · exact ⟨by show 0 < _ + 1; omega, Nat.le_of_ble_eq_true rfl⟩
theorem take_map2 {l : List (ByteArray × VT)} {p : Nat} {nm : ByteArray} {t : VT} (h : l[p]? = some (nm, t)) : (l.take (p + 1)).map (fun x => Value.string x.1) = (l.take p).map (fun x => Value.string x.1) ++ [.string nm] := by
  obtain ⟨hp, e⟩ := List.getElem?_eq_some_iff.1 h
  rw [List.take_succ_eq_append_getElem hp, List.map_append, e]; rfl
theorem getD_map2 {l : List (ByteArray × VT)} {p : Nat} {nm : ByteArray} {t : VT} (h : l[p]? = some (nm, t)) : (l.map (·.2)).getD p .leaf = t := by
  rw [List.getD_eq_getElem?_getD]; simp [h]
theorem sumTo_getD (l : List VT) : VT.sumTo (fun j => (l.getD j .leaf).bulk) l.length = (l.map VT.bulk).sum := by
  have go : ∀ (n : Nat), n ≤ l.length → VT.sumTo (fun j => (l.getD j .leaf).bulk) n = ((l.take n).map VT.bulk).sum := by
    intro n
    induction n with
    | zero => intro _; rfl
    | succ n ih =>
      intro h
      rw [List.take_succ_eq_append_getElem (by omega), List.map_append, List.sum_append]
      show VT.sumTo (fun j => (l.getD j .leaf).bulk) n + (l.getD n .leaf).bulk = _
      rw [ih (by omega)]
      simp [List.getD_eq_getElem?_getD, show n < l.length by omega]
  have := go l.length (Nat.le_refl _)
  rw [List.take_length] at this
  exact this
theorem pair_bulk (P : List (ByteArray × VT)) : (pairT P).bulk = 1 + P.length + P.length + ((P.map (·.1)).map ByteArray.size).sum + ((P.map (·.2)).map VT.bulk).sum := by
  show 1 + 0 + (P.map (·.2)).length + (P.map (·.1)).length + ((P.map (·.1)).map ByteArray.size).sum + VT.sumTo (fun j => ((P.map (fun (x : ByteArray × VT) => x.2)).getD j VT.leaf).bulk) (P.map (fun (x : ByteArray × VT) => x.2)).length = _
  rw [sumTo_getD, List.length_map, List.length_map]
  try omega
theorem pair_bulk_perm {P Q : List (ByteArray × VT)} (h : P.Perm Q) : (pairT Q).bulk = (pairT P).bulk := by
  rw [pair_bulk, pair_bulk, h.length_eq, ((h.map (·.1)).map ByteArray.size).sum_nat, ((h.map (·.2)).map VT.bulk).sum_nat]
theorem pair_bulk_more (Q : List (ByteArray × VT)) (y : ByteArray) (o : VT) : (pairT (Q ++ [(y, o)])).bulk = (pairT Q).bulk + 2 + y.size + o.bulk := by
  rw [pair_bulk, pair_bulk]
  simp [List.sum_append]
  omega
/-- what is told anew says the same -/
theorem members_say {m : MT} (h : MTok m = true) (r : Nat) (R : List (ByteArray × VT)) (hR : R = [] ∨ ∃ y o, R = [(y, o)] ∧ y.data[0]? = some 120 ∧ o.may = true ∧ o.depth ≤ 127) :
    (pairT (rotP (MTmem m) r ++ R)).readE = 0 ∧ m.eqv (pairT (rotP (MTmem m) r ++ R)).readM = true := by
  obtain ⟨b1, b2⟩ := members_back h (rot_perm (MTmem m) r) R hR
  exact ⟨(read_yes b1).2, by rw [(read_yes b1).1]; exact b2⟩
theorem x_first (x : ByteArray) : (ByteArray.mk (#[120] ++ x.data)).data[0]? = some 120 := by
  show (#[120] ++ x.data)[0]? = some 120
  rw [Array.getElem?_append_left (by simp)]
  rfl
theorem MTtree_bulk' (m : MT) (hc : I64 m.code) : (MTtree m).bulk ≤ m.bulk + 300 := by
  obtain ⟨k, i, me, ha, p, r, c, x⟩ := m
  have e2 : (txT VT.twoS).bulk ≤ 1 + 3 := txT_bulk _
  have em := txT_bulk me
  have ef := fault_bulk c x hc
  show _ ≤ i.bulk + p.bulk + r.bulk + me.size + x.size + 300
  unfold MTtree
  rw [pair_bulk]
  have s1 : VT.rpcN.size = 7 := rfl
  have s2 : VT.idN.size = 2 := rfl
  have s3 : VT.methodN.size = 6 := rfl
  have s4 : VT.paramsN.size = 6 := rfl
  have s5 : VT.resultN.size = 6 := rfl
  have s6 : VT.errorN.size = 5 := rfl
  unfold MTmem MTtail
  dsimp only
  by_cases k2 : k = 2
  · subst k2
    cases ha <;> simp [s1, s2, s3, s4, s5, s6] <;> omega
  · by_cases k3 : k = 3
    · subst k3
      simp [s1, s2, s3, s4, s5, s6]; omega
    · by_cases k4 : k = 4
      · subst k4
        simp [s1, s2, s3, s4, s5, s6]; omega
      · cases ha <;> simp [k2, k3, k4, s1, s2, s3, s4, s5, s6] <;> omega
end Go.Proofs.YtfploakafbnigaaGreatDoor
