/-
  Joined texts: NumRowKit ValRow.
-/
import Derived.Test.YtfploakafbnigaaGreatDoorCPkNumC
import Derived.Test.YtfploakafbnigaaGreatDoorCards
import Derived.Test.YtfploakafbnigaaGreatDoorTie
import Derived.WalkKit
import Derived.ProofKit
import Derived.OpenShut
import Derived.SizedLaws
import Derived.ChangeSlices
import Derived.Deep.DeepHandedRow
import Derived.Deep.DeepWitnessRowRef
import Derived.Lay
import Derived.Test.YtfploakafbnigaaGreatDoorCPkValA
import Derived.Deep.Slices
import Derived.SliceStrings
namespace Go.Proofs.YtfploakafbnigaaGreatDoor.rowkit
open Go.ChangeShapes Go.WideShapes Go.ChangeAt Go.RowKit
set_option linter.unusedVariables false
set_option linter.unusedSimpArgs false
theorem own : ownKnob Tryz.prog.godebug = none := by kernel_rfl
theorem laidOut : laidOutB Tryz.prog = true := by kernel_rfl
/-- A slice of bytes that came in: a row of bytes. -/
theorem bytes_in {H : Type} {enc : TypeId × Value → H} {W : World} {a : Option Addr} {len cap : Nat} {d : DataW H} {ps : List MemPlace}
    (h : DataW.Trod enc Tryz.prog W 0 (fun _ => true) true 67 (.slice a len cap) d ps) : ∃ l : List UInt8, l.length = len ∧ RB W W.heap.size a l := by
  obtain ⟨fuel, hf⟩ := h
  rcases open_ints Tryz.underlying67 Tryz.underlying5 (by kernel_rfl) hf with ⟨hcs, _⟩ | ⟨x, l, c, zs, hcs, _, hl, hm, hz, _, hcell, hwz⟩
  · simp [Value.cells] at hcs
    obtain ⟨rfl, rfl, rfl⟩ := hcs
    exact ⟨[], rfl, .inl rfl⟩
  · simp [Value.cells] at hcs
    obtain ⟨rfl, rfl, rfl⟩ := hcs
    have hzl : zs.length = cap := by simpa using hz
    refine ⟨(zs.take len).map (fun z => UInt8.ofNat z.toNat), by rw [List.length_map, List.length_take]; omega, ?_⟩
    by_cases h0 : len = 0
    · subst h0; exact .inl rfl
    · obtain ⟨b, off, rfl⟩ : ∃ b off, x = ⟨b, off, none⟩ := by
        have := hcell 0 (by omega)
        obtain ⟨b, off, s⟩ := x
        refine ⟨b, off, ?_⟩
        cases s with
        | none => rfl
        | some q =>
          simp only [Addr.add, if_true, World.cell?] at this
          split at this <;> simp at this
      refine .inr ⟨b, off, rfl, ?_, fun j hj => ?_⟩
      · have := hcell 0 (by omega)
        have := World.block_lt_of_cell? W _ this
        simpa [Addr.add] using this
      · have hj' : j < zs.length := by rw [List.length_map, List.length_take] at hj; omega
        have e := hcell j hj'
        have hw := hwz (zs.getD j 0) (by rw [List.getD_eq_getElem?_getD, List.getElem?_eq_getElem hj']; exact List.getElem_mem hj')
        have hb := bounds_u8 hw
        rw [show (⟨b, off + j, none⟩ : Addr) = (⟨b, off, none⟩ : Addr).add j by unfold Addr.add; split <;> simp_all, e]
        have e2 : ((zs.take len).map (fun z => UInt8.ofNat z.toNat))[j] = UInt8.ofNat (zs.getD j 0).toNat := by
          rw [List.getElem_map, List.getElem_take, List.getD_eq_getElem?_getD, List.getElem?_eq_getElem hj']; rfl
        rw [e2, UInt8.toNat_ofNat']
        congr 2
        omega
/-- ITS LENGTH, by the row's own reach. -/
theorem bytes_sized {H : Type} {enc : TypeId × Value → H} {W : World} {a : Option Addr} {len cap : Nat} {d : DataW H} {ps : List MemPlace} {ts : List TypeId} {ds : List (DataW H)} {j : Nat}
    (hsz : (DataW.weightsEach Tryz.prog ts ds).all (· ≤ reachBytes) = true) (ht : ts[j]? = some 67) (hd : ds[j]? = some d)
    (h : DataW.Trod enc Tryz.prog W 0 (fun _ => true) true 67 (.slice a len cap) d ps) : len ≤ 140737488351232 := by
  obtain ⟨fuel, hf⟩ := h
  rcases open_ints Tryz.underlying67 Tryz.underlying5 (by kernel_rfl) hf with ⟨hcs, _⟩ | ⟨x, l, c, zs, hcs, _, hl, _, hz, hx, _, _⟩
  · simp [Value.cells] at hcs
    obtain ⟨rfl, rfl, rfl⟩ := hcs
    simp
  · simp [Value.cells] at hcs
    obtain ⟨rfl, rfl, rfl⟩ := hcs
    obtain ⟨hx, _⟩ := Prod.mk.inj hx
    subst hx
    have z := sized_slice hsz ht hd Tryz.underlying67
    have hB : Tryz.prog.bytesOf 5 = 1 := by kernel_rfl
    rw [hB, Nat.mul_one] at z
    have hl2 : len ≤ zs.length := by
      rw [hz]
      split
      · exact hl
      · exact Nat.le_refl _
    have h1 : (lits (H := H) .u8 (zs.take len)).length + (lits (H := H) .u8 (zs.drop len)).length = zs.length := by
      simp [lits]
      omega
    rw [h1] at z
    exact Nat.le_trans hl2 z
/-- strings.Index's variable, out of the world's shape. -/
theorem ml {W : World} (h : W.ShapedOpen Tryz.prog) : ML W := Tryz.laysM219.s1_3 W h
end Go.Proofs.YtfploakafbnigaaGreatDoor.rowkit
namespace Go.Proofs.YtfploakafbnigaaGreatDoor.rowkit
open Go.ChangeShapes Go.WideShapes Go.ChangeAt Go.RowKit Go.Deep Val
set_option linter.unusedVariables false
set_option linter.unusedSimpArgs false
instance : Inhabited VT := ⟨.leaf⟩
theorem add_plain' (b off j : Nat) : (⟨b, off, none⟩ : Addr).add j = ⟨b, off + j, none⟩ := by unfold Addr.add; split <;> simp_all
end Go.Proofs.YtfploakafbnigaaGreatDoor.rowkit
