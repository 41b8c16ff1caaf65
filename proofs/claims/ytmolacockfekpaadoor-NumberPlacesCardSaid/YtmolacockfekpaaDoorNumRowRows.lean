/-
  For the rows of layer 9: an argument of the type [][]byte.
-/
import Derived.Test.YtmolacockfekpaaDoorNumRowKit
import Derived.Test.YtmolacockfekpaaDoorNumLawPlaces
import Derived.Deep.Matrix
namespace Go.Proofs.YtmolacockfekpaaDoor.rowkit
open Go.ChangeShapes Go.WideShapes Go.ChangeAt Go.RowKit Go.Deep
set_option linter.unusedVariables false
set_option linter.unusedSimpArgs false

theorem addr_plain {w : World} {a : Addr} {v : Value} (h : w.cell? (a.add 0) = some v) : ∃ b off, a = ⟨b, off, none⟩ := by
  obtain ⟨b, off, s⟩ := a
  refine ⟨b, off, ?_⟩
  cases s with
  | none => rfl
  | some q =>
    simp only [Addr.add, if_true, World.cell?] at h
    split at h <;> simp at h
theorem add_plain (b off j : Nat) : (⟨b, off, none⟩ : Addr).add j = ⟨b, off + j, none⟩ := by unfold Addr.add; split <;> simp_all
/-- Rows of bytes that came in. -/
theorem rows_in {H : Type} {enc : TypeId × Value → H} {W : World} {a : Option Addr} {len cap : Nat} {d : DataW H} {ps : List MemPlace}
    (h : DataW.Trod enc Tryd.prog W 0 (fun _ => true) true 43 (.slice a len cap) d ps) : RS W W.heap.size a len ∧ len ≤ 9223372036854775807 := by
  obtain ⟨fuel, hf⟩ := h
  rcases open_int_rows Tryd.underlying43 Tryd.underlying22 Tryd.underlying5 (by kernel_rfl) (by kernel_rfl) hf with ⟨hcs, _⟩ | ⟨x, l, c, A, L, C, Z, hcs, _, hl, hm, _, hr⟩
  · simp [Value.cells] at hcs
    obtain ⟨rfl, rfl, rfl⟩ := hcs
    exact ⟨fun j hj => absurd hj (Nat.not_lt_zero _), by omega⟩
  · simp [Value.cells] at hcs
    obtain ⟨rfl, rfl, rfl⟩ := hcs
    unfold maxLen at hm
    refine ⟨fun j hj => ?_, by omega⟩
    obtain ⟨hc, hLC, hCm, hZ, hw, _, hA⟩ := hr j (by omega)
    unfold maxLen at hCm
    obtain ⟨b, off, rfl⟩ := addr_plain (hr 0 (by omega)).1
    have hlt := World.block_lt_of_cell? W _ hc
    rw [add_plain] at hc hlt
    have hll : (((Z j).take (L j)).map (fun z => UInt8.ofNat z.toNat)).length = L j := by rw [List.length_map, List.length_take]; omega
    refine ⟨b, off, A j, C j, ((Z j).take (L j)).map (fun z => UInt8.ofNat z.toNat), rfl, hlt, by rw [hll]; exact hc, ?_, by omega⟩
    by_cases h0 : L j = 0
    · exact .inl (List.eq_nil_of_length_eq_zero (by omega))
    · cases ha : A j with
      | none => have := hr j (by omega); rw [ha] at this; have := this.2.2.2.2.2.1 rfl; omega
      | some a' =>
        obtain ⟨_, hcell⟩ := hA a' ha
        obtain ⟨b', off', rfl⟩ := addr_plain (hcell 0 (by omega))
        refine .inr ⟨b', off', rfl, ?_, fun i hi => ?_⟩
        · have := World.block_lt_of_cell? W _ (hcell 0 (by omega))
          rw [add_plain] at this
          exact this
        · have hi' : i < L j := by omega
          have hz : i < (Z j).length := by omega
          have e := hcell i (by omega)
          rw [add_plain] at e
          rw [e]
          have hwz := hw ((Z j).getD i 0) (by rw [List.getD_eq_getElem?_getD, List.getElem?_eq_getElem hz]; exact List.getElem_mem hz)
          have hb := bounds_u8 hwz
          have e2 : (((Z j).take (L j)).map (fun z => UInt8.ofNat z.toNat))[i] = UInt8.ofNat ((Z j).getD i 0).toNat := by
            rw [List.getElem_map, List.getElem_take, List.getD_eq_getElem?_getD, List.getElem?_eq_getElem hz]; rfl
          rw [e2, UInt8.toNat_ofNat']
          congr 2
          omega
end Go.Proofs.YtmolacockfekpaaDoor.rowkit
