/-
  Layer 28, the rows: how a []int and a []Deed that came in read.
-/
import Derived.Test.YtfploakafbnigaaGreatDoorCPkRow
import Derived.Test.YtfploakafbnigaaGreatDoorCPoolMem
import Derived.Deep.Slices
namespace Go.Proofs.YtfploakafbnigaaGreatDoor
open Go.RowKit Val Pl
set_option linter.unusedVariables false
set_option linter.unusedSimpArgs false
/-- a row of numbers that came in -/
def IB (w : World) (B : Nat) (a : Option Addr) (l : List Int) : Prop := l = [] ∨ ∃ b off, a = some ⟨b, off, none⟩ ∧ b < B ∧ ∀ i x, l[i]? = some x → w.cell? ⟨b, off + i, none⟩ = some (.int .i64 x) ∧ I64 x
theorem IB.on {w w' : World} {B : Nat} {a : Option Addr} {l : List Int} (h : IB w B a l) (hb : Below B w w') : IB w' B a l := by
  rcases h with h | ⟨b, off, e, h1, h2⟩
  · exact .inl h
  · exact .inr ⟨b, off, e, h1, fun i x hx => ⟨(hb.cell (p := ⟨b, off + i, none⟩) h1).trans (h2 i x hx).1, (h2 i x hx).2⟩⟩
end Go.Proofs.YtfploakafbnigaaGreatDoor
namespace Go.Proofs.YtfploakafbnigaaGreatDoor.rowkit
open Go.ChangeShapes Go.WideShapes Go.ChangeAt Go.RowKit Go.Deep Val
set_option linter.unusedVariables false
set_option linter.unusedSimpArgs false
theorem ints_in {H : Type} {enc : TypeId × Value → H} {W : World} {a : Option Addr} {len cap : Nat} {d : DataW H} {ps : List MemPlace}
    (h : DataW.Trod enc Tryz.prog W 0 (fun _ => true) true 75 (.slice a len cap) d ps) : ∃ l : List Int, l.length = len ∧ len ≤ 9223372036854775807 ∧ IB W W.heap.size a l := by
  obtain ⟨fuel, hf⟩ := h
  rcases open_ints Tryz.underlying75 Tryz.underlying3 (by kernel_rfl) hf with ⟨hcs, _⟩ | ⟨x, l, c, zs, hcs, _, hl, hm, hz, _, hcell, hwz⟩
  · simp [Value.cells] at hcs
    obtain ⟨rfl, rfl, rfl⟩ := hcs
    exact ⟨[], rfl, by omega, .inl rfl⟩
  · simp [Value.cells] at hcs
    obtain ⟨rfl, rfl, rfl⟩ := hcs
    have hzl : zs.length = cap := by simpa using hz
    have hm' := hm
    unfold maxLen at hm'
    refine ⟨zs.take len, by rw [List.length_take]; omega, by omega, ?_⟩
    by_cases h0 : len = 0
    · subst h0; exact .inl rfl
    · obtain ⟨b, off, rfl⟩ : ∃ b off, x = ⟨b, off, none⟩ := by
        have := hcell 0 (by omega)
        obtain ⟨b, off, s⟩ := x
        cases s with
        | none => exact ⟨b, off, rfl⟩
        | some s =>
          simp only [Addr.add, World.cell?] at this
          split at this <;> simp at this
      refine .inr ⟨b, off, rfl, by have := World.block_lt_of_cell? W _ (hcell 0 (by omega)); simpa [Addr.add] using this, fun i x hx => ?_⟩
      have hi := (List.getElem?_eq_some_iff.1 hx).1
      rw [List.length_take] at hi
      rw [List.getElem?_take, if_pos (by omega)] at hx
      have h1 := hcell i (by omega)
      rw [Addr.add_lit] at h1
      have h2 : zs.getD i 0 = x := by rw [List.getD_eq_getElem?_getD, hx]; rfl
      rw [h2] at h1
      exact ⟨h1, bounds_i64 (hwz x (List.mem_iff_getElem?.2 ⟨i, hx⟩))⟩
end Go.Proofs.YtfploakafbnigaaGreatDoor.rowkit
