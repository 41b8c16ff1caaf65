/-
  Joined texts: ParOddPlain.
-/
import Derived.Test.YtfploakafbnigaaGreatDoorCPkNb
import Derived.Test.YtfploakafbnigaaGreatDoorCPkNumC
import Derived.Test.YtfploakafbnigaaGreatDoorCPkValA
import Derived.Test.YtfploakafbnigaaGreatDoorCPkParA
namespace Go.Proofs.YtfploakafbnigaaGreatDoor
open Go.RowKit Val Num
set_option linter.unusedVariables false
set_option linter.unusedSimpArgs false
/-- a whole number's text, with a sign, a point and a power behind it or none -/
theorem of_text' (n : Nat) : ofS (textS n) = some (wval n false) := by
  have := of_val (g := []) (a := textS n) (f := []) (x := []) (.inl rfl) (textS_headF n) (.inl rfl) (.inl rfl) (by decide)
  simp only [List.nil_append, List.append_nil, List.drop_nil] at this
  rw [this]; rfl
theorem of_minus' (n : Nat) : ofS (45 :: textS n) = some (wval n true) := by
  have := of_val (g := [45]) (a := textS n) (f := []) (x := []) (.inr rfl) (textS_headF n) (.inl rfl) (.inl rfl) (by decide)
  simp only [List.append_nil, List.drop_nil] at this
  rw [show (45 : UInt8) :: textS n = [45] ++ textS n from rfl, this]; rfl
theorem int_numS (v : Int) : Num.int (numS v) = if v.natAbs < 9007199254740992 then (v, true) else (0, false) := by
  unfold numS Num.int
  by_cases h : v < 0
  · rw [if_pos h, of_minus']
    by_cases h2 : v.natAbs < 9007199254740992
    · rw [if_pos h2]; show intV (wval _ true) = _; rw [int_whole h2]; simp; omega
    · rw [if_neg h2]; show intV (wval _ true) = _; rw [int_big (by omega)]
  · rw [if_neg h, of_text']
    by_cases h2 : v.natAbs < 9007199254740992
    · rw [if_pos h2]; show intV (wval _ false) = _; rw [int_whole h2]; simp; omega
    · rw [if_neg h2]; show intV (wval _ false) = _; rw [int_big (by omega)]
/-- a block, known whole -/
def BL (w : World) (g : Nat) (xs : Array Value) (ty : TypeId) : Prop := w.heap[g]? = some (.cells xs ty (0, 0))
theorem BL.new (w : World) (xs : Array Value) (ty : TypeId) : BL (w.alloc (.cells xs ty)) w.heap.size xs ty := heap_alloc_new w _
theorem BL.on {w w' : World} {g : Nat} {xs : Array Value} {ty : TypeId} (h : BL w g xs ty) (hb : Below w.heap.size w w') : BL w' g xs ty := (hb.block g (Array.getElem?_eq_some_iff.1 h).1).trans h
theorem BL.c {w : World} {g : Nat} {xs : Array Value} {ty : TypeId} (h : BL w g xs ty) (j : Nat) : w.cell? ⟨g, j, none⟩ = xs[j]? := by
  rw [cell_of_row w g j _ _ _ h]
theorem BL.lt {w : World} {g : Nat} {xs : Array Value} {ty : TypeId} (h : BL w g xs ty) : g < w.heap.size := (Array.getElem?_eq_some_iff.1 h).1
theorem BL.TS {w : World} {g : Nat} {xs : Array Value} {ty : TypeId} (h : BL w g xs ty) (l : List ByteArray) (hx : xs = (l.map Value.string).toArray) : TS w (fun b => b < w.heap.size) (some ⟨g, 0, none⟩) l :=
  .inr ⟨g, 0, rfl, h.lt, fun j hj => by rw [Nat.zero_add, h.c, hx]; simp [hj]⟩
theorem BL.VS {w : World} {g : Nat} {xs : Array Value} {ty : TypeId} (h : BL w g xs ty) (l : List VT) (hr : VR w (fun b => b < w.heap.size) xs.toList l.length (fun j => l.getD j .leaf)) : VS w (fun b => b < w.heap.size) (some ⟨g, 0, none⟩) l.length (fun j => l.getD j .leaf) := by
  refine .inr ⟨g, 0, rfl, h.lt, fun j hj => ?_⟩
  obtain ⟨v0, v1, v2, v3, v4, e0, e1, e2, e3, e4, hv⟩ := hr.2 j hj
  have k : ∀ k u, xs.toList[k]? = some u → w.cell? ⟨g, 0 + k, none⟩ = some u := fun k u hk => by rw [Nat.zero_add, h.c, ← Array.getElem?_toList]; exact hk
  exact ⟨v0, v1, v2, v3, v4, ⟨k _ _ e0, by rw [Nat.add_assoc]; exact k _ _ e1, by rw [Nat.add_assoc]; exact k _ _ e2, by rw [Nat.add_assoc]; exact k _ _ e3, by rw [Nat.add_assoc]; exact k _ _ e4⟩, hv⟩
theorem BL.fr {w : World} {g : Nat} {xs : Array Value} {ty : TypeId} (h : BL w g xs ty) (i : Nat) : w.frozen? ⟨g, i, none⟩ = false := by unfold BL at h; simp [World.frozen?, h]
end Go.Proofs.YtfploakafbnigaaGreatDoor
