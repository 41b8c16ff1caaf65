/-
  Joined texts: MkObj.
-/
import Derived.Test.YtfploakafbnigaaGreatDoorCPkMkA
import Derived.Test.YtfploakafbnigaaGreatDoorWLast
import Derived.Deep.AppendLies
namespace Go.Proofs.YtfploakafbnigaaGreatDoor
open Go.RowKit Val Go.Proofs.YtfploakafbnigaaGreatDoorW.PrintLast
set_option linter.unusedVariables false
set_option linter.unusedSimpArgs false
/-- what the drawn region reads -/
structure OS (g3 g5 : Nat) (nv ov : Value) (nm : ByteArray) (v0 v1 v2 v3 v4 : Value) (w : World) : Prop where
  box : BX w g3 (.int .i64 5) (.bool false) (.string ⟨#[]⟩) ov nv
  x : BK w g5 110 #[.string nm, v0, v1, v2, v3, v4]
theorem OS.same {g3 g5 : Nat} {nv ov : Value} {nm : ByteArray} {v0 v1 v2 v3 v4 : Value} {w w' : World} (h : OS g3 g5 nv ov nm v0 v1 v2 v3 v4 w) (h3 : w'.heap[g3]? = w.heap[g3]?) (h5 : w'.heap[g5]? = w.heap[g5]?) : OS g3 g5 nv ov nm v0 v1 v2 v3 v4 w' := ⟨h.box.same h3, h5.trans h.x⟩
theorem OS.on {g3 g5 : Nat} {nv ov : Value} {nm : ByteArray} {v0 v1 v2 v3 v4 : Value} {w w' : World} (h : OS g3 g5 nv ov nm v0 v1 v2 v3 v4 w) (hb : Below w.heap.size w w') : OS g3 g5 nv ov nm v0 v1 v2 v3 v4 w' := h.same (hb.block _ h.box.lt) (hb.block _ h.x.lt)
theorem ObM.new (w : World) : ObM w (.slice none 0 0) (.slice none 0 0) (.slice none 0 0) (.slice none 0 0) 0 0 [] [] ((w.alloc (.cells #[.int .i64 0, .bool false, .string ⟨#[]⟩, .slice none 0 0, .slice none 0 0] 25)).alloc (.cells #[.int .i64 5, .bool false, .string ⟨#[]⟩, .slice none 0 0, .slice none 0 0] 25)) where
  res := al2_0 w _ _
  out := al2_1 w _ _
  below := al2_below w _ _
  nown := World.ownsRow_nil _ _ _ _
  oown := World.ownsRow_nil _ _ _ _
  apart := fun _ h => by cases h
  size := by simp
theorem own_slice {w : World} {base e size n : Nat} {v : Value} {xs : List Value} (h : w.ownsRow base e size v n xs) : ∃ A c, v = .slice A n c := by
  rcases h.2 with ⟨rfl, rfl⟩ | ⟨g, cap, cur, rfl, -⟩
  · exact ⟨_, _, rfl⟩
  · exact ⟨_, _, rfl⟩
