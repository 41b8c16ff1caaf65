/-
  Joined texts: ParPlace ParPPlace ParPEdit ParREdit ParRows ParChange ParRChange.
-/
import Derived.Test.YtfploakafbnigaaGreatDoorCPkParA
import Derived.Test.YtfploakafbnigaaGreatDoorWLast
import Derived.Deep.DeepCutAuto
import Derived.Deep.CutBlock
import Derived.BigQuiet
import Derived.Deep.QuietTactic
import Derived.Laws.StructEq
import Derived.Deep.LoopGhost
namespace Go.Proofs.YtfploakafbnigaaGreatDoor
open Go.RowKit Val Go.Proofs.YtfploakafbnigaaGreatDoorW.PrintLast
set_option linter.unusedVariables false
set_option linter.unusedSimpArgs false
end Go.Proofs.YtfploakafbnigaaGreatDoor
namespace Go.Proofs.YtfploakafbnigaaGreatDoor
open Go.RowKit Val Go.Proofs.YtfploakafbnigaaGreatDoorW.PrintLast
set_option linter.unusedVariables false
set_option linter.unusedSimpArgs false
end Go.Proofs.YtfploakafbnigaaGreatDoor
namespace Go.Proofs.YtfploakafbnigaaGreatDoor
open Go.RowKit Val Go.Proofs.YtfploakafbnigaaGreatDoorW.PrintLast
set_option linter.unusedVariables false
set_option linter.unusedSimpArgs false
end Go.Proofs.YtfploakafbnigaaGreatDoor
namespace Go.Proofs.YtfploakafbnigaaGreatDoor
open Go.RowKit Val
set_option linter.unusedVariables false
set_option linter.unusedSimpArgs false
end Go.Proofs.YtfploakafbnigaaGreatDoor
namespace Go.Proofs.YtfploakafbnigaaGreatDoor
open Go.RowKit Val
set_option linter.unusedVariables false
set_option linter.unusedSimpArgs false
/-- a row of edits -/
def ES (w : World) (S : Nat → Prop) (A : Option Addr) (l : List VT.Ed) : Prop :=
  l = [] ∨ ∃ b off, A = some ⟨b, off, none⟩ ∧ S b ∧ ∀ (j : Nat) (h : j < l.length), w.cell? ⟨b, off + j * 6, none⟩ = some (.bool l[j].whole) ∧ w.cell? ⟨b, off + j * 6 + 1, none⟩ = some (.int .i64 l[j].a) ∧ w.cell? ⟨b, off + j * 6 + 2, none⟩ = some (.int .i64 l[j].b) ∧
    w.cell? ⟨b, off + j * 6 + 3, none⟩ = some (.int .i64 l[j].c) ∧ w.cell? ⟨b, off + j * 6 + 4, none⟩ = some (.int .i64 l[j].d) ∧ w.cell? ⟨b, off + j * 6 + 5, none⟩ = some (.string l[j].text)
theorem ES.same {w w' : World} {S S' : Nat → Prop} {A : Option Addr} {l : List VT.Ed} (h : ES w S A l) (hs : Same S w w') (hS : ∀ b, S b → S' b) : ES w' S' A l := by
  rcases h with h | ⟨b, off, e, h1, hc⟩
  · exact .inl h
  · have g : ∀ o, w'.cell? ⟨b, o, none⟩ = w.cell? ⟨b, o, none⟩ := fun o => World.cell?_of_block (w := w) (hs b h1)
    exact .inr ⟨b, off, e, hS b h1, fun j hj => by
      obtain ⟨c0, c1, c2, c3, c4, c5⟩ := hc j hj
      exact ⟨(g _).trans c0, (g _).trans c1, (g _).trans c2, (g _).trans c3, (g _).trans c4, (g _).trans c5⟩⟩
end Go.Proofs.YtfploakafbnigaaGreatDoor
namespace Go.Proofs.YtfploakafbnigaaGreatDoor
open Go.RowKit Val
set_option linter.unusedVariables false
set_option linter.unusedSimpArgs false
theorem VS.but {w w' : World} {g : Nat} {S : Nat → Prop} {A : Option Addr} {n : Nat} {c : Nat → VT} (h : VS w S A n c) (hb : But g w w') (hS : ∀ b, S b → b < w.heap.size ∧ b ≠ g) : VS w' S A n c := h.same (hb.same hS)
end Go.Proofs.YtfploakafbnigaaGreatDoor
namespace Go.Proofs.YtfploakafbnigaaGreatDoor
open Go.RowKit Val
set_option linter.unusedVariables false
set_option linter.unusedSimpArgs false
end Go.Proofs.YtfploakafbnigaaGreatDoor
