/-
  Joined texts: ParMade ParMPlace ParTold ParAwake.
-/
import Derived.Test.YtfploakafbnigaaGreatDoorCPkParB
import Derived.Test.YtfploakafbnigaaGreatDoorCPkParA
import Derived.Test.YtfploakafbnigaaGreatDoorCRegKit
import Derived.Below
import Derived.Deep.DeepCutAuto
import Derived.Deep.CutBlock
namespace Go.Proofs.YtfploakafbnigaaGreatDoor
open Go.RowKit Val
set_option linter.unusedVariables false
set_option linter.unusedSimpArgs false
/-- this value is handed back, and nothing that was is touched -/
def Made (v : Value) (w : World) (e : Ending) (w' : World) : Prop := e = .returned v ∧ Below w.heap.size w w'
/-- a set of blocks that grows with the world -/
structure Zone where
  S : World → Nat → Prop
  lt : ∀ w b, S w b → b < w.heap.size
  up : ∀ w w' b, S w b → Below w.heap.size w w' → S w' b
/-- what was made since there were B blocks -/
def zNew (B : Nat) : Zone where
  S := fun w b => B ≤ b ∧ b < w.heap.size
  lt := fun _ _ h => h.2
  up := fun _ _ _ h hb => ⟨h.1, Nat.lt_of_lt_of_le h.2 hb.size⟩
/-- a value's box, empty -/
def zBox : Obj := .cells #[.int .i64 0, .bool false, .string ⟨#[]⟩, .slice none 0 0, .slice none 0 0] 25
/-- the same, but for empty boxes behind the first C blocks -/
def zAlt (B C : Nat) : Zone where
  S := fun w b => (B ≤ b ∧ b < w.heap.size) ∧ (C ≤ b → w.heap[b]? ≠ some zBox)
  lt := fun _ _ h => h.1.2
  up := fun _ _ _ h hb => ⟨⟨h.1.1, Nat.lt_of_lt_of_le h.1.2 hb.size⟩, fun hc => by rw [hb.block _ h.1.2]; exact h.2 hc⟩
/-- a slice of texts, of values, and a value, in a zone -/
def TSV (z : Zone) (m : List ByteArray) (w : World) (v : Value) : Prop := ∃ A cap, v = .slice A m.length cap ∧ TS w (z.S w) A m
def VSV (z : Zone) (l : List VT) (w : World) (v : Value) : Prop := ∃ A cap, v = .slice A l.length cap ∧ VS w (z.S w) A l.length (fun j => l.getD j .leaf)
def VLV (z : Zone) (t : VT) (w : World) (v : Value) : Prop := VAL w (z.S w) t v
theorem TSV.up {z : Zone} {m : List ByteArray} {w w' : World} {v : Value} (h : TSV z m w v) (hb : Below w.heap.size w w') : TSV z m w' v := by
  obtain ⟨A, cap, e, h⟩ := h
  exact ⟨A, cap, e, (h.on (z.lt w) hb).mono (fun b h => z.up _ _ b h hb)⟩
theorem VSV.up {z : Zone} {l : List VT} {w w' : World} {v : Value} (h : VSV z l w v) (hb : Below w.heap.size w w') : VSV z l w' v := by
  obtain ⟨A, cap, e, h⟩ := h
  exact ⟨A, cap, e, (h.on (z.lt w) hb).mono (fun b h => z.up _ _ b h hb)⟩
theorem VLV.up {z : Zone} {t : VT} {w w' : World} {v : Value} (h : VLV z t w v) (hb : Below w.heap.size w w') : VLV z t w' v := (VAL.on h (z.lt w) hb).mono (fun b h => z.up _ _ b h hb)
/-- behind a store into an empty box -/
theorem VLV.put {B C : Nat} {t : VT} {w : World} {v : Value} (h : VLV (zAlt B C) t w v) {g : Nat} (hg : C ≤ g) (hx : BX w g (.int .i64 0) (.bool false) (.string ⟨#[]⟩) (.slice none 0 0) (.slice none 0 0)) (u0 u1 u2 u3 u4 : Value) : VLV (zNew B) t (five w g u0 u1 u2 u3 u4) v :=
  (VAL.same (five_same w g u0 u1 u2 u3 u4 (fun b hb e => hb.2 (by rw [e]; exact hg) (by rw [e]; exact hx))) h).mono (fun b hb => ⟨hb.1.1, Nat.lt_of_lt_of_eq hb.1.2 (five_size w g _ _ _ _ _).symm⟩)
/-- a value is made, out of what is new -/
def Mk (z : Zone) (t : VT) (w : World) (e : Ending) (w' : World) : Prop := ∃ v, e = .returned v ∧ VLV z t w' v ∧ Below w.heap.size w w'
theorem VR.cons {w : World} {S : Nat → Prop} {t : VT} {l : List VT} {v0 v1 v2 v3 v4 : Value} {xs : List Value} (hv : VAL w S t (.agg #[v0, v1, v2, v3, v4])) (h : VR w S xs l.length (fun j => l.getD j .leaf)) : VR w S (v0 :: v1 :: v2 :: v3 :: v4 :: xs) (t :: l).length (fun j => (t :: l).getD j .leaf) := by
  refine ⟨by have := h.1; simp [this]; omega, fun j hj => ?_⟩
  cases j with
  | zero => exact ⟨v0, v1, v2, v3, v4, rfl, rfl, rfl, rfl, rfl, hv⟩
  | succ j =>
    obtain ⟨u0, u1, u2, u3, u4, e0, e1, e2, e3, e4, hu⟩ := h.2 j (by simpa using hj)
    refine ⟨u0, u1, u2, u3, u4, ?_, ?_, ?_, ?_, ?_, hu⟩
    · rw [show (j + 1) * 5 = j * 5 + 5 by omega]; exact e0
    · rw [show (j + 1) * 5 + 1 = j * 5 + 1 + 5 by omega]; exact e1
    · rw [show (j + 1) * 5 + 2 = j * 5 + 2 + 5 by omega]; exact e2
    · rw [show (j + 1) * 5 + 3 = j * 5 + 3 + 5 by omega]; exact e3
    · rw [show (j + 1) * 5 + 4 = j * 5 + 4 + 5 by omega]; exact e4
theorem VR.none (w : World) (S : Nat → Prop) : VR w S [] ([] : List VT).length (fun j => ([] : List VT).getD j .leaf) := ⟨rfl, fun j hj => by simp at hj⟩
end Go.Proofs.YtfploakafbnigaaGreatDoor
namespace Go.Proofs.YtfploakafbnigaaGreatDoor
open Go.RowKit Val
set_option linter.unusedVariables false
set_option linter.unusedSimpArgs false
end Go.Proofs.YtfploakafbnigaaGreatDoor
namespace Go.Proofs.YtfploakafbnigaaGreatDoorW.PrintLast
open Go.RowKit
set_option linter.unusedVariables false
set_option linter.unusedSimpArgs false
section
variable {P : Program} {ops : Array Oper} {Q : Exit → Act → World → Prop} {md : Region.Mode} {T : Bool × List (List Nat × List Nat)} {B : List Nat} {O : List Nat}
/-- what each operation gives: its number, its slot, what is told of it -/
abbrev Tolds := List (Nat × Tmp × (World → Value → Prop))
def Tolds.put (L : Tolds) (V : Nat → Value) : List (Nat × Tmp × Value) := L.map fun e => (e.1, e.2.1, V e.1)
def Tolds.up (L : Tolds) : Prop := ∀ e ∈ L, ∀ w w' v, e.2.2 w v → Below w.heap.size w w' → e.2.2 w' v
/-- each number once, each slot once, none of them s -/
def Tolds.ok (L : Tolds) (s : Nat) : Bool := decide (L.map (·.1)).Nodup && decide (L.map (·.2.1)).Nodup && (L.map (·.1)).all fun i => !(i == s)
end
end Go.Proofs.YtfploakafbnigaaGreatDoorW.PrintLast
namespace Go.Proofs.YtfploakafbnigaaGreatDoor
open Go.RowKit Val YtfploakafbnigaaGreatDoorW.PrintLast
set_option linter.unusedVariables false
set_option linter.unusedSimpArgs false
def BXV (B : Nat) (w : World) (v : Value) : Prop := ∃ g, v = .pointer (some ⟨g, 0, none⟩) ∧ B ≤ g ∧ BX w g (.int .i64 0) (.bool false) (.string ⟨#[]⟩) (.slice none 0 0) (.slice none 0 0)
theorem BXV.up {B : Nat} {w w' : World} {v : Value} (h : BXV B w v) (hb : Below w.heap.size w w') : BXV B w' v := by
  obtain ⟨g, e, h1, h2⟩ := h
  exact ⟨g, e, h1, h2.on hb⟩
def EZ (B : Nat) (l : List VT.Ed) (A : Option Addr) (w : World) : Prop := ES w ((zNew B).S w) A l
theorem EZ.up {B : Nat} {l : List VT.Ed} {A : Option Addr} {w w' : World} (h : EZ B l A w) (hb : Below w.heap.size w w') : EZ B l A w' := ES.same h (below_same hb (fun _ h => h.2)) (fun b h => (zNew B).up _ _ b h hb)
theorem EZ.two {B : Nat} {l0 l1 : VT.Ed} {A : Option Addr} {w : World} (h : EZ B [l0, l1] A w) : ∃ b o, A = some ⟨b, o, none⟩ ∧ w.cell? ⟨b, o, none⟩ = some (.bool l0.whole) ∧ w.cell? ⟨b, o + 1, none⟩ = some (.int .i64 l0.a) ∧ w.cell? ⟨b, o + 2, none⟩ = some (.int .i64 l0.b) ∧ w.cell? ⟨b, o + 3, none⟩ = some (.int .i64 l0.c) ∧ w.cell? ⟨b, o + 4, none⟩ = some (.int .i64 l0.d) ∧ w.cell? ⟨b, o + 5, none⟩ = some (.string l0.text) ∧
    w.cell? ⟨b, o + 6, none⟩ = some (.bool l1.whole) ∧ w.cell? ⟨b, o + 7, none⟩ = some (.int .i64 l1.a) ∧ w.cell? ⟨b, o + 8, none⟩ = some (.int .i64 l1.b) ∧ w.cell? ⟨b, o + 9, none⟩ = some (.int .i64 l1.c) ∧ w.cell? ⟨b, o + 10, none⟩ = some (.int .i64 l1.d) ∧ w.cell? ⟨b, o + 11, none⟩ = some (.string l1.text) := by
  rcases h with h | ⟨b, o, e, -, hc⟩
  · cases h
  · obtain ⟨a0, a1, a2, a3, a4, a5⟩ := hc 0 (by simp)
    obtain ⟨b0, b1, b2, b3, b4, b5⟩ := hc 1 (by simp)
    exact ⟨b, o, e, a0, a1, a2, a3, a4, a5, b0, b1, b2, b3, b4, b5⟩
end Go.Proofs.YtfploakafbnigaaGreatDoor
