/-
  Joined texts: NumRefOf NumRefOfAny NumRefSame NumRefInt.
-/
import Derived.Test.YtfploakafbnigaaGreatDoorCPkNumC
import Derived.WalkKit
import Derived.WalkSpells
import Derived.WalkLawsBesides
import Derived.BigQuiet
import Derived.Deep.QuietTactic
import Derived.Deep.DeepCutAuto
import Derived.Deep.CutBlock
import Derived.Deep.RegionLaw
import Derived.Deep.AppendLies
import Derived.Deep.DeepFit
import Derived.Lib.Hide
import Derived.Lib.ConvBytes
namespace Go.Proofs.YtfploakafbnigaaGreatDoor
open Go.RowKit Num
set_option linter.unusedVariables false
set_option linter.unusedSimpArgs false
/-! ### what the loop over the bytes comes to -/
structure St where
  D : List UInt8
  bh : Nat
  pt : Bool
def St.step (s : St) (c : UInt8) : St := if c = 46 then ⟨s.D, s.bh, true⟩ else if isD c then ⟨s.D ++ [c], if s.pt then s.bh + 1 else s.bh, s.pt⟩ else s
/-! ### memory -/
def PB (w : World) (g : Nat) (a b c : Value) : Prop := w.heap[g]? = some (.cells #[a, b, c] 221 (0, 0))
theorem PB.c0 {w : World} {g : Nat} {a b c : Value} (h : PB w g a b c) : w.cell? ⟨g, 0, none⟩ = some a := by rw [cell_of_row w g 0 _ _ _ h]; rfl
theorem PB.c1 {w : World} {g : Nat} {a b c : Value} (h : PB w g a b c) : w.cell? ⟨g, 1, none⟩ = some b := by rw [cell_of_row w g 1 _ _ _ h]; rfl
theorem PB.c2 {w : World} {g : Nat} {a b c : Value} (h : PB w g a b c) : w.cell? ⟨g, 2, none⟩ = some c := by rw [cell_of_row w g 2 _ _ _ h]; rfl
theorem PB.fr {w : World} {g : Nat} {a b c : Value} (h : PB w g a b c) (i : Nat) : w.frozen? ⟨g, i, none⟩ = false := by unfold PB at h; simp [World.frozen?, h]
theorem PB.lt {w : World} {g : Nat} {a b c : Value} (h : PB w g a b c) : g < w.heap.size := (Array.getElem?_eq_some_iff.1 h).1
theorem PB.on {w w' : World} {g : Nat} {a b c : Value} (h : PB w g a b c) (hb : w'.heap[g]? = w.heap[g]?) : PB w' g a b c := hb.trans h
theorem PB.set0 {w : World} {g : Nat} {a b c : Value} (h : PB w g a b c) (z : Value) : PB (w.setCell ⟨g, 0, none⟩ z) g z b c := by
  unfold PB at h ⊢
  simp [World.setCell, Array.getElem?_modify, h]
theorem PB.set1 {w : World} {g : Nat} {a b c : Value} (h : PB w g a b c) (z : Value) : PB (w.setCell ⟨g, 1, none⟩ z) g a z c := by
  unfold PB at h ⊢
  simp [World.setCell, Array.getElem?_modify, h]
theorem PB.set2 {w : World} {g : Nat} {a b c : Value} (h : PB w g a b c) (z : Value) : PB (w.setCell ⟨g, 2, none⟩ z) g a b z := by
  unfold PB at h ⊢
  simp [World.setCell, Array.getElem?_modify, h]
theorem RB.set {w : World} {B g i : Nat} {A : Option Addr} {l : List UInt8} {x : Value} (h : RB w B A l) (hg : B ≤ g) : RB (w.setCell ⟨g, i, none⟩ x) B A l :=
  h.on ((Below.refl B w).setCell (p := ⟨g, i, none⟩) hg x)
/-- A row of bytes of one's own: in a block from lo on. -/
def RL (w : World) (lo : Nat) (a : Option Addr) (l : List UInt8) : Prop :=
  l = [] ∨ ∃ b off, a = some ⟨b, off, none⟩ ∧ lo ≤ b ∧ b < w.heap.size ∧ ∀ (j : Nat) (h : j < l.length), w.cell? ⟨b, off + j, none⟩ = some (.int .u8 (l[j].toNat))
theorem RL.rb {w : World} {lo : Nat} {a : Option Addr} {l : List UInt8} (h : RL w lo a l) : RB w w.heap.size a l := by
  rcases h with h | ⟨b, off, e, _, hb, hc⟩
  · exact .inl h
  · exact .inr ⟨b, off, e, hb, hc⟩
theorem RL.set {w : World} {lo g i : Nat} {a : Option Addr} {l : List UInt8} {x : Value} (h : RL w lo a l) (hg : g < lo) : RL (w.setCell ⟨g, i, none⟩ x) lo a l := by
  rcases h with h | ⟨b, off, e, hl, hb, hc⟩
  · exact .inl h
  · refine .inr ⟨b, off, e, hl, by simpa [World.setCell] using hb, fun j hj => ?_⟩
    rw [World.cell?_of_block (w := w) (a := ⟨b, off + j, none⟩) (by rw [Below.heap_setCell _ _ _ _ (by show b ≠ g; omega)])]
    exact hc j hj
theorem RL.head {w : World} {lo : Nat} {A : Option Addr} {x : UInt8} {r : List UInt8} (h : RL w lo A (x :: r)) : ∃ b off, A = some ⟨b, off, none⟩ ∧ w.cell? ⟨b, off, none⟩ = some (.int .u8 x.toNat) := h.rb.head
theorem RL.last {w : World} {lo : Nat} {A : Option Addr} {x : UInt8} {r : List UInt8} (h : RL w lo A (r ++ [x])) : ∃ b off, A = some ⟨b, off, none⟩ ∧ w.cell? ⟨b, off + r.length, none⟩ = some (.int .u8 x.toNat) := by
  obtain ⟨b, off, e, hc⟩ := h.rb.get r.length (by simp)
  refine ⟨b, off, e, ?_⟩
  rw [hc]
  simp
/-- What Of gives. -/
def RefPost (o : Option V) (e : Ending) (w' : World) : Prop := match o with
  | none => ∃ bl A n c pw, e = .returned (.tuple #[.agg #[.bool bl, .slice A n c, .int .i64 pw], .bool false])
  | some v => ∃ A c, e = .returned (.tuple #[.agg #[.bool v.below, .slice A v.digits.length c, .int .i64 v.power], .bool true]) ∧ RB w' w'.heap.size A v.digits
end Go.Proofs.YtfploakafbnigaaGreatDoor
namespace Go.Proofs.YtfploakafbnigaaGreatDoor
open Go.RowKit Num
set_option linter.unusedVariables false
set_option linter.unusedSimpArgs false
theorem RB.drop {w : World} {B b : Nat} {l : List UInt8} (h : RB w B (some ⟨b, 0, none⟩) l) (k : Nat) : RB w B (some ⟨b, k, none⟩) (l.drop k) := by
  rcases h with h | ⟨b', off', e, hb, hc⟩
  · subst h; exact .inl (by simp)
  · have e' := Option.some.inj e
    simp only [Addr.mk.injEq] at e'
    obtain ⟨rfl, rfl, -⟩ := e'
    refine .inr ⟨b, k, rfl, hb, fun j hj => ?_⟩
    rw [List.length_drop] at hj
    have := hc (k + j) (by omega)
    rw [Nat.zero_add] at this
    rw [this, List.getElem_drop]
end Go.Proofs.YtfploakafbnigaaGreatDoor
namespace Go.Proofs.YtfploakafbnigaaGreatDoor
open Go.RowKit Num
set_option linter.unusedVariables false
set_option linter.unusedSimpArgs false
theorem RefPost.none {e : Ending} {w : World} (h : RefPost none e w) : ∃ bl A n c pw, e = .returned (.tuple #[.agg #[.bool bl, .slice A n c, .int .i64 pw], .bool false]) := h
theorem RefPost.some {e : Ending} {w : World} {v : V} (h : RefPost (some v) e w) : ∃ A c, e = .returned (.tuple #[.agg #[.bool v.below, .slice A v.digits.length c, .int .i64 v.power], .bool true]) ∧ RB w w.heap.size A v.digits := h
end Go.Proofs.YtfploakafbnigaaGreatDoor
namespace Go.Proofs.YtfploakafbnigaaGreatDoor
open Go.RowKit Num
set_option linter.unusedVariables false
set_option linter.unusedSimpArgs false
end Go.Proofs.YtfploakafbnigaaGreatDoor
