/-
  Joined texts: ParRef1 ParRef2 ParRd ParRd2 ParOpen ParCancel ParMem.
-/
import Derived.Test.YtfploakafbnigaaGreatDoorCPkValA
import Derived.Test.YtfploakafbnigaaGreatDoorCPkValB
import Derived.Test.YtfploakafbnigaaGreatDoorCPkNumD
import Derived.BigQuiet
import Derived.Deep.QuietTactic
import Derived.Test.YtfploakafbnigaaGreatDoorCPkNumC
namespace Go.Proofs.YtfploakafbnigaaGreatDoor
open Go.RowKit Val
set_option linter.unusedVariables false
set_option linter.unusedSimpArgs false
/-- the parts of what a Get has found -/
theorem VAL.parts {w : World} {S : Nat → Prop} {t : VT} {v : Value} (h : VAL w S t v) : ∃ A n cap A' n' cap', v = .agg #[.int .i64 t.kind, .bool t.is, .string t.text, .slice A n cap, .slice A' n' cap'] := by
  obtain ⟨k, i, x, n, c, m, rfl⟩ := h.root
  obtain ⟨A, cap, A', cap', e, -⟩ := h
  exact ⟨_, _, _, _, _, _, e⟩
end Go.Proofs.YtfploakafbnigaaGreatDoor
namespace Go.Proofs.YtfploakafbnigaaGreatDoor
open Go.RowKit Val
set_option linter.unusedVariables false
set_option linter.unusedSimpArgs false
end Go.Proofs.YtfploakafbnigaaGreatDoor
namespace Go.Proofs.YtfploakafbnigaaGreatDoor
open Go.RowKit Val
set_option linter.unusedVariables false
set_option linter.unusedSimpArgs false
/-- the reader lies in block g -/
def RDB (w : World) (g : Nat) (b : Bool) : Prop := w.heap[g]? = some (.cells #[.bool b] 156 (0, 0))
theorem RDB.lt {w : World} {g : Nat} {b : Bool} (h : RDB w g b) : g < w.heap.size := (Array.getElem?_eq_some_iff.1 h).1
theorem RDB.c {w : World} {g : Nat} {b : Bool} (h : RDB w g b) : w.cell? ⟨g, 0, none⟩ = some (.bool b) := by rw [cell_of_row w g 0 _ _ _ h]; rfl
theorem RDB.fr {w : World} {g : Nat} {b : Bool} (h : RDB w g b) : w.frozen? ⟨g, 0, none⟩ = false := by unfold RDB at h; simp [World.frozen?, h]
theorem RDB.on {w w' : World} {g : Nat} {b : Bool} (h : RDB w g b) (hb : Below w.heap.size w w') : RDB w' g b := (hb.block g h.lt).trans h
theorem RDB.set {w : World} {g : Nat} {b : Bool} (h : RDB w g b) (z : Bool) : RDB (w.setCell ⟨g, 0, none⟩ (.bool z)) g z := by
  unfold RDB at h ⊢
  simp [World.setCell, Array.getElem?_modify, h]
theorem RDB.new (w : World) (b : Bool) : RDB (w.alloc (.cells #[.bool b] 156)) w.heap.size b := heap_alloc_new w _
/-- but for block g nothing that was there has turned -/
structure But (g : Nat) (w w' : World) : Prop where
  os : w'.os = w.os
  tape : w'.tape = w.tape
  output : w'.output = w.output
  size : w.heap.size ≤ w'.heap.size
  block : ∀ k, k < w.heap.size → k ≠ g → w'.heap[k]? = w.heap[k]?
theorem But.of {g : Nat} {w w' : World} (h : Below w.heap.size w w') : But g w w' := ⟨h.os, h.tape, h.output, h.size, fun k hk _ => h.block k hk⟩
theorem But.trans {g : Nat} {w w1 w2 : World} (h : But g w w1) (k : But g w1 w2) : But g w w2 :=
  ⟨k.os.trans h.os, k.tape.trans h.tape, k.output.trans h.output, Nat.le_trans h.size k.size, fun b hb hg => (k.block b (Nat.lt_of_lt_of_le hb h.size) hg).trans (h.block b hb hg)⟩
theorem But.set (g : Nat) (w : World) (u : Value) : But g w (w.setCell ⟨g, 0, none⟩ u) := ⟨rfl, rfl, rfl, by simp [World.setCell], fun k _ hg => Below.heap_setCell w _ u k hg⟩
/-- from below a block that the call made -/
theorem But.below {g B : Nat} {w0 w w' : World} (h : But g w w') (hb : Below B w0 w) (hg : B ≤ g) (hB : B ≤ w.heap.size) : Below B w0 w' :=
  hb.trans ⟨h.os, h.tape, h.output, h.size, fun k hk => h.block k (by omega) (by omega)⟩
theorem But.same {g : Nat} {w w' : World} {S : Nat → Prop} (h : But g w w') (hS : ∀ b, S b → b < w.heap.size ∧ b ≠ g) : Same S w w' := fun b hb => h.block b (hS b hb).1 (hS b hb).2
theorem ML.but {g : Nat} {w w' : World} (h : ML w) (hb : But g w w') (hg : 1 ≠ g) : ML w' := by
  obtain ⟨m, hm⟩ := h
  exact ⟨m, (World.cell?_of_block (w := w) (hb.block _ (ML.lt ⟨m, hm⟩) hg)).trans hm⟩
theorem BX.but {w w' : World} {g g' : Nat} {v0 v1 v2 v3 v4 : Value} (h : BX w g' v0 v1 v2 v3 v4) (hb : But g w w') (hg : g' ≠ g) : BX w' g' v0 v1 v2 v3 v4 := (hb.block g' h.lt hg).trans h
theorem But.far {g : Nat} {w0 w : World} (h : But g w0 w) (p : Addr) (u : Value) (hg : w0.heap.size ≤ p.block) : But g w0 (w.setCell p u) :=
  ⟨h.os, h.tape, h.output, by simpa [World.setCell] using h.size, fun k hk hne => (Below.heap_setCell w p u k (by omega)).trans (h.block k hk hne)⟩
theorem But.five {g : Nat} {w0 w : World} (h : But g w0 w) (g' : Nat) (u0 u1 u2 u3 u4 : Value) (hg : w0.heap.size ≤ g') : But g w0 (five w g' u0 u1 u2 u3 u4) :=
  ((((h.far ⟨g', 0, none⟩ u0 hg).far ⟨g', 1, none⟩ u1 hg).far ⟨g', 2, none⟩ u2 hg).far ⟨g', 3, none⟩ u3 hg).far ⟨g', 4, none⟩ u4 hg
theorem RDB.far {w : World} {g : Nat} {b : Bool} (h : RDB w g b) {p : Addr} (u : Value) (hp : g ≠ p.block) : RDB (w.setCell p u) g b := (Below.heap_setCell w p u g hp).trans h
theorem RDB.five {w : World} {g : Nat} {b : Bool} (h : RDB w g b) (g' : Nat) (u0 u1 u2 u3 u4 : Value) (hg : g ≠ g') : RDB (five w g' u0 u1 u2 u3 u4) g b :=
  ((((h.far (p := ⟨g', 0, none⟩) u0 hg).far (p := ⟨g', 1, none⟩) u1 hg).far (p := ⟨g', 2, none⟩) u2 hg).far (p := ⟨g', 3, none⟩) u3 hg).far (p := ⟨g', 4, none⟩) u4 hg
end Go.Proofs.YtfploakafbnigaaGreatDoor
namespace Go.Proofs.YtfploakafbnigaaGreatDoor
open Go.RowKit Val
set_option linter.unusedVariables false
set_option linter.unusedSimpArgs false
/-- what may be called: strings.Index's variable; the reader is another block -/
structure Rd (w : World) (g : Nat) (b : Bool) : Prop where
  ml : ML w
  ne : 1 ≠ g
  rd : RDB w g b
theorem Rd.on {w w' : World} {g : Nat} {b : Bool} (h : Rd w g b) (hb : Below w.heap.size w w') : Rd w' g b := ⟨h.ml.on hb, h.ne, h.rd.on hb⟩
theorem Rd.but {w w' : World} {g : Nat} {b b' : Bool} (h : Rd w g b) (hb : But g w w') (hr : RDB w' g b') : Rd w' g b' := ⟨h.ml.but hb h.ne, h.ne, hr⟩
theorem VAL.but {w w' : World} {g : Nat} {S : Nat → Prop} {t : VT} {v : Value} (h : VAL w S t v) (hb : But g w w') (hS : ∀ b, S b → b < w.heap.size ∧ b ≠ g) : VAL w' S t v := h.same (hb.same hS)
end Go.Proofs.YtfploakafbnigaaGreatDoor
namespace Go.Proofs.YtfploakafbnigaaGreatDoor
open Go.RowKit Val
set_option linter.unusedVariables false
set_option linter.unusedSimpArgs false
end Go.Proofs.YtfploakafbnigaaGreatDoor
namespace Go.Proofs.YtfploakafbnigaaGreatDoor
open Go.RowKit Val
set_option linter.unusedVariables false
set_option linter.unusedSimpArgs false
end Go.Proofs.YtfploakafbnigaaGreatDoor
namespace Go.Proofs.YtfploakafbnigaaGreatDoor
open Go.RowKit Val
set_option linter.unusedVariables false
set_option linter.unusedSimpArgs false
/-- block g is just these cells -/
def BK (w : World) (g : Nat) (T : TypeId) (cs : Array Value) : Prop := w.heap[g]? = some (.cells cs T (0, 0))
theorem BK.c {w : World} {g : Nat} {T : TypeId} {cs : Array Value} (h : BK w g T cs) (i : Nat) {v : Value} (e : cs[i]? = some v) : w.cell? ⟨g, i, none⟩ = some v := by rw [cell_of_row w g i _ _ _ h]; exact e
theorem BK.fr {w : World} {g : Nat} {T : TypeId} {cs : Array Value} (h : BK w g T cs) (i : Nat) : w.frozen? ⟨g, i, none⟩ = false := by unfold BK at h; simp [World.frozen?, h]
theorem BK.lt {w : World} {g : Nat} {T : TypeId} {cs : Array Value} (h : BK w g T cs) : g < w.heap.size := (Array.getElem?_eq_some_iff.1 h).1
theorem BK.on {w w' : World} {g : Nat} {T : TypeId} {cs : Array Value} (h : BK w g T cs) (hb : Below w.heap.size w w') : BK w' g T cs := (hb.block g h.lt).trans h
theorem BK.but {w w' : World} {g g' : Nat} {T : TypeId} {cs : Array Value} (h : BK w g T cs) (hb : But g' w w') (hg : g ≠ g') : BK w' g T cs := (hb.block g h.lt hg).trans h
theorem BK.new (w : World) (T : TypeId) (cs : Array Value) : BK (w.alloc (.cells cs T)) w.heap.size T cs := heap_alloc_new w _
theorem BK.set {w : World} {g : Nat} {T : TypeId} {cs cs' : Array Value} (h : BK w g T cs) (i : Nat) (u : Value) (e : cs.setIfInBounds i u = cs') : BK (w.setCell ⟨g, i, none⟩ u) g T cs' := by
  subst e
  unfold BK at h ⊢
  simp [World.setCell, Array.getElem?_modify, h]
theorem BK.far {w : World} {g : Nat} {T : TypeId} {cs : Array Value} (h : BK w g T cs) {p : Addr} (u : Value) (hp : g ≠ p.block) : BK (w.setCell p u) g T cs := (Below.heap_setCell w p u g hp).trans h
theorem BX.bk {w : World} {g : Nat} {v0 v1 v2 v3 v4 : Value} (h : BX w g v0 v1 v2 v3 v4) : BK w g 25 #[v0, v1, v2, v3, v4] := h
/-- stores into block g, from place i on -/
def setAll (g : Nat) : World → Nat → List Value → World
  | w, _, [] => w
  | w, i, u :: r => setAll g (w.setCell ⟨g, i, none⟩ u) (i + 1) r
theorem setAll_same {S : Nat → Prop} (g : Nat) (us : List Value) (hS : ∀ b, S b → b ≠ g) : ∀ (w : World) (i : Nat), Same S w (setAll g w i us) := by
  induction us with
  | nil => intro w i b _; rfl
  | cons u r ih => intro w i; exact (set_same (p := ⟨g, i, none⟩) u hS).trans (ih _ _)
theorem setAll_below {B : Nat} {w0 : World} (g : Nat) (hg : B ≤ g) (us : List Value) : ∀ (w : World) (i : Nat), Below B w0 w → Below B w0 (setAll g w i us) := by
  induction us with
  | nil => intro w i h; exact h
  | cons u r ih => intro w i h; exact ih _ _ (h.setCell (p := ⟨g, i, none⟩) hg u)
theorem setAll_bk {g : Nat} {T : TypeId} : ∀ (us pre : List Value) (w : World) (cs : Array Value), BK w g T cs → cs.toList.take pre.length = pre → cs.size = pre.length + us.length → BK (setAll g w pre.length us) g T (pre ++ us).toArray := by
  intro us
  induction us with
  | nil =>
    intro pre w cs h hp hs
    have : cs.toList = pre := by rw [← hp, List.take_of_length_le (by simp; simp at hs; omega)]
    show BK w g T (pre ++ []).toArray
    rw [List.append_nil, ← this]
    simpa using h
  | cons u r ih =>
    intro pre w cs h hp hs
    have h1 := ih (pre ++ [u]) (w.setCell ⟨g, pre.length, none⟩ u) _ (h.set pre.length u rfl) (by
      simp only [Array.toList_setIfInBounds, List.length_append, List.length_singleton]
      rw [List.take_add_one, List.take_set_of_le (Nat.le_refl _), hp]
      simp at hs
      simp [List.getElem?_set]
      omega) (by simp at hs ⊢; omega)
    simp only [List.length_append, List.length_singleton, List.append_assoc, List.singleton_append] at h1
    exact h1
/-- all of a block is written anew -/
theorem BK.all {w : World} {g : Nat} {T : TypeId} {cs : Array Value} (h : BK w g T cs) (us : List Value) (hs : cs.size = us.length) : BK (setAll g w 0 us) g T us.toArray := by
  have := setAll_bk us [] w cs h rfl (by simpa using hs)
  simpa using this
theorem BK.two {w : World} {g : Nat} {T : TypeId} {cs : Array Value} (h : BK w g T cs) (hs : cs.size = 2) (u0 u1 : Value) :
    ((w.setCell ⟨g, 0, none⟩ u0).setCell ⟨g, 1, none⟩ u1).cell? ⟨g, 0, none⟩ = some u0 ∧ ((w.setCell ⟨g, 0, none⟩ u0).setCell ⟨g, 1, none⟩ u1).cell? ⟨g, 1, none⟩ = some u1 :=
  ⟨(h.all [u0, u1] hs).c 0 rfl, (h.all [u0, u1] hs).c 1 rfl⟩
theorem BK.six {w : World} {g : Nat} {T : TypeId} {cs : Array Value} (h : BK w g T cs) (hs : cs.size = 6) (u0 u1 u2 u3 u4 u5 : Value) :
    ((((((w.setCell ⟨g, 0, none⟩ u0).setCell ⟨g, 1, none⟩ u1).setCell ⟨g, 2, none⟩ u2).setCell ⟨g, 3, none⟩ u3).setCell ⟨g, 4, none⟩ u4).setCell ⟨g, 5, none⟩ u5).cell? ⟨g, 0, none⟩ = some u0 ∧ ((((((w.setCell ⟨g, 0, none⟩ u0).setCell ⟨g, 1, none⟩ u1).setCell ⟨g, 2, none⟩ u2).setCell ⟨g, 3, none⟩ u3).setCell ⟨g, 4, none⟩ u4).setCell ⟨g, 5, none⟩ u5).cell? ⟨g, 1, none⟩ = some u1 ∧ ((((((w.setCell ⟨g, 0, none⟩ u0).setCell ⟨g, 1, none⟩ u1).setCell ⟨g, 2, none⟩ u2).setCell ⟨g, 3, none⟩ u3).setCell ⟨g, 4, none⟩ u4).setCell ⟨g, 5, none⟩ u5).cell? ⟨g, 2, none⟩ = some u2 ∧ ((((((w.setCell ⟨g, 0, none⟩ u0).setCell ⟨g, 1, none⟩ u1).setCell ⟨g, 2, none⟩ u2).setCell ⟨g, 3, none⟩ u3).setCell ⟨g, 4, none⟩ u4).setCell ⟨g, 5, none⟩ u5).cell? ⟨g, 3, none⟩ = some u3 ∧ ((((((w.setCell ⟨g, 0, none⟩ u0).setCell ⟨g, 1, none⟩ u1).setCell ⟨g, 2, none⟩ u2).setCell ⟨g, 3, none⟩ u3).setCell ⟨g, 4, none⟩ u4).setCell ⟨g, 5, none⟩ u5).cell? ⟨g, 4, none⟩ = some u4 ∧ ((((((w.setCell ⟨g, 0, none⟩ u0).setCell ⟨g, 1, none⟩ u1).setCell ⟨g, 2, none⟩ u2).setCell ⟨g, 3, none⟩ u3).setCell ⟨g, 4, none⟩ u4).setCell ⟨g, 5, none⟩ u5).cell? ⟨g, 5, none⟩ = some u5 :=
  ⟨(h.all [u0, u1, u2, u3, u4, u5] hs).c 0 rfl, (h.all [u0, u1, u2, u3, u4, u5] hs).c 1 rfl, (h.all [u0, u1, u2, u3, u4, u5] hs).c 2 rfl, (h.all [u0, u1, u2, u3, u4, u5] hs).c 3 rfl, (h.all [u0, u1, u2, u3, u4, u5] hs).c 4 rfl, (h.all [u0, u1, u2, u3, u4, u5] hs).c 5 rfl⟩
end Go.Proofs.YtfploakafbnigaaGreatDoor
