/-
  Layer 12, the walks: a list that is written, element by element.
-/
import Derived.Test.YtfploakafbnigaaGreatDoorCRpcAwake
import Derived.Test.YtfploakafbnigaaGreatDoorCRpcSameM
import Derived.Test.YtfploakafbnigaaGreatDoorCRpcTold
namespace Go.Proofs.YtfploakafbnigaaGreatDoor
open Go.RowKit Val
set_option linter.unusedVariables false
set_option linter.unusedSimpArgs false
/-- a row of values in a block from B on, below M, that may be written -/
def WRow (B M : Nat) (A : Option Addr) (n : Nat) (w : World) : Prop :=
  n = 0 ∨ ∃ b off, A = some ⟨b, off, none⟩ ∧ B ≤ b ∧ b < M ∧ (∀ j, j < n → ∃ u, w.cell? ⟨b, off + j * 5, none⟩ = some u) ∧ ∀ o, w.frozen? ⟨b, o, none⟩ = false
theorem set_but (w : World) (b o : Nat) (u : Value) : But b w (w.setCell ⟨b, o, none⟩ u) := ⟨rfl, rfl, rfl, by simp [World.setCell], fun k _ hk => Below.heap_setCell w _ u k hk⟩
theorem WRow.set {B M : Nat} {A : Option Addr} {n : Nat} {w : World} (h : WRow B M A n w) (p : Addr) (u : Value) : WRow B M A n (w.setCell p u) := by
  rcases h with h0 | ⟨b, off, e, h1, h2, h3, h4⟩
  · exact .inl h0
  · refine .inr ⟨b, off, e, h1, h2, fun j hj => ?_, fun o => (World.frozen?_setCell _ _ _ _).trans (h4 o)⟩
    obtain ⟨v, hv⟩ := h3 j hj
    by_cases hp : p = ⟨b, off + j * 5, none⟩
    · subst hp; exact ⟨u, World.cell?_setCell_same _ _ _ hv⟩
    · exact ⟨v, (World.cell?_setCell_other _ _ _ _ hp).trans hv⟩
theorem WRow.on {B M : Nat} {A : Option Addr} {n : Nat} {w w' : World} (h : WRow B M A n w) (hb : Below w.heap.size w w') (hM : M ≤ w.heap.size) : WRow B M A n w' := by
  rcases h with h0 | ⟨b, off, e, h1, h2, h3, h4⟩
  · exact .inl h0
  · refine .inr ⟨b, off, e, h1, h2, fun j hj => ?_, fun o => (hb.frozen (p := ⟨b, o, none⟩) (Nat.lt_of_lt_of_le h2 hM)).trans (h4 o)⟩
    obtain ⟨v, hv⟩ := h3 j hj
    exact ⟨v, (hb.cell (p := ⟨b, off + j * 5, none⟩) (Nat.lt_of_lt_of_le h2 hM)).trans hv⟩
theorem WRow.but {B M g : Nat} {A : Option Addr} {n : Nat} {w w' : World} (h : WRow B M A n w) (hb : But g w w') (hM : M ≤ w.heap.size) (hg : g < B ∨ M ≤ g) : WRow B M A n w' := by
  rcases h with h0 | ⟨b, off, e, h1, h2, h3, h4⟩
  · exact .inl h0
  · have hh : w'.heap[b]? = w.heap[b]? := hb.block b (Nat.lt_of_lt_of_le h2 hM) (by omega)
    refine .inr ⟨b, off, e, h1, h2, fun j hj => ?_, fun o => (World.frozen?_of_block (w := w) (a := ⟨b, o, none⟩) hh).trans (h4 o)⟩
    obtain ⟨v, hv⟩ := h3 j hj
    exact ⟨v, (World.cell?_of_block (w := w) (a := ⟨b, off + j * 5, none⟩) hh).trans hv⟩
/-- what stands while a list behind N0 is written -/
def Rest (w : World) (N0 : Nat) (t u : VT) (va vb vp vq : Value) (L : List Blk) (W : World) : Prop :=
  Below w.heap.size w W ∧ ML W ∧ VLV (zLt w.heap.size) t W va ∧ VLV (zLt w.heap.size) u W vb ∧ VLV (zLt N0) t W vp ∧ VLV (zLt N0) u W vq ∧ Blks L W
theorem Rest.but {w : World} {N0 : Nat} {t u : VT} {va vb vp vq : Value} {L : List Blk} {W W' : World} {g : Nat} (h : Rest w N0 t u va vb vp vq L W) (hM : ML w) (hb : But g W W') (hw : w.heap.size ≤ N0) (hN : N0 ≤ g) (hL : ∀ x ∈ L, x.g ≠ g) : Rest w N0 t u va vb vp vq L W' :=
  ⟨hb.below h.1 (by omega) h.1.size, ML.but2 hM h.2.1 hb (by omega), h.2.2.1.butL hb (by omega), h.2.2.2.1.butL hb (by omega), h.2.2.2.2.1.butL hb hN, h.2.2.2.2.2.1.butL hb hN, h.2.2.2.2.2.2.but hb hL⟩
theorem load_blk {P : Program} {ops : Array Oper} {rest : List Oper} {o : Oper} {a : Act} {w : World} {Q : Exit → Act → World → Prop} (hw : Region.wanted o (yielded ops a.tmps) = true) (ty : TypeId) (x : Operand) (ho : o.op = .load ty x)
    (g : Nat) (hx : a.eval x = .pointer (some ⟨g, 0, none⟩)) {T : TypeId} {cs : Array Value} (hg : BK w g T cs) (d : TypeDesc)
    (hu : P.underlying ty = some d) (hd : (match d with | .struct _ | .array _ _ => true | _ => false) = true) (hi : (P.info? ty).map (·.size) = some cs.size)
    (h : wpList P ops Q rest (a.put o.dst (.agg cs)) w) : wpList P ops Q (o :: rest) a w :=
  Go.BigFrame.wpList_want hw fun _ hK => wp_load_row ty x ho g hx T cs (0, 0) d hg hu hd hi (hK _ _ h)
end Go.Proofs.YtfploakafbnigaaGreatDoor
