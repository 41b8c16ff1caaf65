/-
  Layer 28, the walks: beside a pool: a row of numbers that grows, an array of three.
-/
import Derived.Test.YtfploakafbnigaaGreatDoorCPoolPP
import Derived.Deep.AppendLies
namespace Go.Proofs.YtfploakafbnigaaGreatDoor
open Go.RowKit Val Pl
set_option linter.unusedVariables false
set_option linter.unusedSimpArgs false
/-- the operation that stands next is that append -/
theorem isAp {P : Program} {ops : Array Oper} {rest : List Oper} {o : Oper} {a : Act} {w : World} {Q : Exit → Act → World → Prop} (s x : Operand) (t : TypeId) (ho : o.op = .call { callee := .builtin .append, args := #[s, x], argTypes := #[t, t] }) (h : wpList P ops Q (o :: rest) a w) : wpList P ops Q (o :: rest) a w := h
theorem info28 : (Tryz.prog.info? 3).map (fun i => (i.zero, i.size, i.bytes)) = some (some (.int .i64 0), 1, 8) := by kernel_rfl
/-- what stands beside the pool: the array's block, the row's -/
def KW (gp : Nat) (v : Value) (b : Nat) : Prop := b = gp ∨ v.ownBlock = some b
section
variable {α : Type} {enc : α → Value} {Tj TP TW : TypeId} {B pb gp : Nat} {K : Nat → Prop} {s : Pst α} {w w' : World} {v v' : Value}
theorem PP.grown (p : PP enc Tj TP TW B pb (KW gp v) s w) (hg : w.grownBy w' v.ownBlock) (hB : ∀ b, v.ownBlock = some b → B ≤ b) (hat : ∀ b, v'.ownBlock = some b → (v.ownBlock = some b ∨ b = w.heap.size) ∧ b < w'.heap.size) : PP enc Tj TP TW B pb (KW gp v') s w' := by
  obtain ⟨h, e, p, k⟩ := p
  have hS : ∀ b, h.S b → v.ownBlock ≠ some b := fun b hb e => (k b (.inr e)).1 hb
  refine ⟨h, e, p.same (fun b hb => hg.block b (p.S_lt hb) (fun e => hS b hb e.symm)) (p.ml.same (hg.block _ p.ml.lt (fun e => by have := hB _ e.symm; have := p.lo; omega))), fun b hb => ?_⟩
  rcases hb with rfl | hb
  · exact ⟨(k b (.inl rfl)).1, Nat.lt_of_lt_of_le (k b (.inl rfl)).2 hg.size⟩
  · obtain ⟨h1, h2⟩ := hat b hb
    refine ⟨fun hs => ?_, h2⟩
    rcases h1 with h1 | h1
    · exact (k b (.inr h1)).1 hs
    · have := p.S_lt hs; omega
theorem own_lt {w : World} {base e size n : Nat} {v : Value} {xs : List Value} (h : w.ownsRow base e size v n xs) {b : Nat} (hb : v.ownBlock = some b) : base ≤ b ∧ b < w.heap.size := h.lt b hb
end
theorem setCell_but (w : World) (g k : Nat) (u : Value) : But g w (w.setCell ⟨g, k, none⟩ u) := ⟨rfl, rfl, rfl, by simp [World.setCell], fun b _ hb => Below.heap_setCell w _ u b hb⟩
/-- a store into a row of one's own -/
theorem want_put {w : World} {B e g n cap k : Nat} {xs : List Value} (h : w.ownsRow B e 1 (.slice (some ⟨g, 0, none⟩) n cap) n xs) (hk : k < n) (u : Value) : (w.setCell ⟨g, k, none⟩ u).ownsRow B e 1 (.slice (some ⟨g, 0, none⟩) n cap) n (xs.set k u) := by
  refine ⟨by rw [List.length_set]; exact h.1, ?_⟩
  rcases h.2 with ⟨h1, _⟩ | ⟨g', cap', cur, e1, hb, hg, hn, hm, hs, ht⟩
  · cases h1
  · injection e1 with e1 e2 e3
    injection e1 with e1
    injection e1 with e1
    subst e1 e3
    refine .inr ⟨g, cap, cur.setIfInBounds k u, rfl, hb, BK.set (w := w) hg _ _ rfl, hn, hm, by simpa using hs, ?_⟩
    rw [Array.toList_setIfInBounds, List.take_set, ht]
theorem want_cell {w : World} {B e g n cap : Nat} {xs : List Value} (h : w.ownsRow B e 1 (.slice (some ⟨g, 0, none⟩) n cap) n xs) {k : Nat} {u : Value} (hk : xs[k]? = some u) : w.cell? ⟨g, k, none⟩ = some u := by
  rcases h.2 with ⟨h1, _⟩ | ⟨g', cap', cur, e1, hb, hg, hn, hm, hs, ht⟩
  · cases h1
  · injection e1 with e1 e2 e3
    injection e1 with e1
    injection e1 with e1
    subst e1 e3
    rw [cell_of_row w g k _ _ _ hg]
    have hl : k < n * 1 := by have := (List.getElem?_eq_some_iff.1 hk).1; rw [h.1] at this; exact this
    rw [← ht, List.getElem?_take, if_pos hl] at hk
    simpa using hk
/-- a row of numbers, as a value: nothing yet, or a block's head -/
theorem want_form {w : World} {B e n : Nat} {v : Value} {xs : List Value} (h : w.ownsRow B e 1 v n xs) : ∃ A cap, v = .slice A n cap ∧ (0 < n → ∃ g, A = some ⟨g, 0, none⟩) := by
  rcases h.2 with ⟨rfl, h0⟩ | ⟨g, cap, cur, rfl, _⟩
  · exact ⟨none, 0, by rw [h0], fun h => by omega⟩
  · exact ⟨_, cap, rfl, fun _ => ⟨g, rfl⟩⟩
def wantL (l : List Int) : List Value := l.map (Value.int .i64)
theorem wantL_len (l : List Int) : (wantL l).length = l.length := by simp [wantL]
end Go.Proofs.YtfploakafbnigaaGreatDoor
