/-
  Joined texts: MkPair MkTold.
-/
import Derived.Test.YtfploakafbnigaaGreatDoorCPkNb
import Derived.Test.YtfploakafbnigaaGreatDoorCPkParA
import Derived.Test.YtfploakafbnigaaGreatDoorCPkParC
namespace Go.Proofs.YtfploakafbnigaaGreatDoor
open Go.RowKit Val
set_option linter.unusedVariables false
set_option linter.unusedSimpArgs false
/-- a pair: a name, and a value in a zone -/
def PRV (z : Zone) (p : ByteArray × VT) (w : World) (v : Value) : Prop := ∃ v0 v1 v2 v3 v4, v = .agg #[.string p.1, v0, v1, v2, v3, v4] ∧ VLV z p.2 w (.agg #[v0, v1, v2, v3, v4])
theorem PRV.up {z : Zone} {p : ByteArray × VT} {w w' : World} {v : Value} (h : PRV z p w v) (hb : Below w.heap.size w w') : PRV z p w' v := by
  obtain ⟨v0, v1, v2, v3, v4, e, h⟩ := h
  exact ⟨v0, v1, v2, v3, v4, e, h.up hb⟩
/-- a row of cells, six a pair -/
def PRC (w : World) (S : Nat → Prop) (xs : List Value) (l : List (ByteArray × VT)) : Prop :=
  xs.length = l.length * 6 ∧ ∀ j (h : j < l.length), ∃ v0 v1 v2 v3 v4, xs[j * 6]? = some (.string l[j].1) ∧ xs[j * 6 + 1]? = some v0 ∧ xs[j * 6 + 2]? = some v1 ∧ xs[j * 6 + 3]? = some v2 ∧ xs[j * 6 + 4]? = some v3 ∧ xs[j * 6 + 5]? = some v4 ∧ VAL w S l[j].2 (.agg #[v0, v1, v2, v3, v4])
theorem PRC.nil (w : World) (S : Nat → Prop) : PRC w S [] [] := ⟨rfl, fun j hj => by simp at hj⟩
theorem PRC.cons {w : World} {S : Nat → Prop} {p : ByteArray × VT} {l : List (ByteArray × VT)} {v0 v1 v2 v3 v4 : Value} {xs : List Value} (hv : VAL w S p.2 (.agg #[v0, v1, v2, v3, v4])) (h : PRC w S xs l) : PRC w S (.string p.1 :: v0 :: v1 :: v2 :: v3 :: v4 :: xs) (p :: l) := by
  refine ⟨by have := h.1; simp [this]; omega, fun j hj => ?_⟩
  cases j with
  | zero => exact ⟨v0, v1, v2, v3, v4, rfl, rfl, rfl, rfl, rfl, rfl, hv⟩
  | succ j =>
    obtain ⟨u0, u1, u2, u3, u4, e0, e1, e2, e3, e4, e5, hu⟩ := h.2 j (by simpa using hj)
    refine ⟨u0, u1, u2, u3, u4, ?_, ?_, ?_, ?_, ?_, ?_, hu⟩
    · rw [show (j + 1) * 6 = j * 6 + 6 by omega]; exact e0
    · rw [show (j + 1) * 6 + 1 = j * 6 + 1 + 6 by omega]; exact e1
    · rw [show (j + 1) * 6 + 2 = j * 6 + 2 + 6 by omega]; exact e2
    · rw [show (j + 1) * 6 + 3 = j * 6 + 3 + 6 by omega]; exact e3
    · rw [show (j + 1) * 6 + 4 = j * 6 + 4 + 6 by omega]; exact e4
    · rw [show (j + 1) * 6 + 5 = j * 6 + 5 + 6 by omega]; exact e5
theorem PRC.same {w w' : World} {S S' : Nat → Prop} {xs : List Value} {l : List (ByteArray × VT)} (h : PRC w S xs l) (hs : Same S w w') (hS : ∀ b, S b → S' b) : PRC w' S' xs l :=
  ⟨h.1, fun j hj => by
    obtain ⟨v0, v1, v2, v3, v4, e0, e1, e2, e3, e4, e5, hv⟩ := h.2 j hj
    exact ⟨v0, v1, v2, v3, v4, e0, e1, e2, e3, e4, e5, (hv.same hs).mono hS⟩⟩
theorem PRC.append {w : World} {S : Nat → Prop} {xs ys : List Value} {l m : List (ByteArray × VT)} (h : PRC w S xs l) (k : PRC w S ys m) : PRC w S (xs ++ ys) (l ++ m) := by
  have hl := h.1
  refine ⟨by rw [List.length_append, List.length_append, hl, k.1]; omega, fun j hj => ?_⟩
  by_cases e : j < l.length
  · obtain ⟨v0, v1, v2, v3, v4, e0, e1, e2, e3, e4, e5, hv⟩ := h.2 j e
    have g : ∀ k u, xs[k]? = some u → (xs ++ ys)[k]? = some u := fun k u hk => by
      rw [List.getElem?_append_left (by rcases Nat.lt_or_ge k xs.length with h | h; exact h; rw [List.getElem?_eq_none h] at hk; cases hk)]; exact hk
    have el : (l ++ m)[j] = l[j] := List.getElem_append_left e
    rw [el]
    exact ⟨v0, v1, v2, v3, v4, g _ _ e0, g _ _ e1, g _ _ e2, g _ _ e3, g _ _ e4, g _ _ e5, hv⟩
  · have hj' : j - l.length < m.length := by simp at hj; omega
    obtain ⟨v0, v1, v2, v3, v4, e0, e1, e2, e3, e4, e5, hv⟩ := k.2 (j - l.length) hj'
    have g : ∀ i u, ys[(j - l.length) * 6 + i]? = some u → (xs ++ ys)[j * 6 + i]? = some u := fun i u hk => by
      rw [List.getElem?_append_right (by omega), show j * 6 + i - xs.length = (j - l.length) * 6 + i by omega]; exact hk
    have el : (l ++ m)[j] = m[j - l.length] := List.getElem_append_right (by omega)
    rw [el]
    exact ⟨v0, v1, v2, v3, v4, g 0 _ e0, g 1 _ e1, g 2 _ e2, g 3 _ e3, g 4 _ e4, g 5 _ e5, hv⟩
/-- a slice of pairs, in a zone -/
def PSV (z : Zone) (l : List (ByteArray × VT)) (w : World) (v : Value) : Prop := ∃ A cap, v = .slice A l.length cap ∧
  (l = [] ∨ ∃ b off, A = some ⟨b, off, none⟩ ∧ z.S w b ∧ ∀ j (h : j < l.length), ∃ v0 v1 v2 v3 v4, w.cell? ⟨b, off + j * 6, none⟩ = some (.string l[j].1) ∧ w.cell? ⟨b, off + j * 6 + 1, none⟩ = some v0 ∧ w.cell? ⟨b, off + j * 6 + 2, none⟩ = some v1 ∧ w.cell? ⟨b, off + j * 6 + 3, none⟩ = some v2 ∧ w.cell? ⟨b, off + j * 6 + 4, none⟩ = some v3 ∧ w.cell? ⟨b, off + j * 6 + 5, none⟩ = some v4 ∧ VLV z l[j].2 w (.agg #[v0, v1, v2, v3, v4]))
theorem PSV.up {z : Zone} {l : List (ByteArray × VT)} {w w' : World} {v : Value} (h : PSV z l w v) (hb : Below w.heap.size w w') : PSV z l w' v := by
  obtain ⟨A, cap, e, h⟩ := h
  refine ⟨A, cap, e, ?_⟩
  rcases h with h | ⟨b, off, h1, h2, h3⟩
  · exact .inl h
  · refine .inr ⟨b, off, h1, z.up _ _ b h2 hb, fun j hj => ?_⟩
    obtain ⟨v0, v1, v2, v3, v4, e0, e1, e2, e3, e4, e5, hv⟩ := h3 j hj
    have g : ∀ o, w'.cell? ⟨b, o, none⟩ = w.cell? ⟨b, o, none⟩ := fun o => hb.cell (p := ⟨b, o, none⟩) (z.lt _ _ h2)
    exact ⟨v0, v1, v2, v3, v4, (g _).trans e0, (g _).trans e1, (g _).trans e2, (g _).trans e3, (g _).trans e4, (g _).trans e5, hv.up hb⟩
/-- what a call has made is new to whoever called -/
theorem Copied.mk {B : Nat} {t : VT} {w w' : World} {e : Ending} (h : Copied t w e w') (hB : B ≤ w.heap.size) : Mk (zNew B) t w e w' := by
  obtain ⟨v, he, hv, hb⟩ := h
  exact ⟨v, he, hv.mono (fun b hb => ⟨Nat.le_trans hB hb.1, hb.2⟩), hb⟩
/-- an object's loop: the result's place, v's box, both rows of its own -/
structure ObM (w : World) (nv ov cn co : Value) (kn ko : Nat) (ln lo : List Value) (W : World) : Prop where
  res : BX W w.heap.size (.int .i64 0) (.bool false) (.string ⟨#[]⟩) (.slice none 0 0) (.slice none 0 0)
  out : BX W (w.heap.size + 1) (.int .i64 5) (.bool false) (.string ⟨#[]⟩) ov nv
  below : Below w.heap.size w W
  nown : W.ownsRow (w.heap.size + 2) 9 1 cn kn ln
  oown : W.ownsRow (w.heap.size + 2) 25 5 co ko lo
  apart : ∀ k, cn.ownBlock = some k → co.ownBlock ≠ some k
  size : w.heap.size + 2 ≤ W.heap.size
theorem ObM.on {w : World} {nv ov cn co : Value} {kn ko : Nat} {ln lo : List Value} {W W' : World} (h : ObM w nv ov cn co kn ko ln lo W) (hb : Below W.heap.size W W') : ObM w nv ov cn co kn ko ln lo W' where
  res := h.res.on hb
  out := h.out.on hb
  below := h.below.trans (hb.mono h.below.size)
  nown := own_on h.nown hb
  oown := own_on h.oown hb
  apart := h.apart
  size := Nat.le_trans h.size hb.size
theorem ObM.grow_n {w : World} {nv ov cn co : Value} {kn ko g cap : Nat} {ln lo ln' : List Value} {W W' : World} (h : ObM w nv ov cn co kn ko ln lo W) (hown : W'.ownsRow (w.heap.size + 2) 9 1 (.slice (some ⟨g, 0, none⟩) (kn + 1) cap) (kn + 1) ln')
    (hg : W.grownBy W' cn.ownBlock) (hat : cn.ownBlock = some g ∨ g = W.heap.size) : ObM w nv ov (.slice (some ⟨g, 0, none⟩) (kn + 1) cap) co (kn + 1) ko ln' lo W' where
  res := h.res.same (hg.block _ (by have := h.size; omega) (own_ne h.nown (by omega)))
  out := h.out.same (hg.block _ (by have := h.size; omega) (own_ne h.nown (by omega)))
  below := h.below.grown hg h.below.size (fun k hk => by have := (h.nown.lt k hk).1; omega)
  nown := hown
  oown := h.oown.kept hg (by
    cases hc : co.ownBlock with
    | none => exact .inl rfl
    | some k => exact .inr (fun e => h.apart k e.symm hc))
  apart := fun k hk e => by
    have hk' : g = k := by simpa [Value.ownBlock] using hk
    subst hk'
    rcases hat with h4 | h4
    · exact h.apart g h4 e
    · have := (h.oown.lt g e).2; omega
  size := Nat.le_trans h.size hg.size
theorem ObM.grow_o {w : World} {nv ov cn co : Value} {kn ko g cap : Nat} {ln lo lo' : List Value} {W W' : World} (h : ObM w nv ov cn co kn ko ln lo W) (hown : W'.ownsRow (w.heap.size + 2) 25 5 (.slice (some ⟨g, 0, none⟩) (ko + 1) cap) (ko + 1) lo')
    (hg : W.grownBy W' co.ownBlock) (hat : co.ownBlock = some g ∨ g = W.heap.size) : ObM w nv ov cn (.slice (some ⟨g, 0, none⟩) (ko + 1) cap) kn (ko + 1) ln lo' W' where
  res := h.res.same (hg.block _ (by have := h.size; omega) (own_ne h.oown (by omega)))
  out := h.out.same (hg.block _ (by have := h.size; omega) (own_ne h.oown (by omega)))
  below := h.below.grown hg h.below.size (fun k hk => by have := (h.oown.lt k hk).1; omega)
  nown := h.nown.kept hg (by
    cases hc : cn.ownBlock with
    | none => exact .inl rfl
    | some k => exact .inr (fun e => h.apart k hc e.symm))
  oown := hown
  apart := fun k hk e => by
    have hk' : g = k := by simpa [Value.ownBlock] using e
    subst hk'
    rcases hat with h4 | h4
    · exact h.apart g hk h4
    · have := (h.nown.lt g hk).2; omega
  size := Nat.le_trans h.size hg.size
/-- both fields are stored anew -/
theorem ObM.put {w : World} {nv ov cn co : Value} {kn ko : Nat} {ln lo : List Value} {W : World} (h : ObM w nv ov cn co kn ko ln lo W) : ObM w cn co cn co kn ko ln lo ((W.setCell ⟨w.heap.size + 1, 4, none⟩ cn).setCell ⟨w.heap.size + 1, 3, none⟩ co) where
  res := (h.res.far (p := ⟨w.heap.size + 1, 4, none⟩) cn (by show w.heap.size ≠ w.heap.size + 1; omega)).far (p := ⟨w.heap.size + 1, 3, none⟩) co (by show w.heap.size ≠ w.heap.size + 1; omega)
  out := (h.out.set4 cn).set3 co
  below := (h.below.setCell (p := ⟨w.heap.size + 1, 4, none⟩) (by show w.heap.size ≤ w.heap.size + 1; omega) _).setCell (p := ⟨w.heap.size + 1, 3, none⟩) (by show w.heap.size ≤ w.heap.size + 1; omega) _
  nown := own_far (own_far h.nown _ (by show w.heap.size + 1 < _; omega)) _ (by show w.heap.size + 1 < _; omega)
  oown := own_far (own_far h.oown _ (by show w.heap.size + 1 < _; omega)) _ (by show w.heap.size + 1 < _; omega)
  apart := h.apart
  size := by simpa [World.setCell] using h.size
/-- a block beside both rows -/
structure TB (W : World) (cn co : Value) (q : Nat) (T : TypeId) (cs : Array Value) : Prop where
  bk : BK W q T cs
  n : cn.ownBlock ≠ some q
  o : co.ownBlock ≠ some q
theorem TB.on {W W' : World} {cn co : Value} {q : Nat} {T : TypeId} {cs : Array Value} (h : TB W cn co q T cs) (hb : Below W.heap.size W W') : TB W' cn co q T cs := ⟨h.bk.on hb, h.n, h.o⟩
theorem TB.grow_n {W W' : World} {cn co : Value} {q g n cap : Nat} {T : TypeId} {cs : Array Value} (h : TB W cn co q T cs) (hg : W.grownBy W' cn.ownBlock) (hat : cn.ownBlock = some g ∨ g = W.heap.size) : TB W' (.slice (some ⟨g, 0, none⟩) n cap) co q T cs :=
  ⟨(hg.block _ h.bk.lt (fun e => h.n e.symm)).trans h.bk, fun e => by
    have e' : g = q := by simpa [Value.ownBlock] using e
    subst e'
    rcases hat with h4 | h4
    · exact h.n h4
    · have := h.bk.lt; omega, h.o⟩
theorem TB.grow_o {W W' : World} {cn co : Value} {q g n cap : Nat} {T : TypeId} {cs : Array Value} (h : TB W cn co q T cs) (hg : W.grownBy W' co.ownBlock) (hat : co.ownBlock = some g ∨ g = W.heap.size) : TB W' cn (.slice (some ⟨g, 0, none⟩) n cap) q T cs :=
  ⟨(hg.block _ h.bk.lt (fun e => h.o e.symm)).trans h.bk, h.n, fun e => by
    have e' : g = q := by simpa [Value.ownBlock] using e
    subst e'
    rcases hat with h4 | h4
    · exact h.o h4
    · have := h.bk.lt; omega⟩
theorem TB.new {W : World} {w : World} {nv ov cn co : Value} {kn ko : Nat} {ln lo : List Value} (h : ObM w nv ov cn co kn ko ln lo W) (T : TypeId) (cs : Array Value) : TB (W.alloc (.cells cs T)) cn co W.heap.size T cs :=
  ⟨BK.new W T cs, fun e => by have := (h.nown.lt _ e).2; omega, fun e => by have := (h.oown.lt _ e).2; omega⟩
end Go.Proofs.YtfploakafbnigaaGreatDoor
namespace Go.Proofs.YtfploakafbnigaaGreatDoorW.PrintLast
open Go.RowKit
set_option linter.unusedVariables false
set_option linter.unusedSimpArgs false
section
variable {P : Program} {ops : Array Oper} {Q : Exit → Act → World → Prop} {md : Region.Mode} {T : Bool × List (List Nat × List Nat)} {B : List Nat} {O : List Nat}
end
end Go.Proofs.YtfploakafbnigaaGreatDoorW.PrintLast
