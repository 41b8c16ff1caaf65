/-
  A region that draws its order and only makes, each operation's blocks told apart: what it made lies between the heap's sizes ahead of it and behind it.
-/
import Derived.Test.YtfploakafbnigaaGreatDoorPkMkA
namespace Go.Proofs.YtfploakafbnigaaGreatDoorW.PrintLast
open Go.RowKit
set_option linter.unusedVariables false
set_option linter.unusedSimpArgs false
section
variable {P : Program} {ops : Array Oper} {Q : Exit → Act → World → Prop} {md : Region.Mode} {T : Bool × List (List Nat × List Nat)} {B : List Nat} {O : List Nat}
/-- what each operation gives, between two sizes of the heap -/
abbrev ToldsZ := List (Nat × Tmp × (Nat → Nat → World → Value → Prop))
def ToldsZ.flat (L : ToldsZ) : Tolds := L.map fun e => (e.1, e.2.1, fun _ _ => True)
def ToldsZ.up (L : ToldsZ) : Prop := ∀ e ∈ L, ∀ lo hi w w' v, hi ≤ w.heap.size → e.2.2 lo hi w v → Below w.heap.size w w' → e.2.2 lo hi w' v
/-- what is told while b says what has come up -/
def FactsZ (L : ToldsZ) (w0 : World) (b : Nat → Bool) (V : Nat → Value) (lo hi : Nat → Nat) (w : World) : Prop :=
  (∀ e ∈ L, b e.1 = true → w0.heap.size ≤ lo e.1 ∧ lo e.1 ≤ hi e.1 ∧ hi e.1 ≤ w.heap.size ∧ e.2.2 (lo e.1) (hi e.1) w (V e.1)) ∧
  (∀ e ∈ L, ∀ e' ∈ L, b e.1 = true → b e'.1 = true → e.1 ≠ e'.1 → hi e.1 ≤ lo e'.1 ∨ hi e'.1 ≤ lo e.1)
def ToldZ (R : (Nat → Bool) → Act → World → Prop) (L : ToldsZ) (s : Nat) (w0 : World) (a0 : Act) (b : Nat → Bool) (a : Act) (w : World) : Prop :=
  (b s = false → ∃ (V : Nat → Value) (lo hi : Nat → Nat), a = putSel a0 b (L.flat.put V) ∧ Below w0.heap.size w0 w ∧ FactsZ L w0 b V lo hi w) ∧ (b s = true → R b a w)
theorem toldZ_step {R : (Nat → Bool) → Act → World → Prop} {L : ToldsZ} {s : Nat} {w0 : World} {a0 : Act} (k : Nat) {i : Nat} {t : Tmp} {F : Nat → Nat → World → Value → Prop} (hok : L.flat.ok s = true) (hup : L.up) (hL : L[k]? = some (i, t, F)) (hs : (O.contains s && (B.getD s 0).testBit i) = true)
    (h : ∀ b V lo hi a w, a = putSel a0 b (L.flat.put V) → Below w0.heap.size w0 w → FactsZ L w0 b V lo hi w → (∀ j, (O.contains j && (B.getD i 0).testBit j) = true → b j = true) →
      ∃ oi, ops[i]? = some oi ∧ oi.dst = some t ∧ ∀ K : Act → World → Prop, (∀ v w', Below w.heap.size w w' → F w.heap.size w'.heap.size w' v → K (a.put (some t) v) w') → if Region.wanted oi (yielded ops a.tmps) = true then Oper.wp P oi a w K Q else K (a.put (some t) undef) w) :
    StepAt P ops Q B O (ToldZ R L s w0 a0) i := by
  intro b a w hI hb hon hoff
  have hbs := hoff s hs
  obtain ⟨V, lo, hi, ha, hB, hF⟩ := hI.1 hbs
  obtain ⟨oi, ho, hd, hK⟩ := h b V lo hi a w ha hB hF hon
  refine ⟨oi, ho, fun K hKs => ?_⟩
  have := hK K (fun v w' hb' hv => hKs _ _ ?_)
  · rw [hd]; exact this
  have hL' : L.flat[k]? = some (i, t, fun _ _ => True) := by simp [ToldsZ.flat, hL]
  have hok' := hok
  unfold Tolds.ok at hok'
  simp only [Bool.and_eq_true, decide_eq_true_eq] at hok'
  have hk : k < L.flat.length := (List.getElem?_eq_some_iff.1 hL').1
  have hsi : s ≠ i := by
    have h3 := List.all_eq_true.1 hok'.2 i (List.mem_map.2 ⟨(i, t, fun _ _ => True), List.mem_of_getElem? hL', rfl⟩)
    intro e
    rw [e] at h3
    simp at h3
  have hone : ∀ e ∈ L, e.1 = i → e = (i, t, F) := by
    intro e he hei
    obtain ⟨m, hm⟩ := List.mem_iff_getElem?.1 he
    have hm' : (L.flat.map (·.1))[m]? = some e.1 := by simp [ToldsZ.flat, hm]
    have hk' : (L.flat.map (·.1))[k]? = some i := by simp [hL']
    have hmk : k = m := (List.getElem?_inj (i := k) (j := m) (by simpa using hk) hok'.1.1).1 (by rw [hk', hm', hei])
    subst hmk
    rw [hL] at hm
    injection hm with hm
    exact hm.symm
  refine ⟨fun _ => ⟨fun j => if j = i then v else V j, fun j => if j = i then w.heap.size else lo j, fun j => if j = i then w'.heap.size else hi j, ?_, hB.trans (hb'.mono hB.size), ?_, ?_⟩, fun h' => ?_⟩
  · subst ha
    refine (putSel_upk (v0 := V i) k hb (by simp [Tolds.put, hL']) (told_set V k hok hL' v) ?_)
    have hne : ∀ m, m ≠ k → ∀ e, L.flat[m]? = some e → e.1 ≠ i ∧ e.2.1 ≠ t := by
      intro m hm e he
      refine ⟨fun e2 => hm ?_, fun e2 => hm ?_⟩
      · exact ((List.getElem?_inj (i := k) (j := m) (l := L.flat.map (·.1)) (by simpa using hk) hok'.1.1).1 (by simp [hL', he, e2])).symm
      · exact ((List.getElem?_inj (i := k) (j := m) (l := L.flat.map (·.2.1)) (by simpa using hk) hok'.1.2).1 (by simp [hL', he, e2])).symm
    rw [List.all_append, Bool.and_eq_true]
    constructor
    · rw [List.all_eq_true]
      intro x hx
      obtain ⟨m, hm, rfl⟩ := List.getElem_of_mem hx
      have hm1 : m < k ∧ m < L.flat.length := by simp [Tolds.put] at hm; omega
      have := hne m (by omega) L.flat[m] (List.getElem?_eq_getElem hm1.2)
      simp [Tolds.put, this.1, this.2]
    · rw [List.all_eq_true]
      intro x hx
      obtain ⟨m, hm, rfl⟩ := List.getElem_of_mem hx
      have hm1 : k + 1 + m < L.flat.length := by simp [Tolds.put] at hm; omega
      have := hne (k + 1 + m) (by omega) L.flat[k + 1 + m] (List.getElem?_eq_getElem hm1)
      simp [Tolds.put, this.1, this.2]
  · intro e he hbe
    by_cases hei : e.1 = i
    · have := hone e he hei
      subst this
      simp only [if_true]
      exact ⟨hB.size, hb'.size, Nat.le_refl _, hv⟩
    · simp only [if_neg hei]
      rw [up_ne hei] at hbe
      obtain ⟨h1, h2, h3, h4⟩ := hF.1 e he hbe
      exact ⟨h1, h2, Nat.le_trans h3 hb'.size, hup e he _ _ _ _ _ h3 h4 hb'⟩
  · intro e he e' he' hbe hbe' hne
    by_cases hei : e.1 = i
    · have hei' : e'.1 ≠ i := fun h => hne (hei.trans h.symm)
      simp only [if_pos hei, if_neg hei']
      rw [up_ne hei'] at hbe'
      exact .inr (hF.1 e' he' hbe').2.2.1
    · rw [up_ne hei] at hbe
      by_cases hei' : e'.1 = i
      · simp only [if_neg hei, if_pos hei']
        exact .inl (hF.1 e he hbe).2.2.1
      · simp only [if_neg hei, if_neg hei']
        rw [up_ne hei'] at hbe'
        exact hF.2 e he e' he' hbe hbe' hne
  · rw [up_ne hsi, hbs] at h'
    cases h'
theorem putSel_all {b : Nat → Bool} : ∀ (M : List (Nat × Tmp × Value)) (a0 : Act), (∀ e ∈ M, b e.1 = true) → putSel a0 b M = putSel a0 (fun _ => true) M := by
  intro M
  induction M with
  | nil => intro a0 _; rfl
  | cons e M ih =>
    intro a0 hM
    unfold putSel
    rw [hM e List.mem_cons_self]
    exact ih _ (fun x hx => hM x (List.mem_cons_of_mem _ hx))
/-- behind what is listed: one operation, then a last one -/
def Two (Q : Exit → Act → World → Prop) (P1 : Act → World → Prop) (s2 : Nat) (b : Nat → Bool) (a : Act) (w : World) : Prop := (b s2 = false → P1 a w) ∧ (b s2 = true → Q .normal a w)
theorem two_first {P1 : Act → World → Prop} {L : ToldsZ} {s s2 : Nat} {w0 : World} {a0 : Act} (hall : ∀ e ∈ L, (O.contains e.1 && (B.getD s 0).testBit e.1) = true) (hs0 : (O.contains s && (B.getD s 0).testBit s) = false)
    (h2 : (O.contains s2 && (B.getD s2 0).testBit s) = true) (hne : s2 ≠ s)
    (h : ∀ V lo hi a w, a = putSel a0 (fun _ => true) (L.flat.put V) → Below w0.heap.size w0 w → FactsZ L w0 (fun _ => true) V lo hi w →
      ∃ oi, ops[s]? = some oi ∧ ∀ K : Act → World → Prop, (∀ a' w', P1 a' w' → K a' w') → if Region.wanted oi (yielded ops a.tmps) = true then Oper.wp P oi a w K Q else K (a.put oi.dst undef) w) :
    StepAt P ops Q B O (ToldZ (Two Q P1 s2) L s w0 a0) s := by
  intro b a w hI hb hon hoff
  obtain ⟨V, lo, hi, ha, hB, hF⟩ := hI.1 hb
  have hbt : ∀ e ∈ L, b e.1 = true := fun e he => hon _ (hall e he)
  have ha2 : a = putSel a0 (fun _ => true) (L.flat.put V) := by
    rw [ha]
    refine putSel_all _ _ (fun e he => ?_)
    obtain ⟨x, hx, rfl⟩ := List.mem_map.1 he
    obtain ⟨y, hy, rfl⟩ := List.mem_map.1 hx
    exact hbt y hy
  obtain ⟨oi, ho, hK⟩ := h V lo hi a w ha2 hB ⟨fun e he _ => hF.1 e he (hbt e he), fun e he e' he' _ _ => hF.2 e he e' he' (hbt e he) (hbt e' he')⟩
  refine ⟨oi, ho, fun K hKs => hK K fun a' w' hp => hKs _ _ ⟨fun h' => ?_, fun _ => ⟨fun _ => hp, fun h' => ?_⟩⟩⟩
  · rw [up_self] at h'; cases h'
  · rw [up_ne hne, hoff s2 h2] at h'; cases h'
theorem two_last {P1 : Act → World → Prop} {L : ToldsZ} {s s2 : Nat} {w0 : World} {a0 : Act} (hs : (O.contains s && (B.getD s2 0).testBit s) = true) (hne : s ≠ s2)
    (h : ∀ a w, P1 a w → ∃ oi, ops[s2]? = some oi ∧ ∀ K : Act → World → Prop, (∀ a' w', Q .normal a' w' → K a' w') → if Region.wanted oi (yielded ops a.tmps) = true then Oper.wp P oi a w K Q else K (a.put oi.dst undef) w) :
    StepAt P ops Q B O (ToldZ (Two Q P1 s2) L s w0 a0) s2 := by
  intro b a w hI hb hon hoff
  have hbs := hon s hs
  obtain ⟨oi, ho, hK⟩ := h a w ((hI.2 hbs).1 hb)
  refine ⟨oi, ho, fun K hKs => hK K fun a' w' hp => hKs _ _ ⟨fun h' => ?_, fun _ => ⟨fun h' => ?_, fun _ => hp⟩⟩⟩
  · rw [up_ne hne, hbs] at h'; cases h'
  · rw [up_self] at h'; cases h'
theorem two_end {P1 : Act → World → Prop} {L : ToldsZ} {s s2 : Nat} {w0 : World} {a0 : Act} (hs : O.contains s = true) (h2 : O.contains s2 = true) : ∀ b a w, (∀ j, O.contains j = true → b j = true) → ToldZ (Two Q P1 s2) L s w0 a0 b a w → Q .normal a w :=
  fun b a w hb h => (h.2 (hb s hs)).2 (hb s2 h2)
/-- behind what is listed: nothing more -/
theorem toldZ_last {L : ToldsZ} {s : Nat} {w0 : World} {a0 : Act} (hall : ∀ e ∈ L, (O.contains e.1 && (B.getD s 0).testBit e.1) = true)
    (h : ∀ V lo hi a w, a = putSel a0 (fun _ => true) (L.flat.put V) → Below w0.heap.size w0 w → FactsZ L w0 (fun _ => true) V lo hi w →
      ∃ oi, ops[s]? = some oi ∧ ∀ K : Act → World → Prop, (∀ a' w', Q .normal a' w' → K a' w') → if Region.wanted oi (yielded ops a.tmps) = true then Oper.wp P oi a w K Q else K (a.put oi.dst undef) w) :
    StepAt P ops Q B O (ToldZ (fun _ a w => Q .normal a w) L s w0 a0) s := by
  intro b a w hI hb hon hoff
  obtain ⟨V, lo, hi, ha, hB, hF⟩ := hI.1 hb
  have hbt : ∀ e ∈ L, b e.1 = true := fun e he => hon _ (hall e he)
  have ha2 : a = putSel a0 (fun _ => true) (L.flat.put V) := by
    rw [ha]
    refine putSel_all _ _ (fun e he => ?_)
    obtain ⟨x, hx, rfl⟩ := List.mem_map.1 he
    obtain ⟨y, hy, rfl⟩ := List.mem_map.1 hx
    exact hbt y hy
  obtain ⟨oi, ho, hK⟩ := h V lo hi a w ha2 hB ⟨fun e he _ => hF.1 e he (hbt e he), fun e he e' he' _ _ => hF.2 e he e' he' (hbt e he) (hbt e' he')⟩
  refine ⟨oi, ho, fun K hKs => hK K fun a' w' hp => hKs _ _ ⟨fun h' => ?_, fun _ => hp⟩⟩
  rw [up_self] at h'; cases h'
theorem toldZ_begin {R : (Nat → Bool) → Act → World → Prop} {L : ToldsZ} {s : Nat} {w0 : World} {a0 : Act} : ToldZ R L s w0 a0 (fun _ => false) a0 w0 := by
  obtain ⟨V, h1, h2, -⟩ := (told_begin (Q := fun _ _ _ => True) (L := L.flat) (s := s) (w0 := w0) (a0 := a0)).1 rfl
  exact ⟨fun _ => ⟨V, fun _ => 0, fun _ => 0, h1, h2, (fun _ _ h => by simp at h), (fun _ _ _ _ h => by simp at h)⟩, fun h => by simp at h⟩
end
end Go.Proofs.YtfploakafbnigaaGreatDoorW.PrintLast
