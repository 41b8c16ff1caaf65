/-
  The same as RpcTold, what is told of an operation's value may speak of the values of those it waits for.
-/
import Derived.Test.YtfploakafbnigaaGreatDoorCRpcTold
namespace Go.Proofs.YtfploakafbnigaaGreatDoorW.PrintLast
open Go.RowKit
set_option linter.unusedVariables false
set_option linter.unusedSimpArgs false
section
variable {P : Program} {ops : Array Oper} {Q : Exit → Act → World → Prop} {md : Region.Mode} {T : Bool × List (List Nat × List Nat)} {B : List Nat} {O : List Nat}
theorem up_of {b : Nat → Bool} {i j : Nat} (h : b j = true) : (fun k => if k = i then true else b k) j = true := by
  by_cases e : j = i
  · simp [e]
  · simp [e, h]
/-- what each operation gives, between two sizes of the heap -/
abbrev ToldsV := List (Nat × Tmp × List Nat × ((Nat → Value) → Nat → Nat → World → Value → Prop))
def ToldsV.flat (L : ToldsV) : Tolds := L.map fun e => (e.1, e.2.1, fun _ _ => True)
def ToldsV.up (L : ToldsV) : Prop := ∀ e ∈ L, ∀ V V' lo hi w w' v, (∀ j ∈ e.2.2.1, V j = V' j) → hi ≤ w.heap.size → e.2.2.2 V lo hi w v → Below w.heap.size w w' → e.2.2.2 V' lo hi w' v
/-- what is told while b says what has come up -/
def FactsV (L : ToldsV) (w0 : World) (b : Nat → Bool) (V : Nat → Value) (lo hi : Nat → Nat) (w : World) : Prop :=
  (∀ e ∈ L, b e.1 = true → w0.heap.size ≤ lo e.1 ∧ lo e.1 ≤ hi e.1 ∧ hi e.1 ≤ w.heap.size ∧ e.2.2.2 V (lo e.1) (hi e.1) w (V e.1) ∧ ∀ j ∈ e.2.2.1, b j = true) ∧
  (∀ e ∈ L, ∀ e' ∈ L, b e.1 = true → b e'.1 = true → e.1 ≠ e'.1 → hi e.1 ≤ lo e'.1 ∨ hi e'.1 ≤ lo e.1)
def ToldV (R : (Nat → Bool) → Act → World → Prop) (L : ToldsV) (s : Nat) (w0 : World) (a0 : Act) (b : Nat → Bool) (a : Act) (w : World) : Prop :=
  (b s = false → ∃ (V : Nat → Value) (lo hi : Nat → Nat), a = putSel a0 b (L.flat.put V) ∧ Below w0.heap.size w0 w ∧ FactsV L w0 b V lo hi w) ∧ (b s = true → R b a w)
theorem putV_up {L : ToldsV} {s : Nat} (hok : L.flat.ok s = true) (k : Nat) {i : Nat} {t : Tmp} {D : List Nat} {F : (Nat → Value) → Nat → Nat → World → Value → Prop} (hL : L[k]? = some (i, t, D, F)) {b : Nat → Bool} (hb : b i = false) (a0 : Act) (V : Nat → Value) (v : Value) :
    (putSel a0 b (L.flat.put V)).put (some t) v = putSel a0 (fun j => if j = i then true else b j) (L.flat.put (fun j => if j = i then v else V j)) := by
  have hL' : L.flat[k]? = some (i, t, fun _ _ => True) := by simp [ToldsV.flat, hL]
  have hok' := hok
  unfold Tolds.ok at hok'
  simp only [Bool.and_eq_true, decide_eq_true_eq] at hok'
  have hk : k < L.flat.length := (List.getElem?_eq_some_iff.1 hL').1
  refine (putSel_upk (v0 := V i) k hb (by simp [Tolds.put, hL']) (told_set V k hok hL' v) ?_)
  have hne : ∀ m, m ≠ k → ∀ e, L.flat[m]? = some e → e.1 ≠ i ∧ e.2.1 ≠ t := by
    intro m hm e he
    refine ⟨fun e2 => hm ?_, fun e2 => hm ?_⟩
    · exact ((List.getElem?_inj (i := k) (j := m) (l := L.flat.map (·.1)) (by simpa using hk) hok'.1.1).1 (by simp [hL', he, e2])).symm
    · exact ((List.getElem?_inj (i := k) (j := m) (l := L.flat.map (·.2.1)) (by simpa using hk) hok'.1.2).1 (by simp [hL', he, e2])).symm
  rw [List.all_append, Bool.and_eq_true]
  constructor
  · rw [List.all_eq_true]
    intro x hx
    obtain ⟨m, hm, rfl⟩ := List.getElem_of_mem hx
    have hm1 : m < k ∧ m < L.flat.length := by simp [Tolds.put] at hm; omega
    have := hne m (by omega) L.flat[m] (List.getElem?_eq_getElem hm1.2)
    simp [Tolds.put, this.1, this.2]
  · rw [List.all_eq_true]
    intro x hx
    obtain ⟨m, hm, rfl⟩ := List.getElem_of_mem hx
    have hm1 : k + 1 + m < L.flat.length := by simp [Tolds.put] at hm; omega
    have := hne (k + 1 + m) (by omega) L.flat[k + 1 + m] (List.getElem?_eq_getElem hm1)
    simp [Tolds.put, this.1, this.2]
theorem toldV_step {R : (Nat → Bool) → Act → World → Prop} {L : ToldsV} {s : Nat} {w0 : World} {a0 : Act} (k : Nat) {i : Nat} {t : Tmp} {D : List Nat} {F : (Nat → Value) → Nat → Nat → World → Value → Prop} (hok : L.flat.ok s = true) (hup : L.up) (hL : L[k]? = some (i, t, D, F)) (hD : D.all (fun j => O.contains j && (B.getD i 0).testBit j) = true) (hs : (O.contains s && (B.getD s 0).testBit i) = true)
    (h : ∀ b V lo hi a w, a = putSel a0 b (L.flat.put V) → Below w0.heap.size w0 w → FactsV L w0 b V lo hi w → (∀ j, (O.contains j && (B.getD i 0).testBit j) = true → b j = true) →
      ∃ oi, ops[i]? = some oi ∧ oi.dst = some t ∧ ∀ K : Act → World → Prop, (∀ v w', Below w.heap.size w w' → F (fun j => if j = i then v else V j) w.heap.size w'.heap.size w' v → K (a.put (some t) v) w') → if Region.wanted oi (yielded ops a.tmps) = true then Oper.wp P oi a w K Q else K (a.put (some t) undef) w) :
    StepAt P ops Q B O (ToldV R L s w0 a0) i := by
  intro b a w hI hb hon hoff
  have hbs := hoff s hs
  obtain ⟨V, lo, hi, ha, hB, hF⟩ := hI.1 hbs
  obtain ⟨oi, ho, hd, hK⟩ := h b V lo hi a w ha hB hF hon
  refine ⟨oi, ho, fun K hKs => ?_⟩
  have := hK K (fun v w' hb' hv => hKs _ _ ?_)
  · rw [hd]; exact this
  have hL' : L.flat[k]? = some (i, t, fun _ _ => True) := by simp [ToldsV.flat, hL]
  have hok' := hok
  unfold Tolds.ok at hok'
  simp only [Bool.and_eq_true, decide_eq_true_eq] at hok'
  have hk : k < L.flat.length := (List.getElem?_eq_some_iff.1 hL').1
  have hsi : s ≠ i := by
    have h3 := List.all_eq_true.1 hok'.2 i (List.mem_map.2 ⟨(i, t, fun _ _ => True), List.mem_of_getElem? hL', rfl⟩)
    intro e
    rw [e] at h3
    simp at h3
  have hone : ∀ e ∈ L, e.1 = i → e = (i, t, D, F) := by
    intro e he hei
    obtain ⟨m, hm⟩ := List.mem_iff_getElem?.1 he
    have hm' : (L.flat.map (·.1))[m]? = some e.1 := by simp [ToldsV.flat, hm]
    have hk' : (L.flat.map (·.1))[k]? = some i := by simp [hL']
    have hmk : k = m := (List.getElem?_inj (i := k) (j := m) (by simpa using hk) hok'.1.1).1 (by rw [hk', hm', hei])
    subst hmk
    rw [hL] at hm
    injection hm with hm
    exact hm.symm
  refine ⟨fun _ => ⟨fun j => if j = i then v else V j, fun j => if j = i then w.heap.size else lo j, fun j => if j = i then w'.heap.size else hi j, ?_, hB.trans (hb'.mono hB.size), ?_, ?_⟩, fun h' => ?_⟩
  · subst ha
    refine (putSel_upk (v0 := V i) k hb (by simp [Tolds.put, hL']) (told_set V k hok hL' v) ?_)
    have hne : ∀ m, m ≠ k → ∀ e, L.flat[m]? = some e → e.1 ≠ i ∧ e.2.1 ≠ t := by
      intro m hm e he
      refine ⟨fun e2 => hm ?_, fun e2 => hm ?_⟩
      · exact ((List.getElem?_inj (i := k) (j := m) (l := L.flat.map (·.1)) (by simpa using hk) hok'.1.1).1 (by simp [hL', he, e2])).symm
      · exact ((List.getElem?_inj (i := k) (j := m) (l := L.flat.map (·.2.1)) (by simpa using hk) hok'.1.2).1 (by simp [hL', he, e2])).symm
    rw [List.all_append, Bool.and_eq_true]
    constructor
    · rw [List.all_eq_true]
      intro x hx
      obtain ⟨m, hm, rfl⟩ := List.getElem_of_mem hx
      have hm1 : m < k ∧ m < L.flat.length := by simp [Tolds.put] at hm; omega
      have := hne m (by omega) L.flat[m] (List.getElem?_eq_getElem hm1.2)
      simp [Tolds.put, this.1, this.2]
    · rw [List.all_eq_true]
      intro x hx
      obtain ⟨m, hm, rfl⟩ := List.getElem_of_mem hx
      have hm1 : k + 1 + m < L.flat.length := by simp [Tolds.put] at hm; omega
      have := hne (k + 1 + m) (by omega) L.flat[k + 1 + m] (List.getElem?_eq_getElem hm1)
      simp [Tolds.put, this.1, this.2]
  · intro e he hbe
    by_cases hei : e.1 = i
    · have := hone e he hei
      subst this
      simp only [if_true]
      exact ⟨hB.size, hb'.size, Nat.le_refl _, hv, fun j hj => up_of (hon j (List.all_eq_true.1 hD j hj))⟩
    · simp only [if_neg hei]
      rw [up_ne hei] at hbe
      obtain ⟨h1, h2, h3, h4, h5⟩ := hF.1 e he hbe
      refine ⟨h1, h2, Nat.le_trans h3 hb'.size, hup e he _ _ _ _ _ _ _ (fun j hj => ?_) h3 h4 hb', fun j hj => up_of (h5 j hj)⟩
      have hji : j ≠ i := fun e => by have := h5 j hj; rw [e, hb] at this; cases this
      simp only [if_neg hji]
  · intro e he e' he' hbe hbe' hne
    by_cases hei : e.1 = i
    · have hei' : e'.1 ≠ i := fun h => hne (hei.trans h.symm)
      simp only [if_pos hei, if_neg hei']
      rw [up_ne hei'] at hbe'
      exact .inr (hF.1 e' he' hbe').2.2.1
    · rw [up_ne hei] at hbe
      by_cases hei' : e'.1 = i
      · simp only [if_neg hei, if_pos hei']
        exact .inl (hF.1 e he hbe).2.2.1
      · simp only [if_neg hei, if_neg hei']
        rw [up_ne hei'] at hbe'
        exact hF.2 e he e' he' hbe hbe' hne
  · rw [up_ne hsi, hbs] at h'
    cases h'
theorem toldV_stepF {R : (Nat → Bool) → Act → World → Prop} {L : ToldsV} {s : Nat} {w0 : World} {a0 : Act} (k : Nat) {i : Nat} {t : Tmp} {D : List Nat} {F : (Nat → Value) → Nat → Nat → World → Value → Prop} (hok : L.flat.ok s = true) (hup : L.up) (hL : L[k]? = some (i, t, D, F)) (hD : D.all (fun j => O.contains j && (B.getD i 0).testBit j) = true) (hne : s ≠ i)
    (h : ∀ b V lo hi a w, a = putSel a0 b (L.flat.put V) → Below w0.heap.size w0 w → FactsV L w0 b V lo hi w → (∀ j, (O.contains j && (B.getD i 0).testBit j) = true → b j = true) →
      ∃ oi, ops[i]? = some oi ∧ oi.dst = some t ∧ ∀ K : Act → World → Prop, (∀ v w', Below w.heap.size w w' → F (fun j => if j = i then v else V j) w.heap.size w'.heap.size w' v → K (a.put (some t) v) w') → if Region.wanted oi (yielded ops a.tmps) = true then Oper.wp P oi a w K Q else K (a.put (some t) undef) w) :
    (∀ b a w, b s = true → b i = false → R b a w → (∀ j, (O.contains j && (B.getD i 0).testBit j) = true → b j = true) → (∀ j, (O.contains j && (B.getD j 0).testBit i) = true → b j = false) → ∃ oi, ops[i]? = some oi ∧ oi.dst = some t ∧ ∀ K : Act → World → Prop, (∀ v w', R (fun k => if k = i then true else b k) (a.put (some t) v) w' → K (a.put (some t) v) w') → if Region.wanted oi (yielded ops a.tmps) = true then Oper.wp P oi a w K Q else K (a.put (some t) undef) w) →
    StepAt P ops Q B O (ToldV R L s w0 a0) i := by
  intro h2 b a w hI hb hon hoff
  cases hbs : b s
  rotate_left
  · obtain ⟨oi, ho, hd, hK⟩ := h2 b a w hbs hb (hI.2 hbs) hon hoff
    refine ⟨oi, ho, fun K hKs => ?_⟩
    rw [hd]
    exact hK K (fun v w' hr => hKs _ _ ⟨fun h' => (by rw [up_ne hne, hbs] at h'; cases h'), fun _ => hr⟩)
  obtain ⟨V, lo, hi, ha, hB, hF⟩ := hI.1 hbs
  obtain ⟨oi, ho, hd, hK⟩ := h b V lo hi a w ha hB hF hon
  refine ⟨oi, ho, fun K hKs => ?_⟩
  have := hK K (fun v w' hb' hv => hKs _ _ ?_)
  · rw [hd]; exact this
  have hL' : L.flat[k]? = some (i, t, fun _ _ => True) := by simp [ToldsV.flat, hL]
  have hok' := hok
  unfold Tolds.ok at hok'
  simp only [Bool.and_eq_true, decide_eq_true_eq] at hok'
  have hk : k < L.flat.length := (List.getElem?_eq_some_iff.1 hL').1
  have hsi : s ≠ i := by
    have h3 := List.all_eq_true.1 hok'.2 i (List.mem_map.2 ⟨(i, t, fun _ _ => True), List.mem_of_getElem? hL', rfl⟩)
    intro e
    rw [e] at h3
    simp at h3
  have hone : ∀ e ∈ L, e.1 = i → e = (i, t, D, F) := by
    intro e he hei
    obtain ⟨m, hm⟩ := List.mem_iff_getElem?.1 he
    have hm' : (L.flat.map (·.1))[m]? = some e.1 := by simp [ToldsV.flat, hm]
    have hk' : (L.flat.map (·.1))[k]? = some i := by simp [hL']
    have hmk : k = m := (List.getElem?_inj (i := k) (j := m) (by simpa using hk) hok'.1.1).1 (by rw [hk', hm', hei])
    subst hmk
    rw [hL] at hm
    injection hm with hm
    exact hm.symm
  refine ⟨fun _ => ⟨fun j => if j = i then v else V j, fun j => if j = i then w.heap.size else lo j, fun j => if j = i then w'.heap.size else hi j, ?_, hB.trans (hb'.mono hB.size), ?_, ?_⟩, fun h' => ?_⟩
  · subst ha
    refine (putSel_upk (v0 := V i) k hb (by simp [Tolds.put, hL']) (told_set V k hok hL' v) ?_)
    have hne : ∀ m, m ≠ k → ∀ e, L.flat[m]? = some e → e.1 ≠ i ∧ e.2.1 ≠ t := by
      intro m hm e he
      refine ⟨fun e2 => hm ?_, fun e2 => hm ?_⟩
      · exact ((List.getElem?_inj (i := k) (j := m) (l := L.flat.map (·.1)) (by simpa using hk) hok'.1.1).1 (by simp [hL', he, e2])).symm
      · exact ((List.getElem?_inj (i := k) (j := m) (l := L.flat.map (·.2.1)) (by simpa using hk) hok'.1.2).1 (by simp [hL', he, e2])).symm
    rw [List.all_append, Bool.and_eq_true]
    constructor
    · rw [List.all_eq_true]
      intro x hx
      obtain ⟨m, hm, rfl⟩ := List.getElem_of_mem hx
      have hm1 : m < k ∧ m < L.flat.length := by simp [Tolds.put] at hm; omega
      have := hne m (by omega) L.flat[m] (List.getElem?_eq_getElem hm1.2)
      simp [Tolds.put, this.1, this.2]
    · rw [List.all_eq_true]
      intro x hx
      obtain ⟨m, hm, rfl⟩ := List.getElem_of_mem hx
      have hm1 : k + 1 + m < L.flat.length := by simp [Tolds.put] at hm; omega
      have := hne (k + 1 + m) (by omega) L.flat[k + 1 + m] (List.getElem?_eq_getElem hm1)
      simp [Tolds.put, this.1, this.2]
  · intro e he hbe
    by_cases hei : e.1 = i
    · have := hone e he hei
      subst this
      simp only [if_true]
      exact ⟨hB.size, hb'.size, Nat.le_refl _, hv, fun j hj => up_of (hon j (List.all_eq_true.1 hD j hj))⟩
    · simp only [if_neg hei]
      rw [up_ne hei] at hbe
      obtain ⟨h1, h2, h3, h4, h5⟩ := hF.1 e he hbe
      refine ⟨h1, h2, Nat.le_trans h3 hb'.size, hup e he _ _ _ _ _ _ _ (fun j hj => ?_) h3 h4 hb', fun j hj => up_of (h5 j hj)⟩
      have hji : j ≠ i := fun e => by have := h5 j hj; rw [e, hb] at this; cases this
      simp only [if_neg hji]
  · intro e he e' he' hbe hbe' hne
    by_cases hei : e.1 = i
    · have hei' : e'.1 ≠ i := fun h => hne (hei.trans h.symm)
      simp only [if_pos hei, if_neg hei']
      rw [up_ne hei'] at hbe'
      exact .inr (hF.1 e' he' hbe').2.2.1
    · rw [up_ne hei] at hbe
      by_cases hei' : e'.1 = i
      · simp only [if_neg hei, if_pos hei']
        exact .inl (hF.1 e he hbe).2.2.1
      · simp only [if_neg hei, if_neg hei']
        rw [up_ne hei'] at hbe'
        exact hF.2 e he e' he' hbe hbe' hne
  · rw [up_ne hsi, hbs] at h'
    cases h'
theorem putSel_eq {b b' : Nat → Bool} : ∀ (M : List (Nat × Tmp × Value)) (a0 : Act), (∀ e ∈ M, b e.1 = b' e.1) → putSel a0 b M = putSel a0 b' M := by
  intro M
  induction M with
  | nil => intro a0 _; rfl
  | cons e M ih =>
    intro a0 hM
    unfold putSel
    rw [hM e List.mem_cons_self]
    exact ih _ (fun x hx => hM x (List.mem_cons_of_mem _ hx))
/-- behind what is listed, but for one that may come later: one operation, then a last one -/
def TwoB (Q : Exit → Act → World → Prop) (P1 : (Nat → Bool) → Act → World → Prop) (s2 : Nat) (b : Nat → Bool) (a : Act) (w : World) : Prop := (b s2 = false → P1 b a w) ∧ (b s2 = true → Q .normal a w)
theorem two_firstB {P1 : (Nat → Bool) → Act → World → Prop} {L : ToldsV} {s s2 f : Nat} {w0 : World} {a0 : Act} (hall : ∀ e ∈ L, e.1 ≠ f → (O.contains e.1 && (B.getD s 0).testBit e.1) = true)
    (h2 : (O.contains s2 && (B.getD s2 0).testBit s) = true) (hne : s2 ≠ s)
    (h : ∀ b V lo hi a w, (∀ e ∈ L, e.1 ≠ f → b e.1 = true) → a = putSel a0 b (L.flat.put V) → Below w0.heap.size w0 w → FactsV L w0 b V lo hi w →
      ∃ oi, ops[s]? = some oi ∧ ∀ K : Act → World → Prop, (∀ a' w', P1 (fun k => if k = s then true else b k) a' w' → K a' w') → if Region.wanted oi (yielded ops a.tmps) = true then Oper.wp P oi a w K Q else K (a.put oi.dst undef) w) :
    StepAt P ops Q B O (ToldV (TwoB Q P1 s2) L s w0 a0) s := by
  intro b a w hI hb hon hoff
  obtain ⟨V, lo, hi, ha, hB, hF⟩ := hI.1 hb
  obtain ⟨oi, ho, hK⟩ := h b V lo hi a w (fun e he hf => hon _ (hall e he hf)) ha hB hF
  refine ⟨oi, ho, fun K hKs => hK K fun a' w' hp => hKs _ _ ⟨fun h' => ?_, fun _ => ⟨fun _ => hp, fun h' => ?_⟩⟩⟩
  · rw [up_self] at h'; cases h'
  · rw [up_ne hne, hoff s2 h2] at h'; cases h'
theorem two_lastB {P1 : (Nat → Bool) → Act → World → Prop} {L : ToldsV} {s s2 : Nat} {w0 : World} {a0 : Act} (hs : (O.contains s && (B.getD s2 0).testBit s) = true) (hne : s ≠ s2)
    (h : ∀ b a w, (∀ j, (O.contains j && (B.getD s2 0).testBit j) = true → b j = true) → P1 b a w → ∃ oi, ops[s2]? = some oi ∧ ∀ K : Act → World → Prop, (∀ a' w', Q .normal a' w' → K a' w') → if Region.wanted oi (yielded ops a.tmps) = true then Oper.wp P oi a w K Q else K (a.put oi.dst undef) w) :
    StepAt P ops Q B O (ToldV (TwoB Q P1 s2) L s w0 a0) s2 := by
  intro b a w hI hb hon hoff
  have hbs := hon s hs
  obtain ⟨oi, ho, hK⟩ := h b a w hon ((hI.2 hbs).1 hb)
  refine ⟨oi, ho, fun K hKs => hK K fun a' w' hp => hKs _ _ ⟨fun h' => ?_, fun _ => ⟨fun h' => ?_, fun _ => hp⟩⟩⟩
  · rw [up_ne hne, hbs] at h'; cases h'
  · rw [up_self] at h'; cases h'
theorem two_endB {P1 : (Nat → Bool) → Act → World → Prop} {L : ToldsV} {s s2 : Nat} {w0 : World} {a0 : Act} (hs : O.contains s = true) (h2 : O.contains s2 = true) : ∀ b a w, (∀ j, O.contains j = true → b j = true) → ToldV (TwoB Q P1 s2) L s w0 a0 b a w → Q .normal a w :=
  fun b a w hb h => (h.2 (hb s hs)).2 (hb s2 h2)
theorem toldV_begin {R : (Nat → Bool) → Act → World → Prop} {L : ToldsV} {s : Nat} {w0 : World} {a0 : Act} : ToldV R L s w0 a0 (fun _ => false) a0 w0 := by
  obtain ⟨V, h1, h2, -⟩ := (told_begin (Q := fun _ _ _ => True) (L := L.flat) (s := s) (w0 := w0) (a0 := a0)).1 rfl
  exact ⟨fun _ => ⟨V, fun _ => 0, fun _ => 0, h1, h2, (fun _ _ h => by simp at h), (fun _ _ _ _ h => by simp at h)⟩, fun h => by simp at h⟩
end
end Go.Proofs.YtfploakafbnigaaGreatDoorW.PrintLast
