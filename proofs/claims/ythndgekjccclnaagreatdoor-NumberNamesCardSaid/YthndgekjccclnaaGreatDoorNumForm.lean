/-
  Layer 9 (number), in plain Lean: the form of what number.Check takes, and its parts.
-/
import Derived.Test.YthndgekjccclnaaGreatDoorNumSpec
namespace Go.Proofs.YthndgekjccclnaaGreatDoor.Num
set_option linter.unusedVariables false
set_option linter.unusedSimpArgs false

def Digs (l : List UInt8) : Prop := ∀ x ∈ l, isD x = true
def FracF (f : List UInt8) : Prop := f = [] ∨ ∃ r, f = 46 :: r ∧ r ≠ [] ∧ Digs r
def SignF (s : List UInt8) : Prop := s = [] ∨ s = [43] ∨ s = [45]
def ExpF (x : List UInt8) : Prop := x = [] ∨ ∃ e s r, x = e :: (s ++ r) ∧ isE e = true ∧ SignF s ∧ r ≠ [] ∧ Digs r
def NegF (s : List UInt8) : Prop := s = [] ∨ s = [45]

theorem hasAt_drop (l : List UInt8) (i : Nat) (cs : List UInt8) : hasAt l i cs = match (l.drop i).head? with | some c => cs.contains c | none => false := by
  unfold hasAt
  rw [List.head?_drop]
  cases l[i]? <;> rfl
theorem drop_cons {l : List UInt8} {i : Nat} {cs : List UInt8} (h : hasAt l i cs = true) : ∃ c, cs.contains c = true ∧ l.drop i = c :: l.drop (i + 1) := by
  unfold hasAt at h
  cases e : l[i]? with
  | none => rw [e] at h; cases h
  | some c =>
    rw [e] at h
    obtain ⟨hi, he⟩ := List.getElem?_eq_some_iff.1 e
    exact ⟨c, h, by rw [List.drop_eq_getElem_cons hi, he]⟩
theorem digs_takeWhile (r : List UInt8) : Digs (r.takeWhile isD) := by
  induction r with
  | nil => intro x hx; cases hx
  | cons c r ih =>
    rw [List.takeWhile_cons]
    cases h : isD c
    · intro x hx; cases hx
    · intro x hx
      rcases List.mem_cons.1 hx with e | e
      · subst e; exact h
      · exact ih x e
theorem drop_run (r : List UInt8) : r = r.takeWhile isD ++ r.drop (run r) := by
  unfold run
  induction r with
  | nil => rfl
  | cons c r ih => rw [List.takeWhile_cons]; cases h : isD c <;> simp [← ih]
theorem drop_digTo (l : List UInt8) (i : Nat) : l.drop i = (l.drop i).takeWhile isD ++ l.drop (digTo l i) := by
  have := drop_run (l.drop i)
  rw [List.drop_drop] at this
  exact this
theorem take_ne {l : List UInt8} {i : Nat} (h : digErr l i = 0) : (l.drop i).takeWhile isD ≠ [] := by
  unfold digErr run at h
  split at h
  · rename_i k; intro e; rw [e] at k; simp at k
  · split at h <;> simp at h
theorem ite_pair {c : Prop} [Decidable c] {a b : Nat × Int} {p : Nat × Int} (h : (if c then a else b) = p) : (c ∧ a = p) ∨ (¬ c ∧ b = p) := by
  split at h
  · exact .inl ⟨by assumption, h⟩
  · exact .inr ⟨by assumption, h⟩
theorem sign_form (l : List UInt8) (i : Nat) : ∃ s, SignF s ∧ l.drop i = s ++ l.drop (skipTo l i [43, 45]) := by
  unfold skipTo
  cases h : hasAt l i [43, 45]
  · exact ⟨[], .inl rfl, by simp⟩
  · obtain ⟨c, hc, hd⟩ := drop_cons h
    refine ⟨[c], ?_, by simpa using hd⟩
    have : c = 43 ∨ c = 45 := by simpa using hc
    rcases this with e | e <;> subst e
    · exact .inr (.inl rfl)
    · exact .inr (.inr rfl)
/-- what expo goes over -/
theorem expo_form (l : List UInt8) (i p : Nat) (h : expo l i = (p, 0)) : ∃ x, ExpF x ∧ l.drop i = x ++ l.drop p := by
  unfold expo at h
  rcases ite_pair h with ⟨h1, h2⟩ | ⟨_, h2⟩
  · obtain ⟨c, hc, hd⟩ := drop_cons h1
    obtain ⟨s, hs, hd2⟩ := sign_form l (i + 1)
    simp only [Prod.mk.injEq] at h2
    have hd3 := drop_digTo l (skipTo l (i + 1) [43, 45])
    refine ⟨c :: (s ++ (l.drop (skipTo l (i + 1) [43, 45])).takeWhile isD), .inr ⟨c, s, _, rfl, ?_, hs, take_ne h2.2, digs_takeWhile _⟩, ?_⟩
    · have : c = 101 ∨ c = 69 := by simpa using hc
      rcases this with e | e <;> subst e <;> rfl
    · rw [hd, hd2]
      rw [h2.1] at hd3
      simp only [List.cons_append, List.append_assoc]
      rw [← hd3]
  · simp only [Prod.mk.injEq] at h2
    rw [← h2.1]
    exact ⟨[], .inl rfl, rfl⟩
theorem frac_form (l : List UInt8) (i p : Nat) (h : frac l i = (p, 0)) : ∃ f x, FracF f ∧ ExpF x ∧ l.drop i = f ++ (x ++ l.drop p) := by
  unfold frac at h
  rcases ite_pair h with ⟨h1, h2⟩ | ⟨_, h2⟩
  · obtain ⟨c, hc, hd⟩ := drop_cons h1
    have hc' : c = 46 := by simpa using hc
    rcases ite_pair h2 with ⟨h3, h4⟩ | ⟨h3, h4⟩
    · obtain ⟨x, hx, hd2⟩ := expo_form l _ p h4
      have hd3 := drop_digTo l (i + 1)
      refine ⟨46 :: (l.drop (i + 1)).takeWhile isD, x, .inr ⟨_, rfl, take_ne h3, digs_takeWhile _⟩, hx, ?_⟩
      rw [hd, hc', ← hd2, List.cons_append, ← hd3]
    · simp only [Prod.mk.injEq] at h4
      exact absurd h4.2 h3
  · obtain ⟨x, hx, hd2⟩ := expo_form l _ p h2
    exact ⟨[], x, .inl rfl, hx, hd2⟩
/-- what number goes over -/
theorem num_form (l : List UInt8) (i p : Nat) (h : numF l i = (p, 0)) : ∃ g a f x, NegF g ∧ (a ≠ [] ∧ Digs a ∧ (a = [48] ∨ a.head? ≠ some 48)) ∧ FracF f ∧ ExpF x ∧ l.drop i = g ++ (a ++ (f ++ (x ++ l.drop p))) := by
  unfold numF at h
  have hg : ∃ g, NegF g ∧ l.drop i = g ++ l.drop (skipTo l i [45]) := by
    unfold skipTo
    cases h : hasAt l i [45]
    · exact ⟨[], .inl rfl, by simp⟩
    · obtain ⟨c, hc, hd⟩ := drop_cons h
      have : c = 45 := by simpa using hc
      subst this
      exact ⟨[45], .inr rfl, by simpa using hd⟩
  obtain ⟨g, hg, hd⟩ := hg
  generalize skipTo l i [45] = j at *
  rcases ite_pair h with ⟨h1, h2⟩ | ⟨h1, h2⟩
  · obtain ⟨c, hc, hd1⟩ := drop_cons h1
    have hc' : c = 48 := by simpa using hc
    subst hc'
    obtain ⟨f, x, hf, hx, hd2⟩ := frac_form l _ p h2
    refine ⟨g, [48], f, x, hg, ⟨by simp, ?_, .inl rfl⟩, hf, hx, ?_⟩
    · intro y hy
      have : y = 48 := by simpa using hy
      subst this; rfl
    · rw [hd, hd1, hd2]; rfl
  · rcases ite_pair h2 with ⟨h3, h4⟩ | ⟨h3, h4⟩
    · obtain ⟨f, x, hf, hx, hd2⟩ := frac_form l _ p h4
      have hd3 := drop_digTo l j
      refine ⟨g, (l.drop j).takeWhile isD, f, x, hg, ⟨take_ne h3, digs_takeWhile _, .inr ?_⟩, hf, hx, ?_⟩
      · intro e
        apply h1
        rw [hasAt_drop]
        cases hr : l.drop j with
        | nil => rw [hr] at e; cases e
        | cons c r =>
          rw [hr, List.takeWhile_cons] at e
          cases hcd : isD c
          · rw [hcd] at e; cases e
          · rw [hcd] at e
            have : c = 48 := by simpa using e
            subst this; rfl
      · rw [hd, ← hd2, ← hd3]
    · simp only [Prod.mk.injEq] at h4
      exact absurd h4.2 h3
/-- the form of a number's whole text -/
theorem whole_form {l : List UInt8} (h : checkN l 0 = (l.length, 0)) : ∃ g a f x, NegF g ∧ (a ≠ [] ∧ Digs a ∧ (a = [48] ∨ a.head? ≠ some 48)) ∧ FracF f ∧ ExpF x ∧ l = g ++ (a ++ (f ++ x)) := by
  unfold checkN at h
  rcases ite_pair h with ⟨h1, h2⟩ | ⟨h1, h2⟩
  · have e : numF l 0 = (l.length, 0) := by
      simp only [Prod.mk.injEq] at h2
      exact Prod.ext h2.1 h1
    obtain ⟨g, a, f, x, hg, ha, hf, hx, hd⟩ := num_form l 0 _ e
    refine ⟨g, a, f, x, hg, ha, hf, hx, ?_⟩
    simpa using hd
  · simp only [Prod.mk.injEq] at h2
    exact absurd h2.2 h1

theorem digs_ascii {l : List UInt8} (h : Digs l) : ∀ x ∈ l, x.toNat < 128 := by
  intro x hx
  have := h x hx
  unfold isD at this
  simp only [Bool.and_eq_true, decide_eq_true_eq, UInt8.le_iff_toNat_le] at this
  have h57 : (57 : UInt8).toNat = 57 := rfl
  omega
theorem isE_or {c : UInt8} (h : isE c = true) : c = 101 ∨ c = 69 := by
  unfold isE at h
  simpa using h
/-- a number's text is ASCII -/
theorem whole_ascii {l : List UInt8} (h : checkN l 0 = (l.length, 0)) : ∀ x ∈ l, x.toNat < 128 := by
  obtain ⟨g, a, f, x, hg, ha, hf, hx, e⟩ := whole_form h
  rw [e]
  intro y hy
  simp only [List.mem_append] at hy
  rcases hy with hy | hy | hy | hy
  · rcases hg with e | e <;> subst e
    · cases hy
    · have : y = 45 := by simpa using hy
      subst this; decide
  · exact digs_ascii ha.2.1 y hy
  · rcases hf with e | ⟨r, e, _, hr⟩ <;> subst e
    · cases hy
    · rcases List.mem_cons.1 hy with e | e
      · subst e; decide
      · exact digs_ascii hr y e
  · rcases hx with e | ⟨c, s, r, e, hc, hs, _, hr⟩ <;> subst e
    · cases hy
    · rcases List.mem_cons.1 hy with e | e
      · subst e
        rcases isE_or hc with e | e <;> subst e <;> decide
      · rcases List.mem_append.1 e with e | e
        · rcases hs with k | k | k <;> subst k
          · cases e
          · have : y = 43 := by simpa using e
            subst this; decide
          · have : y = 45 := by simpa using e
            subst this; decide
        · exact digs_ascii hr y e

/-! ### the parts of such a text -/
theorem takeWhile_all {α : Type} {p : α → Bool} {l r : List α} (h : ∀ x ∈ l, p x = true) : (l ++ r).takeWhile p = l ++ r.takeWhile p ∧ (l ++ r).dropWhile p = r.dropWhile p := by
  induction l with
  | nil => exact ⟨rfl, rfl⟩
  | cons c l ih =>
    have hc := h c (List.mem_cons_self ..)
    have := ih (fun x hx => h x (List.mem_cons_of_mem _ hx))
    rw [List.cons_append, List.takeWhile_cons, List.dropWhile_cons, hc]
    simp [this.1, this.2]
theorem dig_notE {c : UInt8} (h : isD c = true) : (!isE c) = true := by
  unfold isD at h
  simp only [Bool.and_eq_true, decide_eq_true_eq, UInt8.le_iff_toNat_le] at h
  have h57 : (57 : UInt8).toNat = 57 := rfl
  have h48 : (48 : UInt8).toNat = 48 := rfl
  cases e : isE c
  · rfl
  · rcases isE_or e with k | k <;> subst k
    · have : (101 : UInt8).toNat = 101 := rfl
      omega
    · have : (69 : UInt8).toNat = 69 := rfl
      omega
theorem dig_notDot {c : UInt8} (h : isD c = true) : (!(c == 46)) = true := by
  cases e : (c == 46)
  · rfl
  · have : c = 46 := by simpa using e
    subst this; cases h
theorem digs_head {a : List UInt8} (ha : a ≠ []) (hd : Digs a) (r : List UInt8) : (a ++ r).head? ≠ some 45 := by
  cases a with
  | nil => exact absurd rfl ha
  | cons c a =>
    intro e
    have : c = 45 := by simpa using e
    subst this
    have := hd 45 (List.mem_cons_self ..)
    cases this
theorem plain_form {g r : List UInt8} (hg : NegF g) (hr : r.head? ≠ some 45) : plainOf (g ++ r) = r ∧ decide ((g ++ r).head? = some 45) = decide (g = [45]) := by
  unfold plainOf
  rcases hg with e | e <;> subst e
  · rw [List.nil_append, if_neg hr]; simp [hr]
  · simp
theorem fracF_notE {f : List UInt8} (hf : FracF f) : ∀ x ∈ f, (!isE x) = true := by
  rcases hf with e | ⟨r, e, _, hr⟩ <;> subst e
  · intro x hx; cases hx
  · intro x hx
    rcases List.mem_cons.1 hx with e | e
    · subst e; rfl
    · exact dig_notE (hr x e)
theorem mant_form {a f x : List UInt8} (ha : Digs a) (hf : FracF f) (hx : ExpF x) : mantOf (a ++ (f ++ x)) = a ++ f ∧ powOf (a ++ (f ++ x)) = x.drop 1 := by
  unfold mantOf powOf
  have h1 := takeWhile_all (p := fun c => !isE c) (r := f ++ x) (fun y hy => dig_notE (ha y hy))
  have h2 := takeWhile_all (p := fun c => !isE c) (r := x) (fracF_notE hf)
  rw [h1.1, h1.2, h2.1, h2.2]
  rcases hx with e | ⟨c, s, r, e, hc, _⟩ <;> subst e
  · exact ⟨by simp, rfl⟩
  · have hc' : (!isE c) = false := by rw [hc]; rfl
    refine ⟨?_, ?_⟩
    · rw [List.takeWhile_cons, hc']; simp
    · rw [List.dropWhile_cons, hc']; simp
theorem ahead_form {a f : List UInt8} (ha : Digs a) (hf : FracF f) : aheadOf (a ++ f) = a ∧ behindOf (a ++ f) = f.drop 1 := by
  unfold aheadOf behindOf
  have h1 := takeWhile_all (p := fun c => !(c == 46)) (r := f) (fun y hy => dig_notDot (ha y hy))
  rw [h1.1, h1.2]
  rcases hf with e | ⟨r, e, _⟩ <;> subst e
  · exact ⟨by simp, rfl⟩
  · exact ⟨by simp, by simp⟩
theorem digs_dropWhile {l : List UInt8} (h : Digs l) (p : UInt8 → Bool) : Digs (l.dropWhile p) := fun x hx => h x ((List.dropWhile_sublist p).subset hx)
theorem digs_append {a b : List UInt8} (ha : Digs a) (hb : Digs b) : Digs (a ++ b) := fun x hx => (List.mem_append.1 hx).elim (ha x) (hb x)
theorem digs_drop1 {f : List UInt8} (hf : FracF f) : Digs (f.drop 1) := by
  rcases hf with e | ⟨r, e, _, hr⟩ <;> subst e
  · intro x hx; cases hx
  · exact hr
theorem trim_sign {s r : List UInt8} (hs : SignF s) (hr : Digs r) : trimL (s ++ r) [43, 45] = r := by
  have h0 : r.dropWhile ([43, 45].contains ·) = r := by
    cases r with
    | nil => rfl
    | cons c r =>
      have := hr c (List.mem_cons_self ..)
      rw [List.dropWhile_cons]
      have : ([43, 45].contains c) = false := by
        cases e : [43, 45].contains c
        · rfl
        · have k : c = 43 ∨ c = 45 := by simpa using e
          rcases k with k | k <;> subst k <;> cases this
      rw [this]; rfl
  unfold trimL
  rcases hs with e | e | e <;> subst e
  · exact h0
  · simpa [List.dropWhile_cons] using h0
  · simpa [List.dropWhile_cons] using h0
/-- the digits of a number's power -/
theorem powDigs_form {x : List UInt8} (hx : ExpF x) : Digs (powDigs (x.drop 1)) := by
  unfold powDigs
  rcases hx with e | ⟨c, s, r, e, hc, hs, _, hr⟩ <;> subst e
  · intro x hx; cases hx
  · rw [List.drop_one, List.tail_cons, trim_sign hs hr]
    exact digs_dropWhile hr _
/-- of a number's whole text: the digits of its mantissa and of its power are digits -/
theorem whole_digs {l : List UInt8} (h : checkN l 0 = (l.length, 0)) : Digs (powDigs (powOf (plainOf l))) ∧ Digs (digsOf (mantOf (plainOf l))) := by
  obtain ⟨g, a, f, x, hg, ha, hf, hx, e⟩ := whole_form h
  rw [e, (plain_form hg (digs_head ha.1 ha.2.1 _)).1, (mant_form ha.2.1 hf hx).1, (mant_form ha.2.1 hf hx).2]
  refine ⟨powDigs_form hx, ?_⟩
  unfold digsOf
  rw [(ahead_form ha.2.1 hf).1, (ahead_form ha.2.1 hf).2]
  exact digs_dropWhile (digs_append ha.2.1 (digs_drop1 hf)) _
end Go.Proofs.YthndgekjccclnaaGreatDoor.Num
