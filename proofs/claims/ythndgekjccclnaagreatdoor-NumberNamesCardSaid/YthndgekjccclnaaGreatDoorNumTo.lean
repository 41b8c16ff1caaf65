/-
  Layer 9 (number), in plain Lean: what number.Check gives at a text of a number's form, with bytes ahead of it and behind it; what such a text's value is.
-/
import Derived.Test.YthndgekjccclnaaGreatDoorNumForm
namespace Go.Proofs.YthndgekjccclnaaGreatDoor.Num
set_option linter.unusedVariables false
set_option linter.unusedSimpArgs false

/-- no digit goes on with it -/
def NoD (t : List UInt8) : Prop := ∀ c, t.head? = some c → isD c = false
theorem takeWhile_to {r t : List UInt8} (hr : Digs r) (ht : NoD t) : (r ++ t).takeWhile isD = r := by
  rw [(takeWhile_all (p := isD) (r := t) hr).1]
  cases t with
  | nil => simp
  | cons c t => rw [List.takeWhile_cons, ht c rfl]; simp
theorem run_to {l : List UInt8} {i : Nat} {r t : List UInt8} (h : l.drop i = r ++ t) (hr : Digs r) (ht : NoD t) : run (l.drop i) = r.length := by
  unfold run; rw [h, takeWhile_to hr ht]
theorem digTo_to {l : List UInt8} {i : Nat} {r t : List UInt8} (h : l.drop i = r ++ t) (hr : Digs r) (ht : NoD t) : digTo l i = i + r.length := by
  unfold digTo; rw [run_to h hr ht]
theorem digErr_to {l : List UInt8} {i : Nat} {r t : List UInt8} (h : l.drop i = r ++ t) (hr : Digs r) (ht : NoD t) (hne : r ≠ []) : digErr l i = 0 := by
  unfold digErr; rw [run_to h hr ht, if_pos (List.length_pos_iff.2 hne)]
theorem drop_add {l : List UInt8} {i : Nat} {r t : List UInt8} (h : l.drop i = r ++ t) : l.drop (i + r.length) = t := by
  rw [← List.drop_drop, h, List.drop_left]
theorem expo_to {l : List UInt8} {i : Nat} {x t : List UInt8} (h : l.drop i = x ++ t) (hx : ExpF x) (h0 : x = [] → ∀ c, t.head? = some c → [101, 69].contains c = false) (h1 : x ≠ [] → NoD t) : expo l i = (i + x.length, 0) := by
  unfold expo
  rcases hx with e | ⟨c, s, r, e, hc, hs, hr0, hr⟩
  · subst e
    rw [if_neg]
    · rfl
    · rw [hasAt_drop, h]
      cases t with
      | nil => simp
      | cons c t => simpa using h0 rfl c rfl
  · have hc' : [101, 69].contains c = true := by rcases isE_or hc with k | k <;> subst k <;> rfl
    have ht := h1 (by rw [e]; simp)
    subst e
    have e1 : hasAt l i [101, 69] = true := by rw [hasAt_drop, h]; exact hc'
    rw [if_pos e1]
    have d1 : l.drop (i + 1) = s ++ (r ++ t) := by
      have := drop_add (r := [c]) (t := s ++ (r ++ t)) (by rw [h]; simp)
      exact this
    have d2 : skipTo l (i + 1) [43, 45] = i + 1 + s.length := by
      unfold skipTo
      rcases hs with k | k | k <;> subst k
      · have : hasAt l (i + 1) [43, 45] = false := by
          rw [hasAt_drop, d1]
          cases r with
          | nil => exact absurd rfl hr0
          | cons y r =>
            have hy := hr y (List.mem_cons_self ..)
            show [43, 45].contains y = false
            cases e : [43, 45].contains y
            · rfl
            · have k : y = 43 ∨ y = 45 := by simpa using e
              rcases k with k | k <;> subst k <;> cases hy
        rw [this]; rfl
      · have : hasAt l (i + 1) [43, 45] = true := by rw [hasAt_drop, d1]; rfl
        rw [this]; rfl
      · have : hasAt l (i + 1) [43, 45] = true := by rw [hasAt_drop, d1]; rfl
        rw [this]; rfl
    have d3 : l.drop (i + 1 + s.length) = r ++ t := drop_add d1
    rw [d2, digTo_to d3 hr ht, digErr_to d3 hr ht hr0]
    simp only [List.length_cons, List.length_append]
    congr 1
    omega
theorem frac_to {l : List UInt8} {i : Nat} {f x t : List UInt8} (h : l.drop i = f ++ (x ++ t)) (hf : FracF f) (hx : ExpF x)
    (hd : f = [] → ∀ c, (x ++ t).head? = some c → c ≠ 46) (hn : f ≠ [] → NoD (x ++ t)) (h0 : x = [] → ∀ c, t.head? = some c → [101, 69].contains c = false) (h1 : x ≠ [] → NoD t) : frac l i = (i + f.length + x.length, 0) := by
  unfold frac
  rcases hf with e | ⟨r, e, hr0, hr⟩
  · subst e
    have : hasAt l i [46] = false := by
      rw [hasAt_drop, h]
      cases k : (x ++ t) with
      | nil => simp [k]
      | cons c u =>
        have := hd rfl c (by rw [k]; rfl)
        simpa [k] using this
    rw [this, if_neg (by decide), expo_to (x := x) (t := t) (by rw [h]; rfl) hx h0 h1]
    rfl
  · have hne : f ≠ [] := by rw [e]; simp
    have hN := hn hne
    subst e
    have e1 : hasAt l i [46] = true := by rw [hasAt_drop, h]; rfl
    have d1 : l.drop (i + 1) = r ++ (x ++ t) := drop_add (r := [46]) (t := r ++ (x ++ t)) (by rw [h]; simp)
    rw [if_pos e1, if_pos (digErr_to d1 hr hN hr0), digTo_to d1 hr hN, expo_to (drop_add d1) hx h0 h1]
    simp only [List.length_cons]
    congr 1
    omega
def HeadF (a : List UInt8) : Prop := a ≠ [] ∧ Digs a ∧ (a = [48] ∨ a.head? ≠ some 48)
theorem noD_exp {x t : List UInt8} (hx : ExpF x) (h : x = [] → NoD t) : NoD (x ++ t) := by
  rcases hx with e | ⟨c, s, r, e, hc, _⟩
  · subst e; exact h rfl
  · subst e
    intro y hy
    have : y = c := by simpa using hy.symm
    subst this
    rcases isE_or hc with k | k <;> subst k <;> rfl
/-- the number's own walk, at a text of a number's form that stands at a place -/
theorem num_to {l : List UInt8} {i : Nat} {g a f x t : List UInt8} (h : l.drop i = g ++ (a ++ (f ++ (x ++ t)))) (hg : NegF g) (ha : HeadF a) (hf : FracF f) (hx : ExpF x) (ht : NoD t)
    (hq : x = [] → t = []) : numF l i = (i + g.length + a.length + f.length + x.length, 0) := by
  have hN := noD_exp hx (fun _ => ht)
  have h0 : x = [] → ∀ c, t.head? = some c → [101, 69].contains c = false := fun e c hc => by rw [hq e] at hc; cases hc
  have hd : f = [] → ∀ c, (x ++ t).head? = some c → c ≠ 46 := fun _ c hc => by
    rcases hx with e | ⟨y, s, r, e, hy, _⟩
    · rw [e, hq e] at hc; cases hc
    · subst e
      have : c = y := by simpa using hc.symm
      subst this
      rcases isE_or hy with k | k <;> subst k <;> decide
  have hNf : NoD (f ++ (x ++ t)) := by
    rcases hf with e | ⟨r, e, _⟩
    · subst e; exact hN
    · subst e
      intro y hy
      have : y = 46 := by simpa using hy.symm
      subst this; rfl
  unfold numF
  have hs : skipTo l i [45] = i + g.length := by
    unfold skipTo
    rcases hg with k | k <;> subst k
    · have : hasAt l i [45] = false := by
        rw [hasAt_drop, h]
        obtain ⟨ha0, ha1, _⟩ := ha
        cases a with
        | nil => exact absurd rfl ha0
        | cons y a =>
          have hy := ha1 y (List.mem_cons_self ..)
          show [45].contains y = false
          cases e : [45].contains y
          · rfl
          · have k : y = 45 := by simpa using e
            subst k; cases hy
      rw [this]; rfl
    · have : hasAt l i [45] = true := by rw [hasAt_drop, h]; rfl
      rw [this]; rfl
  have d1 : l.drop (i + g.length) = a ++ (f ++ (x ++ t)) := drop_add h
  rw [hs]
  by_cases h48 : a.head? = some 48
  · have ha' : a = [48] := by
      rcases ha.2.2 with k | k
      · exact k
      · exact absurd h48 k
    subst ha'
    have e1 : hasAt l (i + g.length) [48] = true := by rw [hasAt_drop, d1]; rfl
    rw [if_pos e1, show i + g.length + 1 = i + g.length + [(48 : UInt8)].length from rfl, frac_to (drop_add d1) hf hx hd (fun _ => hN) h0 (fun _ => ht)]
  · have e1 : ¬ hasAt l (i + g.length) [48] = true := by
      rw [hasAt_drop, d1]
      obtain ⟨ha0, _, _⟩ := ha
      cases a with
      | nil => exact absurd rfl ha0
      | cons y a => simpa using h48
    rw [if_neg e1, if_pos (digErr_to d1 ha.2.1 hNf ha.1), digTo_to d1 ha.2.1 hNf, frac_to (drop_add d1) hf hx hd (fun _ => hN) h0 (fun _ => ht)]
theorem checkN_to {l : List UInt8} {i : Nat} {g a f x t : List UInt8} (h : l.drop i = g ++ (a ++ (f ++ (x ++ t)))) (hg : NegF g) (ha : HeadF a) (hf : FracF f) (hx : ExpF x) (ht : NoD t)
    (hq : x = [] → t = []) : checkN l i = (i + g.length + a.length + f.length + x.length, 0) := by
  unfold checkN
  rw [num_to h hg ha hf hx ht hq]; rfl
theorem noD_nil : NoD [] := fun _ h => by cases h
/-- the value of such a text -/
theorem of_form {g a f x : List UInt8} (hg : NegF g) (ha : HeadF a) (hf : FracF f) (hx : ExpF x) : ofS (g ++ (a ++ (f ++ x))) =
    if trimL (a ++ f.drop 1) [48] = [] then some ⟨false, [], 0⟩
    else if 15 < (powDigs (x.drop 1)).length then none
    else some ⟨decide (g = [45]), trimR (trimL (a ++ f.drop 1) [48]) [48], ((trimL (a ++ f.drop 1) [48]).length : Int) - (trimR (trimL (a ++ f.drop 1) [48]) [48]).length - (f.drop 1).length + powVal (x.drop 1)⟩ := by
  have hc := checkN_to (l := g ++ (a ++ (f ++ x))) (i := 0) (t := []) (by simp) hg ha hf hx noD_nil (fun _ => rfl)
  unfold ofS
  rw [if_pos (by rw [hc]; congr 1; simp [List.length_append]; omega)]
  unfold Num.valOf
  have hp := plain_form (r := a ++ (f ++ x)) hg (digs_head ha.1 ha.2.1 _)
  have hm := mant_form (x := x) ha.2.1 hf hx
  have hah := ahead_form ha.2.1 hf
  rw [hp.1, hp.2, hm.1, hm.2, hah.2]
  unfold digsOf
  rw [hah.1, hah.2]
end Go.Proofs.YthndgekjccclnaaGreatDoor.Num
