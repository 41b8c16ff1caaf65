/-
  Joined texts: NumRef NumRefCheck NumForm NumOf.
-/
import Derived.Test.YtfploakafbnigaaGreatDoorCPkNumA
import Derived.WalkKit
import Derived.WalkSpells
import Derived.WalkLawsBesides
import Derived.BigQuiet
import Derived.Deep.QuietTactic
import Derived.Deep.DeepCutAuto
import Derived.Lib.Hide
import Derived.Test.YtfploakafbnigaaGreatDoorCNumSpec
import Derived.Lib.Strings
import Derived.Deep.DeepFit
namespace Go.Proofs.YtfploakafbnigaaGreatDoor
open Go.RowKit Num
set_option linter.unusedVariables false
set_option linter.unusedSimpArgs false
end Go.Proofs.YtfploakafbnigaaGreatDoor
namespace Go.Proofs.YtfploakafbnigaaGreatDoor
open Go.RowKit Num
set_option linter.unusedVariables false
set_option linter.unusedSimpArgs false
end Go.Proofs.YtfploakafbnigaaGreatDoor
namespace Go.Proofs.YtfploakafbnigaaGreatDoor.Num
set_option linter.unusedVariables false
set_option linter.unusedSimpArgs false
def Digs (l : List UInt8) : Prop := ∀ x ∈ l, isD x = true
def FracF (f : List UInt8) : Prop := f = [] ∨ ∃ r, f = 46 :: r ∧ r ≠ [] ∧ Digs r
def SignF (s : List UInt8) : Prop := s = [] ∨ s = [43] ∨ s = [45]
def ExpF (x : List UInt8) : Prop := x = [] ∨ ∃ e s r, x = e :: (s ++ r) ∧ isE e = true ∧ SignF s ∧ r ≠ [] ∧ Digs r
def NegF (s : List UInt8) : Prop := s = [] ∨ s = [45]
theorem hasAt_drop (l : List UInt8) (i : Nat) (cs : List UInt8) : hasAt l i cs = match (l.drop i).head? with | some c => cs.contains c | none => false := by
  unfold hasAt
  rw [List.head?_drop]
  cases l[i]? <;> rfl
theorem drop_cons {l : List UInt8} {i : Nat} {cs : List UInt8} (h : hasAt l i cs = true) : ∃ c, cs.contains c = true ∧ l.drop i = c :: l.drop (i + 1) := by
  unfold hasAt at h
  cases e : l[i]? with
  | none => rw [e] at h; cases h
  | some c =>
    rw [e] at h
    obtain ⟨hi, he⟩ := List.getElem?_eq_some_iff.1 e
    exact ⟨c, h, by rw [List.drop_eq_getElem_cons hi, he]⟩
theorem digs_takeWhile (r : List UInt8) : Digs (r.takeWhile isD) := by
  induction r with
  | nil => intro x hx; cases hx
  | cons c r ih =>
    rw [List.takeWhile_cons]
    cases h : isD c
    · intro x hx; cases hx
    · intro x hx
      rcases List.mem_cons.1 hx with e | e
      · subst e; exact h
      · exact ih x e
theorem drop_run (r : List UInt8) : r = r.takeWhile isD ++ r.drop (run r) := by
  unfold run
  induction r with
  | nil => rfl
  | cons c r ih => rw [List.takeWhile_cons]; cases h : isD c <;> simp [← ih]
theorem drop_digTo (l : List UInt8) (i : Nat) : l.drop i = (l.drop i).takeWhile isD ++ l.drop (digTo l i) := by
  have := drop_run (l.drop i)
  rw [List.drop_drop] at this
  exact this
theorem take_ne {l : List UInt8} {i : Nat} (h : digErr l i = 0) : (l.drop i).takeWhile isD ≠ [] := by
  unfold digErr run at h
  split at h
  · rename_i k; intro e; rw [e] at k; simp at k
  · split at h <;> simp at h
theorem ite_pair {c : Prop} [Decidable c] {a b : Nat × Int} {p : Nat × Int} (h : (if c then a else b) = p) : (c ∧ a = p) ∨ (¬ c ∧ b = p) := by
  split at h
  · exact .inl ⟨by assumption, h⟩
  · exact .inr ⟨by assumption, h⟩
theorem sign_form (l : List UInt8) (i : Nat) : ∃ s, SignF s ∧ l.drop i = s ++ l.drop (skipTo l i [43, 45]) := by
  unfold skipTo
  cases h : hasAt l i [43, 45]
  · exact ⟨[], .inl rfl, by simp⟩
  · obtain ⟨c, hc, hd⟩ := drop_cons h
    refine ⟨[c], ?_, by simpa using hd⟩
    have : c = 43 ∨ c = 45 := by simpa using hc
    rcases this with e | e <;> subst e
    · exact .inr (.inl rfl)
    · exact .inr (.inr rfl)
/-- what expo goes over -/
theorem expo_form (l : List UInt8) (i p : Nat) (h : expo l i = (p, 0)) : ∃ x, ExpF x ∧ l.drop i = x ++ l.drop p := by
  unfold expo at h
  rcases ite_pair h with ⟨h1, h2⟩ | ⟨_, h2⟩
  · obtain ⟨c, hc, hd⟩ := drop_cons h1
    obtain ⟨s, hs, hd2⟩ := sign_form l (i + 1)
    simp only [Prod.mk.injEq] at h2
    have hd3 := drop_digTo l (skipTo l (i + 1) [43, 45])
    refine ⟨c :: (s ++ (l.drop (skipTo l (i + 1) [43, 45])).takeWhile isD), .inr ⟨c, s, _, rfl, ?_, hs, take_ne h2.2, digs_takeWhile _⟩, ?_⟩
    · have : c = 101 ∨ c = 69 := by simpa using hc
      rcases this with e | e <;> subst e <;> rfl
    · rw [hd, hd2]
      rw [h2.1] at hd3
      simp only [List.cons_append, List.append_assoc]
      rw [← hd3]
  · simp only [Prod.mk.injEq] at h2
    rw [← h2.1]
    exact ⟨[], .inl rfl, rfl⟩
theorem frac_form (l : List UInt8) (i p : Nat) (h : frac l i = (p, 0)) : ∃ f x, FracF f ∧ ExpF x ∧ l.drop i = f ++ (x ++ l.drop p) := by
  unfold frac at h
  rcases ite_pair h with ⟨h1, h2⟩ | ⟨_, h2⟩
  · obtain ⟨c, hc, hd⟩ := drop_cons h1
    have hc' : c = 46 := by simpa using hc
    rcases ite_pair h2 with ⟨h3, h4⟩ | ⟨h3, h4⟩
    · obtain ⟨x, hx, hd2⟩ := expo_form l _ p h4
      have hd3 := drop_digTo l (i + 1)
      refine ⟨46 :: (l.drop (i + 1)).takeWhile isD, x, .inr ⟨_, rfl, take_ne h3, digs_takeWhile _⟩, hx, ?_⟩
      rw [hd, hc', ← hd2, List.cons_append, ← hd3]
    · simp only [Prod.mk.injEq] at h4
      exact absurd h4.2 h3
  · obtain ⟨x, hx, hd2⟩ := expo_form l _ p h2
    exact ⟨[], x, .inl rfl, hx, hd2⟩
/-- what number goes over -/
theorem num_form (l : List UInt8) (i p : Nat) (h : numF l i = (p, 0)) : ∃ g a f x, NegF g ∧ (a ≠ [] ∧ Digs a ∧ (a = [48] ∨ a.head? ≠ some 48)) ∧ FracF f ∧ ExpF x ∧ l.drop i = g ++ (a ++ (f ++ (x ++ l.drop p))) := by
  unfold numF at h
  have hg : ∃ g, NegF g ∧ l.drop i = g ++ l.drop (skipTo l i [45]) := by
    unfold skipTo
    cases h : hasAt l i [45]
    · exact ⟨[], .inl rfl, by simp⟩
    · obtain ⟨c, hc, hd⟩ := drop_cons h
      have : c = 45 := by simpa using hc
      subst this
      exact ⟨[45], .inr rfl, by simpa using hd⟩
  obtain ⟨g, hg, hd⟩ := hg
  generalize skipTo l i [45] = j at *
  rcases ite_pair h with ⟨h1, h2⟩ | ⟨h1, h2⟩
  · obtain ⟨c, hc, hd1⟩ := drop_cons h1
    have hc' : c = 48 := by simpa using hc
    subst hc'
    obtain ⟨f, x, hf, hx, hd2⟩ := frac_form l _ p h2
    refine ⟨g, [48], f, x, hg, ⟨by simp, ?_, .inl rfl⟩, hf, hx, ?_⟩
    · intro y hy
      have : y = 48 := by simpa using hy
      subst this; rfl
    · rw [hd, hd1, hd2]; rfl
  · rcases ite_pair h2 with ⟨h3, h4⟩ | ⟨h3, h4⟩
    · obtain ⟨f, x, hf, hx, hd2⟩ := frac_form l _ p h4
      have hd3 := drop_digTo l j
      refine ⟨g, (l.drop j).takeWhile isD, f, x, hg, ⟨take_ne h3, digs_takeWhile _, .inr ?_⟩, hf, hx, ?_⟩
      · intro e
        apply h1
        rw [hasAt_drop]
        cases hr : l.drop j with
        | nil => rw [hr] at e; cases e
        | cons c r =>
          rw [hr, List.takeWhile_cons] at e
          cases hcd : isD c
          · rw [hcd] at e; cases e
          · rw [hcd] at e
            have : c = 48 := by simpa using e
            subst this; rfl
      · rw [hd, ← hd2, ← hd3]
    · simp only [Prod.mk.injEq] at h4
      exact absurd h4.2 h3
/-- the form of a number's whole text -/
theorem whole_form {l : List UInt8} (h : checkN l 0 = (l.length, 0)) : ∃ g a f x, NegF g ∧ (a ≠ [] ∧ Digs a ∧ (a = [48] ∨ a.head? ≠ some 48)) ∧ FracF f ∧ ExpF x ∧ l = g ++ (a ++ (f ++ x)) := by
  unfold checkN at h
  rcases ite_pair h with ⟨h1, h2⟩ | ⟨h1, h2⟩
  · have e : numF l 0 = (l.length, 0) := by
      simp only [Prod.mk.injEq] at h2
      exact Prod.ext h2.1 h1
    obtain ⟨g, a, f, x, hg, ha, hf, hx, hd⟩ := num_form l 0 _ e
    refine ⟨g, a, f, x, hg, ha, hf, hx, ?_⟩
    simpa using hd
  · simp only [Prod.mk.injEq] at h2
    exact absurd h2.2 h1
theorem digs_ascii {l : List UInt8} (h : Digs l) : ∀ x ∈ l, x.toNat < 128 := by
  intro x hx
  have := h x hx
  unfold isD at this
  simp only [Bool.and_eq_true, decide_eq_true_eq, UInt8.le_iff_toNat_le] at this
  have h57 : (57 : UInt8).toNat = 57 := rfl
  omega
theorem isE_or {c : UInt8} (h : isE c = true) : c = 101 ∨ c = 69 := by
  unfold isE at h
  simpa using h
/-- a number's text is ASCII -/
theorem whole_ascii {l : List UInt8} (h : checkN l 0 = (l.length, 0)) : ∀ x ∈ l, x.toNat < 128 := by
  obtain ⟨g, a, f, x, hg, ha, hf, hx, e⟩ := whole_form h
  rw [e]
  intro y hy
  simp only [List.mem_append] at hy
  rcases hy with hy | hy | hy | hy
  · rcases hg with e | e <;> subst e
    · cases hy
    · have : y = 45 := by simpa using hy
      subst this; decide
  · exact digs_ascii ha.2.1 y hy
  · rcases hf with e | ⟨r, e, _, hr⟩ <;> subst e
    · cases hy
    · rcases List.mem_cons.1 hy with e | e
      · subst e; decide
      · exact digs_ascii hr y e
  · rcases hx with e | ⟨c, s, r, e, hc, hs, _, hr⟩ <;> subst e
    · cases hy
    · rcases List.mem_cons.1 hy with e | e
      · subst e
        rcases isE_or hc with e | e <;> subst e <;> decide
      · rcases List.mem_append.1 e with e | e
        · rcases hs with k | k | k <;> subst k
          · cases e
          · have : y = 43 := by simpa using e
            subst this; decide
          · have : y = 45 := by simpa using e
            subst this; decide
        · exact digs_ascii hr y e
/-! ### the parts of such a text -/
theorem takeWhile_all {α : Type} {p : α → Bool} {l r : List α} (h : ∀ x ∈ l, p x = true) : (l ++ r).takeWhile p = l ++ r.takeWhile p ∧ (l ++ r).dropWhile p = r.dropWhile p := by
  induction l with
  | nil => exact ⟨rfl, rfl⟩
  | cons c l ih =>
    have hc := h c (List.mem_cons_self ..)
    have := ih (fun x hx => h x (List.mem_cons_of_mem _ hx))
    rw [List.cons_append, List.takeWhile_cons, List.dropWhile_cons, hc]
    simp [this.1, this.2]
theorem dig_notE {c : UInt8} (h : isD c = true) : (!isE c) = true := by
  unfold isD at h
  simp only [Bool.and_eq_true, decide_eq_true_eq, UInt8.le_iff_toNat_le] at h
  have h57 : (57 : UInt8).toNat = 57 := rfl
  have h48 : (48 : UInt8).toNat = 48 := rfl
  cases e : isE c
  · rfl
  · rcases isE_or e with k | k <;> subst k
    · have : (101 : UInt8).toNat = 101 := rfl
      omega
    · have : (69 : UInt8).toNat = 69 := rfl
      omega
theorem dig_notDot {c : UInt8} (h : isD c = true) : (!(c == 46)) = true := by
  cases e : (c == 46)
  · rfl
  · have : c = 46 := by simpa using e
    subst this; cases h
theorem digs_head {a : List UInt8} (ha : a ≠ []) (hd : Digs a) (r : List UInt8) : (a ++ r).head? ≠ some 45 := by
  cases a with
  | nil => exact absurd rfl ha
  | cons c a =>
    intro e
    have : c = 45 := by simpa using e
    subst this
    have := hd 45 (List.mem_cons_self ..)
    cases this
theorem plain_form {g r : List UInt8} (hg : NegF g) (hr : r.head? ≠ some 45) : plainOf (g ++ r) = r ∧ decide ((g ++ r).head? = some 45) = decide (g = [45]) := by
  unfold plainOf
  rcases hg with e | e <;> subst e
  · rw [List.nil_append, if_neg hr]; simp [hr]
  · simp
theorem fracF_notE {f : List UInt8} (hf : FracF f) : ∀ x ∈ f, (!isE x) = true := by
  rcases hf with e | ⟨r, e, _, hr⟩ <;> subst e
  · intro x hx; cases hx
  · intro x hx
    rcases List.mem_cons.1 hx with e | e
    · subst e; rfl
    · exact dig_notE (hr x e)
theorem mant_form {a f x : List UInt8} (ha : Digs a) (hf : FracF f) (hx : ExpF x) : mantOf (a ++ (f ++ x)) = a ++ f ∧ powOf (a ++ (f ++ x)) = x.drop 1 := by
  unfold mantOf powOf
  have h1 := takeWhile_all (p := fun c => !isE c) (r := f ++ x) (fun y hy => dig_notE (ha y hy))
  have h2 := takeWhile_all (p := fun c => !isE c) (r := x) (fracF_notE hf)
  rw [h1.1, h1.2, h2.1, h2.2]
  rcases hx with e | ⟨c, s, r, e, hc, _⟩ <;> subst e
  · exact ⟨by simp, rfl⟩
  · have hc' : (!isE c) = false := by rw [hc]; rfl
    refine ⟨?_, ?_⟩
    · rw [List.takeWhile_cons, hc']; simp
    · rw [List.dropWhile_cons, hc']; simp
theorem ahead_form {a f : List UInt8} (ha : Digs a) (hf : FracF f) : aheadOf (a ++ f) = a ∧ behindOf (a ++ f) = f.drop 1 := by
  unfold aheadOf behindOf
  have h1 := takeWhile_all (p := fun c => !(c == 46)) (r := f) (fun y hy => dig_notDot (ha y hy))
  rw [h1.1, h1.2]
  rcases hf with e | ⟨r, e, _⟩ <;> subst e
  · exact ⟨by simp, rfl⟩
  · exact ⟨by simp, by simp⟩
theorem digs_dropWhile {l : List UInt8} (h : Digs l) (p : UInt8 → Bool) : Digs (l.dropWhile p) := fun x hx => h x ((List.dropWhile_sublist p).subset hx)
theorem digs_append {a b : List UInt8} (ha : Digs a) (hb : Digs b) : Digs (a ++ b) := fun x hx => (List.mem_append.1 hx).elim (ha x) (hb x)
theorem digs_drop1 {f : List UInt8} (hf : FracF f) : Digs (f.drop 1) := by
  rcases hf with e | ⟨r, e, _, hr⟩ <;> subst e
  · intro x hx; cases hx
  · exact hr
theorem trim_sign {s r : List UInt8} (hs : SignF s) (hr : Digs r) : trimL (s ++ r) [43, 45] = r := by
  have h0 : r.dropWhile ([43, 45].contains ·) = r := by
    cases r with
    | nil => rfl
    | cons c r =>
      have := hr c (List.mem_cons_self ..)
      rw [List.dropWhile_cons]
      have : ([43, 45].contains c) = false := by
        cases e : [43, 45].contains c
        · rfl
        · have k : c = 43 ∨ c = 45 := by simpa using e
          rcases k with k | k <;> subst k <;> cases this
      rw [this]; rfl
  unfold trimL
  rcases hs with e | e | e <;> subst e
  · exact h0
  · simpa [List.dropWhile_cons] using h0
  · simpa [List.dropWhile_cons] using h0
/-- the digits of a number's power -/
theorem powDigs_form {x : List UInt8} (hx : ExpF x) : Digs (powDigs (x.drop 1)) := by
  unfold powDigs
  rcases hx with e | ⟨c, s, r, e, hc, hs, _, hr⟩ <;> subst e
  · intro x hx; cases hx
  · rw [List.drop_one, List.tail_cons, trim_sign hs hr]
    exact digs_dropWhile hr _
/-- of a number's whole text: the digits of its mantissa and of its power are digits -/
theorem whole_digs {l : List UInt8} (h : checkN l 0 = (l.length, 0)) : Digs (powDigs (powOf (plainOf l))) ∧ Digs (digsOf (mantOf (plainOf l))) := by
  obtain ⟨g, a, f, x, hg, ha, hf, hx, e⟩ := whole_form h
  rw [e, (plain_form hg (digs_head ha.1 ha.2.1 _)).1, (mant_form ha.2.1 hf hx).1, (mant_form ha.2.1 hf hx).2]
  refine ⟨powDigs_form hx, ?_⟩
  unfold digsOf
  rw [(ahead_form ha.2.1 hf).1, (ahead_form ha.2.1 hf).2]
  exact digs_dropWhile (digs_append ha.2.1 (digs_drop1 hf)) _
end Go.Proofs.YtfploakafbnigaaGreatDoor.Num
namespace Go.Proofs.YtfploakafbnigaaGreatDoor
open Go.RowKit Num
set_option linter.unusedVariables false
set_option linter.unusedSimpArgs false
/-- a value of number.value -/
def vOf : Option V → Value
  | none => .agg #[.bool false, .string (bs []), .int .i64 0]
  | some v => .agg #[.bool v.below, .string (bs v.digits), .int .i64 v.power]
def VB (w : World) (g : Nat) (a b c : Value) : Prop := w.heap[g]? = some (.cells #[a, b, c] 190 (0, 0))
theorem VB.c0 {w : World} {g : Nat} {a b c : Value} (h : VB w g a b c) : w.cell? ⟨g, 0, none⟩ = some a := by rw [cell_of_row w g 0 _ _ _ h]; rfl
theorem VB.c1 {w : World} {g : Nat} {a b c : Value} (h : VB w g a b c) : w.cell? ⟨g, 1, none⟩ = some b := by rw [cell_of_row w g 1 _ _ _ h]; rfl
theorem VB.c2 {w : World} {g : Nat} {a b c : Value} (h : VB w g a b c) : w.cell? ⟨g, 2, none⟩ = some c := by rw [cell_of_row w g 2 _ _ _ h]; rfl
theorem VB.fr {w : World} {g : Nat} {a b c : Value} (h : VB w g a b c) (i : Nat) : w.frozen? ⟨g, i, none⟩ = false := by unfold VB at h; simp [World.frozen?, h]
theorem VB.lt {w : World} {g : Nat} {a b c : Value} (h : VB w g a b c) : g < w.heap.size := (Array.getElem?_eq_some_iff.1 h).1
theorem VB.on {w w' : World} {g : Nat} {a b c : Value} (h : VB w g a b c) (hb : Below w.heap.size w w') : VB w' g a b c := (hb.block g h.lt).trans h
theorem VB.set {w : World} {g : Nat} {a b c : Value} (h : VB w g a b c) (x y z : Value) : VB (((w.setCell ⟨g, 0, none⟩ x).setCell ⟨g, 1, none⟩ y).setCell ⟨g, 2, none⟩ z) g x y z := by
  unfold VB at h ⊢
  simp [World.setCell, Array.getElem?_modify, h]
theorem VB.set2 {w : World} {g : Nat} {a b c : Value} (h : VB w g a b c) (z : Value) : VB (w.setCell ⟨g, 2, none⟩ z) g a b z := by
  unfold VB at h ⊢
  simp [World.setCell, Array.getElem?_modify, h]
/-- []byte(s) lies in memory. -/
theorem bytes_RB (w : World) (s : ByteArray) (l : List UInt8) (h : s.data.toList = l) (B : Nat) (hB : w.heap.size < B) : RB (Lib.bytesWorld w 5 s) B (some ⟨w.heap.size, 0, none⟩) l := by
  subst h
  refine .inr ⟨w.heap.size, 0, rfl, hB, fun j hj => ?_⟩
  have := Lib.bytesWorld_cell w 5 s j (by rw [← list_len]; exact hj)
  rw [Nat.zero_add, this, List.getD_eq_getElem?_getD, List.getElem?_eq_getElem hj]
  rfl
/-- number.Check at []byte(s), 0. -/
theorem Check_bytes (s : ByteArray) (l : List UInt8) (h : s.data.toList = l) (w : World) (g c : Nat) (hg : w.heap.size = g) (hn : l.length ≤ 9223372036854775805) :
    Calls Tryz.prog 188 #[.slice (some ⟨g, 0, none⟩) s.size c, .int .i64 0] (Lib.bytesWorld w 5 s) fun e w' => e = .returned (.tuple #[.int .i64 (checkN l 0).1, .int .i64 (checkN l 0).2]) ∧ Below (w.heap.size + 1) (Lib.bytesWorld w 5 s) w' := by
  subst hg
  have hs : s.size = l.length := by rw [← h, list_len]
  rw [hs]
  have hz := Lib.bytesWorld_size w 5 s
  refine (Check_any c _ l 0 (Lib.bytesWorld w 5 s) (by rw [hz]; exact bytes_RB w s l h _ (by omega)) hn).mono ?_
  rintro e w' ⟨rfl, hb⟩
  have e0 : check l 0 = checkN l 0 := by unfold check; rw [if_neg (by omega)]; rfl
  rw [e0]
  rw [hz] at hb
  exact ⟨rfl, hb⟩
/-- what Check leaves of the result's place -/
theorem VB_start (w : World) (s : ByteArray) {o : Obj} (ho : o = .cells #[.bool false, .string ⟨#[]⟩, .int .i64 0] 190) {w1 : World}
    (hb : Below ((w.alloc o).heap.size + 1) (Lib.bytesWorld (w.alloc o) 5 s) w1) :
    VB w1 w.heap.size (.bool false) (.string ⟨#[]⟩) (.int .i64 0) ∧ Below w.heap.size w w1 ∧ w.heap.size + 1 < w1.heap.size := by
  subst ho
  have hz : (w.alloc (.cells #[.bool false, .string ⟨#[]⟩, .int .i64 0] 190)).heap.size = w.heap.size + 1 := by simp
  have hb1 : Below w.heap.size w (Lib.bytesWorld (w.alloc (.cells #[.bool false, .string ⟨#[]⟩, .int .i64 0] 190)) 5 s) := bytes_below ((Below.refl _ w).alloc (Nat.le_refl _) _) (by rw [hz]; omega) _ _
  refine ⟨?_, hb1.trans (hb.mono (by rw [hz]; omega)), ?_⟩
  · unfold VB
    rw [hb.block _ (by rw [hz]; omega), Lib.bytesWorld_at_old _ _ _ _ (by rw [hz]; omega)]
    exact heap_alloc_new w _
  · have := hb.size
    rw [Lib.bytesWorld_size, hz] at this
    omega
theorem below_set3 {w w1 : World} (h : Below w.heap.size w w1) (x y z : Value) : Below w.heap.size w (((w1.setCell ⟨w.heap.size, 0, none⟩ x).setCell ⟨w.heap.size, 1, none⟩ y).setCell ⟨w.heap.size, 2, none⟩ z) :=
  ((h.setCell (p := ⟨w.heap.size, 0, none⟩) (Nat.le_refl _) x).setCell (p := ⟨w.heap.size, 1, none⟩) (Nat.le_refl _) y).setCell (p := ⟨w.heap.size, 2, none⟩) (Nat.le_refl _) z
theorem below_drewN {B : Nat} {w w1 : World} (h : Below B w w1) (n : Nat) : Below B w (w1.drewN n) := ⟨h.os, h.tape, h.output, h.size, h.block⟩
theorem VB.draws {w : World} {g : Nat} {a b c : Value} (h : VB w g a b c) (n : Nat) : VB (w.drewN n) g a b c := h
theorem set3_size (w : World) (p q r : Addr) (x y z : Value) : (((w.setCell p x).setCell q y).setCell r z).heap.size = w.heap.size := by simp [World.setCell]
theorem set3_below {w w2 w3 : World} (h : Below w.heap.size w w2) (n : Nat) (x y z : Value)
    (hb : Below ((((w2.drewN n).setCell ⟨w.heap.size, 0, none⟩ x).setCell ⟨w.heap.size, 1, none⟩ y).setCell ⟨w.heap.size, 2, none⟩ z).heap.size ((((w2.drewN n).setCell ⟨w.heap.size, 0, none⟩ x).setCell ⟨w.heap.size, 1, none⟩ y).setCell ⟨w.heap.size, 2, none⟩ z) w3) : Below w.heap.size w w3 :=
  (below_set3 (below_drewN h n) x y z).trans (hb.mono (by rw [set3_size]; exact h.size))
theorem extract_list (l : List UInt8) (a b : Nat) : ((bs l).extract a b).data.toList = (l.drop a).take (b - a) := by
  rw [Lib.extract_data, bs_list]
theorem parts_le (m : List UInt8) : (aheadOf m).length + (behindOf m).length ≤ m.length := by
  have h := congrArg List.length (List.takeWhile_append_dropWhile (p := fun c => !(c == 46)) (l := m))
  rw [List.length_append] at h
  unfold aheadOf behindOf
  rw [List.length_drop]
  omega
theorem digsOf_le (m : List UInt8) : (digsOf m).length ≤ m.length := by
  unfold digsOf trimL
  have h1 := (List.dropWhile_sublist ([48].contains ·) (l := aheadOf m ++ behindOf m)).length_le
  rw [List.length_append] at h1
  have := parts_le m
  omega
theorem trimR_le (l cs : List UInt8) : (trimR l cs).length ≤ l.length := by
  unfold trimR
  have := (List.dropWhile_sublist (cs.contains ·) (l := l.reverse)).length_le
  rw [List.length_reverse] at this ⊢
  exact this
theorem isEmpty_true {l : List UInt8} (h : l = []) : (bs l).toList.isEmpty = true := by
  rw [Lib.toList_data, bs_list, h]; rfl
theorem isEmpty_false {l : List UInt8} (h : l ≠ []) : (bs l).toList.isEmpty = false := by
  rw [Lib.toList_data, bs_list]; cases l with
  | nil => exact absurd rfl h
  | cons _ _ => rfl
set_option maxRecDepth 100000 in
set_option maxHeartbeats 600000 in
/-- no number: it ends too early -/
theorem of_len (s : ByteArray) (w : World) (n : Nat) (e : Int) (hq : e = 0 ∧ n ≠ s.size)
    (HC : Hid (∀ (W : World) (g c : Nat), W.heap.size = g → Calls Tryz.prog 188 #[.slice (some ⟨g, 0, none⟩) s.size c, .int .i64 0] (Lib.bytesWorld W 5 s) fun e' w' => e' = .returned (.tuple #[.int .i64 n, .int .i64 e]) ∧ Below (W.heap.size + 1) (Lib.bytesWorld W 5 s) w')) :
    Calls Tryz.prog 153 #[.string s] w fun e w' => e = .returned (.tuple #[vOf none, .bool false]) ∧ Below w.heap.size w w' := by
  have kc := fun (W : World) => Lib.run_convert_string_bytes (P := Tryz.prog) W 9 67 5 s Tryz.underlying9 Tryz.underlying67 Tryz.underlying5
  obtain ⟨rfl, hn⟩ := hq
  have hn' : ((n : Int) != (s.size : Int)) = true := by rw [bne_iff_ne]; omega
  have hn2 : (n != s.size) = true := by rw [bne_iff_ne]; exact hn
  clear hn
  go_enter Tryz.func153, Tryz.ntmps153
  go_wp2_with fail
  refine (HC.out _ _ _ (by simp)).mono ?_
  rintro e w1 ⟨rfl, hb⟩
  obtain ⟨hv, hb2, hz⟩ := VB_start w s rfl hb
  have k0 := hv.c0
  have k1 := hv.c1
  have k2 := hv.c2
  have f0 := hv.fr 0
  have f1 := hv.fr 1
  have f2 := hv.fr 2
  have HV := Lib.hid hv
  have HB := Lib.hid hb2
  clear hb hb2 hv kc
  go_wp2
  exact bodyPost_ret (v := .tuple #[.agg #[.bool false, .string ⟨#[]⟩, .int .i64 0], .bool false]) (by simp [results, Tryz.results153, go_sem, k0, k1, k2, f0, f1, f2]) rfl ⟨rfl, below_set3 HB.out _ _ _⟩
set_option maxRecDepth 100000 in
set_option maxHeartbeats 600000 in
/-- no number: an error -/
theorem of_err (s : ByteArray) (w : World) (n : Nat) (e : Int) (hq : e ≠ 0)
    (HC : Hid (∀ (W : World) (g c : Nat), W.heap.size = g → Calls Tryz.prog 188 #[.slice (some ⟨g, 0, none⟩) s.size c, .int .i64 0] (Lib.bytesWorld W 5 s) fun e' w' => e' = .returned (.tuple #[.int .i64 n, .int .i64 e]) ∧ Below (W.heap.size + 1) (Lib.bytesWorld W 5 s) w')) :
    Calls Tryz.prog 153 #[.string s] w fun e w' => e = .returned (.tuple #[vOf none, .bool false]) ∧ Below w.heap.size w w' := by
  have kc := fun (W : World) => Lib.run_convert_string_bytes (P := Tryz.prog) W 9 67 5 s Tryz.underlying9 Tryz.underlying67 Tryz.underlying5
  have hn' : (e != 0) = true := by simpa using hq
  have hn2 : (e == 0) = false := by simpa using hq
  clear hq
  go_enter Tryz.func153, Tryz.ntmps153
  go_wp2_with fail
  refine (HC.out _ _ _ (by simp)).mono ?_
  rintro e w1 ⟨rfl, hb⟩
  obtain ⟨hv, hb2, hz⟩ := VB_start w s rfl hb
  have k0 := hv.c0
  have k1 := hv.c1
  have k2 := hv.c2
  have f0 := hv.fr 0
  have f1 := hv.fr 1
  have f2 := hv.fr 2
  have HV := Lib.hid hv
  have HB := Lib.hid hb2
  clear hb hb2 hv kc
  go_wp2
  exact bodyPost_ret (v := .tuple #[.agg #[.bool false, .string ⟨#[]⟩, .int .i64 0], .bool false]) (by simp [results, Tryz.results153, go_sem, k0, k1, k2, f0, f1, f2]) rfl ⟨rfl, below_set3 HB.out _ _ _⟩
set_option maxRecDepth 100000 in
set_option maxHeartbeats 2000000 in
theorem of_empty_e (s : ByteArray) (l p m q d pd : List UInt8) (h : s.data.toList = l) (w : World) (hM : ML w) (hl : l.length < 4294967281) (ha : ∀ x ∈ p, x.toNat < 128)
    (HC : Hid (∀ (W : World) (g c : Nat), W.heap.size = g → Calls Tryz.prog 188 #[.slice (some ⟨g, 0, none⟩) s.size c, .int .i64 0] (Lib.bytesWorld W 5 s) fun e' w' => e' = .returned (.tuple #[.int .i64 (l.length : Nat), .int .i64 0]) ∧ Below (W.heap.size + 1) (Lib.bytesWorld W 5 s) w'))
    (hp : Hid (plainOf l = p)) (hpl : p.length ≤ l.length) (hm : Hid (mantOf p = m)) (hq : Hid (powOf p = q)) (hd : Hid (digsOf m = d)) (hpd : Hid (powDigs q = pd)) (hE : (mantOf p).length < p.length) (hD : d = []) :
    Calls Tryz.prog 153 #[.string s] w fun e w' => e = .returned (.tuple #[vOf (some ⟨false, [], 0⟩), .bool true]) ∧ Below w.heap.size w w' := by
  have hs : s.size = l.length := by rw [← h, list_len]
  have kc := fun (W : World) => Lib.run_convert_string_bytes (P := Tryz.prog) W 9 67 5 s Tryz.underlying9 Tryz.underlying67 Tryz.underlying5
  have hn' : ((l.length : Int) != (s.size : Int)) = false := by rw [hs]; simp
  have hn2 : (l.length != s.size) = false := by rw [hs]; simp
  have hml : (mantOf p).length ≤ p.length := mant_le p
  rw [hm.out] at hml hE
  have hab := parts_le m
  have hdl : d.length ≤ m.length := by rw [← hd.out]; exact digsOf_le m
  have hsl := trimR_le d [48]
  have hcat : (bs (aheadOf m)).size + (bs (behindOf m)).size ≤ 9223372036854775807 := by rw [bs_size, bs_size]; omega
  have C1 := Lib.hid (fun W => CutPrefix_minus s l h W)
  have C2 := Lib.hid (fun W => IndexAny_e (bs p) p rfl W (by omega) ha)
  have C5 := Lib.hid (fun t (ht : t.data.toList = aheadOf m ++ behindOf m) W => TrimLeft_nought t _ ht W)
  rw [show trimL (aheadOf m ++ behindOf m) [48] = d from hd.out] at C5
  rw [hp.out] at C1
  rw [hm.out] at C2
  rw [if_pos hE] at C2
  have C4 := Lib.hid (fun (W : World) (hW : ML W) => Cut_dot ((bs p).extract 0 m.length) m (by rw [extract_list, List.drop_zero, Nat.sub_zero, ← hm.out, mant_take]) W (by omega) hW)
  have hps : (bs p).size = p.length := bs_size p
  have hps2 : m.length ≤ (bs p).size := by omega
  have hps3 : m.length + 1 ≤ (bs p).size := by omega
  have hqe : ((bs p).extract (m.length + 1) (bs p).size).data.toList = q := by rw [extract_list, hps, ← hq.out, ← hm.out, ← pow_drop, List.take_of_length_le (by rw [List.length_drop]; omega)]
  have de := isEmpty_true hD
  have de2 : ((bs d).toList == []) = true := by simp [Lib.toList_data, bs_list, hD]
  have HAP : Hid (∀ a b : List UInt8, (bs a ++ bs b).data.toList = a ++ b) := Lib.hid fun a b => by simp [bs]
  have HM := Lib.hid hM
  have HS := Lib.hid hs
  have HL := Lib.hid h
  have HQE := Lib.hid hqe
  generalize hbl : decide (l.head? = some 45) = bl at *
  clear hM h hqe hD hbl
  have hE' := Lib.hid hE
  clear hE hs
  go_enter Tryz.func153, Tryz.ntmps153
  go_wp2_with fail
  refine (HC.out _ _ _ (by simp)).mono ?_
  rintro e w1 ⟨rfl, hb⟩
  obtain ⟨hv, hb2, hz⟩ := VB_start w s rfl hb
  have HM1 := Lib.hid (HM.out.on hb2)
  have k0 := hv.c0
  have k1 := hv.c1
  have k2 := hv.c2
  have f0 := hv.fr 0
  have f1 := hv.fr 1
  have f2 := hv.fr 2
  have HV := Lib.hid hv
  have HB := Lib.hid hb2
  clear hb hb2 hv kc
  go_wp2_with fail
  refine (C1.out _).mono ?_
  rintro e w' ⟨rfl, rfl⟩
  go_wp2_with fail
  refine (C2.out _).mono ?_
  rintro e w2 ⟨rfl, hb⟩
  have hv := HV.out.on hb
  have HB2 := Lib.hid (HB.out.trans (hb.mono (by omega)))
  have HM2 := Lib.hid (HM1.out.on hb)
  clear k0 k1 k2 f0 f1 f2 HV hb HB HM1
  have k0 := hv.c0
  have k1 := hv.c1
  have k2 := hv.c2
  have f0 := hv.fr 0
  have f1 := hv.fr 1
  have f2 := hv.fr 2
  have HV := Lib.hid hv
  clear hv
  go_wp2
  go_quiet (fail)
  go_wp2_with fail
  refine (C4.out _ (by exact HM2.out)).mono ?_
  rintro e w' ⟨⟨v, rfl⟩, n, rfl⟩
  go_wp2_with fail
  refine (C5.out _ (HAP.out _ _) _).mono ?_
  rintro e w' ⟨rfl, rfl⟩
  go_wp2
  exact bodyPost_ret (v := .tuple #[.agg #[.bool false, .string ⟨#[]⟩, .int .i64 0], .bool true]) (by simp [results, Tryz.results153, go_sem, k0, k1, k2, f0, f1, f2]) rfl ⟨rfl, below_drewN (below_set3 HB2.out _ _ _) _⟩
set_option maxRecDepth 100000 in
set_option maxHeartbeats 2000000 in
theorem of_empty (s : ByteArray) (l p m q d pd : List UInt8) (h : s.data.toList = l) (w : World) (hM : ML w) (hl : l.length < 4294967281) (ha : ∀ x ∈ p, x.toNat < 128)
    (HC : Hid (∀ (W : World) (g c : Nat), W.heap.size = g → Calls Tryz.prog 188 #[.slice (some ⟨g, 0, none⟩) s.size c, .int .i64 0] (Lib.bytesWorld W 5 s) fun e' w' => e' = .returned (.tuple #[.int .i64 (l.length : Nat), .int .i64 0]) ∧ Below (W.heap.size + 1) (Lib.bytesWorld W 5 s) w'))
    (hp : Hid (plainOf l = p)) (hpl : p.length ≤ l.length) (hm : Hid (mantOf p = m)) (hq : Hid (powOf p = q)) (hd : Hid (digsOf m = d)) (hpd : Hid (powDigs q = pd)) (hE : ¬ (mantOf p).length < p.length) (hD : d = []) :
    Calls Tryz.prog 153 #[.string s] w fun e w' => e = .returned (.tuple #[vOf (some ⟨false, [], 0⟩), .bool true]) ∧ Below w.heap.size w w' := by
  have hs : s.size = l.length := by rw [← h, list_len]
  have kc := fun (W : World) => Lib.run_convert_string_bytes (P := Tryz.prog) W 9 67 5 s Tryz.underlying9 Tryz.underlying67 Tryz.underlying5
  have hn' : ((l.length : Int) != (s.size : Int)) = false := by rw [hs]; simp
  have hn2 : (l.length != s.size) = false := by rw [hs]; simp
  have hml : (mantOf p).length ≤ p.length := mant_le p
  rw [hm.out] at hml hE
  have hab := parts_le m
  have hdl : d.length ≤ m.length := by rw [← hd.out]; exact digsOf_le m
  have hsl := trimR_le d [48]
  have hcat : (bs (aheadOf m)).size + (bs (behindOf m)).size ≤ 9223372036854775807 := by rw [bs_size, bs_size]; omega
  have C1 := Lib.hid (fun W => CutPrefix_minus s l h W)
  have C2 := Lib.hid (fun W => IndexAny_e (bs p) p rfl W (by omega) ha)
  have C5 := Lib.hid (fun t (ht : t.data.toList = aheadOf m ++ behindOf m) W => TrimLeft_nought t _ ht W)
  rw [show trimL (aheadOf m ++ behindOf m) [48] = d from hd.out] at C5
  rw [hp.out] at C1
  rw [hm.out] at C2
  rw [if_neg hE] at C2
  have hmp : m = p := by have := (mant_whole (l := p) (by rw [hm.out]; exact hE)).1; rw [hm.out] at this; exact this
  have hq0 : q = [] := by have := (mant_whole (l := p) (by rw [hm.out]; exact hE)).2; rw [hq.out] at this; exact this
  have C4 := Lib.hid (fun (W : World) (hW : ML W) => Cut_dot (bs p) m (by rw [hmp]; rfl) W (by omega) hW)
  have hqe : (ByteArray.mk #[]).data.toList = q := by rw [hq0]
  have HQ0 := Lib.hid hq0
  have HMP := Lib.hid hmp
  clear hq0 hmp
  have de := isEmpty_true hD
  have de2 : ((bs d).toList == []) = true := by simp [Lib.toList_data, bs_list, hD]
  have HAP : Hid (∀ a b : List UInt8, (bs a ++ bs b).data.toList = a ++ b) := Lib.hid fun a b => by simp [bs]
  have HM := Lib.hid hM
  have HS := Lib.hid hs
  have HL := Lib.hid h
  have HQE := Lib.hid hqe
  generalize hbl : decide (l.head? = some 45) = bl at *
  clear hM h hqe hD hbl
  have hE' := Lib.hid hE
  clear hE hs
  go_enter Tryz.func153, Tryz.ntmps153
  go_wp2_with fail
  refine (HC.out _ _ _ (by simp)).mono ?_
  rintro e w1 ⟨rfl, hb⟩
  obtain ⟨hv, hb2, hz⟩ := VB_start w s rfl hb
  have HM1 := Lib.hid (HM.out.on hb2)
  have k0 := hv.c0
  have k1 := hv.c1
  have k2 := hv.c2
  have f0 := hv.fr 0
  have f1 := hv.fr 1
  have f2 := hv.fr 2
  have HV := Lib.hid hv
  have HB := Lib.hid hb2
  clear hb hb2 hv kc
  go_wp2_with fail
  refine (C1.out _).mono ?_
  rintro e w' ⟨rfl, rfl⟩
  go_wp2_with fail
  refine (C2.out _).mono ?_
  rintro e w2 ⟨rfl, hb⟩
  have hv := HV.out.on hb
  have HB2 := Lib.hid (HB.out.trans (hb.mono (by omega)))
  have HM2 := Lib.hid (HM1.out.on hb)
  clear k0 k1 k2 f0 f1 f2 HV hb HB HM1
  have k0 := hv.c0
  have k1 := hv.c1
  have k2 := hv.c2
  have f0 := hv.fr 0
  have f1 := hv.fr 1
  have f2 := hv.fr 2
  have HV := Lib.hid hv
  clear hv
  go_wp2_with fail
  refine (C4.out _ (by exact HM2.out)).mono ?_
  rintro e w' ⟨⟨v, rfl⟩, n, rfl⟩
  go_wp2_with fail
  refine (C5.out _ (HAP.out _ _) _).mono ?_
  rintro e w' ⟨rfl, rfl⟩
  go_wp2
  exact bodyPost_ret (v := .tuple #[.agg #[.bool false, .string ⟨#[]⟩, .int .i64 0], .bool true]) (by simp [results, Tryz.results153, go_sem, k0, k1, k2, f0, f1, f2]) rfl ⟨rfl, below_drewN (below_set3 HB2.out _ _ _) _⟩
set_option maxRecDepth 100000 in
set_option maxHeartbeats 2000000 in
theorem of_plain (s : ByteArray) (l p m q d pd : List UInt8) (h : s.data.toList = l) (w : World) (hM : ML w) (hl : l.length < 4294967281) (ha : ∀ x ∈ p, x.toNat < 128)
    (HC : Hid (∀ (W : World) (g c : Nat), W.heap.size = g → Calls Tryz.prog 188 #[.slice (some ⟨g, 0, none⟩) s.size c, .int .i64 0] (Lib.bytesWorld W 5 s) fun e' w' => e' = .returned (.tuple #[.int .i64 (l.length : Nat), .int .i64 0]) ∧ Below (W.heap.size + 1) (Lib.bytesWorld W 5 s) w'))
    (hp : Hid (plainOf l = p)) (hpl : p.length ≤ l.length) (hm : Hid (mantOf p = m)) (hq : Hid (powOf p = q)) (hd : Hid (digsOf m = d)) (hpd : Hid (powDigs q = pd)) (hE : ¬ (mantOf p).length < p.length) (hD : d ≠ []) :
    Calls Tryz.prog 153 #[.string s] w fun e w' => e = .returned (.tuple #[vOf (some ⟨decide (l.head? = some 45), trimR d [48], (d.length : Int) - (trimR d [48]).length - (behindOf m).length⟩), .bool true]) ∧ Below w.heap.size w w' := by
  have hs : s.size = l.length := by rw [← h, list_len]
  have kc := fun (W : World) => Lib.run_convert_string_bytes (P := Tryz.prog) W 9 67 5 s Tryz.underlying9 Tryz.underlying67 Tryz.underlying5
  have hn' : ((l.length : Int) != (s.size : Int)) = false := by rw [hs]; simp
  have hn2 : (l.length != s.size) = false := by rw [hs]; simp
  have hml : (mantOf p).length ≤ p.length := mant_le p
  rw [hm.out] at hml hE
  have hab := parts_le m
  have hdl : d.length ≤ m.length := by rw [← hd.out]; exact digsOf_le m
  have hsl := trimR_le d [48]
  have hcat : (bs (aheadOf m)).size + (bs (behindOf m)).size ≤ 9223372036854775807 := by rw [bs_size, bs_size]; omega
  have C1 := Lib.hid (fun W => CutPrefix_minus s l h W)
  have C2 := Lib.hid (fun W => IndexAny_e (bs p) p rfl W (by omega) ha)
  have C5 := Lib.hid (fun t (ht : t.data.toList = aheadOf m ++ behindOf m) W => TrimLeft_nought t _ ht W)
  rw [show trimL (aheadOf m ++ behindOf m) [48] = d from hd.out] at C5
  rw [hp.out] at C1
  rw [hm.out] at C2
  rw [if_neg hE] at C2
  have hmp : m = p := by have := (mant_whole (l := p) (by rw [hm.out]; exact hE)).1; rw [hm.out] at this; exact this
  have hq0 : q = [] := by have := (mant_whole (l := p) (by rw [hm.out]; exact hE)).2; rw [hq.out] at this; exact this
  have C4 := Lib.hid (fun (W : World) (hW : ML W) => Cut_dot (bs p) m (by rw [hmp]; rfl) W (by omega) hW)
  have hqe : (ByteArray.mk #[]).data.toList = q := by rw [hq0]
  have HQ0 := Lib.hid hq0
  have HMP := Lib.hid hmp
  clear hq0 hmp
  have de := isEmpty_false hD
  have HAP : Hid (∀ a b : List UInt8, (bs a ++ bs b).data.toList = a ++ b) := Lib.hid fun a b => by simp [bs]
  have C6 := Lib.hid (fun W => TrimRight_nought (bs d) d rfl W (by omega))
  have HDS : Hid (trimR d [48] = trimR d [48]) := Lib.hid rfl
  generalize hsh : trimR d [48] = sh at *
  have hds := bs_size d
  have hss := bs_size sh
  have hbs := bs_size (behindOf m)
  have C7 := Lib.hid (fun t (ht : t.data.toList = q) W => HasPrefix_minus t q ht W)
  have C8 := Lib.hid (fun t (ht : t.data.toList = q) W => TrimLeft_sign t q ht W)
  have C9 := Lib.hid (fun W => TrimLeft_nought (bs (trimL q [43, 45])) (trimL q [43, 45]) rfl W)
  rw [show trimL (trimL q [43, 45]) [48] = pd from hpd.out] at C9
  have hpds := bs_size pd
  have hpd0 : pd = [] := by rw [← hpd.out, HQ0.out]; rfl
  have pe := isEmpty_true hpd0
  have hpl0 : (bs pd).size = 0 := by rw [hpds, hpd0]; rfl
  have hpl1 : decide ((15 : Int) < ((bs pd).size : Int)) = false := by rw [hpl0]; decide
  clear hpd0
  have HM := Lib.hid hM
  have HS := Lib.hid hs
  have HL := Lib.hid h
  have HQE := Lib.hid hqe
  generalize hbl : decide (l.head? = some 45) = bl at *
  clear hM h hqe hD hbl
  clear hsh
  have hE' := Lib.hid hE
  clear hE hs
  go_enter Tryz.func153, Tryz.ntmps153
  go_wp2_with fail
  refine (HC.out _ _ _ (by simp)).mono ?_
  rintro e w1 ⟨rfl, hb⟩
  obtain ⟨hv, hb2, hz⟩ := VB_start w s rfl hb
  have HM1 := Lib.hid (HM.out.on hb2)
  have k0 := hv.c0
  have k1 := hv.c1
  have k2 := hv.c2
  have f0 := hv.fr 0
  have f1 := hv.fr 1
  have f2 := hv.fr 2
  have HV := Lib.hid hv
  have HB := Lib.hid hb2
  clear hb hb2 hv kc
  go_wp2_with fail
  refine (C1.out _).mono ?_
  rintro e w' ⟨rfl, rfl⟩
  go_wp2_with fail
  refine (C2.out _).mono ?_
  rintro e w2 ⟨rfl, hb⟩
  have hv := HV.out.on hb
  have HB2 := Lib.hid (HB.out.trans (hb.mono (by omega)))
  have HM2 := Lib.hid (HM1.out.on hb)
  clear k0 k1 k2 f0 f1 f2 HV hb HB HM1
  have k0 := hv.c0
  have k1 := hv.c1
  have k2 := hv.c2
  have f0 := hv.fr 0
  have f1 := hv.fr 1
  have f2 := hv.fr 2
  have HV := Lib.hid hv
  clear hv
  go_wp2_with fail
  refine (C4.out _ (by exact HM2.out)).mono ?_
  rintro e w' ⟨⟨v, rfl⟩, n, rfl⟩
  go_wp2_with fail
  refine (C5.out _ (HAP.out _ _) _).mono ?_
  rintro e w' ⟨rfl, rfl⟩
  go_wp2_with fail
  refine (C6.out _).mono ?_
  rintro e w' ⟨rfl, rfl⟩
  go_wp2_with fail
  refine (C7.out _ HQE.out _).mono ?_
  rintro e w' ⟨rfl, rfl⟩
  go_wp2_with fail
  refine (C8.out _ HQE.out _).mono ?_
  rintro e w3 ⟨rfl, hb⟩
  have hv : VB w3 w.heap.size (.bool bl) (.string (bs sh)) (.int .i64 ((d.length : Int) - sh.length - (behindOf m).length)) := (VB.set (HV.out.draws _) _ _ _).on hb
  have HB3 := Lib.hid (set3_below HB2.out _ _ _ _ hb)
  clear k0 k1 k2 f0 f1 f2 HV hb HB2 HM2
  have k0 := hv.c0
  have k1 := hv.c1
  have k2 := hv.c2
  have f0 := hv.fr 0
  have f1 := hv.fr 1
  have f2 := hv.fr 2
  have HV := Lib.hid hv
  clear hv
  go_wp2_with fail
  refine (C9.out _).mono ?_
  rintro e w' ⟨rfl, rfl⟩
  go_wp2
  exact bodyPost_ret (v := .tuple #[.agg #[.bool bl, .string (bs sh), .int .i64 ((d.length : Int) - sh.length - (behindOf m).length)], .bool true]) (by simp [results, Tryz.results153, go_sem, k0, k1, k2, f0, f1, f2]) rfl ⟨rfl, below_set3 HB3.out _ _ _⟩
set_option maxRecDepth 100000 in
set_option maxHeartbeats 2000000 in
theorem of_long (s : ByteArray) (l p m q d pd : List UInt8) (h : s.data.toList = l) (w : World) (hM : ML w) (hl : l.length < 4294967281) (ha : ∀ x ∈ p, x.toNat < 128)
    (HC : Hid (∀ (W : World) (g c : Nat), W.heap.size = g → Calls Tryz.prog 188 #[.slice (some ⟨g, 0, none⟩) s.size c, .int .i64 0] (Lib.bytesWorld W 5 s) fun e' w' => e' = .returned (.tuple #[.int .i64 (l.length : Nat), .int .i64 0]) ∧ Below (W.heap.size + 1) (Lib.bytesWorld W 5 s) w'))
    (hp : Hid (plainOf l = p)) (hpl : p.length ≤ l.length) (hm : Hid (mantOf p = m)) (hq : Hid (powOf p = q)) (hd : Hid (digsOf m = d)) (hpd : Hid (powDigs q = pd)) (hE : (mantOf p).length < p.length) (hD : d ≠ []) (hP : 15 < pd.length) :
    Calls Tryz.prog 153 #[.string s] w fun e w' => e = .returned (.tuple #[vOf none, .bool false]) ∧ Below w.heap.size w w' := by
  have hs : s.size = l.length := by rw [← h, list_len]
  have kc := fun (W : World) => Lib.run_convert_string_bytes (P := Tryz.prog) W 9 67 5 s Tryz.underlying9 Tryz.underlying67 Tryz.underlying5
  have hn' : ((l.length : Int) != (s.size : Int)) = false := by rw [hs]; simp
  have hn2 : (l.length != s.size) = false := by rw [hs]; simp
  have hml : (mantOf p).length ≤ p.length := mant_le p
  rw [hm.out] at hml hE
  have hab := parts_le m
  have hdl : d.length ≤ m.length := by rw [← hd.out]; exact digsOf_le m
  have hsl := trimR_le d [48]
  have hcat : (bs (aheadOf m)).size + (bs (behindOf m)).size ≤ 9223372036854775807 := by rw [bs_size, bs_size]; omega
  have C1 := Lib.hid (fun W => CutPrefix_minus s l h W)
  have C2 := Lib.hid (fun W => IndexAny_e (bs p) p rfl W (by omega) ha)
  have C5 := Lib.hid (fun t (ht : t.data.toList = aheadOf m ++ behindOf m) W => TrimLeft_nought t _ ht W)
  rw [show trimL (aheadOf m ++ behindOf m) [48] = d from hd.out] at C5
  rw [hp.out] at C1
  rw [hm.out] at C2
  rw [if_pos hE] at C2
  have C4 := Lib.hid (fun (W : World) (hW : ML W) => Cut_dot ((bs p).extract 0 m.length) m (by rw [extract_list, List.drop_zero, Nat.sub_zero, ← hm.out, mant_take]) W (by omega) hW)
  have hps : (bs p).size = p.length := bs_size p
  have hps2 : m.length ≤ (bs p).size := by omega
  have hps3 : m.length + 1 ≤ (bs p).size := by omega
  have hqe : ((bs p).extract (m.length + 1) (bs p).size).data.toList = q := by rw [extract_list, hps, ← hq.out, ← hm.out, ← pow_drop, List.take_of_length_le (by rw [List.length_drop]; omega)]
  have de := isEmpty_false hD
  have HAP : Hid (∀ a b : List UInt8, (bs a ++ bs b).data.toList = a ++ b) := Lib.hid fun a b => by simp [bs]
  have C6 := Lib.hid (fun W => TrimRight_nought (bs d) d rfl W (by omega))
  have HDS : Hid (trimR d [48] = trimR d [48]) := Lib.hid rfl
  generalize hsh : trimR d [48] = sh at *
  have hds := bs_size d
  have hss := bs_size sh
  have hbs := bs_size (behindOf m)
  have C7 := Lib.hid (fun t (ht : t.data.toList = q) W => HasPrefix_minus t q ht W)
  have C8 := Lib.hid (fun t (ht : t.data.toList = q) W => TrimLeft_sign t q ht W)
  have C9 := Lib.hid (fun W => TrimLeft_nought (bs (trimL q [43, 45])) (trimL q [43, 45]) rfl W)
  rw [show trimL (trimL q [43, 45]) [48] = pd from hpd.out] at C9
  have hpds := bs_size pd
  have hpl1 : decide ((15 : Int) < ((bs pd).size : Int)) = true := by rw [hpds]; simp; omega
  have hpl2 : decide (15 < (bs pd).size) = true := by rw [hpds]; simp; omega
  have HM := Lib.hid hM
  have HS := Lib.hid hs
  have HL := Lib.hid h
  have HQE := Lib.hid hqe
  generalize hbl : decide (l.head? = some 45) = bl at *
  clear hM h hqe hD hbl
  clear hsh
  have hE' := Lib.hid hE
  clear hE hs
  go_enter Tryz.func153, Tryz.ntmps153
  go_wp2_with fail
  refine (HC.out _ _ _ (by simp)).mono ?_
  rintro e w1 ⟨rfl, hb⟩
  obtain ⟨hv, hb2, hz⟩ := VB_start w s rfl hb
  have HM1 := Lib.hid (HM.out.on hb2)
  have k0 := hv.c0
  have k1 := hv.c1
  have k2 := hv.c2
  have f0 := hv.fr 0
  have f1 := hv.fr 1
  have f2 := hv.fr 2
  have HV := Lib.hid hv
  have HB := Lib.hid hb2
  clear hb hb2 hv kc
  go_wp2_with fail
  refine (C1.out _).mono ?_
  rintro e w' ⟨rfl, rfl⟩
  go_wp2_with fail
  refine (C2.out _).mono ?_
  rintro e w2 ⟨rfl, hb⟩
  have hv := HV.out.on hb
  have HB2 := Lib.hid (HB.out.trans (hb.mono (by omega)))
  have HM2 := Lib.hid (HM1.out.on hb)
  clear k0 k1 k2 f0 f1 f2 HV hb HB HM1
  have k0 := hv.c0
  have k1 := hv.c1
  have k2 := hv.c2
  have f0 := hv.fr 0
  have f1 := hv.fr 1
  have f2 := hv.fr 2
  have HV := Lib.hid hv
  clear hv
  go_wp2
  go_quiet (fail)
  go_wp2_with fail
  refine (C4.out _ (by exact HM2.out)).mono ?_
  rintro e w' ⟨⟨v, rfl⟩, n, rfl⟩
  go_wp2_with fail
  refine (C5.out _ (HAP.out _ _) _).mono ?_
  rintro e w' ⟨rfl, rfl⟩
  go_wp2_with fail
  refine (C6.out _).mono ?_
  rintro e w' ⟨rfl, rfl⟩
  go_wp2_with fail
  refine (C7.out _ HQE.out _).mono ?_
  rintro e w' ⟨rfl, rfl⟩
  go_wp2_with fail
  refine (C8.out _ HQE.out _).mono ?_
  rintro e w3 ⟨rfl, hb⟩
  have hv : VB w3 w.heap.size (.bool bl) (.string (bs sh)) (.int .i64 ((d.length : Int) - sh.length - (behindOf m).length)) := (VB.set (HV.out.draws _) _ _ _).on hb
  have HB3 := Lib.hid (set3_below HB2.out _ _ _ _ hb)
  clear k0 k1 k2 f0 f1 f2 HV hb HB2 HM2
  have k0 := hv.c0
  have k1 := hv.c1
  have k2 := hv.c2
  have f0 := hv.fr 0
  have f1 := hv.fr 1
  have f2 := hv.fr 2
  have HV := Lib.hid hv
  clear hv
  go_wp2_with fail
  refine (C9.out _).mono ?_
  rintro e w' ⟨rfl, rfl⟩
  go_wp2
  exact bodyPost_ret (v := .tuple #[.agg #[.bool false, .string ⟨#[]⟩, .int .i64 0], .bool false]) (by simp [results, Tryz.results153, go_sem, k0, k1, k2, f0, f1, f2]) rfl ⟨rfl, below_set3 HB3.out _ _ _⟩
set_option maxRecDepth 100000 in
set_option maxHeartbeats 2000000 in
theorem of_zero (s : ByteArray) (l p m q d pd : List UInt8) (h : s.data.toList = l) (w : World) (hM : ML w) (hl : l.length < 4294967281) (ha : ∀ x ∈ p, x.toNat < 128)
    (HC : Hid (∀ (W : World) (g c : Nat), W.heap.size = g → Calls Tryz.prog 188 #[.slice (some ⟨g, 0, none⟩) s.size c, .int .i64 0] (Lib.bytesWorld W 5 s) fun e' w' => e' = .returned (.tuple #[.int .i64 (l.length : Nat), .int .i64 0]) ∧ Below (W.heap.size + 1) (Lib.bytesWorld W 5 s) w'))
    (hp : Hid (plainOf l = p)) (hpl : p.length ≤ l.length) (hm : Hid (mantOf p = m)) (hq : Hid (powOf p = q)) (hd : Hid (digsOf m = d)) (hpd : Hid (powDigs q = pd)) (hE : (mantOf p).length < p.length) (hD : d ≠ []) (hP : pd = []) :
    Calls Tryz.prog 153 #[.string s] w fun e w' => e = .returned (.tuple #[vOf (some ⟨decide (l.head? = some 45), trimR d [48], (d.length : Int) - (trimR d [48]).length - (behindOf m).length⟩), .bool true]) ∧ Below w.heap.size w w' := by
  have hs : s.size = l.length := by rw [← h, list_len]
  have kc := fun (W : World) => Lib.run_convert_string_bytes (P := Tryz.prog) W 9 67 5 s Tryz.underlying9 Tryz.underlying67 Tryz.underlying5
  have hn' : ((l.length : Int) != (s.size : Int)) = false := by rw [hs]; simp
  have hn2 : (l.length != s.size) = false := by rw [hs]; simp
  have hml : (mantOf p).length ≤ p.length := mant_le p
  rw [hm.out] at hml hE
  have hab := parts_le m
  have hdl : d.length ≤ m.length := by rw [← hd.out]; exact digsOf_le m
  have hsl := trimR_le d [48]
  have hcat : (bs (aheadOf m)).size + (bs (behindOf m)).size ≤ 9223372036854775807 := by rw [bs_size, bs_size]; omega
  have C1 := Lib.hid (fun W => CutPrefix_minus s l h W)
  have C2 := Lib.hid (fun W => IndexAny_e (bs p) p rfl W (by omega) ha)
  have C5 := Lib.hid (fun t (ht : t.data.toList = aheadOf m ++ behindOf m) W => TrimLeft_nought t _ ht W)
  rw [show trimL (aheadOf m ++ behindOf m) [48] = d from hd.out] at C5
  rw [hp.out] at C1
  rw [hm.out] at C2
  rw [if_pos hE] at C2
  have C4 := Lib.hid (fun (W : World) (hW : ML W) => Cut_dot ((bs p).extract 0 m.length) m (by rw [extract_list, List.drop_zero, Nat.sub_zero, ← hm.out, mant_take]) W (by omega) hW)
  have hps : (bs p).size = p.length := bs_size p
  have hps2 : m.length ≤ (bs p).size := by omega
  have hps3 : m.length + 1 ≤ (bs p).size := by omega
  have hqe : ((bs p).extract (m.length + 1) (bs p).size).data.toList = q := by rw [extract_list, hps, ← hq.out, ← hm.out, ← pow_drop, List.take_of_length_le (by rw [List.length_drop]; omega)]
  have de := isEmpty_false hD
  have HAP : Hid (∀ a b : List UInt8, (bs a ++ bs b).data.toList = a ++ b) := Lib.hid fun a b => by simp [bs]
  have C6 := Lib.hid (fun W => TrimRight_nought (bs d) d rfl W (by omega))
  have HDS : Hid (trimR d [48] = trimR d [48]) := Lib.hid rfl
  generalize hsh : trimR d [48] = sh at *
  have hds := bs_size d
  have hss := bs_size sh
  have hbs := bs_size (behindOf m)
  have C7 := Lib.hid (fun t (ht : t.data.toList = q) W => HasPrefix_minus t q ht W)
  have C8 := Lib.hid (fun t (ht : t.data.toList = q) W => TrimLeft_sign t q ht W)
  have C9 := Lib.hid (fun W => TrimLeft_nought (bs (trimL q [43, 45])) (trimL q [43, 45]) rfl W)
  rw [show trimL (trimL q [43, 45]) [48] = pd from hpd.out] at C9
  have hpds := bs_size pd
  have pe := isEmpty_true hP
  have hpl0 : (bs pd).size = 0 := by rw [hpds, hP]; rfl
  have hpl1 : decide ((15 : Int) < ((bs pd).size : Int)) = false := by rw [hpl0]; decide
  have hpl2 : decide (15 < (bs pd).size) = false := by rw [hpl0]; decide
  clear hP
  have HM := Lib.hid hM
  have HS := Lib.hid hs
  have HL := Lib.hid h
  have HQE := Lib.hid hqe
  generalize hbl : decide (l.head? = some 45) = bl at *
  clear hM h hqe hD hbl
  clear hsh
  have hE' := Lib.hid hE
  clear hE hs
  go_enter Tryz.func153, Tryz.ntmps153
  go_wp2_with fail
  refine (HC.out _ _ _ (by simp)).mono ?_
  rintro e w1 ⟨rfl, hb⟩
  obtain ⟨hv, hb2, hz⟩ := VB_start w s rfl hb
  have HM1 := Lib.hid (HM.out.on hb2)
  have k0 := hv.c0
  have k1 := hv.c1
  have k2 := hv.c2
  have f0 := hv.fr 0
  have f1 := hv.fr 1
  have f2 := hv.fr 2
  have HV := Lib.hid hv
  have HB := Lib.hid hb2
  clear hb hb2 hv kc
  go_wp2_with fail
  refine (C1.out _).mono ?_
  rintro e w' ⟨rfl, rfl⟩
  go_wp2_with fail
  refine (C2.out _).mono ?_
  rintro e w2 ⟨rfl, hb⟩
  have hv := HV.out.on hb
  have HB2 := Lib.hid (HB.out.trans (hb.mono (by omega)))
  have HM2 := Lib.hid (HM1.out.on hb)
  clear k0 k1 k2 f0 f1 f2 HV hb HB HM1
  have k0 := hv.c0
  have k1 := hv.c1
  have k2 := hv.c2
  have f0 := hv.fr 0
  have f1 := hv.fr 1
  have f2 := hv.fr 2
  have HV := Lib.hid hv
  clear hv
  go_wp2
  go_quiet (fail)
  go_wp2_with fail
  refine (C4.out _ (by exact HM2.out)).mono ?_
  rintro e w' ⟨⟨v, rfl⟩, n, rfl⟩
  go_wp2_with fail
  refine (C5.out _ (HAP.out _ _) _).mono ?_
  rintro e w' ⟨rfl, rfl⟩
  go_wp2_with fail
  refine (C6.out _).mono ?_
  rintro e w' ⟨rfl, rfl⟩
  go_wp2_with fail
  refine (C7.out _ HQE.out _).mono ?_
  rintro e w' ⟨rfl, rfl⟩
  go_wp2_with fail
  refine (C8.out _ HQE.out _).mono ?_
  rintro e w3 ⟨rfl, hb⟩
  have hv : VB w3 w.heap.size (.bool bl) (.string (bs sh)) (.int .i64 ((d.length : Int) - sh.length - (behindOf m).length)) := (VB.set (HV.out.draws _) _ _ _).on hb
  have HB3 := Lib.hid (set3_below HB2.out _ _ _ _ hb)
  clear k0 k1 k2 f0 f1 f2 HV hb HB2 HM2
  have k0 := hv.c0
  have k1 := hv.c1
  have k2 := hv.c2
  have f0 := hv.fr 0
  have f1 := hv.fr 1
  have f2 := hv.fr 2
  have HV := Lib.hid hv
  clear hv
  go_wp2_with fail
  refine (C9.out _).mono ?_
  rintro e w' ⟨rfl, rfl⟩
  go_wp2
  exact bodyPost_ret (v := .tuple #[.agg #[.bool bl, .string (bs sh), .int .i64 ((d.length : Int) - sh.length - (behindOf m).length)], .bool true]) (by simp [results, Tryz.results153, go_sem, k0, k1, k2, f0, f1, f2]) rfl ⟨rfl, below_set3 HB3.out _ _ _⟩
set_option maxRecDepth 100000 in
set_option maxHeartbeats 2000000 in
theorem of_neg (s : ByteArray) (l p m q d pd : List UInt8) (h : s.data.toList = l) (w : World) (hM : ML w) (hl : l.length < 4294967281) (ha : ∀ x ∈ p, x.toNat < 128)
    (HC : Hid (∀ (W : World) (g c : Nat), W.heap.size = g → Calls Tryz.prog 188 #[.slice (some ⟨g, 0, none⟩) s.size c, .int .i64 0] (Lib.bytesWorld W 5 s) fun e' w' => e' = .returned (.tuple #[.int .i64 (l.length : Nat), .int .i64 0]) ∧ Below (W.heap.size + 1) (Lib.bytesWorld W 5 s) w'))
    (hp : Hid (plainOf l = p)) (hpl : p.length ≤ l.length) (hm : Hid (mantOf p = m)) (hq : Hid (powOf p = q)) (hd : Hid (digsOf m = d)) (hpd : Hid (powDigs q = pd)) (hE : (mantOf p).length < p.length) (hD : d ≠ []) (hP : pd.length ≤ 15) (hP2 : pd ≠ []) (hP3 : Digs pd) (hN : q.head? = some 45) :
    Calls Tryz.prog 153 #[.string s] w fun e w' => e = .returned (.tuple #[vOf (some ⟨decide (l.head? = some 45), trimR d [48], (d.length : Int) - (trimR d [48]).length - (behindOf m).length + -(decV pd : Int)⟩), .bool true]) ∧ Below w.heap.size w w' := by
  have hs : s.size = l.length := by rw [← h, list_len]
  have kc := fun (W : World) => Lib.run_convert_string_bytes (P := Tryz.prog) W 9 67 5 s Tryz.underlying9 Tryz.underlying67 Tryz.underlying5
  have hn' : ((l.length : Int) != (s.size : Int)) = false := by rw [hs]; simp
  have hn2 : (l.length != s.size) = false := by rw [hs]; simp
  have hml : (mantOf p).length ≤ p.length := mant_le p
  rw [hm.out] at hml hE
  have hab := parts_le m
  have hdl : d.length ≤ m.length := by rw [← hd.out]; exact digsOf_le m
  have hsl := trimR_le d [48]
  have hcat : (bs (aheadOf m)).size + (bs (behindOf m)).size ≤ 9223372036854775807 := by rw [bs_size, bs_size]; omega
  have C1 := Lib.hid (fun W => CutPrefix_minus s l h W)
  have C2 := Lib.hid (fun W => IndexAny_e (bs p) p rfl W (by omega) ha)
  have C5 := Lib.hid (fun t (ht : t.data.toList = aheadOf m ++ behindOf m) W => TrimLeft_nought t _ ht W)
  rw [show trimL (aheadOf m ++ behindOf m) [48] = d from hd.out] at C5
  rw [hp.out] at C1
  rw [hm.out] at C2
  rw [if_pos hE] at C2
  have C4 := Lib.hid (fun (W : World) (hW : ML W) => Cut_dot ((bs p).extract 0 m.length) m (by rw [extract_list, List.drop_zero, Nat.sub_zero, ← hm.out, mant_take]) W (by omega) hW)
  have hps : (bs p).size = p.length := bs_size p
  have hps2 : m.length ≤ (bs p).size := by omega
  have hps3 : m.length + 1 ≤ (bs p).size := by omega
  have hqe : ((bs p).extract (m.length + 1) (bs p).size).data.toList = q := by rw [extract_list, hps, ← hq.out, ← hm.out, ← pow_drop, List.take_of_length_le (by rw [List.length_drop]; omega)]
  have de := isEmpty_false hD
  have HAP : Hid (∀ a b : List UInt8, (bs a ++ bs b).data.toList = a ++ b) := Lib.hid fun a b => by simp [bs]
  have C6 := Lib.hid (fun W => TrimRight_nought (bs d) d rfl W (by omega))
  have HDS : Hid (trimR d [48] = trimR d [48]) := Lib.hid rfl
  generalize hsh : trimR d [48] = sh at *
  have hds := bs_size d
  have hss := bs_size sh
  have hbs := bs_size (behindOf m)
  have C7 := Lib.hid (fun t (ht : t.data.toList = q) W => HasPrefix_minus t q ht W)
  have C8 := Lib.hid (fun t (ht : t.data.toList = q) W => TrimLeft_sign t q ht W)
  have C9 := Lib.hid (fun W => TrimLeft_nought (bs (trimL q [43, 45])) (trimL q [43, 45]) rfl W)
  rw [show trimL (trimL q [43, 45]) [48] = pd from hpd.out] at C9
  have hpds := bs_size pd
  have pe := isEmpty_false hP2
  have hpl1 : decide ((15 : Int) < ((bs pd).size : Int)) = false := by rw [hpds]; simp; omega
  have hpl2 : decide (15 < (bs pd).size) = false := by rw [hpds]; simp; omega
  have pe2 : (!(bs pd).toList.isEmpty) = true := by rw [pe]; rfl
  have C10 := Lib.hid (fun W => Atoi_digits (bs pd) pd rfl W hP hP3 hP2)
  have hdv := decV_lt pd hP3 15 hP
  generalize hdvv : decV pd = dv at *
  have HDV : Hid ((dv : Int) < 1000000000000000) := Lib.hid (by omega)
  have hneg : decide (q.head? = some 45) = true := by simp [hN]
  rw [hneg] at C7
  clear hN hneg hP2 hP3 hdv hdvv hP hpds
  have HM := Lib.hid hM
  have HS := Lib.hid hs
  have HL := Lib.hid h
  have HQE := Lib.hid hqe
  generalize hbl : decide (l.head? = some 45) = bl at *
  clear hM h hqe hD hbl
  clear hsh
  have hE' := Lib.hid hE
  clear hE hs
  go_enter Tryz.func153, Tryz.ntmps153
  go_wp2_with fail
  refine (HC.out _ _ _ (by simp)).mono ?_
  rintro e w1 ⟨rfl, hb⟩
  obtain ⟨hv, hb2, hz⟩ := VB_start w s rfl hb
  have HM1 := Lib.hid (HM.out.on hb2)
  have k0 := hv.c0
  have k1 := hv.c1
  have k2 := hv.c2
  have f0 := hv.fr 0
  have f1 := hv.fr 1
  have f2 := hv.fr 2
  have HV := Lib.hid hv
  have HB := Lib.hid hb2
  clear hb hb2 hv kc
  go_wp2_with fail
  refine (C1.out _).mono ?_
  rintro e w' ⟨rfl, rfl⟩
  go_wp2_with fail
  refine (C2.out _).mono ?_
  rintro e w2 ⟨rfl, hb⟩
  have hv := HV.out.on hb
  have HB2 := Lib.hid (HB.out.trans (hb.mono (by omega)))
  have HM2 := Lib.hid (HM1.out.on hb)
  clear k0 k1 k2 f0 f1 f2 HV hb HB HM1
  have k0 := hv.c0
  have k1 := hv.c1
  have k2 := hv.c2
  have f0 := hv.fr 0
  have f1 := hv.fr 1
  have f2 := hv.fr 2
  have HV := Lib.hid hv
  clear hv
  go_wp2
  go_quiet (fail)
  go_wp2_with fail
  refine (C4.out _ (by exact HM2.out)).mono ?_
  rintro e w' ⟨⟨v, rfl⟩, n, rfl⟩
  go_wp2_with fail
  refine (C5.out _ (HAP.out _ _) _).mono ?_
  rintro e w' ⟨rfl, rfl⟩
  go_wp2_with fail
  refine (C6.out _).mono ?_
  rintro e w' ⟨rfl, rfl⟩
  go_wp2_with fail
  refine (C7.out _ HQE.out _).mono ?_
  rintro e w' ⟨rfl, rfl⟩
  go_wp2_with fail
  refine (C8.out _ HQE.out _).mono ?_
  rintro e w3 ⟨rfl, hb⟩
  have hv : VB w3 w.heap.size (.bool bl) (.string (bs sh)) (.int .i64 ((d.length : Int) - sh.length - (behindOf m).length)) := (VB.set (HV.out.draws _) _ _ _).on hb
  have HB3 := Lib.hid (set3_below HB2.out _ _ _ _ hb)
  clear k0 k1 k2 f0 f1 f2 HV hb HB2 HM2
  have k0 := hv.c0
  have k1 := hv.c1
  have k2 := hv.c2
  have f0 := hv.fr 0
  have f1 := hv.fr 1
  have f2 := hv.fr 2
  have HV := Lib.hid hv
  clear hv
  go_wp2_with fail
  refine (C9.out _).mono ?_
  rintro e w' ⟨rfl, rfl⟩
  go_wp2_with fail
  refine (C10.out _).mono ?_
  rintro e w4 ⟨rfl, hb⟩
  have hv := HV.out.on hb
  have HB4 := Lib.hid (HB3.out.trans (hb.mono (by have := HB3.out.size; omega)))
  clear k0 k1 k2 f0 f1 f2 HV hb HB3
  have k0 := hv.c0
  have k1 := hv.c1
  have k2 := hv.c2
  have f0 := hv.fr 0
  have f1 := hv.fr 1
  have f2 := hv.fr 2
  have HV := Lib.hid hv
  clear hv
  have hdv' := HDV.out
  have hdv0 : (0 : Int) ≤ dv := by omega
  go_wp2
  exact bodyPost_ret (v := .tuple #[.agg #[.bool bl, .string (bs sh), .int .i64 ((d.length : Int) - sh.length - (behindOf m).length + -(dv : Int))], .bool true]) (by simp [results, Tryz.results153, go_sem, k0, k1, k2, f0, f1, f2]) rfl ⟨rfl, below_set3 (HB4.out.setCell (p := ⟨w.heap.size, 2, none⟩) (Nat.le_refl _) _) _ _ _⟩
set_option maxRecDepth 100000 in
set_option maxHeartbeats 2000000 in
theorem of_pos (s : ByteArray) (l p m q d pd : List UInt8) (h : s.data.toList = l) (w : World) (hM : ML w) (hl : l.length < 4294967281) (ha : ∀ x ∈ p, x.toNat < 128)
    (HC : Hid (∀ (W : World) (g c : Nat), W.heap.size = g → Calls Tryz.prog 188 #[.slice (some ⟨g, 0, none⟩) s.size c, .int .i64 0] (Lib.bytesWorld W 5 s) fun e' w' => e' = .returned (.tuple #[.int .i64 (l.length : Nat), .int .i64 0]) ∧ Below (W.heap.size + 1) (Lib.bytesWorld W 5 s) w'))
    (hp : Hid (plainOf l = p)) (hpl : p.length ≤ l.length) (hm : Hid (mantOf p = m)) (hq : Hid (powOf p = q)) (hd : Hid (digsOf m = d)) (hpd : Hid (powDigs q = pd)) (hE : (mantOf p).length < p.length) (hD : d ≠ []) (hP : pd.length ≤ 15) (hP2 : pd ≠ []) (hP3 : Digs pd) (hN : ¬ q.head? = some 45) :
    Calls Tryz.prog 153 #[.string s] w fun e w' => e = .returned (.tuple #[vOf (some ⟨decide (l.head? = some 45), trimR d [48], (d.length : Int) - (trimR d [48]).length - (behindOf m).length + decV pd⟩), .bool true]) ∧ Below w.heap.size w w' := by
  have hs : s.size = l.length := by rw [← h, list_len]
  have kc := fun (W : World) => Lib.run_convert_string_bytes (P := Tryz.prog) W 9 67 5 s Tryz.underlying9 Tryz.underlying67 Tryz.underlying5
  have hn' : ((l.length : Int) != (s.size : Int)) = false := by rw [hs]; simp
  have hn2 : (l.length != s.size) = false := by rw [hs]; simp
  have hml : (mantOf p).length ≤ p.length := mant_le p
  rw [hm.out] at hml hE
  have hab := parts_le m
  have hdl : d.length ≤ m.length := by rw [← hd.out]; exact digsOf_le m
  have hsl := trimR_le d [48]
  have hcat : (bs (aheadOf m)).size + (bs (behindOf m)).size ≤ 9223372036854775807 := by rw [bs_size, bs_size]; omega
  have C1 := Lib.hid (fun W => CutPrefix_minus s l h W)
  have C2 := Lib.hid (fun W => IndexAny_e (bs p) p rfl W (by omega) ha)
  have C5 := Lib.hid (fun t (ht : t.data.toList = aheadOf m ++ behindOf m) W => TrimLeft_nought t _ ht W)
  rw [show trimL (aheadOf m ++ behindOf m) [48] = d from hd.out] at C5
  rw [hp.out] at C1
  rw [hm.out] at C2
  rw [if_pos hE] at C2
  have C4 := Lib.hid (fun (W : World) (hW : ML W) => Cut_dot ((bs p).extract 0 m.length) m (by rw [extract_list, List.drop_zero, Nat.sub_zero, ← hm.out, mant_take]) W (by omega) hW)
  have hps : (bs p).size = p.length := bs_size p
  have hps2 : m.length ≤ (bs p).size := by omega
  have hps3 : m.length + 1 ≤ (bs p).size := by omega
  have hqe : ((bs p).extract (m.length + 1) (bs p).size).data.toList = q := by rw [extract_list, hps, ← hq.out, ← hm.out, ← pow_drop, List.take_of_length_le (by rw [List.length_drop]; omega)]
  have de := isEmpty_false hD
  have HAP : Hid (∀ a b : List UInt8, (bs a ++ bs b).data.toList = a ++ b) := Lib.hid fun a b => by simp [bs]
  have C6 := Lib.hid (fun W => TrimRight_nought (bs d) d rfl W (by omega))
  have HDS : Hid (trimR d [48] = trimR d [48]) := Lib.hid rfl
  generalize hsh : trimR d [48] = sh at *
  have hds := bs_size d
  have hss := bs_size sh
  have hbs := bs_size (behindOf m)
  have C7 := Lib.hid (fun t (ht : t.data.toList = q) W => HasPrefix_minus t q ht W)
  have C8 := Lib.hid (fun t (ht : t.data.toList = q) W => TrimLeft_sign t q ht W)
  have C9 := Lib.hid (fun W => TrimLeft_nought (bs (trimL q [43, 45])) (trimL q [43, 45]) rfl W)
  rw [show trimL (trimL q [43, 45]) [48] = pd from hpd.out] at C9
  have hpds := bs_size pd
  have pe := isEmpty_false hP2
  have hpl1 : decide ((15 : Int) < ((bs pd).size : Int)) = false := by rw [hpds]; simp; omega
  have hpl2 : decide (15 < (bs pd).size) = false := by rw [hpds]; simp; omega
  have pe2 : (!(bs pd).toList.isEmpty) = true := by rw [pe]; rfl
  have C10 := Lib.hid (fun W => Atoi_digits (bs pd) pd rfl W hP hP3 hP2)
  have hdv := decV_lt pd hP3 15 hP
  generalize hdvv : decV pd = dv at *
  have HDV : Hid ((dv : Int) < 1000000000000000) := Lib.hid (by omega)
  have hneg : decide (q.head? = some 45) = false := by simp [hN]
  rw [hneg] at C7
  clear hN hneg hP2 hP3 hdv hdvv hP hpds
  have HM := Lib.hid hM
  have HS := Lib.hid hs
  have HL := Lib.hid h
  have HQE := Lib.hid hqe
  generalize hbl : decide (l.head? = some 45) = bl at *
  clear hM h hqe hD hbl
  clear hsh
  have hE' := Lib.hid hE
  clear hE hs
  go_enter Tryz.func153, Tryz.ntmps153
  go_wp2_with fail
  refine (HC.out _ _ _ (by simp)).mono ?_
  rintro e w1 ⟨rfl, hb⟩
  obtain ⟨hv, hb2, hz⟩ := VB_start w s rfl hb
  have HM1 := Lib.hid (HM.out.on hb2)
  have k0 := hv.c0
  have k1 := hv.c1
  have k2 := hv.c2
  have f0 := hv.fr 0
  have f1 := hv.fr 1
  have f2 := hv.fr 2
  have HV := Lib.hid hv
  have HB := Lib.hid hb2
  clear hb hb2 hv kc
  go_wp2_with fail
  refine (C1.out _).mono ?_
  rintro e w' ⟨rfl, rfl⟩
  go_wp2_with fail
  refine (C2.out _).mono ?_
  rintro e w2 ⟨rfl, hb⟩
  have hv := HV.out.on hb
  have HB2 := Lib.hid (HB.out.trans (hb.mono (by omega)))
  have HM2 := Lib.hid (HM1.out.on hb)
  clear k0 k1 k2 f0 f1 f2 HV hb HB HM1
  have k0 := hv.c0
  have k1 := hv.c1
  have k2 := hv.c2
  have f0 := hv.fr 0
  have f1 := hv.fr 1
  have f2 := hv.fr 2
  have HV := Lib.hid hv
  clear hv
  go_wp2
  go_quiet (fail)
  go_wp2_with fail
  refine (C4.out _ (by exact HM2.out)).mono ?_
  rintro e w' ⟨⟨v, rfl⟩, n, rfl⟩
  go_wp2_with fail
  refine (C5.out _ (HAP.out _ _) _).mono ?_
  rintro e w' ⟨rfl, rfl⟩
  go_wp2_with fail
  refine (C6.out _).mono ?_
  rintro e w' ⟨rfl, rfl⟩
  go_wp2_with fail
  refine (C7.out _ HQE.out _).mono ?_
  rintro e w' ⟨rfl, rfl⟩
  go_wp2_with fail
  refine (C8.out _ HQE.out _).mono ?_
  rintro e w3 ⟨rfl, hb⟩
  have hv : VB w3 w.heap.size (.bool bl) (.string (bs sh)) (.int .i64 ((d.length : Int) - sh.length - (behindOf m).length)) := (VB.set (HV.out.draws _) _ _ _).on hb
  have HB3 := Lib.hid (set3_below HB2.out _ _ _ _ hb)
  clear k0 k1 k2 f0 f1 f2 HV hb HB2 HM2
  have k0 := hv.c0
  have k1 := hv.c1
  have k2 := hv.c2
  have f0 := hv.fr 0
  have f1 := hv.fr 1
  have f2 := hv.fr 2
  have HV := Lib.hid hv
  clear hv
  go_wp2_with fail
  refine (C9.out _).mono ?_
  rintro e w' ⟨rfl, rfl⟩
  go_wp2_with fail
  refine (C10.out _).mono ?_
  rintro e w4 ⟨rfl, hb⟩
  have hv := HV.out.on hb
  have HB4 := Lib.hid (HB3.out.trans (hb.mono (by have := HB3.out.size; omega)))
  clear k0 k1 k2 f0 f1 f2 HV hb HB3
  have k0 := hv.c0
  have k1 := hv.c1
  have k2 := hv.c2
  have f0 := hv.fr 0
  have f1 := hv.fr 1
  have f2 := hv.fr 2
  have HV := Lib.hid hv
  clear hv
  have hdv' := HDV.out
  have hdv0 : (0 : Int) ≤ dv := by omega
  go_wp2
  exact bodyPost_ret (v := .tuple #[.agg #[.bool bl, .string (bs sh), .int .i64 ((d.length : Int) - sh.length - (behindOf m).length + dv)], .bool true]) (by simp [results, Tryz.results153, go_sem, k0, k1, k2, f0, f1, f2]) rfl ⟨rfl, below_set3 (HB4.out.setCell (p := ⟨w.heap.size, 2, none⟩) (Nat.le_refl _) _) _ _ _⟩
/-- number.of, at every string. -/
theorem of_any (s : ByteArray) (l : List UInt8) (h : s.data.toList = l) (w : World) (hM : ML w) (hl : l.length < 4294967281) :
    Calls Tryz.prog 153 #[.string s] w fun e w' => e = .returned (.tuple #[vOf (ofS l), .bool (ofS l).isSome]) ∧ Below w.heap.size w w' := by
  have HC := Lib.hid (fun W g c hg => Check_bytes s l h W g c hg (by omega))
  have hs : s.size = l.length := by rw [← h, list_len]
  by_cases hck : checkN l 0 = (l.length, 0)
  · have e : ofS l = Num.valOf l := by unfold ofS; rw [if_pos hck]
    rw [e]
    have ha : ∀ x ∈ plainOf l, x.toNat < 128 := fun x hx => whole_ascii hck x (by unfold plainOf at hx; split at hx; exact List.mem_of_mem_tail hx; exact hx)
    have hpl : (plainOf l).length ≤ l.length := by unfold plainOf; split <;> simp
    have hdg := (whole_digs hck).1
    rw [hck] at HC
    unfold Num.valOf
    by_cases hD : digsOf (mantOf (plainOf l)) = []
    · rw [if_pos hD]
      by_cases hE : (mantOf (plainOf l)).length < (plainOf l).length
      · exact of_empty_e s l _ _ _ _ _ h w hM hl ha HC (Lib.hid rfl) hpl (Lib.hid rfl) (Lib.hid rfl) (Lib.hid rfl) (Lib.hid rfl) hE hD
      · exact of_empty s l _ _ _ _ _ h w hM hl ha HC (Lib.hid rfl) hpl (Lib.hid rfl) (Lib.hid rfl) (Lib.hid rfl) (Lib.hid rfl) hE hD
    · rw [if_neg hD]
      by_cases hE : (mantOf (plainOf l)).length < (plainOf l).length
      · by_cases hP : 15 < (powDigs (powOf (plainOf l))).length
        · rw [if_pos hP]
          exact of_long s l _ _ _ _ _ h w hM hl ha HC (Lib.hid rfl) hpl (Lib.hid rfl) (Lib.hid rfl) (Lib.hid rfl) (Lib.hid rfl) hE hD hP
        · rw [if_neg hP]
          by_cases hP2 : powDigs (powOf (plainOf l)) = []
          · have z : powVal (powOf (plainOf l)) = 0 := by unfold powVal; rw [hP2]; split <;> rfl
            rw [z, Int.add_zero]
            exact of_zero s l _ _ _ _ _ h w hM hl ha HC (Lib.hid rfl) hpl (Lib.hid rfl) (Lib.hid rfl) (Lib.hid rfl) (Lib.hid rfl) hE hD hP2
          · by_cases hN : (powOf (plainOf l)).head? = some 45
            · have z : powVal (powOf (plainOf l)) = -(decV (powDigs (powOf (plainOf l))) : Int) := by unfold powVal; rw [if_pos hN]
              rw [z]
              exact of_neg s l _ _ _ _ _ h w hM hl ha HC (Lib.hid rfl) hpl (Lib.hid rfl) (Lib.hid rfl) (Lib.hid rfl) (Lib.hid rfl) hE hD (by omega) hP2 hdg hN
            · have z : powVal (powOf (plainOf l)) = decV (powDigs (powOf (plainOf l))) := by unfold powVal; rw [if_neg hN]
              rw [z]
              exact of_pos s l _ _ _ _ _ h w hM hl ha HC (Lib.hid rfl) hpl (Lib.hid rfl) (Lib.hid rfl) (Lib.hid rfl) (Lib.hid rfl) hE hD (by omega) hP2 hdg hN
      · have hq := (mant_whole hE).2
        have hpd : powDigs (powOf (plainOf l)) = [] := by rw [hq]; rfl
        have z : powVal (powOf (plainOf l)) = 0 := by rw [hq]; rfl
        rw [if_neg (by rw [hpd]; decide), z, Int.add_zero]
        exact of_plain s l _ _ _ _ _ h w hM hl ha HC (Lib.hid rfl) hpl (Lib.hid rfl) (Lib.hid rfl) (Lib.hid rfl) (Lib.hid rfl) hE hD
  · have e : ofS l = none := by unfold ofS; rw [if_neg hck]
    rw [e]
    have hk : (checkN l 0).2 ≠ 0 ∨ (checkN l 0).1 ≠ l.length := by
      rcases Classical.em ((checkN l 0).2 = 0) with k | k
      · exact .inr fun k2 => hck (Prod.ext k2 k)
      · exact .inl k
    generalize checkN l 0 = K at *
    obtain ⟨n, e⟩ := K
    by_cases he : e = 0
    · subst he
      exact of_len s w n 0 ⟨rfl, by rw [hs]; exact hk.resolve_left (fun k => k rfl)⟩ HC
    · exact of_err s w n e he HC
end Go.Proofs.YtfploakafbnigaaGreatDoor
