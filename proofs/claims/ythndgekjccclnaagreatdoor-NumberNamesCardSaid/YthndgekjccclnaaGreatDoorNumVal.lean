/-
  Layer 9 (number), in plain Lean: values of numbers: noughts at the end, equal values, whole numbers; the decimal text of a natural number.
-/
import Derived.Test.YthndgekjccclnaaGreatDoorNumTo
import Derived.Test.YthndgekjccclnaaGreatDoorNumDigits
namespace Go.Proofs.YthndgekjccclnaaGreatDoor.Num
set_option linter.unusedVariables false
set_option linter.unusedSimpArgs false

theorem trimR_snoc (l : List UInt8) (c : UInt8) : trimR (l ++ [c]) [48] = if c = 48 then trimR l [48] else l ++ [c] := by
  unfold trimR
  rw [List.reverse_append, List.reverse_singleton, List.singleton_append, List.dropWhile_cons]
  by_cases h : c = 48
  · subst h; simp
  · have : ([48].contains c) = false := by simpa using h
    rw [this]; simp [h]
theorem trimR_noughts (l : List UInt8) (k : Nat) : trimR (l ++ List.replicate k 48) [48] = trimR l [48] := by
  induction k with
  | zero => simp
  | succ k ih => rw [List.replicate_succ', ← List.append_assoc, trimR_snoc, if_pos rfl, ih]
theorem trimR_nil : trimR [] [48] = [] := rfl
theorem trimR_split (l : List UInt8) : ∃ k, l = trimR l [48] ++ List.replicate k 48 := by
  induction hn : l.length generalizing l with
  | zero => have := List.eq_nil_of_length_eq_zero hn; subst this; exact ⟨0, rfl⟩
  | succ n ih =>
    have hne : l ≠ [] := by intro e; subst e; cases hn
    obtain ⟨r, c, rfl⟩ : ∃ r c, l = r ++ [c] := ⟨l.dropLast, l.getLast hne, (List.dropLast_concat_getLast hne).symm⟩
    rw [trimR_snoc]
    split
    · rename_i h
      subst h
      obtain ⟨k, hk⟩ := ih r (by simpa using hn)
      exact ⟨k + 1, by rw [List.replicate_succ', ← List.append_assoc, ← hk]⟩
    · exact ⟨0, by simp⟩
theorem trimR_eq (l : List UInt8) : l = trimR l [48] ++ List.replicate (l.length - (trimR l [48]).length) 48 := by
  obtain ⟨k, hk⟩ := trimR_split l
  have : l.length - (trimR l [48]).length = k := by
    have := congrArg List.length hk
    rw [List.length_append, List.length_replicate] at this
    omega
  rw [this]; exact hk
theorem trimR_len (l : List UInt8) : (trimR l [48]).length ≤ l.length := by
  have := congrArg List.length (trimR_eq l)
  rw [List.length_append, List.length_replicate] at this
  omega

/-- a value: its sign, its digits without noughts ahead, ten to which power times these -/
def valT (g : Bool) (D : List UInt8) (e : Int) : V := if D = [] then ⟨false, [], 0⟩ else ⟨g, trimR D [48], ((D.length : Int) - (trimR D [48]).length) + e⟩
theorem valT_nil (g : Bool) (e : Int) : valT g [] e = ⟨false, [], 0⟩ := rfl
theorem valT_ne {D : List UInt8} (h : D ≠ []) (g : Bool) (e : Int) : valT g D e = ⟨g, trimR D [48], ((D.length : Int) - (trimR D [48]).length) + e⟩ := by unfold valT; rw [if_neg h]
theorem valT_noughts {D : List UInt8} (h : D ≠ []) (g : Bool) (k : Nat) (e : Int) : valT g (D ++ List.replicate k 48) e = valT g D (e + k) := by
  rw [valT_ne h, valT_ne (by intro h'; exact h (List.append_eq_nil_iff.1 h').1), trimR_noughts, List.length_append, List.length_replicate]
  congr 1
  omega
theorem valT_inj {D D' : List UInt8} (h : D ≠ []) (h' : D' ≠ []) {g g' : Bool} {e : Int} (he : valT g D e = valT g' D' e) : g = g' ∧ D = D' := by
  rw [valT_ne h, valT_ne h'] at he
  injection he with h1 h2 h3
  refine ⟨h1, ?_⟩
  have t := trimR_len D
  have t' := trimR_len D'
  rw [trimR_eq D, trimR_eq D', ← h2]
  congr 2
  rw [h2] at h3 ⊢
  rw [h2] at t
  omega
theorem of_val {g a f x : List UInt8} (hg : NegF g) (ha : HeadF a) (hf : FracF f) (hx : ExpF x) (hp : (powDigs (x.drop 1)).length ≤ 15) :
    ofS (g ++ (a ++ (f ++ x))) = some (valT (decide (g = [45])) (trimL (a ++ f.drop 1) [48]) (powVal (x.drop 1) - (f.drop 1).length)) := by
  rw [of_form hg ha hf hx]
  unfold valT
  split
  · rfl
  · rw [if_neg (by omega)]
    congr 2
    omega

/-! ### powers -/
theorem decV_append (a b : List UInt8) : decV (a ++ b) = b.foldl (fun n c => n * 10 + (c.toNat - 48)) (decV a) := by unfold decV; rw [List.foldl_append]
theorem decV_nought (r : List UInt8) : decV (48 :: r) = decV r := rfl
theorem decV_trim (r : List UInt8) : decV (trimL r [48]) = decV r := by
  induction r with
  | nil => rfl
  | cons c r ih =>
    by_cases h : c = 48
    · subst h
      rw [show trimL (48 :: r) [48] = trimL r [48] from rfl, ih]; rfl
    · rw [show trimL (c :: r) [48] = c :: r by unfold trimL; rw [List.dropWhile_cons, show ([48].contains c) = false by simpa using h]; rfl]
theorem trimL_len (r cs : List UInt8) : (trimL r cs).length ≤ r.length := (List.dropWhile_sublist _).length_le
theorem digs_no45 {r : List UInt8} (hr : Digs r) : r.head? ≠ some 45 := by
  cases r with
  | nil => intro h; cases h
  | cons c r =>
    intro h
    have : c = 45 := by simpa using h
    subst this
    have := hr 45 (List.mem_cons_self ..)
    cases this
theorem powVal_form {s r : List UInt8} (hs : SignF s) (hr : Digs r) : powVal (s ++ r) = (if s = [45] then -(decV r : Int) else decV r) ∧ (powDigs (s ++ r)).length ≤ r.length := by
  have h1 : powDigs (s ++ r) = trimL r [48] := by unfold powDigs; rw [trim_sign hs hr]
  refine ⟨?_, by rw [h1]; exact trimL_len _ _⟩
  unfold powVal
  rw [h1, decV_trim]
  rcases hs with k | k | k <;> subst k
  · rw [List.nil_append, if_neg (digs_no45 hr)]; rfl
  · rfl
  · rfl

/-! ### the decimal text of a number -/
theorem asc_isD {n : Nat} (h : n < 10) : isD (asc n) = true ∧ (asc n).toNat = 48 + n := by
  have e : (asc n).toNat = 48 + n := by unfold asc; rw [UInt8.toNat_ofNat']; omega
  refine ⟨?_, e⟩
  unfold isD
  simp only [Bool.and_eq_true, decide_eq_true_eq, UInt8.le_iff_toNat_le]
  have h57 : (57 : UInt8).toNat = 57 := rfl
  have h48 : (48 : UInt8).toNat = 48 := rfl
  omega
theorem textS_digs (n : Nat) : Digs (textS n) := by
  induction n using Nat.strongRecOn with
  | ind n ih =>
  by_cases h : n < 10
  · rw [textS_small h]
    intro y hy
    have : y = asc n := by simpa using hy
    rw [this]; exact (asc_isD h).1
  · rw [textS_great h]
    refine digs_append (ih _ (by omega)) ?_
    intro y hy
    have : y = asc (n % 10) := by simpa using hy
    rw [this]; exact (asc_isD (by omega)).1
theorem textS_ne (n : Nat) : textS n ≠ [] := by
  by_cases h : n < 10
  · rw [textS_small h]; simp
  · rw [textS_great h]; simp
theorem textS_head {n : Nat} (h0 : 0 < n) : (textS n).head? ≠ some 48 := by
  induction n using Nat.strongRecOn with
  | ind n ih =>
  by_cases h : n < 10
  · rw [textS_small h]
    intro e
    have e' : asc n = 48 := by simpa using e
    have := (asc_isD h).2
    rw [e'] at this
    have h48 : (48 : UInt8).toNat = 48 := rfl
    omega
  · rw [textS_great h]
    have := ih (n / 10) (by omega) (by omega)
    have hne := textS_ne (n / 10)
    cases k : textS (n / 10) with
    | nil => exact absurd k hne
    | cons c r => rw [k] at this; simpa using this
theorem textS_zero : textS 0 = [48] := by rw [textS_small (by omega)]; rfl
theorem textS_headF (n : Nat) : HeadF (textS n) := by
  refine ⟨textS_ne n, textS_digs n, ?_⟩
  by_cases h : n = 0
  · subst h; exact .inl textS_zero
  · exact .inr (textS_head (by omega))
theorem textS_dec (n : Nat) : decV (textS n) = n := by
  induction n using Nat.strongRecOn with
  | ind n ih =>
  by_cases h : n < 10
  · rw [textS_small h]
    show 0 * 10 + ((asc n).toNat - 48) = n
    rw [(asc_isD h).2]; omega
  · rw [textS_great h, decV_append, ih _ (by omega)]
    show n / 10 * 10 + ((asc (n % 10)).toNat - 48) = n
    rw [(asc_isD (by omega)).2]; omega
theorem textS_inj {a b : Nat} (h : textS a = textS b) : a = b := by rw [← textS_dec a, ← textS_dec b, h]
theorem trimL_head {r : List UInt8} (h : r.head? ≠ some 48) : trimL r [48] = r := by
  cases r with
  | nil => rfl
  | cons c r =>
    have hc : c ≠ 48 := by simpa using h
    unfold trimL; rw [List.dropWhile_cons, show ([48].contains c) = false by simpa using hc]; rfl
theorem trimL_text {n : Nat} (h : 0 < n) (r : List UInt8) : trimL (textS n ++ r) [48] = textS n ++ r := by
  refine trimL_head ?_
  have h1 := textS_head h
  cases k : textS n with
  | nil => exact absurd k (textS_ne n)
  | cons c s => rw [k] at h1; simpa using h1
theorem trimL_zeros (k : Nat) (r : List UInt8) : trimL (List.replicate k 48 ++ r) [48] = trimL r [48] := by
  induction k with
  | zero => rfl
  | succ k ih => rw [List.replicate_succ, List.cons_append]; exact ih
/-- a whole number's value -/
def wval (n : Nat) (g : Bool) : V := valT g (trimL (textS n) [48]) 0
theorem wval_inj {a b : Nat} {g h : Bool} (e : Int) (he : valT g (trimL (textS a) [48]) e = valT h (trimL (textS b) [48]) e) : a = b := by
  by_cases ha : a = 0 <;> by_cases hb : b = 0
  · omega
  · subst ha
    rw [textS_zero, show trimL [48] [48] = [] from rfl, valT_nil] at he
    have := trimL_text (n := b) (by omega) []
    rw [List.append_nil] at this
    rw [this, valT_ne (textS_ne b)] at he
    injection he with h1 h2 h3
    obtain ⟨k, hk⟩ := trimR_split (textS b)
    rw [← h2, List.nil_append] at hk
    have h4 := textS_head (n := b) (by omega)
    rw [hk] at h4
    cases k with
    | zero => exact absurd hk (textS_ne b)
    | succ k => exact absurd rfl h4
  · subst hb
    rw [textS_zero, show trimL [48] [48] = [] from rfl, valT_nil] at he
    have := trimL_text (n := a) (by omega) []
    rw [List.append_nil] at this
    rw [this, valT_ne (textS_ne a)] at he
    injection he with h1 h2 h3
    obtain ⟨k, hk⟩ := trimR_split (textS a)
    rw [h2, List.nil_append] at hk
    have h4 := textS_head (n := a) (by omega)
    rw [hk] at h4
    cases k with
    | zero => exact absurd hk (textS_ne a)
    | succ k => exact absurd rfl h4
  · have h1 := trimL_text (n := a) (by omega) []
    have h2 := trimL_text (n := b) (by omega) []
    rw [List.append_nil] at h1 h2
    rw [h1, h2] at he
    exact textS_inj (valT_inj (textS_ne a) (textS_ne b) he).2
/-- Int at a whole number's value -/
theorem int_whole {n : Nat} (h : n < 9007199254740992) (g : Bool) : intV (wval n g) = (if g then -(n : Int) else n, true) := by
  unfold wval
  by_cases h0 : n = 0
  · subst h0
    rw [textS_zero, show trimL [48] [48] = [] from rfl, valT_nil]
    cases g <;> rfl
  · have h1 := trimL_text (n := n) (by omega) []
    rw [List.append_nil] at h1
    rw [h1, valT_ne (textS_ne n)]
    have hl := textS_len n 15 (by omega)
    have ht := trimR_len (textS n)
    unfold intV
    rw [if_neg (by show ¬ ((((textS n).length : Int) - (trimR (textS n) [48]).length) + 0 < 0 ∨ 16 < (((textS n).length : Int) - (trimR (textS n) [48]).length) + 0 ∨ 16 < ((trimR (textS n) [48]).length : Int) + ((((textS n).length : Int) - (trimR (textS n) [48]).length) + 0)); omega)]
    have hN : intN ⟨g, trimR (textS n) [48], (((textS n).length : Int) - (trimR (textS n) [48]).length) + 0⟩ = n := by
      unfold intN
      show decV (trimR (textS n) [48] ++ List.replicate ((((textS n).length : Int) - (trimR (textS n) [48]).length) + 0).toNat 48) = n
      rw [show ((((textS n).length : Int) - (trimR (textS n) [48]).length) + 0).toNat = (textS n).length - (trimR (textS n) [48]).length by omega, ← trimR_eq, textS_dec]
    rw [hN, if_neg (by omega)]
    cases g <;> rfl
theorem int_big {n : Nat} (h : 9007199254740992 ≤ n) (g : Bool) : intV (wval n g) = (0, false) := by
  unfold wval
  have h1 := trimL_text (n := n) (by omega) []
  rw [List.append_nil] at h1
  rw [h1, valT_ne (textS_ne n)]
  have ht := trimR_len (textS n)
  have hN : intN ⟨g, trimR (textS n) [48], (((textS n).length : Int) - (trimR (textS n) [48]).length) + 0⟩ = n := by
    unfold intN
    show decV (trimR (textS n) [48] ++ List.replicate ((((textS n).length : Int) - (trimR (textS n) [48]).length) + 0).toNat 48) = n
    rw [show ((((textS n).length : Int) - (trimR (textS n) [48]).length) + 0).toNat = (textS n).length - (trimR (textS n) [48]).length by omega, ← trimR_eq, textS_dec]
  unfold intV
  split
  · rfl
  · rw [hN, if_pos (by omega)]
theorem int_neg {v : V} (h : v.power < 0) : intV v = (0, false) := by unfold intV; rw [if_pos (.inl h)]
end Go.Proofs.YthndgekjccclnaaGreatDoor.Num
