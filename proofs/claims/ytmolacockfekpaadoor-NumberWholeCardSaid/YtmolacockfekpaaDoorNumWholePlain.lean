/-
  Layer 9 (number), in plain Lean: the statement NumberWhole's texts, and which whole numbers they are.
-/
import Derived.Test.YtmolacockfekpaaDoorNumMovedPlain
namespace Go.Proofs.YtmolacockfekpaaDoor
open Num
set_option linter.unusedVariables false
set_option linter.unusedSimpArgs false

def sgnL (g : Bool) : List UInt8 := if g then [45] else []
theorem sgnL_neg (g : Bool) : NegF (sgnL g) := by cases g <;> simp [sgnL, NegF]
theorem sgnL_dec (g : Bool) : decide (sgnL g = [45]) = g := by cases g <;> rfl
theorem of_sgn (v : Nat) (g : Bool) : ofS (sgnL g ++ textS v) = some (wval v g) := by
  cases g
  · exact of_text v
  · exact of_minus v
theorem of_point (v z : Nat) (g : Bool) : ofS (sgnL g ++ (textS v ++ ([46] ++ List.replicate (z + 1) 48))) = some (wval v g) := by
  have := of_val (g := sgnL g) (a := textS v) (f := 46 :: List.replicate (z + 1) 48) (x := []) (sgnL_neg g) (textS_headF v) (.inr ⟨_, rfl, by simp, digs_zeros _⟩) (.inl rfl) (by decide)
  rw [List.append_nil] at this
  rw [show [46] ++ List.replicate (z + 1) (48 : UInt8) = 46 :: List.replicate (z + 1) 48 from rfl, this, sgnL_dec, List.drop_one, List.tail_cons, List.drop_nil]
  congr 1
  unfold wval
  by_cases h0 : v = 0
  · subst h0
    rw [textS_zero, show [48] ++ List.replicate (z + 1) (48 : UInt8) = List.replicate (z + 2) 48 ++ [] by rw [List.append_nil]; rfl, trimL_zeros]; rfl
  · have h1 := trimL_text (n := v) (by omega) []
    rw [List.append_nil] at h1
    rw [trimL_text (by omega), h1, valT_noughts (textS_ne v), List.length_replicate]
    congr 1
    show (0 : Int) - _ + _ = 0
    omega
theorem of_shifted (v z : Nat) (g : Bool) (hz : z < 30) : ofS (sgnL g ++ ((if v = 0 then textS v else textS v ++ List.replicate z 48) ++ ([101, 45] ++ textS z))) = some (wval v g) := by
  have hpw := powVal_form (s := [45]) (r := textS z) (.inr (.inr rfl)) (textS_digs z)
  have hl := textS_le3 (n := z) (by omega)
  by_cases h0 : v = 0
  · subst h0
    rw [if_pos rfl]
    have := of_val (g := sgnL g) (a := textS 0) (f := []) (x := 101 :: ([45] ++ textS z)) (sgnL_neg g) (textS_headF 0) (.inl rfl) (expF_of rfl (.inr (.inr rfl)) z) (by rw [List.drop_one, List.tail_cons]; omega)
    rw [List.nil_append] at this
    rw [show [101, 45] ++ textS z = 101 :: ([45] ++ textS z) from rfl, this]
    unfold wval
    rw [textS_zero]; rfl
  · rw [if_neg h0]
    have hh : (textS v ++ List.replicate z 48).head? ≠ some 48 := by
      have h1 := textS_head (n := v) (by omega)
      cases k : textS v with
      | nil => exact absurd k (textS_ne v)
      | cons c s => rw [k] at h1; simpa using h1
    have := of_val (g := sgnL g) (a := textS v ++ List.replicate z 48) (f := []) (x := 101 :: ([45] ++ textS z)) (sgnL_neg g) ⟨by intro e; exact textS_ne v (List.append_eq_nil_iff.1 e).1, digs_append (textS_digs v) (digs_zeros z), .inr hh⟩ (.inl rfl) (expF_of rfl (.inr (.inr rfl)) z) (by rw [List.drop_one, List.tail_cons]; omega)
    rw [List.nil_append] at this
    rw [show [101, 45] ++ textS z = 101 :: ([45] ++ textS z) from rfl, this, sgnL_dec, List.drop_nil, List.append_nil, List.drop_one, List.tail_cons, hpw.1, if_pos rfl, textS_dec]
    congr 1
    unfold wval
    have h1 := trimL_text (n := v) (by omega) []
    rw [List.append_nil] at h1
    rw [trimL_text (by omega), h1, valT_noughts (textS_ne v)]
    congr 1
    simp only [List.length_nil]
    omega
theorem of_E0 (v : Nat) (g : Bool) : ofS (sgnL g ++ (textS v ++ [69, 43, 48])) = some (wval v g) := by
  have := of_val (g := sgnL g) (a := textS v) (f := []) (x := 69 :: ([43] ++ [48])) (sgnL_neg g) (textS_headF v) (.inl rfl) (.inr ⟨69, [43], [48], rfl, rfl, .inr (.inl rfl), by simp, digs_zeros 1⟩) (by decide)
  rw [List.nil_append] at this
  rw [show [69, 43, 48] = (69 : UInt8) :: ([43] ++ [48]) from rfl, this, sgnL_dec, List.drop_nil, List.append_nil]
  rfl
theorem last5 (r : List UInt8) : trimR (r ++ [53]) [48] = r ++ [53] := by rw [trimR_snoc, if_neg (by decide)]
theorem digs_5 : Digs [53] := by
  intro y hy
  have : y = 53 := by simpa using hy
  subst this; rfl
theorem int_half (v : Nat) : int (textS v ++ [46, 53]) = (0, false) := by
  have := of_val (g := []) (a := textS v) (f := 46 :: [53]) (x := []) (.inl rfl) (textS_headF v) (.inr ⟨[53], rfl, by simp, digs_5⟩) (.inl rfl) (by decide)
  rw [List.nil_append, List.append_nil] at this
  unfold int
  rw [show [46, 53] = (46 : UInt8) :: [53] from rfl, this]
  refine int_neg ?_
  rw [List.drop_one, List.tail_cons]
  by_cases h0 : v = 0
  · subst h0; rw [textS_zero]; decide
  · rw [trimL_text (by omega), valT_ne (by simp), last5]
    show (((textS v ++ [53]).length : Int) - (textS v ++ [53]).length) + (0 - 1) < 0
    omega
theorem int_tenth (v : Nat) : int (textS v ++ [53, 101, 45, 49]) = (0, false) := by
  by_cases h0 : v = 0
  · subst h0; rw [textS_zero]; decide
  · have hh : (textS v ++ [53]).head? ≠ some 48 := by
      have h1 := textS_head (n := v) (by omega)
      cases k : textS v with
      | nil => exact absurd k (textS_ne v)
      | cons c s => rw [k] at h1; simpa using h1
    have h5 : Digs [53] := by
      intro y hy
      have : y = 53 := by simpa using hy
      subst this; rfl
    have h1 : Digs [49] := by
      intro y hy
      have : y = 49 := by simpa using hy
      subst this; rfl
    have := of_val (g := []) (a := textS v ++ [53]) (f := []) (x := 101 :: ([45] ++ [49])) (.inl rfl) ⟨by simp, digs_append (textS_digs v) h5, .inr hh⟩ (.inl rfl) (.inr ⟨101, [45], [49], rfl, rfl, .inr (.inr rfl), by simp, h1⟩) (by decide)
    rw [List.nil_append, List.nil_append, List.append_assoc, show [53] ++ 101 :: ([45] ++ [49]) = [(53 : UInt8), 101, 45, 49] from rfl] at this
    unfold int
    rw [this]
    refine int_neg ?_
    rw [List.drop_nil, List.append_nil, trimL_text (by omega), valT_ne (by simp), last5]
    show (((textS v ++ [53]).length : Int) - (textS v ++ [53]).length) + (powVal [45, 49] - 0) < 0
    rw [show powVal [45, 49] = -1 by decide]
    omega
theorem int_of {l : List UInt8} {v : Nat} {g : Bool} (h : ofS l = some (wval v g)) (hv : v < 9007199254740992) : int l = (if g then -(v : Int) else v, true) := by
  unfold int; rw [h]; exact int_whole hv g
theorem int_of_big {v : Nat} (g : Bool) : int (sgnL g ++ textS (9007199254740992 + v)) = (0, false) := by
  unfold int; rw [of_sgn]; exact int_big (by omega) g
theorem same_of {a b : List UInt8} {x y : V} (ha : ofS a = some x) (hb : ofS b = some y) (h : x = y) : same a b = true := by
  unfold same; rw [ha, hb]; exact decide_eq_true h
/-- What the loop asks of a text. -/
def IsW (v : Nat) (l : List UInt8) : Prop := ofS l = some (wval v false) ∧ ofS (45 :: l) = some (wval v true)
theorem isW0 (v : Nat) : IsW v (textS v) := ⟨of_text v, of_minus v⟩
theorem isW1 (v z : Nat) : IsW v (textS v ++ ([46] ++ List.replicate (z + 1) 48)) := ⟨of_point v z false, of_point v z true⟩
theorem isW2 (v z : Nat) (hz : z < 30) : IsW v ((if v = 0 then textS v else textS v ++ List.replicate z 48) ++ ([101, 45] ++ textS z)) := ⟨of_shifted v z false hz, of_shifted v z true hz⟩
theorem isW3 (v : Nat) : IsW v (textS v ++ [69, 43, 48]) := ⟨of_E0 v false, of_E0 v true⟩
end Go.Proofs.YtmolacockfekpaaDoor
