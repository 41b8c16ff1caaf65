/-
  Layer 9 (number), in plain Lean: the statement NumberMoved's four texts, and their values.
-/
import Derived.Test.YtmolacockfekpaaDoorNumLawNoughts
namespace Go.Proofs.YtmolacockfekpaaDoor
open Num
set_option linter.unusedVariables false
set_option linter.unusedSimpArgs false

def movedX (g a b : List UInt8) (p : Nat) : List UInt8 := g ++ (a ++ ((46 :: b) ++ (101 :: ([] ++ textS p))))
def movedY (g a b : List UInt8) (k : Nat) : List UInt8 := g ++ ((a ++ b ++ List.replicate k 48) ++ ([] ++ (69 :: ([45] ++ textS (b.length + k)))))
def movedZ (g a b : List UInt8) (k p : Nat) : List UInt8 := g ++ (a ++ ((46 :: (b ++ List.replicate k 48)) ++ (101 :: ([43] ++ ([48, 48, 48] ++ textS p)))))
def movedU (g a b : List UInt8) (p : Nat) : List UInt8 := g ++ ([48] ++ ((46 :: (a ++ b)) ++ (101 :: ([] ++ textS (p + a.length)))))

theorem head_trim {a : List UInt8} (ha : a.head? = some 49) (r : List UInt8) : trimL (a ++ r) [48] = a ++ r := by
  cases a with
  | nil => cases ha
  | cons c a => exact trimL_head (by have : c = 49 := by simpa using ha
                                     subst this; simp)
theorem ne_of_head {a : List UInt8} (ha : a.head? = some 49) : a ≠ [] := by intro e; subst e; cases ha
theorem headF_of {a : List UInt8} (ha : a.head? = some 49) (hd : Digs a) : HeadF a := ⟨ne_of_head ha, hd, .inr (by rw [ha]; decide)⟩
theorem expF_of {e : UInt8} {s : List UInt8} (he : isE e = true) (hs : SignF s) (n : Nat) : ExpF (e :: (s ++ textS n)) := .inr ⟨e, s, _, rfl, he, hs, textS_ne n, textS_digs n⟩
theorem textS_le3 {n : Nat} (h : n < 10 ^ 15) : (textS n).length ≤ 15 := textS_len n 14 (by omega)

theorem of_X {g a b : List UInt8} (hg : NegF g) (ha : a.head? = some 49) (had : Digs a) (hbd : Digs b) (hb : b ≠ []) {p : Nat} (hp : p < 1000) :
    ofS (movedX g a b p) = some (valT (decide (g = [45])) (a ++ b) ((p : Int) - b.length)) := by
  have hpw := powVal_form (s := []) (r := textS p) (.inl rfl) (textS_digs p)
  have hl := textS_le3 (n := p) (by omega)
  unfold movedX
  rw [of_val hg (headF_of ha had) (.inr ⟨b, rfl, hb, hbd⟩) (expF_of rfl (.inl rfl) p) (by rw [List.drop_one, List.tail_cons]; omega)]
  rw [List.drop_one, List.tail_cons, List.drop_one, List.tail_cons, hpw.1, head_trim ha, if_neg (by simp), textS_dec]
theorem of_Y {g a b : List UInt8} (hg : NegF g) (ha : a.head? = some 49) (had : Digs a) (hbd : Digs b) {k : Nat} (hk : b.length + k < 1000) :
    ofS (movedY g a b k) = some (valT (decide (g = [45])) (a ++ b) (-(b.length : Int))) := by
  have hpw := powVal_form (s := [45]) (r := textS (b.length + k)) (.inr (.inr rfl)) (textS_digs _)
  have hl := textS_le3 (n := b.length + k) (by omega)
  unfold movedY
  have hh : (a ++ b ++ List.replicate k 48).head? = some 49 := by
    cases a with
    | nil => cases ha
    | cons c a => simpa using ha
  rw [of_val hg (headF_of hh (digs_append (digs_append had hbd) (digs_zeros k))) (.inl rfl) (expF_of rfl (.inr (.inr rfl)) _) (by rw [List.drop_one, List.tail_cons]; omega)]
  rw [List.drop_nil, List.drop_one, List.tail_cons, hpw.1, if_pos rfl, head_trim hh, List.append_nil, valT_noughts (by intro h; exact ne_of_head ha (List.append_eq_nil_iff.1 h).1), textS_dec]
  congr 2
  simp only [List.length_nil]
  omega
theorem of_Z {g a b : List UInt8} (hg : NegF g) (ha : a.head? = some 49) (had : Digs a) (hbd : Digs b) (hb : b ≠ []) {k p : Nat} (hp : p < 1000) :
    ofS (movedZ g a b k p) = some (valT (decide (g = [45])) (a ++ b) ((p : Int) - b.length)) := by
  have hd3 : Digs ([48, 48, 48] ++ textS p) := digs_append (digs_zeros 3) (textS_digs p)
  have hpw := powVal_form (s := [43]) (r := [48, 48, 48] ++ textS p) (.inr (.inl rfl)) hd3
  have hl := textS_len p 2 (by omega)
  unfold movedZ
  rw [of_val hg (headF_of ha had) (.inr ⟨_, rfl, by intro h; exact hb (List.append_eq_nil_iff.1 h).1, digs_append hbd (digs_zeros k)⟩) (.inr ⟨101, [43], _, rfl, rfl, .inr (.inl rfl), by simp, hd3⟩) (by
    rw [List.drop_one, List.tail_cons]
    have := hpw.2
    rw [List.length_append] at this
    simp only [List.length_cons, List.length_nil] at this
    omega)]
  rw [List.drop_one, List.tail_cons, List.drop_one, List.tail_cons, hpw.1, if_neg (by decide), head_trim ha, ← List.append_assoc, valT_noughts (by intro h; exact ne_of_head ha (List.append_eq_nil_iff.1 h).1)]
  rw [show decV ([48, 48, 48] ++ textS p) = decV (textS p) from rfl, textS_dec, List.length_append, List.length_replicate]
  congr 2
  omega
theorem of_U {g a b : List UInt8} (hg : NegF g) (ha : a.head? = some 49) (had : Digs a) (hbd : Digs b) {p : Nat} (hp : p + a.length < 10000) :
    ofS (movedU g a b p) = some (valT (decide (g = [45])) (a ++ b) ((p : Int) - b.length)) := by
  have hpw := powVal_form (s := []) (r := textS (p + a.length)) (.inl rfl) (textS_digs _)
  have hl := textS_le3 (n := p + a.length) (by omega)
  unfold movedU
  rw [of_val hg headF_zero (.inr ⟨_, rfl, by intro h; exact ne_of_head ha (List.append_eq_nil_iff.1 h).1, digs_append had hbd⟩) (expF_of rfl (.inl rfl) _) (by rw [List.drop_one, List.tail_cons]; omega)]
  rw [List.drop_one, List.tail_cons, List.drop_one, List.tail_cons, hpw.1, if_neg (by simp), textS_dec]
  rw [show trimL ([48] ++ (a ++ b)) [48] = trimL (a ++ b) [48] from rfl, head_trim ha, List.length_append]
  congr 2
  omega
theorem moved_same {g a b : List UInt8} (hg : NegF g) (ha : a.head? = some 49) (had : Digs a) (hbd : Digs b) (hb : b ≠ []) {k p : Nat} (hp : p < 1000) (hk : k < 20) (hbl : b.length < 100) (hal : a.length < 100) :
    same (movedX g a b p) (movedY g a b k) = decide (p = 0) ∧ same (movedY g a b k) (movedX g a b p) = decide (p = 0) ∧ same (movedX g a b p) (movedZ g a b k p) = true ∧ same (movedZ g a b k p) (movedU g a b p) = true ∧
    same (movedY g a b k) (movedU g a b p) = decide (p = 0) ∧ same (movedX g a b p) (movedU g a b p) = true ∧ same (movedU g a b p) (movedZ g a b k p) = true := by
  have hX := of_X hg ha had hbd hb hp
  have hY := of_Y hg ha had hbd (k := k) (by omega)
  have hZ := of_Z hg ha had hbd hb (k := k) hp
  have hU := of_U hg ha had hbd (p := p) (by omega)
  have hne : a ++ b ≠ [] := by intro h; exact ne_of_head ha (List.append_eq_nil_iff.1 h).1
  have key : (valT (decide (g = [45])) (a ++ b) ((p : Int) - b.length) = valT (decide (g = [45])) (a ++ b) (-(b.length : Int))) ↔ p = 0 := by
    rw [valT_ne hne, valT_ne hne]
    constructor
    · intro h
      injection h with _ _ h
      omega
    · intro h; subst h; congr 1; omega
  unfold same
  rw [hX, hY, hZ, hU]
  refine ⟨?_, ?_, ?_, ?_, ?_, ?_, ?_⟩
  · show decide _ = _
    rw [decide_eq_decide]; exact key
  · show decide _ = _
    rw [decide_eq_decide]; exact ⟨fun h => key.1 h.symm, fun h => (key.2 h).symm⟩
  · show decide _ = _
    exact decide_eq_true rfl
  · show decide _ = _
    exact decide_eq_true rfl
  · show decide _ = _
    rw [decide_eq_decide]; exact ⟨fun h => key.1 h.symm, fun h => (key.2 h).symm⟩
  · show decide _ = _
    exact decide_eq_true rfl
  · show decide _ = _
    exact decide_eq_true rfl
end Go.Proofs.YtmolacockfekpaaDoor
