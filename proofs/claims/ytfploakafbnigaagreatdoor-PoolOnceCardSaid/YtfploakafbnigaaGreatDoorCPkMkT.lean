/-
  Joined texts: MkCheck.
-/
import Derived.Test.YtfploakafbnigaaGreatDoorCPkValA
import Derived.Test.YtfploakafbnigaaGreatDoorCPkParA
namespace Go.Proofs.YtfploakafbnigaaGreatDoor
open Go.RowKit Val
set_option linter.unusedVariables false
set_option linter.unusedSimpArgs false
theorem made_end' (w : World) (o : Obj) : Below w.heap.size w (w.alloc o) := (Below.refl _ _).alloc (Nat.le_refl _) _
theorem toList_nil (x : ByteArray) : x.toList = [] ↔ x.size = 0 := by
  rw [Lib.toList_data]
  constructor
  · intro h; have := congrArg List.length h; simpa using this
  · intro h; exact List.eq_nil_of_length_eq_zero (by simpa using h)
theorem bne_nat_t {a b : Nat} (h : ((a : Int) != (b : Int)) = true) : a ≠ b := by
  rw [bne_iff_ne] at h; omega
theorem bne_nat_f {a b : Nat} (h : ((a : Int) != (b : Int)) = false) : a = b := by
  by_cases e : a = b
  · exact e
  · have : ((a : Int) != (b : Int)) = true := by rw [bne_iff_ne]; omega
    rw [this] at h; cases h
section
variable {k : Int} {i : Bool} {x : ByteArray} {n : Nat} {c : Nat → VT} {m : List ByteArray}
theorem may_lo (h : k < 0) : (VT.mk k i x n c m).may = false := by
  have : decide (0 ≤ k) = false := by simp; omega
  show (decide (0 ≤ k) && _ && _ && _ && _ && _ && _ && _) = false
  rw [this]; simp
theorem may_hi (h : 5 < k) : (VT.mk k i x n c m).may = false := by
  have : decide (k ≤ 5) = false := by simp; omega
  show (_ && decide (k ≤ 5) && _ && _ && _ && _ && _ && _) = false
  rw [this]; simp
theorem may_i (h : k ≠ 1) : (VT.mk k true x n c m).may = false := by
  have : (!true || k == 1) = false := by simpa using h
  show (_ && _ && (!true || k == 1) && _ && _ && _ && _ && _) = false
  rw [this]; simp
theorem may_x (hx : ¬ x.toList = []) (h2 : k ≠ 2) (h3 : k ≠ 3) : (VT.mk k i x n c m).may = false := by
  have : (x.size == 0 || k == 2 || k == 3) = false := by rw [toList_nil] at hx; simp [h2, h3, hx]
  show (_ && _ && _ && (x.size == 0 || k == 2 || k == 3) && _ && _ && _ && _) = false
  rw [this]; simp
theorem may_n (hn : 0 < n) (h : k < 4) : (VT.mk k i x n c m).may = false := by
  have : (n == 0 || k == 4 || k == 5) = false := by simp; omega
  show (_ && _ && _ && _ && (n == 0 || k == 4 || k == 5) && _ && _ && _) = false
  rw [this]; simp
theorem may_m (hm : 0 < m.length) (h : k ≠ 5) : (VT.mk k i x n c m).may = false := by
  have : (m.length == 0 || k == 5) = false := by simp only [Bool.or_eq_false_iff, beq_eq_false_iff_ne]; exact ⟨by omega, h⟩
  show (_ && _ && _ && _ && _ && (m.length == 0 || k == 5) && _ && _) = false
  rw [this]; simp
theorem may_len (hm : m.length ≠ n) : (VT.mk 5 i x n c m).may = false := by
  have : (!((5 : Int) == 5) || m.length == n) = false := by simpa using hm
  show (_ && _ && _ && _ && _ && _ && (!((5 : Int) == 5) || m.length == n) && _) = false
  rw [this]; simp
theorem may_all (h0 : 0 ≤ k) (h5 : k ≤ 5) (hi : i = true → k = 1) (hx : x.toList = [] ∨ k = 2 ∨ k = 3) (hn : ¬ 0 < n ∨ k = 4 ∨ k = 5) (hm : ¬ 0 < m.length ∨ k = 5) (hl : k = 5 → m.length = n) : (VT.mk k i x n c m).may = VT.allTo (fun j => (c j).may) n := by
  have e1 : decide (0 ≤ k) = true := by simpa using h0
  have e2 : decide (k ≤ 5) = true := by simpa using h5
  have e3 : (!i || k == 1) = true := by
    cases i
    · rfl
    · simpa using hi rfl
  have e4 : (x.size == 0 || k == 2 || k == 3) = true := by
    rcases hx with h | h | h
    · rw [toList_nil] at h; simp [h]
    · simp [h]
    · simp [h]
  have e5 : (n == 0 || k == 4 || k == 5) = true := by
    rcases hn with h | h | h
    · have : n = 0 := by omega
      simp [this]
    · simp [h]
    · simp [h]
  have e6 : (m.length == 0 || k == 5) = true := by
    rcases hm with h | h
    · have : m.length = 0 := by omega
      simp [this]
    · simp [h]
  have e7 : (!(k == 5) || m.length == n) = true := by
    by_cases e : k = 5
    · have := hl e; subst e; simp [this]
    · have : (k == 5) = false := by simpa using e
      rw [this]; rfl
  show (decide (0 ≤ k) && decide (k ≤ 5) && (!i || k == 1) && (x.size == 0 || k == 2 || k == 3) && (n == 0 || k == 4 || k == 5) && (m.length == 0 || k == 5) && (!(k == 5) || m.length == n) && VT.allTo (fun j => (c j).may) n) = _
  rw [e1, e2, e3, e4, e5, e6, e7]; simp
end
end Go.Proofs.YtfploakafbnigaaGreatDoor
