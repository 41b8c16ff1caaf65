/-
  Layer 9 (number), the walks: the document's answer (colophonref09): digit, run, short, sign, Check, at every row of bytes.
-/
import Derived.Test.YthndgekjccclnaaGreatDoorNumLib
import Derived.WalkKit
import Derived.WalkSpells
import Derived.WalkLawsBesides
import Derived.BigQuiet
import Derived.Deep.QuietTactic
import Derived.Deep.DeepCutAuto
import Derived.Lib.Hide
namespace Go.Proofs.YthndgekjccclnaaGreatDoor
open Go.RowKit Num
set_option linter.unusedVariables false
set_option linter.unusedSimpArgs false

def digAt (l : List UInt8) (i : Nat) : Bool := match l[i]? with | some c => isD c | none => false
theorem digAt_of {l : List UInt8} {i : Nat} (h : i < l.length) : digAt l i = isD l[i] := by unfold digAt; rw [List.getElem?_eq_getElem h]
theorem digAt_ge {l : List UInt8} {i : Nat} (h : ¬ i < l.length) : digAt l i = false := by unfold digAt; rw [List.getElem?_eq_none (by omega)]
theorem isD_iff (c : UInt8) : isD c = decide (48 ≤ c.toNat ∧ c.toNat ≤ 57) := by
  unfold isD
  rw [Bool.eq_iff_iff]
  simp only [Bool.and_eq_true, decide_eq_true_eq, UInt8.le_iff_toNat_le]
  exact Iff.rfl

set_option maxHeartbeats 400000 in
theorem ref_digit (A : Option Addr) (c B i : Nat) (l : List UInt8) (w : World) (hr : RB w B A l) (hn : l.length ≤ 9223372036854775805) (hi : i ≤ 9223372036854775805) :
    Calls Tryz.prog 99 #[.slice A l.length c, .int .i64 i] w fun e w' => e = .returned (.bool (digAt l i)) ∧ w = w' := by
  by_cases h : i < l.length
  · rcases hr with rfl | ⟨b, off, rfl, -, hc⟩
    · simp at h
    have hk := hc i h
    rw [digAt_of h, isD_iff]
    clear hc
    generalize l[i].toNat = x at *
    have hd : decide ((i : Int) < (l.length : Int)) = true := by simp; omega
    have hi0 : (0 : Int) ≤ i := by omega
    by_cases h1 : 48 ≤ x
    · by_cases h2 : x ≤ 57
      · have e : decide (48 ≤ x ∧ x ≤ 57) = true := by simp [h1, h2]
        rw [e]; clear e
        have k1 : decide ((48 : Int) ≤ (x : Int)) = true := by simp; omega
        have k2 : decide ((x : Int) ≤ 57) = true := by simp; omega
        go_enter Tryz.func99, Tryz.ntmps99
        go_wp2
        go_ret
        exact ⟨rfl, rfl⟩
      · have e : decide (48 ≤ x ∧ x ≤ 57) = false := by simp; omega
        rw [e]; clear e
        have k1 : decide ((48 : Int) ≤ (x : Int)) = true := by simp; omega
        have k2 : decide ((x : Int) ≤ 57) = false := by simp; omega
        go_enter Tryz.func99, Tryz.ntmps99
        go_wp2
        go_ret
        exact ⟨rfl, rfl⟩
    · have e : decide (48 ≤ x ∧ x ≤ 57) = false := by simp; omega
      rw [e]; clear e
      have k1 : decide ((48 : Int) ≤ (x : Int)) = false := by simp; omega
      go_enter Tryz.func99, Tryz.ntmps99
      go_wp2
      go_ret
      exact ⟨rfl, rfl⟩
  · rw [digAt_ge h]
    clear hr
    have hd : decide ((i : Int) < (l.length : Int)) = false := by simp; omega
    have hd2 : decide (i < l.length) = false := by simp; omega
    go_enter Tryz.func99, Tryz.ntmps99
    go_wp2
    go_ret
    exact ⟨rfl, rfl⟩

theorem ref_short (A : Option Addr) (c i n : Nat) (w : World) :
    Calls Tryz.prog 100 #[.slice A n c, .int .i64 i] w fun e w' => e = .returned (.int .i64 (if n ≤ i then 3 else 90)) ∧ w = w' := by
  by_cases h : n ≤ i
  · have hd : decide (n ≤ i) = true := by simp; omega
    rw [if_pos h]
    go_enter Tryz.func100, Tryz.ntmps100
    go_wp2
    go_ret
    exact ⟨rfl, rfl⟩
  · have hd : decide (n ≤ i) = false := by simp; omega
    rw [if_neg h]
    go_enter Tryz.func100, Tryz.ntmps100
    go_wp2
    go_ret
    exact ⟨rfl, rfl⟩

set_option maxHeartbeats 400000 in
theorem ref_sign (A : Option Addr) (c B i : Nat) (x y : UInt8) (l : List UInt8) (w : World) (hr : RB w B A l) (hn : l.length ≤ 9223372036854775805) (hi : i ≤ 9223372036854775805) :
    Calls Tryz.prog 98 #[.slice A l.length c, .int .i64 i, .int .u8 x.toNat, .int .u8 y.toNat] w fun e w' => e = .returned (.bool (hasAt l i [x, y])) ∧ w = w' := by
  by_cases h : i < l.length
  · rcases hr with rfl | ⟨b, off, rfl, -, hc⟩
    · simp at h
    have hk := hc i h
    have hh : hasAt l i [x, y] = (decide (l[i].toNat = x.toNat) || decide (l[i].toNat = y.toNat)) := by
      unfold hasAt; rw [List.getElem?_eq_getElem h]
      simp only [List.contains_cons, List.contains_nil, Bool.or_false]
      rw [Bool.eq_iff_iff]
      simp [← UInt8.toNat_inj]
    rw [hh]
    clear hc hh
    generalize l[i].toNat = z at *
    generalize x.toNat = x at *
    generalize y.toNat = y at *
    have hd : decide ((i : Int) < (l.length : Int)) = true := by simp; omega
    have hi0 : (0 : Int) ≤ i := by omega
    by_cases h1 : z = x
    · subst h1
      have e : (decide (z = z) || decide (z = y)) = true := by simp
      rw [e]; clear e
      go_enter Tryz.func98, Tryz.ntmps98
      go_wp2
      go_ret
      exact ⟨rfl, rfl⟩
    · have k1 : ((z : Int) == (x : Int)) = false := by simp; omega
      by_cases h2 : z = y
      · subst h2
        have e : (decide (z = x) || decide (z = z)) = true := by simp
        rw [e]; clear e h1
        go_enter Tryz.func98, Tryz.ntmps98
        go_wp2
        go_ret
        exact ⟨rfl, rfl⟩
      · have k2 : ((z : Int) == (y : Int)) = false := by simp; omega
        have e : (decide (z = x) || decide (z = y)) = false := by simp [h1, h2]
        rw [e]; clear e h1 h2
        go_enter Tryz.func98, Tryz.ntmps98
        go_wp2
        go_ret
        exact ⟨rfl, rfl⟩
  · rw [hasAt_false_of_ge (by omega)]
    clear hr
    have hd : decide ((i : Int) < (l.length : Int)) = false := by simp; omega
    have hd2 : decide (i < l.length) = false := by simp; omega
    go_enter Tryz.func98, Tryz.ntmps98
    go_wp2
    go_ret
    exact ⟨rfl, rfl⟩

theorem digAt_run (l : List UInt8) (i k : Nat) (h : k ≤ run (l.drop i)) : digAt l (i + k) = decide (k < run (l.drop i)) := by
  have := hasAt_run l i k h
  rw [← this]
  unfold digAt hasAt
  cases l[i + k]? with
  | none => rfl
  | some c => exact (ten_isD c).symm

set_option maxHeartbeats 400000 in
theorem ref_run (A : Option Addr) (c B i : Nat) (l : List UInt8) (w : World) (hr : RB w B A l) (hn : l.length ≤ 9223372036854775800) (hi : i ≤ l.length) :
    Calls Tryz.prog 101 #[.slice A l.length c, .int .i64 i] w fun e w' => e = .returned (.int .i64 (digTo l i)) ∧ w = w' := by
  have HD := Lib.hid (fun k (h : k ≤ run (l.drop i)) => digAt_run l i k h)
  have hrl := run_drop_le l i
  have e : digTo l i = i + run (l.drop i) := rfl
  rw [e]
  clear e
  generalize run (l.drop i) = r at *
  have HC : Hid (∀ p : Nat, i ≤ p → p ≤ i + r → Calls Tryz.prog 99 #[.slice A l.length c, .int .i64 p] w fun e w' => e = .returned (.bool (decide (p < i + r))) ∧ w = w') := by
    refine Lib.hid fun p h1 h2 => ?_
    have := ref_digit A c B p l w hr (by omega) (by omega)
    have e := HD.out (p - i) (by omega)
    rw [show i + (p - i) = p from by omega] at e
    rw [e] at this
    have e2 : decide (p - i < r) = decide (p < i + r) := by rw [decide_eq_decide]; omega
    rw [e2] at this
    exact this
  clear hr
  go_enter Tryz.func101, Tryz.ntmps101
  go_wp2
  go_loopg [1] r (fun k v wr => ∃ p : Nat, p + k = i + r ∧ i ≤ p ∧ v = .int .i64 p ∧ wr = w)
  case atStart => exact ⟨i, rfl, Nat.le_refl _, rfl, rfl⟩
  case round =>
    obtain ⟨p, hk, hip, rfl, rfl⟩ := hrel
    have C := Lib.hid (HC.out p hip (by omega))
    have hp9 : p ≤ 9223372036854775800 := by omega
    have HK := Lib.hid hk
    clear hk
    by_cases hz : p < i + r
    · simp only [hz, decide_true] at C
      go_wp2_with (go_at_call 99; refine C.out.mono ?_; rintro e w' ⟨rfl, rfl⟩)
      go_roundg (gk - 1)
      case measure => have := HK.out; omega
      case rel => exact ⟨p + 1, by have := HK.out; omega, by omega, by go_num, rfl⟩
    · simp only [hz, decide_false] at C
      obtain rfl : p = i + r := by have := HK.out; omega
      go_wp2_with (go_at_call 99; refine C.out.mono ?_; rintro e w' ⟨rfl, rfl⟩)
      go_ret
      exact ⟨rfl, rfl⟩
end Go.Proofs.YthndgekjccclnaaGreatDoor
