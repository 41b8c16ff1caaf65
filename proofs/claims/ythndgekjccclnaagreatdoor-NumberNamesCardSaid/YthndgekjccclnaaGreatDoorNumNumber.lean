/-
  Layer 9 (number), the walks: the scan's method number, one theorem for each way through it.
-/
import Derived.Test.YthndgekjccclnaaGreatDoorNumScan
import Derived.WalkKit
import Derived.WalkSpells
import Derived.WalkLawsBesides
import Derived.BigQuiet
import Derived.Deep.QuietTactic
import Derived.Lib.Hide
namespace Go.Proofs.YthndgekjccclnaaGreatDoor
open Go.RowKit Num
set_option linter.unusedVariables false
set_option linter.unusedSimpArgs false

/-- number's scan behind the sign. -/
def numT (b : List UInt8) (j : Nat) : Nat × Int :=
  if hasAt b j [48] then frac b (j + 1)
  else if digErr b j = 0 then frac b (digTo b j)
  else (digTo b j, digErr b j)

set_option maxHeartbeats 600000 in
theorem number_0 (g c i j : Nat) (A : Option Addr) (l : List UInt8) (w : World) (HS : Hid (Sc w w g (.slice A l.length c) i)) (HR : Hid (RB w g A l)) (hj : j ≤ l.length) (hi : i ≤ l.length) (hn : l.length ≤ 9223372036854775805)
    (HJ : Hid (skipTo l i [45] = j)) (Hz : Hid (hasAt l j [48] = true)) (Hnd : Hid (hasAt l (j + 1) [46] = false)) (Hne : Hid (hasAt l (j + 1) [101, 69] = false)) :
    Calls Tryz.prog 97 #[.pointer (some ⟨g, 0, none⟩)] w fun e w' => e = .returned (.int .i64 (numT l j).2) ∧ Sc w w' g (.slice A l.length c) (numT l j).1 := by
  have hz1 := hasAt_lt Hz.out
  go_enter Tryz.func97, Tryz.ntmps97
  go_wp2_with fail
  refine (skip_some g c i A [45] l w _ HS HR.out (by omega)).mono ?_
  rintro e w1 ⟨⟨v, rfl⟩, HW⟩
  rw [HJ.out] at HW
  go_wp2_with fail
  refine (skip_yes g c (j) A [48] l w _ HW HR.out (by omega) Hz.out).mono ?_
  clear HW
  rintro e w1 ⟨rfl, HW⟩
  go_wp2_with fail
  refine (skip_not g c (j + 1) A [46] l w _ HW HR.out (by omega) Hnd.out).mono ?_
  clear HW
  rintro e w1 ⟨rfl, HW⟩
  go_wp2_with fail
  refine (skip_not g c (j + 1) A [101, 69] l w _ HW HR.out (by omega) Hne.out).mono ?_
  clear HW
  rintro e w1 ⟨rfl, HW⟩
  go_wp2
  go_ret
  exact ⟨ret_int (by simp [numT, frac, expo, Hz.out, Hnd.out, Hne.out]), by simp only [numT, frac, expo, Hz.out, Hnd.out, Hne.out]; exact HW.out⟩

set_option maxHeartbeats 600000 in
theorem number_1 (g c i j : Nat) (A : Option Addr) (l : List UInt8) (w : World) (HS : Hid (Sc w w g (.slice A l.length c) i)) (HR : Hid (RB w g A l)) (hj : j ≤ l.length) (hi : i ≤ l.length) (hn : l.length ≤ 9223372036854775805)
    (HJ : Hid (skipTo l i [45] = j)) (Hz : Hid (hasAt l j [48] = true)) (Hnd : Hid (hasAt l (j + 1) [46] = false)) (Hye : Hid (hasAt l (j + 1) [101, 69] = true)) :
    Calls Tryz.prog 97 #[.pointer (some ⟨g, 0, none⟩)] w fun e w' => e = .returned (.int .i64 (numT l j).2) ∧ Sc w w' g (.slice A l.length c) (numT l j).1 := by
  have hz1 := hasAt_lt Hz.out
  have he1 := hasAt_lt Hye.out
  have he2 := skipTo_le l (j + 1 + 1) [43, 45] (by omega)
  go_enter Tryz.func97, Tryz.ntmps97
  go_wp2_with fail
  refine (skip_some g c i A [45] l w _ HS HR.out (by omega)).mono ?_
  rintro e w1 ⟨⟨v, rfl⟩, HW⟩
  rw [HJ.out] at HW
  go_wp2_with fail
  refine (skip_yes g c (j) A [48] l w _ HW HR.out (by omega) Hz.out).mono ?_
  clear HW
  rintro e w1 ⟨rfl, HW⟩
  go_wp2_with fail
  refine (skip_not g c (j + 1) A [46] l w _ HW HR.out (by omega) Hnd.out).mono ?_
  clear HW
  rintro e w1 ⟨rfl, HW⟩
  go_wp2_with fail
  refine (skip_yes g c (j + 1) A [101, 69] l w _ HW HR.out (by omega) Hye.out).mono ?_
  clear HW
  rintro e w1 ⟨rfl, HW⟩
  go_wp2_with fail
  refine (skip_some g c (j + 1 + 1) A [43, 45] l w _ HW HR.out (by omega)).mono ?_
  clear HW
  rintro e w1 ⟨⟨v2, rfl⟩, HW⟩
  go_wp2_with fail
  refine (digits_is g c (skipTo l (j + 1 + 1) [43, 45]) A l w _ HW HR.out (by omega) (by omega) _ (Lib.hid rfl).out).mono ?_
  clear HW
  rintro e w1 ⟨rfl, HW⟩
  go_wp2
  go_ret
  exact ⟨ret_int (by simp [numT, frac, expo, Hz.out, Hnd.out, Hye.out]), by simp only [numT, frac, expo, Hz.out, Hnd.out, Hye.out]; exact HW.out⟩

set_option maxHeartbeats 600000 in
theorem number_2 (g c i j : Nat) (A : Option Addr) (l : List UInt8) (w : World) (HS : Hid (Sc w w g (.slice A l.length c) i)) (HR : Hid (RB w g A l)) (hj : j ≤ l.length) (hi : i ≤ l.length) (hn : l.length ≤ 9223372036854775805)
    (HJ : Hid (skipTo l i [45] = j)) (Hz : Hid (hasAt l j [48] = true)) (Hyd : Hid (hasAt l (j + 1) [46] = true)) (Hd0 : Hid (digErr l (j + 1 + 1) = 0)) (Hne : Hid (hasAt l (digTo l (j + 1 + 1)) [101, 69] = false)) :
    Calls Tryz.prog 97 #[.pointer (some ⟨g, 0, none⟩)] w fun e w' => e = .returned (.int .i64 (numT l j).2) ∧ Sc w w' g (.slice A l.length c) (numT l j).1 := by
  have hz1 := hasAt_lt Hz.out
  have hy1 := hasAt_lt Hyd.out
  have hy2 := digTo_le l (j + 1 + 1) (by omega)
  go_enter Tryz.func97, Tryz.ntmps97
  go_wp2_with fail
  refine (skip_some g c i A [45] l w _ HS HR.out (by omega)).mono ?_
  rintro e w1 ⟨⟨v, rfl⟩, HW⟩
  rw [HJ.out] at HW
  go_wp2_with fail
  refine (skip_yes g c (j) A [48] l w _ HW HR.out (by omega) Hz.out).mono ?_
  clear HW
  rintro e w1 ⟨rfl, HW⟩
  go_wp2_with fail
  refine (skip_yes g c (j + 1) A [46] l w _ HW HR.out (by omega) Hyd.out).mono ?_
  clear HW
  rintro e w1 ⟨rfl, HW⟩
  go_wp2_with fail
  refine (digits_is g c (j + 1 + 1) A l w _ HW HR.out (by omega) (by omega) 0 Hd0.out).mono ?_
  clear HW
  rintro e w1 ⟨rfl, HW⟩
  go_wp2_with fail
  refine (skip_not g c (digTo l (j + 1 + 1)) A [101, 69] l w _ HW HR.out (by omega) Hne.out).mono ?_
  clear HW
  rintro e w1 ⟨rfl, HW⟩
  go_wp2
  go_ret
  exact ⟨ret_int (by simp [numT, frac, expo, Hz.out, Hyd.out, Hd0.out, Hne.out]), by simp only [numT, frac, expo, Hz.out, Hyd.out, Hd0.out, Hne.out]; exact HW.out⟩

set_option maxHeartbeats 600000 in
theorem number_3 (g c i j : Nat) (A : Option Addr) (l : List UInt8) (w : World) (HS : Hid (Sc w w g (.slice A l.length c) i)) (HR : Hid (RB w g A l)) (hj : j ≤ l.length) (hi : i ≤ l.length) (hn : l.length ≤ 9223372036854775805)
    (HJ : Hid (skipTo l i [45] = j)) (Hz : Hid (hasAt l j [48] = true)) (Hyd : Hid (hasAt l (j + 1) [46] = true)) (Hd0 : Hid (digErr l (j + 1 + 1) = 0)) (Hye : Hid (hasAt l (digTo l (j + 1 + 1)) [101, 69] = true)) :
    Calls Tryz.prog 97 #[.pointer (some ⟨g, 0, none⟩)] w fun e w' => e = .returned (.int .i64 (numT l j).2) ∧ Sc w w' g (.slice A l.length c) (numT l j).1 := by
  have hz1 := hasAt_lt Hz.out
  have hy1 := hasAt_lt Hyd.out
  have hy2 := digTo_le l (j + 1 + 1) (by omega)
  have he1 := hasAt_lt Hye.out
  have he2 := skipTo_le l (digTo l (j + 1 + 1) + 1) [43, 45] (by omega)
  go_enter Tryz.func97, Tryz.ntmps97
  go_wp2_with fail
  refine (skip_some g c i A [45] l w _ HS HR.out (by omega)).mono ?_
  rintro e w1 ⟨⟨v, rfl⟩, HW⟩
  rw [HJ.out] at HW
  go_wp2_with fail
  refine (skip_yes g c (j) A [48] l w _ HW HR.out (by omega) Hz.out).mono ?_
  clear HW
  rintro e w1 ⟨rfl, HW⟩
  go_wp2_with fail
  refine (skip_yes g c (j + 1) A [46] l w _ HW HR.out (by omega) Hyd.out).mono ?_
  clear HW
  rintro e w1 ⟨rfl, HW⟩
  go_wp2_with fail
  refine (digits_is g c (j + 1 + 1) A l w _ HW HR.out (by omega) (by omega) 0 Hd0.out).mono ?_
  clear HW
  rintro e w1 ⟨rfl, HW⟩
  go_wp2_with fail
  refine (skip_yes g c (digTo l (j + 1 + 1)) A [101, 69] l w _ HW HR.out (by omega) Hye.out).mono ?_
  clear HW
  rintro e w1 ⟨rfl, HW⟩
  go_wp2_with fail
  refine (skip_some g c (digTo l (j + 1 + 1) + 1) A [43, 45] l w _ HW HR.out (by omega)).mono ?_
  clear HW
  rintro e w1 ⟨⟨v2, rfl⟩, HW⟩
  go_wp2_with fail
  refine (digits_is g c (skipTo l (digTo l (j + 1 + 1) + 1) [43, 45]) A l w _ HW HR.out (by omega) (by omega) _ (Lib.hid rfl).out).mono ?_
  clear HW
  rintro e w1 ⟨rfl, HW⟩
  go_wp2
  go_ret
  exact ⟨ret_int (by simp [numT, frac, expo, Hz.out, Hyd.out, Hd0.out, Hye.out]), by simp only [numT, frac, expo, Hz.out, Hyd.out, Hd0.out, Hye.out]; exact HW.out⟩

set_option maxHeartbeats 600000 in
theorem number_4 (g c i j : Nat) (A : Option Addr) (l : List UInt8) (w : World) (HS : Hid (Sc w w g (.slice A l.length c) i)) (HR : Hid (RB w g A l)) (hj : j ≤ l.length) (hi : i ≤ l.length) (hn : l.length ≤ 9223372036854775805)
    (HJ : Hid (skipTo l i [45] = j)) (Hz : Hid (hasAt l j [48] = true)) (Hyd : Hid (hasAt l (j + 1) [46] = true)) (Hdn : Hid (digErr l (j + 1 + 1) ≠ 0)) :
    Calls Tryz.prog 97 #[.pointer (some ⟨g, 0, none⟩)] w fun e w' => e = .returned (.int .i64 (numT l j).2) ∧ Sc w w' g (.slice A l.length c) (numT l j).1 := by
  have hz1 := hasAt_lt Hz.out
  have hy1 := hasAt_lt Hyd.out
  have hy2 := digTo_le l (j + 1 + 1) (by omega)
  have hqdn : (digErr l (j + 1 + 1) != 0) = true := by simpa using Hdn.out
  have hq2dn : (digErr l (j + 1 + 1) == 0) = false := by simpa using Hdn.out
  go_enter Tryz.func97, Tryz.ntmps97
  go_wp2_with fail
  refine (skip_some g c i A [45] l w _ HS HR.out (by omega)).mono ?_
  rintro e w1 ⟨⟨v, rfl⟩, HW⟩
  rw [HJ.out] at HW
  go_wp2_with fail
  refine (skip_yes g c (j) A [48] l w _ HW HR.out (by omega) Hz.out).mono ?_
  clear HW
  rintro e w1 ⟨rfl, HW⟩
  go_wp2_with fail
  refine (skip_yes g c (j + 1) A [46] l w _ HW HR.out (by omega) Hyd.out).mono ?_
  clear HW
  rintro e w1 ⟨rfl, HW⟩
  go_wp2_with fail
  refine (digits_is g c (j + 1 + 1) A l w _ HW HR.out (by omega) (by omega) _ (Lib.hid rfl).out).mono ?_
  clear HW
  rintro e w1 ⟨rfl, HW⟩
  go_wp2
  go_ret
  exact ⟨ret_int (by simp [numT, frac, expo, Hz.out, Hyd.out, Hdn.out]), by simp only [numT, frac, expo, Hz.out, Hyd.out, Hdn.out]; exact HW.out⟩

set_option maxHeartbeats 600000 in
theorem number_5 (g c i j : Nat) (A : Option Addr) (l : List UInt8) (w : World) (HS : Hid (Sc w w g (.slice A l.length c) i)) (HR : Hid (RB w g A l)) (hj : j ≤ l.length) (hi : i ≤ l.length) (hn : l.length ≤ 9223372036854775805)
    (HJ : Hid (skipTo l i [45] = j)) (Hnz : Hid (hasAt l j [48] = false)) (He0 : Hid (digErr l j = 0)) (Hnd : Hid (hasAt l (digTo l j) [46] = false)) (Hne : Hid (hasAt l (digTo l j) [101, 69] = false)) :
    Calls Tryz.prog 97 #[.pointer (some ⟨g, 0, none⟩)] w fun e w' => e = .returned (.int .i64 (numT l j).2) ∧ Sc w w' g (.slice A l.length c) (numT l j).1 := by
  have hj2 := digTo_le l j hj
  go_enter Tryz.func97, Tryz.ntmps97
  go_wp2_with fail
  refine (skip_some g c i A [45] l w _ HS HR.out (by omega)).mono ?_
  rintro e w1 ⟨⟨v, rfl⟩, HW⟩
  rw [HJ.out] at HW
  go_wp2_with fail
  refine (skip_not g c (j) A [48] l w _ HW HR.out (by omega) Hnz.out).mono ?_
  clear HW
  rintro e w1 ⟨rfl, HW⟩
  go_wp2_with fail
  refine (digits_is g c (j) A l w _ HW HR.out (by omega) (by omega) 0 He0.out).mono ?_
  clear HW
  rintro e w1 ⟨rfl, HW⟩
  go_wp2_with fail
  refine (skip_not g c (digTo l j) A [46] l w _ HW HR.out (by omega) Hnd.out).mono ?_
  clear HW
  rintro e w1 ⟨rfl, HW⟩
  go_wp2_with fail
  refine (skip_not g c (digTo l j) A [101, 69] l w _ HW HR.out (by omega) Hne.out).mono ?_
  clear HW
  rintro e w1 ⟨rfl, HW⟩
  go_wp2
  go_ret
  exact ⟨ret_int (by simp [numT, frac, expo, Hnz.out, He0.out, Hnd.out, Hne.out]), by simp only [numT, frac, expo, Hnz.out, He0.out, Hnd.out, Hne.out]; exact HW.out⟩

set_option maxHeartbeats 600000 in
theorem number_6 (g c i j : Nat) (A : Option Addr) (l : List UInt8) (w : World) (HS : Hid (Sc w w g (.slice A l.length c) i)) (HR : Hid (RB w g A l)) (hj : j ≤ l.length) (hi : i ≤ l.length) (hn : l.length ≤ 9223372036854775805)
    (HJ : Hid (skipTo l i [45] = j)) (Hnz : Hid (hasAt l j [48] = false)) (He0 : Hid (digErr l j = 0)) (Hnd : Hid (hasAt l (digTo l j) [46] = false)) (Hye : Hid (hasAt l (digTo l j) [101, 69] = true)) :
    Calls Tryz.prog 97 #[.pointer (some ⟨g, 0, none⟩)] w fun e w' => e = .returned (.int .i64 (numT l j).2) ∧ Sc w w' g (.slice A l.length c) (numT l j).1 := by
  have hj2 := digTo_le l j hj
  have he1 := hasAt_lt Hye.out
  have he2 := skipTo_le l (digTo l j + 1) [43, 45] (by omega)
  go_enter Tryz.func97, Tryz.ntmps97
  go_wp2_with fail
  refine (skip_some g c i A [45] l w _ HS HR.out (by omega)).mono ?_
  rintro e w1 ⟨⟨v, rfl⟩, HW⟩
  rw [HJ.out] at HW
  go_wp2_with fail
  refine (skip_not g c (j) A [48] l w _ HW HR.out (by omega) Hnz.out).mono ?_
  clear HW
  rintro e w1 ⟨rfl, HW⟩
  go_wp2_with fail
  refine (digits_is g c (j) A l w _ HW HR.out (by omega) (by omega) 0 He0.out).mono ?_
  clear HW
  rintro e w1 ⟨rfl, HW⟩
  go_wp2_with fail
  refine (skip_not g c (digTo l j) A [46] l w _ HW HR.out (by omega) Hnd.out).mono ?_
  clear HW
  rintro e w1 ⟨rfl, HW⟩
  go_wp2_with fail
  refine (skip_yes g c (digTo l j) A [101, 69] l w _ HW HR.out (by omega) Hye.out).mono ?_
  clear HW
  rintro e w1 ⟨rfl, HW⟩
  go_wp2_with fail
  refine (skip_some g c (digTo l j + 1) A [43, 45] l w _ HW HR.out (by omega)).mono ?_
  clear HW
  rintro e w1 ⟨⟨v2, rfl⟩, HW⟩
  go_wp2_with fail
  refine (digits_is g c (skipTo l (digTo l j + 1) [43, 45]) A l w _ HW HR.out (by omega) (by omega) _ (Lib.hid rfl).out).mono ?_
  clear HW
  rintro e w1 ⟨rfl, HW⟩
  go_wp2
  go_ret
  exact ⟨ret_int (by simp [numT, frac, expo, Hnz.out, He0.out, Hnd.out, Hye.out]), by simp only [numT, frac, expo, Hnz.out, He0.out, Hnd.out, Hye.out]; exact HW.out⟩

set_option maxHeartbeats 600000 in
theorem number_7 (g c i j : Nat) (A : Option Addr) (l : List UInt8) (w : World) (HS : Hid (Sc w w g (.slice A l.length c) i)) (HR : Hid (RB w g A l)) (hj : j ≤ l.length) (hi : i ≤ l.length) (hn : l.length ≤ 9223372036854775805)
    (HJ : Hid (skipTo l i [45] = j)) (Hnz : Hid (hasAt l j [48] = false)) (He0 : Hid (digErr l j = 0)) (Hyd : Hid (hasAt l (digTo l j) [46] = true)) (Hd0 : Hid (digErr l (digTo l j + 1) = 0)) (Hne : Hid (hasAt l (digTo l (digTo l j + 1)) [101, 69] = false)) :
    Calls Tryz.prog 97 #[.pointer (some ⟨g, 0, none⟩)] w fun e w' => e = .returned (.int .i64 (numT l j).2) ∧ Sc w w' g (.slice A l.length c) (numT l j).1 := by
  have hj2 := digTo_le l j hj
  have hy1 := hasAt_lt Hyd.out
  have hy2 := digTo_le l (digTo l j + 1) (by omega)
  go_enter Tryz.func97, Tryz.ntmps97
  go_wp2_with fail
  refine (skip_some g c i A [45] l w _ HS HR.out (by omega)).mono ?_
  rintro e w1 ⟨⟨v, rfl⟩, HW⟩
  rw [HJ.out] at HW
  go_wp2_with fail
  refine (skip_not g c (j) A [48] l w _ HW HR.out (by omega) Hnz.out).mono ?_
  clear HW
  rintro e w1 ⟨rfl, HW⟩
  go_wp2_with fail
  refine (digits_is g c (j) A l w _ HW HR.out (by omega) (by omega) 0 He0.out).mono ?_
  clear HW
  rintro e w1 ⟨rfl, HW⟩
  go_wp2_with fail
  refine (skip_yes g c (digTo l j) A [46] l w _ HW HR.out (by omega) Hyd.out).mono ?_
  clear HW
  rintro e w1 ⟨rfl, HW⟩
  go_wp2_with fail
  refine (digits_is g c (digTo l j + 1) A l w _ HW HR.out (by omega) (by omega) 0 Hd0.out).mono ?_
  clear HW
  rintro e w1 ⟨rfl, HW⟩
  go_wp2_with fail
  refine (skip_not g c (digTo l (digTo l j + 1)) A [101, 69] l w _ HW HR.out (by omega) Hne.out).mono ?_
  clear HW
  rintro e w1 ⟨rfl, HW⟩
  go_wp2
  go_ret
  exact ⟨ret_int (by simp [numT, frac, expo, Hnz.out, He0.out, Hyd.out, Hd0.out, Hne.out]), by simp only [numT, frac, expo, Hnz.out, He0.out, Hyd.out, Hd0.out, Hne.out]; exact HW.out⟩

set_option maxHeartbeats 600000 in
theorem number_8 (g c i j : Nat) (A : Option Addr) (l : List UInt8) (w : World) (HS : Hid (Sc w w g (.slice A l.length c) i)) (HR : Hid (RB w g A l)) (hj : j ≤ l.length) (hi : i ≤ l.length) (hn : l.length ≤ 9223372036854775805)
    (HJ : Hid (skipTo l i [45] = j)) (Hnz : Hid (hasAt l j [48] = false)) (He0 : Hid (digErr l j = 0)) (Hyd : Hid (hasAt l (digTo l j) [46] = true)) (Hd0 : Hid (digErr l (digTo l j + 1) = 0)) (Hye : Hid (hasAt l (digTo l (digTo l j + 1)) [101, 69] = true)) :
    Calls Tryz.prog 97 #[.pointer (some ⟨g, 0, none⟩)] w fun e w' => e = .returned (.int .i64 (numT l j).2) ∧ Sc w w' g (.slice A l.length c) (numT l j).1 := by
  have hj2 := digTo_le l j hj
  have hy1 := hasAt_lt Hyd.out
  have hy2 := digTo_le l (digTo l j + 1) (by omega)
  have he1 := hasAt_lt Hye.out
  have he2 := skipTo_le l (digTo l (digTo l j + 1) + 1) [43, 45] (by omega)
  go_enter Tryz.func97, Tryz.ntmps97
  go_wp2_with fail
  refine (skip_some g c i A [45] l w _ HS HR.out (by omega)).mono ?_
  rintro e w1 ⟨⟨v, rfl⟩, HW⟩
  rw [HJ.out] at HW
  go_wp2_with fail
  refine (skip_not g c (j) A [48] l w _ HW HR.out (by omega) Hnz.out).mono ?_
  clear HW
  rintro e w1 ⟨rfl, HW⟩
  go_wp2_with fail
  refine (digits_is g c (j) A l w _ HW HR.out (by omega) (by omega) 0 He0.out).mono ?_
  clear HW
  rintro e w1 ⟨rfl, HW⟩
  go_wp2_with fail
  refine (skip_yes g c (digTo l j) A [46] l w _ HW HR.out (by omega) Hyd.out).mono ?_
  clear HW
  rintro e w1 ⟨rfl, HW⟩
  go_wp2_with fail
  refine (digits_is g c (digTo l j + 1) A l w _ HW HR.out (by omega) (by omega) 0 Hd0.out).mono ?_
  clear HW
  rintro e w1 ⟨rfl, HW⟩
  go_wp2_with fail
  refine (skip_yes g c (digTo l (digTo l j + 1)) A [101, 69] l w _ HW HR.out (by omega) Hye.out).mono ?_
  clear HW
  rintro e w1 ⟨rfl, HW⟩
  go_wp2_with fail
  refine (skip_some g c (digTo l (digTo l j + 1) + 1) A [43, 45] l w _ HW HR.out (by omega)).mono ?_
  clear HW
  rintro e w1 ⟨⟨v2, rfl⟩, HW⟩
  go_wp2_with fail
  refine (digits_is g c (skipTo l (digTo l (digTo l j + 1) + 1) [43, 45]) A l w _ HW HR.out (by omega) (by omega) _ (Lib.hid rfl).out).mono ?_
  clear HW
  rintro e w1 ⟨rfl, HW⟩
  go_wp2
  go_ret
  exact ⟨ret_int (by simp [numT, frac, expo, Hnz.out, He0.out, Hyd.out, Hd0.out, Hye.out]), by simp only [numT, frac, expo, Hnz.out, He0.out, Hyd.out, Hd0.out, Hye.out]; exact HW.out⟩

set_option maxHeartbeats 600000 in
theorem number_9 (g c i j : Nat) (A : Option Addr) (l : List UInt8) (w : World) (HS : Hid (Sc w w g (.slice A l.length c) i)) (HR : Hid (RB w g A l)) (hj : j ≤ l.length) (hi : i ≤ l.length) (hn : l.length ≤ 9223372036854775805)
    (HJ : Hid (skipTo l i [45] = j)) (Hnz : Hid (hasAt l j [48] = false)) (He0 : Hid (digErr l j = 0)) (Hyd : Hid (hasAt l (digTo l j) [46] = true)) (Hdn : Hid (digErr l (digTo l j + 1) ≠ 0)) :
    Calls Tryz.prog 97 #[.pointer (some ⟨g, 0, none⟩)] w fun e w' => e = .returned (.int .i64 (numT l j).2) ∧ Sc w w' g (.slice A l.length c) (numT l j).1 := by
  have hj2 := digTo_le l j hj
  have hy1 := hasAt_lt Hyd.out
  have hy2 := digTo_le l (digTo l j + 1) (by omega)
  have hqdn : (digErr l (digTo l j + 1) != 0) = true := by simpa using Hdn.out
  have hq2dn : (digErr l (digTo l j + 1) == 0) = false := by simpa using Hdn.out
  go_enter Tryz.func97, Tryz.ntmps97
  go_wp2_with fail
  refine (skip_some g c i A [45] l w _ HS HR.out (by omega)).mono ?_
  rintro e w1 ⟨⟨v, rfl⟩, HW⟩
  rw [HJ.out] at HW
  go_wp2_with fail
  refine (skip_not g c (j) A [48] l w _ HW HR.out (by omega) Hnz.out).mono ?_
  clear HW
  rintro e w1 ⟨rfl, HW⟩
  go_wp2_with fail
  refine (digits_is g c (j) A l w _ HW HR.out (by omega) (by omega) 0 He0.out).mono ?_
  clear HW
  rintro e w1 ⟨rfl, HW⟩
  go_wp2_with fail
  refine (skip_yes g c (digTo l j) A [46] l w _ HW HR.out (by omega) Hyd.out).mono ?_
  clear HW
  rintro e w1 ⟨rfl, HW⟩
  go_wp2_with fail
  refine (digits_is g c (digTo l j + 1) A l w _ HW HR.out (by omega) (by omega) _ (Lib.hid rfl).out).mono ?_
  clear HW
  rintro e w1 ⟨rfl, HW⟩
  go_wp2
  go_ret
  exact ⟨ret_int (by simp [numT, frac, expo, Hnz.out, He0.out, Hyd.out, Hdn.out]), by simp only [numT, frac, expo, Hnz.out, He0.out, Hyd.out, Hdn.out]; exact HW.out⟩

set_option maxHeartbeats 600000 in
theorem number_10 (g c i j : Nat) (A : Option Addr) (l : List UInt8) (w : World) (HS : Hid (Sc w w g (.slice A l.length c) i)) (HR : Hid (RB w g A l)) (hj : j ≤ l.length) (hi : i ≤ l.length) (hn : l.length ≤ 9223372036854775805)
    (HJ : Hid (skipTo l i [45] = j)) (Hnz : Hid (hasAt l j [48] = false)) (Hen : Hid (digErr l j ≠ 0)) :
    Calls Tryz.prog 97 #[.pointer (some ⟨g, 0, none⟩)] w fun e w' => e = .returned (.int .i64 (numT l j).2) ∧ Sc w w' g (.slice A l.length c) (numT l j).1 := by
  have hj2 := digTo_le l j hj
  have hqen : (digErr l j != 0) = true := by simpa using Hen.out
  have hq2en : (digErr l j == 0) = false := by simpa using Hen.out
  go_enter Tryz.func97, Tryz.ntmps97
  go_wp2_with fail
  refine (skip_some g c i A [45] l w _ HS HR.out (by omega)).mono ?_
  rintro e w1 ⟨⟨v, rfl⟩, HW⟩
  rw [HJ.out] at HW
  go_wp2_with fail
  refine (skip_not g c (j) A [48] l w _ HW HR.out (by omega) Hnz.out).mono ?_
  clear HW
  rintro e w1 ⟨rfl, HW⟩
  go_wp2_with fail
  refine (digits_is g c (j) A l w _ HW HR.out (by omega) (by omega) _ (Lib.hid rfl).out).mono ?_
  clear HW
  rintro e w1 ⟨rfl, HW⟩
  go_wp2
  go_ret
  exact ⟨ret_int (by simp [numT, frac, expo, Hnz.out, Hen.out]), by simp only [numT, frac, expo, Hnz.out, Hen.out]; exact HW.out⟩

/-- number: the scan of a whole number. -/
theorem number_any (g c i : Nat) (A : Option Addr) (l : List UInt8) (w : World) (hsc : SC w g (.slice A l.length c) i) (hr : RB w g A l) (hi : i ≤ l.length) (hn : l.length ≤ 9223372036854775805) :
    Calls Tryz.prog 97 #[.pointer (some ⟨g, 0, none⟩)] w fun e w' => e = .returned (.int .i64 (numF l i).2) ∧
      Sc w w' g (.slice A l.length c) (numF l i).1 := by
  have HS := Lib.hid (Sc.refl hsc)
  have HR := Lib.hid hr
  have hj := skipTo_le l i [45] hi
  have e : numF l i = numT l (skipTo l i [45]) := rfl
  rw [e]
  generalize hjj : skipTo l i [45] = j at *
  have HJ := Lib.hid hjj
  rcases Bool.eq_false_or_eq_true (hasAt l j [48]) with z | nz
  · skip
    rcases Bool.eq_false_or_eq_true (hasAt l (j + 1) [46]) with yd | nd
    · by_cases d0 : digErr l (j + 1 + 1) = 0
      · rcases Bool.eq_false_or_eq_true (hasAt l (digTo l (j + 1 + 1)) [101, 69]) with ye | ne
        · exact number_3 g c i j A l w HS HR hj hi hn HJ (Lib.hid z) (Lib.hid yd) (Lib.hid d0) (Lib.hid ye)
        · exact number_2 g c i j A l w HS HR hj hi hn HJ (Lib.hid z) (Lib.hid yd) (Lib.hid d0) (Lib.hid ne)
      · exact number_4 g c i j A l w HS HR hj hi hn HJ (Lib.hid z) (Lib.hid yd) (Lib.hid d0)
    · rcases Bool.eq_false_or_eq_true (hasAt l (j + 1) [101, 69]) with ye | ne
      · exact number_1 g c i j A l w HS HR hj hi hn HJ (Lib.hid z) (Lib.hid nd) (Lib.hid ye)
      · exact number_0 g c i j A l w HS HR hj hi hn HJ (Lib.hid z) (Lib.hid nd) (Lib.hid ne)
  · by_cases e0 : digErr l j = 0
    · skip
      rcases Bool.eq_false_or_eq_true (hasAt l (digTo l j) [46]) with yd | nd
      · by_cases d0 : digErr l (digTo l j + 1) = 0
        · rcases Bool.eq_false_or_eq_true (hasAt l (digTo l (digTo l j + 1)) [101, 69]) with ye | ne
          · exact number_8 g c i j A l w HS HR hj hi hn HJ (Lib.hid nz) (Lib.hid e0) (Lib.hid yd) (Lib.hid d0) (Lib.hid ye)
          · exact number_7 g c i j A l w HS HR hj hi hn HJ (Lib.hid nz) (Lib.hid e0) (Lib.hid yd) (Lib.hid d0) (Lib.hid ne)
        · exact number_9 g c i j A l w HS HR hj hi hn HJ (Lib.hid nz) (Lib.hid e0) (Lib.hid yd) (Lib.hid d0)
      · rcases Bool.eq_false_or_eq_true (hasAt l (digTo l j) [101, 69]) with ye | ne
        · exact number_6 g c i j A l w HS HR hj hi hn HJ (Lib.hid nz) (Lib.hid e0) (Lib.hid nd) (Lib.hid ye)
        · exact number_5 g c i j A l w HS HR hj hi hn HJ (Lib.hid nz) (Lib.hid e0) (Lib.hid nd) (Lib.hid ne)
    · exact number_10 g c i j A l w HS HR hj hi hn HJ (Lib.hid nz) (Lib.hid e0)

end Go.Proofs.YthndgekjccclnaaGreatDoor
