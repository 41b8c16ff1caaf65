/-
  Layer 9 (number), the walks: number.Check, at every row of bytes and every place.
-/
import Derived.Test.YthndgekjccclnaaGreatDoorNumNumber
import Derived.WalkKit
import Derived.WalkSpells
import Derived.WalkLawsBesides
import Derived.BigQuiet
import Derived.Deep.QuietTactic
import Derived.Lib.Hide
namespace Go.Proofs.YthndgekjccclnaaGreatDoor
open Go.RowKit Num
set_option linter.unusedVariables false
set_option linter.unusedSimpArgs false

theorem below_of_Sc {w w' : World} {o : Obj} {sv : Value} {i : Nat} (h : Sc (w.alloc o) w' w.heap.size sv i) : Below w.heap.size w w' :=
  ((Below.refl _ w).alloc (Nat.le_refl _) o).trans h.2.1

/-- number.Check. -/
theorem Check_any (c : Nat) (A : Option Addr) (l : List UInt8) (at' : Int) (w : World) (hr : RB w w.heap.size A l) (hn : l.length ≤ 9223372036854775805) :
    Calls Tryz.prog 58 #[.slice A l.length c, .int .i64 at'] w fun e w' => e = .returned (.tuple #[.int .i64 (check l at').1, .int .i64 (check l at').2]) ∧ Below w.heap.size w w' := by
  by_cases h0 : at' < 0
  · have hck : check l at' = (0, 9) := by unfold check; rw [if_pos (.inl h0)]
    rw [hck]
    clear hck
    go_enter Tryz.func58, Tryz.ntmps58
    go_wp2
    go_ret2
    exact ⟨rfl, Below.refl _ _⟩
  · obtain ⟨i, rfl⟩ := Int.eq_ofNat_of_zero_le (show 0 ≤ at' from by omega)
    by_cases h1 : (l.length : Int) < i
    · have hck : check l i = (0, 9) := by unfold check; rw [if_pos (.inr h1)]
      rw [hck]
      clear hck
      have hd : decide (l.length < i) = true := by simp; omega
      go_enter Tryz.func58, Tryz.ntmps58
      go_wp2
      go_ret2
      exact ⟨rfl, Below.refl _ _⟩
    · have hck : check l i = checkN l i := by unfold check; rw [if_neg (by omega)]; rfl
      rw [hck]
      clear hck
      have hd : decide (l.length < i) = false := by simp; omega
      have HR := Lib.hid hr
      clear hr
      have HN : Hid (∀ W, SC W w.heap.size (.slice A l.length c) i → RB W w.heap.size A l → Calls Tryz.prog 97 #[.pointer (some ⟨w.heap.size, 0, none⟩)] W fun e w' => e = .returned (.int .i64 (numF l i).2) ∧
          Sc W w' w.heap.size (.slice A l.length c) (numF l i).1) := Lib.hid fun W hs hb => number_any w.heap.size c i A l W hs hb (by omega) hn
      have HK : Hid (checkN l i = if (numF l i).2 = 0 then ((numF l i).1, 0) else (0, (numF l i).2)) := Lib.hid rfl
      generalize numF l i = F at *
      generalize checkN l i = K at *
      obtain ⟨p, e⟩ := F
      by_cases he : e = 0
      · subst he
        obtain rfl : K = (p, 0) := HK.out
        go_enter Tryz.func58, Tryz.ntmps58
        go_wp2_with fail
        refine (HN.out _ ?_ ?_).mono ?_
        · exact heap_alloc_new w _
        · exact (HR.out).on (((Below.refl _ w).alloc (Nat.le_refl _) _))
        rintro e w' ⟨rfl, hw⟩
        have k1 := hw.1.c1
        have HW := Lib.hid hw
        clear hw
        go_wp2
        go_ret2
        exact ⟨rfl, below_of_Sc HW.out⟩
      · have hq : (e != 0) = true := by simpa using he
        have hq2 : (e == 0) = false := by simpa using he
        obtain rfl : K = (0, e) := by rw [HK.out, if_neg he]
        clear he
        go_enter Tryz.func58, Tryz.ntmps58
        go_wp2_with fail
        refine (HN.out _ ?_ ?_).mono ?_
        · exact heap_alloc_new w _
        · exact (HR.out).on (((Below.refl _ w).alloc (Nat.le_refl _) _))
        rintro e w' ⟨rfl, hw⟩
        have HW := Lib.hid hw
        clear hw
        go_wp2
        go_ret2
        exact ⟨rfl, below_of_Sc HW.out⟩
end Go.Proofs.YthndgekjccclnaaGreatDoor
