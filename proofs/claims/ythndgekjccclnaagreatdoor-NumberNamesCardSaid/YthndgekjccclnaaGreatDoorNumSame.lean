/-
  Layer 9 (number), the walks: number.Same, at every two strings.
-/
import Derived.Test.YthndgekjccclnaaGreatDoorNumOf
import Derived.WalkKit
import Derived.WalkSpells
import Derived.WalkLawsBesides
import Derived.BigQuiet
import Derived.Deep.QuietTactic
import Derived.Lib.Hide
import Derived.Laws.StructEq
namespace Go.Proofs.YthndgekjccclnaaGreatDoor
open Go.RowKit Num
set_option linter.unusedVariables false
set_option linter.unusedSimpArgs false

theorem eq_value (a1 a2 : Bool) (d1 d2 : List UInt8) (p1 p2 : Int) (w : World) :
    (binOp .eql 127 (.agg #[.bool a1, .string (bs d1), .int .i64 p1]) (.agg #[.bool a2, .string (bs d2), .int .i64 p2])).run Tryz.prog w = .ok (.bool (decide ((⟨a1, d1, p1⟩ : V) = ⟨a2, d2, p2⟩))) w := by
  have hS : Tryz.prog.underlying 127 = some (.struct (Tryz.prog.fieldsOf 127)) := by kernel_rfl
  have hp : Tryz.prog.stoodInHeld 127 = false := by kernel_rfl
  have u3 := Tryz.underlying3
  have u4 := Tryz.underlying4
  have u9 := Tryz.underlying9
  rw [run_eql_struct, show (10000 : Nat) = 9999 + 1 from rfl, run_equalIn_agg w 9999 127 _ _ hS hp]
  simp only [Program.fieldsOf, Tryz.underlying127]
  go_simp
  have e : ((bs d1).toList == (bs d2).toList) = decide (d1 = d2) := by
    rw [Lib.toList_data, Lib.toList_data, bs_list, bs_list]
    by_cases h : d1 = d2 <;> simp [h]
  by_cases h1 : a1 = a2 <;> by_cases h2 : d1 = d2 <;> by_cases h3 : p1 = p2 <;> simp [h1, h2, h3, e]
  all_goals (rw [Lib.toList_data, Lib.toList_data, bs_list, bs_list]; exact h2)

set_option maxHeartbeats 400000 in
theorem Same_nn (a b : ByteArray) (w : World) (HM : Hid (ML w))
    (H1 : Hid (∀ W, ML W → Calls Tryz.prog 95 #[.string a] W fun e w' => e = .returned (.tuple #[vOf none, .bool false]) ∧ Below W.heap.size W w'))
    (H2 : Hid (∀ W, ML W → Calls Tryz.prog 95 #[.string b] W fun e w' => e = .returned (.tuple #[vOf none, .bool false]) ∧ Below W.heap.size W w')) :
    Calls Tryz.prog 55 #[.string a, .string b] w fun e w' => e = .returned (.bool false) ∧ Below w.heap.size w w' := by
  simp only [vOf] at H1 H2
  go_enter Tryz.func55, Tryz.ntmps55
  go_wp2_with fail
  refine (H1.out _ HM.out).mono ?_
  rintro e w1 ⟨rfl, hb⟩
  have HB := Lib.hid hb
  have HM1 := Lib.hid (HM.out.on hb)
  clear hb
  go_wp2_with fail
  refine (H2.out _ (ML.on HM1.out ((Below.refl _ _).alloc (Nat.le_refl _) _))).mono ?_
  rintro e w2 ⟨rfl, hb⟩
  have hz : w1.heap.size < w2.heap.size := by have := hb.size; simp at this; omega
  have HB2 := Lib.hid ((HB.out.alloc HB.out.size _).trans (hb.mono (by simp; have := HB.out.size; omega)))
  clear hb
  go_wp2
  go_ret
  exact ⟨rfl, HB2.out.alloc HB2.out.size _⟩

set_option maxHeartbeats 400000 in
theorem Same_ns (a b : ByteArray) (y : V) (w : World) (HM : Hid (ML w))
    (H1 : Hid (∀ W, ML W → Calls Tryz.prog 95 #[.string a] W fun e w' => e = .returned (.tuple #[vOf none, .bool false]) ∧ Below W.heap.size W w'))
    (H2 : Hid (∀ W, ML W → Calls Tryz.prog 95 #[.string b] W fun e w' => e = .returned (.tuple #[vOf (some y), .bool true]) ∧ Below W.heap.size W w')) :
    Calls Tryz.prog 55 #[.string a, .string b] w fun e w' => e = .returned (.bool false) ∧ Below w.heap.size w w' := by
  simp only [vOf] at H1 H2
  obtain ⟨yb, yd, yp⟩ := y
  go_enter Tryz.func55, Tryz.ntmps55
  go_wp2_with fail
  refine (H1.out _ HM.out).mono ?_
  rintro e w1 ⟨rfl, hb⟩
  have HB := Lib.hid hb
  have HM1 := Lib.hid (HM.out.on hb)
  clear hb
  go_wp2_with fail
  refine (H2.out _ (ML.on HM1.out ((Below.refl _ _).alloc (Nat.le_refl _) _))).mono ?_
  rintro e w2 ⟨rfl, hb⟩
  have hz : w1.heap.size < w2.heap.size := by have := hb.size; simp at this; omega
  have HB2 := Lib.hid ((HB.out.alloc HB.out.size _).trans (hb.mono (by simp; have := HB.out.size; omega)))
  clear hb
  go_wp2
  go_ret
  exact ⟨rfl, HB2.out.alloc HB2.out.size _⟩

set_option maxHeartbeats 400000 in
theorem Same_sn (a b : ByteArray) (x : V) (w : World) (HM : Hid (ML w))
    (H1 : Hid (∀ W, ML W → Calls Tryz.prog 95 #[.string a] W fun e w' => e = .returned (.tuple #[vOf (some x), .bool true]) ∧ Below W.heap.size W w'))
    (H2 : Hid (∀ W, ML W → Calls Tryz.prog 95 #[.string b] W fun e w' => e = .returned (.tuple #[vOf none, .bool false]) ∧ Below W.heap.size W w')) :
    Calls Tryz.prog 55 #[.string a, .string b] w fun e w' => e = .returned (.bool false) ∧ Below w.heap.size w w' := by
  simp only [vOf] at H1 H2
  obtain ⟨xb, xd, xp⟩ := x
  go_enter Tryz.func55, Tryz.ntmps55
  go_wp2_with fail
  refine (H1.out _ HM.out).mono ?_
  rintro e w1 ⟨rfl, hb⟩
  have HB := Lib.hid hb
  have HM1 := Lib.hid (HM.out.on hb)
  clear hb
  go_wp2_with fail
  refine (H2.out _ (ML.on HM1.out ((Below.refl _ _).alloc (Nat.le_refl _) _))).mono ?_
  rintro e w2 ⟨rfl, hb⟩
  have hz : w1.heap.size < w2.heap.size := by have := hb.size; simp at this; omega
  have HB2 := Lib.hid ((HB.out.alloc HB.out.size _).trans (hb.mono (by simp; have := HB.out.size; omega)))
  clear hb
  go_wp2
  go_ret
  exact ⟨rfl, HB2.out.alloc HB2.out.size _⟩

set_option maxHeartbeats 400000 in
theorem Same_ss (a b : ByteArray) (x : V) (y : V) (w : World) (HM : Hid (ML w))
    (H1 : Hid (∀ W, ML W → Calls Tryz.prog 95 #[.string a] W fun e w' => e = .returned (.tuple #[vOf (some x), .bool true]) ∧ Below W.heap.size W w'))
    (H2 : Hid (∀ W, ML W → Calls Tryz.prog 95 #[.string b] W fun e w' => e = .returned (.tuple #[vOf (some y), .bool true]) ∧ Below W.heap.size W w')) :
    Calls Tryz.prog 55 #[.string a, .string b] w fun e w' => e = .returned (.bool (decide (x = y))) ∧ Below w.heap.size w w' := by
  simp only [vOf] at H1 H2
  obtain ⟨xb, xd, xp⟩ := x
  obtain ⟨yb, yd, yp⟩ := y
  have heq := eq_value xb yb xd yd xp yp
  generalize decide ((⟨xb, xd, xp⟩ : V) = ⟨yb, yd, yp⟩) = r at *
  have HE := Lib.hid heq
  clear heq
  go_enter Tryz.func55, Tryz.ntmps55
  go_wp2_with fail
  refine (H1.out _ HM.out).mono ?_
  rintro e w1 ⟨rfl, hb⟩
  have HB := Lib.hid hb
  have HM1 := Lib.hid (HM.out.on hb)
  clear hb
  go_wp2_with fail
  refine (H2.out _ (ML.on HM1.out ((Below.refl _ _).alloc (Nat.le_refl _) _))).mono ?_
  rintro e w2 ⟨rfl, hb⟩
  have k0 : w2.cell? ⟨w1.heap.size, 0, none⟩ = some (.bool xb) := (hb.cell (p := ⟨w1.heap.size, 0, none⟩) (by simp)).trans (by rw [cell_of_row _ _ 0 _ _ _ (heap_alloc_new w1 _)]; rfl)
  have k1 : w2.cell? ⟨w1.heap.size, 1, none⟩ = some (.string (bs xd)) := (hb.cell (p := ⟨w1.heap.size, 1, none⟩) (by simp)).trans (by rw [cell_of_row _ _ 1 _ _ _ (heap_alloc_new w1 _)]; rfl)
  have k2 : w2.cell? ⟨w1.heap.size, 2, none⟩ = some (.int .i64 xp) := (hb.cell (p := ⟨w1.heap.size, 2, none⟩) (by simp)).trans (by rw [cell_of_row _ _ 2 _ _ _ (heap_alloc_new w1 _)]; rfl)
  have heq := HE.out
  have hz : w1.heap.size < w2.heap.size := by have := hb.size; simp at this; omega
  have HB2 := Lib.hid ((HB.out.alloc HB.out.size _).trans (hb.mono (by simp; have := HB.out.size; omega)))
  clear hb
  go_wp2
  go_ret
  exact ⟨rfl, HB2.out.alloc HB2.out.size _⟩

/-- number.Same. -/
theorem Same_any (a b : ByteArray) (la lb : List UInt8) (ha : a.data.toList = la) (hb : b.data.toList = lb) (w : World) (hM : ML w) (hla : la.length < 4294967281) (hlb : lb.length < 4294967281) :
    Calls Tryz.prog 55 #[.string a, .string b] w fun e w' => e = .returned (.bool (same la lb)) ∧ Below w.heap.size w w' := by
  have H1 := Lib.hid (fun W (hW : ML W) => of_any a la ha W hW hla)
  have H2 := Lib.hid (fun W (hW : ML W) => of_any b lb hb W hW hlb)
  unfold same
  generalize ofS la = x at *
  generalize ofS lb = y at *
  cases x <;> cases y
  · exact Same_nn a b w (Lib.hid hM) H1 H2
  · exact Same_ns a b _ w (Lib.hid hM) H1 H2
  · exact Same_sn a b _ w (Lib.hid hM) H1 H2
  · exact Same_ss a b _ _ w (Lib.hid hM) H1 H2
end Go.Proofs.YthndgekjccclnaaGreatDoor
