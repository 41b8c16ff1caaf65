/-
  Joined texts: ParNumber.
-/
import Derived.Test.YtfploakafbnigaaGreatDoorPkParC
import Derived.Test.YtfploakafbnigaaGreatDoorPkNumC
import Derived.Test.YtfploakafbnigaaGreatDoorPkNumA
namespace Go.Proofs.YtfploakafbnigaaGreatDoor
open Go.RowKit Val Num
set_option linter.unusedVariables false
set_option linter.unusedSimpArgs false
set_option maxRecDepth 100000 in
set_option maxHeartbeats 1000000 in
theorem refDigits_any (n : Nat) (w : World) (hn : n ≤ 9223372036854775807) :
    Calls Tryz.prog 140 #[.int .i64 (-(n : Int))] w fun e w' => e = .returned (.string (bs (textS n))) ∧ Below w.heap.size w w' := by
  induction n using Nat.strongRecOn generalizing w with
  | ind n ih =>
  have q1 : (-(n : Int)).tmod 10 = -((n : Int) % 10) := by rw [Int.neg_tmod, Int.tmod_eq_emod_of_nonneg (by omega)]
  have q2 : (-(n : Int)).tdiv 10 = -((n / 10 : Nat) : Int) := by rw [Int.neg_tdiv, Int.tdiv_eq_ediv_of_nonneg (by omega)]; omega
  have q3 : IntKind.i64.wrap (48 - -((n : Int) % 10)) = 48 + (n : Int) % 10 := by rw [show (48 : Int) - -((n : Int) % 10) = 48 + (n : Int) % 10 by omega]; exact wrap_small _ (by omega) (by omega)
  have q4 : IntKind.u8.wrap (48 + (n : Int) % 10) = 48 + (n : Int) % 10 := by show (48 + (n : Int) % 10) % 256 = _; omega
  have q5 : IntKind.i64.wrap (-((n / 10 : Nat) : Int)) = -((n / 10 : Nat) : Int) := by rw [IntKind.wrap_i64]; omega
  have hcv := conv_one (48 + n % 10) (48 + (n : Int) % 10) (by omega) (by omega)
  rw [← asc_eq] at hcv
  by_cases h : n < 10
  · have h0 : decide (-10 < -(n : Int)) = true := by simp; omega
    rw [textS_small h]
    have hq : n % 10 = n := Nat.mod_eq_of_lt h
    rw [hq] at hcv
    clear ih
    go_enter Tryz.func140, Tryz.ntmps140
    go_wp2
    go_ret
    exact ⟨rfl, (Below.refl _ _).alloc (Nat.le_refl _) _⟩
  · have h0 : decide (-10 < -(n : Int)) = false := by simp; omega
    have IH := Lib.hid (fun W => ih (n / 10) (by omega) W (by omega))
    rw [textS_great h]
    have hcat : (bs (textS (n / 10))).size + (bs [asc (n % 10)]).size ≤ 9223372036854775807 := by
      rw [bs_size, bs_size]
      have := textS_len (n / 10) 18 (by omega)
      simp only [List.length_cons, List.length_nil]; omega
    have HA : Hid (bs (textS (n / 10)) ++ bs [asc (n % 10)] = bs (textS (n / 10) ++ [asc (n % 10)])) := Lib.hid (ByteArray.mk_append_mk _ _)
    clear ih
    go_enter Tryz.func140, Tryz.ntmps140
    go_wp2_with fail
    refine (IH.out _).mono ?_
    rintro e w' ⟨rfl, hb⟩
    have HB := Lib.hid (((Below.refl w.heap.size w).alloc (Nat.le_refl _) _).trans (hb.mono (by simp)))
    clear hb
    go_wp2
    go_ret
    exact ⟨by rw [HA.out]; rfl, HB.out⟩
/-- the text of a number -/
def numS (v : Int) : List UInt8 := if v < 0 then 45 :: textS v.natAbs else textS v.natAbs
set_option maxRecDepth 100000 in
set_option maxHeartbeats 1000000 in
theorem refNumber_any (v : Int) (w : World) (hv : -9223372036854775807 ≤ v ∧ v ≤ 9223372036854775807) :
    Calls Tryz.prog 76 #[.int .i64 v] w (Made (.agg #[.int .i64 2, .bool false, .string (bs (numS v)), .slice none 0 0, .slice none 0 0]) w) := by
  have HB := Lib.hid ((Below.refl w.heap.size w).alloc (Nat.le_refl _) (.cells #[.int .i64 0, .bool false, .string ⟨#[]⟩, .slice none 0 0, .slice none 0 0] 25))
  have HY := Lib.hid (BX.new w (.int .i64 0) (.bool false) (.string ⟨#[]⟩) (.slice none 0 0) (.slice none 0 0))
  have HS : Hid ((w.alloc (.cells #[.int .i64 0, .bool false, .string ⟨#[]⟩, .slice none 0 0, .slice none 0 0] 25)).heap.size = w.heap.size + 1) := Lib.hid (by simp)
  by_cases h : v < 0
  · have h0 : decide (v < 0) = true := by simp; omega
    have HD := Lib.hid (fun W => refDigits_any v.natAbs W (by omega))
    rw [show -(v.natAbs : Int) = v by omega] at HD
    have hcat : (ByteArray.mk #[45]).size + (bs (textS v.natAbs)).size ≤ 9223372036854775807 := by
      rw [bs_size]
      have := textS_len v.natAbs 18 (by omega)
      have : (ByteArray.mk #[45]).size = 1 := rfl
      omega
    have HA : Hid (ByteArray.mk #[45] ++ bs (textS v.natAbs) = bs (numS v)) := Lib.hid (by unfold numS; rw [if_pos h]; exact ByteArray.mk_append_mk _ _)
    go_enter Tryz.func76, Tryz.ntmps76
    go_wp2_with fail
    refine (HD.out _).mono ?_
    rintro e w1 ⟨rfl, hb⟩
    have HB1 := Lib.hid (HB.out.trans (hb.mono HB.out.size))
    have hy := HY.out.on hb
    have y0 := hy.c0
    have y1 := hy.c1
    have y2 := hy.c2
    have y3 := hy.c3
    have y4 := hy.c4
    have f0 := hy.fr 0
    have f1 := hy.fr 1
    have f2 := hy.fr 2
    have f3 := hy.fr 3
    have f4 := hy.fr 4
    have hres := hy.put (.int .i64 2) (.bool false) (.string (ByteArray.mk #[45] ++ bs (textS v.natAbs))) (.slice none 0 0) (.slice none 0 0)
    have r0 := hres.c0
    have r1 := hres.c1
    have r2 := hres.c2
    have r3 := hres.c3
    have r4 := hres.c4
    clear hb hy hres
    go_wp2
    exact bodyPost_ret (v := .agg #[.int .i64 2, .bool false, .string (ByteArray.mk #[45] ++ bs (textS v.natAbs)), .slice none 0 0, .slice none 0 0]) (by simp [results, Tryz.results76, go_sem, r0, r1, r2, r3, r4]) rfl ⟨by rw [HA.out], five_below HB1.out w.heap.size _ _ _ _ _ (Nat.le_refl _)⟩
  · have h0 : decide (v < 0) = false := by simp; omega
    have HD := Lib.hid (fun W => refDigits_any v.natAbs W (by omega))
    rw [show (v.natAbs : Int) = v by omega] at HD
    have hn : IntKind.i64.wrap (-v) = -v := by rw [IntKind.wrap_i64]; omega
    have HA : Hid (bs (textS v.natAbs) = bs (numS v)) := Lib.hid (by unfold numS; rw [if_neg h])
    go_enter Tryz.func76, Tryz.ntmps76
    go_wp2_with fail
    refine (HD.out _).mono ?_
    rintro e w1 ⟨rfl, hb⟩
    have HB1 := Lib.hid (HB.out.trans (hb.mono HB.out.size))
    have hy := HY.out.on hb
    have y0 := hy.c0
    have y1 := hy.c1
    have y2 := hy.c2
    have y3 := hy.c3
    have y4 := hy.c4
    have f0 := hy.fr 0
    have f1 := hy.fr 1
    have f2 := hy.fr 2
    have f3 := hy.fr 3
    have f4 := hy.fr 4
    have hres := hy.put (.int .i64 2) (.bool false) (.string (bs (textS v.natAbs))) (.slice none 0 0) (.slice none 0 0)
    have r0 := hres.c0
    have r1 := hres.c1
    have r2 := hres.c2
    have r3 := hres.c3
    have r4 := hres.c4
    clear hb hy hres
    go_wp2
    exact bodyPost_ret (v := .agg #[.int .i64 2, .bool false, .string (bs (textS v.natAbs)), .slice none 0 0, .slice none 0 0]) (by simp [results, Tryz.results76, go_sem, r0, r1, r2, r3, r4]) rfl ⟨by rw [HA.out], five_below HB1.out w.heap.size _ _ _ _ _ (Nat.le_refl _)⟩
end Go.Proofs.YtfploakafbnigaaGreatDoor
