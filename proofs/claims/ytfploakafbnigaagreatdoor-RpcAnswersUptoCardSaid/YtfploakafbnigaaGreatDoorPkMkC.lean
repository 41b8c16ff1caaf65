/-
  Joined texts: MkTrees.
-/
import Derived.Test.YtfploakafbnigaaGreatDoorPkMkB
import Derived.Test.YtfploakafbnigaaGreatDoorPkNb
import Derived.Test.YtfploakafbnigaaGreatDoorPkValB
import Derived.Test.YtfploakafbnigaaGreatDoorShelf
import Derived.Shelf.Unicode.PredsPay
import Derived.Lib.AppendIntMem
namespace Go.Proofs.YtfploakafbnigaaGreatDoor
open Go.RowKit Val Num
set_option linter.unusedVariables false
set_option linter.unusedSimpArgs false
set_option maxRecDepth 100000 in
set_option maxHeartbeats 1000000 in
theorem refDigits_all (n : Nat) (w : World) (hn : n ≤ 9223372036854775808) :
    Calls Tryz.prog 140 #[.int .i64 (-(n : Int))] w fun e w' => e = .returned (.string (bs (textS n))) ∧ Below w.heap.size w w' := by
  induction n using Nat.strongRecOn generalizing w with
  | ind n ih =>
  have q1 : (-(n : Int)).tmod 10 = -((n : Int) % 10) := by rw [Int.neg_tmod, Int.tmod_eq_emod_of_nonneg (by omega)]
  have q2 : (-(n : Int)).tdiv 10 = -((n / 10 : Nat) : Int) := by rw [Int.neg_tdiv, Int.tdiv_eq_ediv_of_nonneg (by omega)]; omega
  have q3 : IntKind.i64.wrap (48 - -((n : Int) % 10)) = 48 + (n : Int) % 10 := by rw [show (48 : Int) - -((n : Int) % 10) = 48 + (n : Int) % 10 by omega]; exact wrap_small _ (by omega) (by omega)
  have q4 : IntKind.u8.wrap (48 + (n : Int) % 10) = 48 + (n : Int) % 10 := by show (48 + (n : Int) % 10) % 256 = _; omega
  have q5 : IntKind.i64.wrap (-((n / 10 : Nat) : Int)) = -((n / 10 : Nat) : Int) := by rw [IntKind.wrap_i64]; omega
  have hcv := conv_one (48 + n % 10) (48 + (n : Int) % 10) (by omega) (by omega)
  rw [← asc_eq] at hcv
  by_cases h : n < 10
  · have h0 : decide (-10 < -(n : Int)) = true := by simp; omega
    rw [textS_small h]
    have hq : n % 10 = n := Nat.mod_eq_of_lt h
    rw [hq] at hcv
    clear ih
    go_enter Tryz.func140, Tryz.ntmps140
    go_wp2
    go_ret
    exact ⟨rfl, (Below.refl _ _).alloc (Nat.le_refl _) _⟩
  · have h0 : decide (-10 < -(n : Int)) = false := by simp; omega
    have IH := Lib.hid (fun W => ih (n / 10) (by omega) W (by omega))
    rw [textS_great h]
    have hcat : (bs (textS (n / 10))).size + (bs [asc (n % 10)]).size ≤ 9223372036854775807 := by
      rw [bs_size, bs_size]
      have := textS_len (n / 10) 18 (by omega)
      simp only [List.length_cons, List.length_nil]; omega
    have HA : Hid (bs (textS (n / 10)) ++ bs [asc (n % 10)] = bs (textS (n / 10) ++ [asc (n % 10)])) := Lib.hid (ByteArray.mk_append_mk _ _)
    clear ih
    go_enter Tryz.func140, Tryz.ntmps140
    go_wp2_with fail
    refine (IH.out _).mono ?_
    rintro e w' ⟨rfl, hb⟩
    have HB := Lib.hid (((Below.refl w.heap.size w).alloc (Nat.le_refl _) _).trans (hb.mono (by simp)))
    clear hb
    go_wp2
    go_ret
    exact ⟨by rw [HA.out]; rfl, HB.out⟩
set_option maxRecDepth 100000 in
set_option maxHeartbeats 1000000 in
theorem refNumber_all (v : Int) (w : World) (hv : -9223372036854775808 ≤ v ∧ v ≤ 9223372036854775807) :
    Calls Tryz.prog 76 #[.int .i64 v] w (Made (.agg #[.int .i64 2, .bool false, .string (bs (numS v)), .slice none 0 0, .slice none 0 0]) w) := by
  have HB := Lib.hid ((Below.refl w.heap.size w).alloc (Nat.le_refl _) (.cells #[.int .i64 0, .bool false, .string ⟨#[]⟩, .slice none 0 0, .slice none 0 0] 25))
  have HY := Lib.hid (BX.new w (.int .i64 0) (.bool false) (.string ⟨#[]⟩) (.slice none 0 0) (.slice none 0 0))
  have HS : Hid ((w.alloc (.cells #[.int .i64 0, .bool false, .string ⟨#[]⟩, .slice none 0 0, .slice none 0 0] 25)).heap.size = w.heap.size + 1) := Lib.hid (by simp)
  by_cases h : v < 0
  · have h0 : decide (v < 0) = true := by simp; omega
    have HD := Lib.hid (fun W => refDigits_all v.natAbs W (by omega))
    rw [show -(v.natAbs : Int) = v by omega] at HD
    have hcat : (ByteArray.mk #[45]).size + (bs (textS v.natAbs)).size ≤ 9223372036854775807 := by
      rw [bs_size]
      have := textS_len v.natAbs 18 (by omega)
      have : (ByteArray.mk #[45]).size = 1 := rfl
      omega
    have HA : Hid (ByteArray.mk #[45] ++ bs (textS v.natAbs) = bs (numS v)) := Lib.hid (by unfold numS; rw [if_pos h]; exact ByteArray.mk_append_mk _ _)
    go_enter Tryz.func76, Tryz.ntmps76
    go_wp2_with fail
    refine (HD.out _).mono ?_
    rintro e w1 ⟨rfl, hb⟩
    have HB1 := Lib.hid (HB.out.trans (hb.mono HB.out.size))
    have hy := HY.out.on hb
    have y0 := hy.c0
    have y1 := hy.c1
    have y2 := hy.c2
    have y3 := hy.c3
    have y4 := hy.c4
    have f0 := hy.fr 0
    have f1 := hy.fr 1
    have f2 := hy.fr 2
    have f3 := hy.fr 3
    have f4 := hy.fr 4
    have hres := hy.put (.int .i64 2) (.bool false) (.string (ByteArray.mk #[45] ++ bs (textS v.natAbs))) (.slice none 0 0) (.slice none 0 0)
    have r0 := hres.c0
    have r1 := hres.c1
    have r2 := hres.c2
    have r3 := hres.c3
    have r4 := hres.c4
    clear hb hy hres
    go_wp2
    exact bodyPost_ret (v := .agg #[.int .i64 2, .bool false, .string (ByteArray.mk #[45] ++ bs (textS v.natAbs)), .slice none 0 0, .slice none 0 0]) (by simp [results, Tryz.results76, go_sem, r0, r1, r2, r3, r4]) rfl ⟨by rw [HA.out], five_below HB1.out w.heap.size _ _ _ _ _ (Nat.le_refl _)⟩
  · have h0 : decide (v < 0) = false := by simp; omega
    have HD := Lib.hid (fun W => refDigits_all v.natAbs W (by omega))
    rw [show (v.natAbs : Int) = v by omega] at HD
    have hn : IntKind.i64.wrap (-v) = -v := by rw [IntKind.wrap_i64]; omega
    have HA : Hid (bs (textS v.natAbs) = bs (numS v)) := Lib.hid (by unfold numS; rw [if_neg h])
    go_enter Tryz.func76, Tryz.ntmps76
    go_wp2_with fail
    refine (HD.out _).mono ?_
    rintro e w1 ⟨rfl, hb⟩
    have HB1 := Lib.hid (HB.out.trans (hb.mono HB.out.size))
    have hy := HY.out.on hb
    have y0 := hy.c0
    have y1 := hy.c1
    have y2 := hy.c2
    have y3 := hy.c3
    have y4 := hy.c4
    have f0 := hy.fr 0
    have f1 := hy.fr 1
    have f2 := hy.fr 2
    have f3 := hy.fr 3
    have f4 := hy.fr 4
    have hres := hy.put (.int .i64 2) (.bool false) (.string (bs (textS v.natAbs))) (.slice none 0 0) (.slice none 0 0)
    have r0 := hres.c0
    have r1 := hres.c1
    have r2 := hres.c2
    have r3 := hres.c3
    have r4 := hres.c4
    clear hb hy hres
    go_wp2
    exact bodyPost_ret (v := .agg #[.int .i64 2, .bool false, .string (bs (textS v.natAbs)), .slice none 0 0, .slice none 0 0]) (by simp [results, Tryz.results76, go_sem, r0, r1, r2, r3, r4]) rfl ⟨by rw [HA.out], five_below HB1.out w.heap.size _ _ _ _ _ (Nat.le_refl _)⟩
set_option maxRecDepth 100000 in
set_option maxHeartbeats 4000000 in
theorem vText_any (s : ByteArray) (w : World) : Calls Tryz.prog 72 #[.string s] w (Made (.agg #[.int .i64 3, .bool false, .string s, .slice none 0 0, .slice none 0 0]) w) := by
  go_enter Tryz.func72, Tryz.ntmps72
  have HY : BX (w.alloc (.cells #[.int .i64 0, .bool false, .string ⟨#[]⟩, .slice none 0 0, .slice none 0 0] 25)) w.heap.size (.int .i64 0) (.bool false) (.string ⟨#[]⟩) (.slice none 0 0) (.slice none 0 0) := BX.new _ _ _ _ _ _
  have y0 := HY.c0
  have f0 := HY.fr 0
  have y1 := HY.c1
  have f1 := HY.fr 1
  have y2 := HY.c2
  have f2 := HY.fr 2
  have y3 := HY.c3
  have f3 := HY.fr 3
  have y4 := HY.c4
  have f4 := HY.fr 4
  have hres := HY.put (.int .i64 3) (.bool false) (.string s) (.slice none 0 0) (.slice none 0 0)
  have r0 := hres.c0
  have r1 := hres.c1
  have r2 := hres.c2
  have r3 := hres.c3
  have r4 := hres.c4
  clear hres
  go_wp2
  exact bodyPost_ret (v := .agg #[.int .i64 3, .bool false, .string s, .slice none 0 0, .slice none 0 0]) (by simp [results, Tryz.results72, go_sem, r0, r1, r2, r3, r4]) rfl ⟨rfl, made_end _⟩
set_option maxRecDepth 100000 in
set_option maxHeartbeats 4000000 in
theorem rStr_any (s : ByteArray) (w : World) : Calls Tryz.prog 75 #[.string s] w (Made (.agg #[.int .i64 3, .bool false, .string s, .slice none 0 0, .slice none 0 0]) w) := by
  go_enter Tryz.func75, Tryz.ntmps75
  have HY : BX (w.alloc (.cells #[.int .i64 0, .bool false, .string ⟨#[]⟩, .slice none 0 0, .slice none 0 0] 25)) w.heap.size (.int .i64 0) (.bool false) (.string ⟨#[]⟩) (.slice none 0 0) (.slice none 0 0) := BX.new _ _ _ _ _ _
  have y0 := HY.c0
  have f0 := HY.fr 0
  have y1 := HY.c1
  have f1 := HY.fr 1
  have y2 := HY.c2
  have f2 := HY.fr 2
  have y3 := HY.c3
  have f3 := HY.fr 3
  have y4 := HY.c4
  have f4 := HY.fr 4
  have hres := HY.put (.int .i64 3) (.bool false) (.string s) (.slice none 0 0) (.slice none 0 0)
  have r0 := hres.c0
  have r1 := hres.c1
  have r2 := hres.c2
  have r3 := hres.c3
  have r4 := hres.c4
  clear hres
  go_wp2
  exact bodyPost_ret (v := .agg #[.int .i64 3, .bool false, .string s, .slice none 0 0, .slice none 0 0]) (by simp [results, Tryz.results75, go_sem, r0, r1, r2, r3, r4]) rfl ⟨rfl, made_end _⟩
set_option maxRecDepth 100000 in
set_option maxHeartbeats 4000000 in
theorem vBool_any (b : Bool) (w : World) : Calls Tryz.prog 71 #[.bool b] w (Made (.agg #[.int .i64 1, .bool b, .string ⟨#[]⟩, .slice none 0 0, .slice none 0 0]) w) := by
  go_enter Tryz.func71, Tryz.ntmps71
  have HY : BX (w.alloc (.cells #[.int .i64 0, .bool false, .string ⟨#[]⟩, .slice none 0 0, .slice none 0 0] 25)) w.heap.size (.int .i64 0) (.bool false) (.string ⟨#[]⟩) (.slice none 0 0) (.slice none 0 0) := BX.new _ _ _ _ _ _
  have y0 := HY.c0
  have f0 := HY.fr 0
  have y1 := HY.c1
  have f1 := HY.fr 1
  have y2 := HY.c2
  have f2 := HY.fr 2
  have y3 := HY.c3
  have f3 := HY.fr 3
  have y4 := HY.c4
  have f4 := HY.fr 4
  have hres := HY.put (.int .i64 1) (.bool b) (.string ⟨#[]⟩) (.slice none 0 0) (.slice none 0 0)
  have r0 := hres.c0
  have r1 := hres.c1
  have r2 := hres.c2
  have r3 := hres.c3
  have r4 := hres.c4
  clear hres
  go_wp2
  exact bodyPost_ret (v := .agg #[.int .i64 1, .bool b, .string ⟨#[]⟩, .slice none 0 0, .slice none 0 0]) (by simp [results, Tryz.results71, go_sem, r0, r1, r2, r3, r4]) rfl ⟨rfl, made_end _⟩

/-- the library's table of powers -/
def PTab (w : World) : Prop := Lib.TabIs Tryz.prog w "internal/strconv.uint64pow10" .u64 Lib.pow10Tab
theorem PTab.on {w w' : World} (h : PTab w) (hb : Below w.heap.size w w') : PTab w' := TabIs_below (g := 0) (by kernel_rfl) h hb
def I64 (x : Int) : Prop := -9223372036854775808 ≤ x ∧ x ≤ 9223372036854775807
theorem decDigits_textS (n : Nat) : Lib.decDigits n = textS n := by
  induction n using Nat.strongRecOn with
  | ind n ih =>
    by_cases h : n < 10
    · rw [textS_small h, Lib.decDigits, dif_pos h]; rfl
    · rw [textS_great h, Lib.decDigits, dif_neg h, ih (n / 10) (by omega)]; rfl
theorem itoa_numS (v : Int) : Lib.itoa v = numS v := by
  unfold Lib.itoa numS
  split
  · rw [decDigits_textS]
  · rw [decDigits_textS, show v.toNat = v.natAbs by omega]
set_option maxRecDepth 100000 in
set_option maxHeartbeats 4000000 in
theorem vNumber_any (v : Int) (w : World) (hv : I64 v) (hP : PTab w) : Calls Tryz.prog 70 #[.int .i64 v] w (Made (.agg #[.int .i64 2, .bool false, .string (bs (numS v)), .slice none 0 0, .slice none 0 0]) w) := by
  have HY := Lib.hid (BX.new w (.int .i64 0) (.bool false) (.string ⟨#[]⟩) (.slice none 0 0) (.slice none 0 0))
  have HB := Lib.hid (made_end (w := w) (.cells #[.int .i64 0, .bool false, .string ⟨#[]⟩, .slice none 0 0, .slice none 0 0] 25))
  have HP := Lib.hid (hP.on HB.out)
  have HV := Lib.hid hv
  clear hv hP
  go_enter Tryz.func70, Tryz.ntmps70
  go_wp2_with fail
  generalize (w.alloc (.cells #[.int .i64 0, .bool false, .string ⟨#[]⟩, .slice none 0 0, .slice none 0 0] 25)) = w1 at *
  refine (Tryz.strconv_Itoa v HV.out.1 HV.out.2 w1 HP.out).mono ?_
  rintro e w2 ⟨rfl, kk, os, hw⟩
  have hb : Below w1.heap.size w1 w2 := by rw [hw]; exact Lib.below_grow w1.heap.size w1 (Nat.le_refl _) kk os
  clear hw
  have hs : (ByteArray.mk (Lib.itoa v).toArray) = bs (numS v) := by rw [itoa_numS]; rfl
  rw [hs]
  have HB2 := Lib.hid (HB.out.trans (hb.mono HB.out.size))
  have hy := HY.out.on hb
  have y0 := hy.c0
  have y1 := hy.c1
  have y2 := hy.c2
  have y3 := hy.c3
  have y4 := hy.c4
  have f0 := hy.fr 0
  have f1 := hy.fr 1
  have f2 := hy.fr 2
  have f3 := hy.fr 3
  have f4 := hy.fr 4
  have hres := hy.put (.int .i64 2) (.bool false) (.string (bs (numS v))) (.slice none 0 0) (.slice none 0 0)
  have r0 := hres.c0
  have r1 := hres.c1
  have r2 := hres.c2
  have r3 := hres.c3
  have r4 := hres.c4
  clear hres hy hs hb
  go_wp2
  exact bodyPost_ret (v := .agg #[.int .i64 2, .bool false, .string (bs (numS v)), .slice none 0 0, .slice none 0 0]) (by simp [results, Tryz.results70, go_sem, r0, r1, r2, r3, r4]) rfl ⟨rfl, five_below HB2.out w.heap.size _ _ _ _ _ (Nat.le_refl _)⟩
set_option maxRecDepth 100000 in
set_option maxHeartbeats 4000000 in
theorem rNum_any (v : Int) (w : World) (hv : I64 v) : Calls Tryz.prog 74 #[.int .i64 v] w (Made (.agg #[.int .i64 2, .bool false, .string (bs (numS v)), .slice none 0 0, .slice none 0 0]) w) := by
  have HY := Lib.hid (BX.new w (.int .i64 0) (.bool false) (.string ⟨#[]⟩) (.slice none 0 0) (.slice none 0 0))
  have HB := Lib.hid (made_end (w := w) (.cells #[.int .i64 0, .bool false, .string ⟨#[]⟩, .slice none 0 0, .slice none 0 0] 25))
  have HV := Lib.hid hv
  clear hv
  go_enter Tryz.func74, Tryz.ntmps74
  go_wp2_with fail
  generalize (w.alloc (.cells #[.int .i64 0, .bool false, .string ⟨#[]⟩, .slice none 0 0, .slice none 0 0] 25)) = w1 at *
  refine (refNumber_all v w1 HV.out).mono ?_
  rintro e w2 ⟨rfl, hb⟩
  have HB2 := Lib.hid (HB.out.trans (hb.mono HB.out.size))
  have hy := HY.out.on hb
  have y0 := hy.c0
  have y1 := hy.c1
  have y2 := hy.c2
  have y3 := hy.c3
  have y4 := hy.c4
  have f0 := hy.fr 0
  have f1 := hy.fr 1
  have f2 := hy.fr 2
  have f3 := hy.fr 3
  have f4 := hy.fr 4
  have hres := hy.put (.int .i64 2) (.bool false) (.string (bs (numS v))) (.slice none 0 0) (.slice none 0 0)
  have r0 := hres.c0
  have r1 := hres.c1
  have r2 := hres.c2
  have r3 := hres.c3
  have r4 := hres.c4
  clear hres hy hb
  go_wp2
  exact bodyPost_ret (v := .agg #[.int .i64 2, .bool false, .string (bs (numS v)), .slice none 0 0, .slice none 0 0]) (by simp [results, Tryz.results74, go_sem, r0, r1, r2, r3, r4]) rfl ⟨rfl, five_below HB2.out w.heap.size _ _ _ _ _ (Nat.le_refl _)⟩
/-- whatever is made whole, of no blocks, lies in every zone -/
theorem Made.leaf {k : Int} {i : Bool} {s : ByteArray} {w w' : World} {e : Ending} (h : Made (.agg #[.int .i64 k, .bool i, .string s, .slice none 0 0, .slice none 0 0]) w e w') (hk : -9223372036854775808 ≤ k ∧ k ≤ 9223372036854775807) : Copied (.ofL k i s [] []) w e w' :=
  ⟨_, h.1, VAL.shut hk (.inl rfl) (.inl rfl), h.2⟩
def nbT (v : Int) : VT := nmT (bs (numS v))
def boT (b : Bool) : VT := .ofL 1 b .empty [] []
theorem vText (s : ByteArray) (w : World) : Calls Tryz.prog 72 #[.string s] w (Copied (txT s) w) := (vText_any s w).mono fun _ _ h => h.leaf (by decide)
theorem rStr (s : ByteArray) (w : World) : Calls Tryz.prog 75 #[.string s] w (Copied (txT s) w) := (rStr_any s w).mono fun _ _ h => h.leaf (by decide)
theorem vBool (b : Bool) (w : World) : Calls Tryz.prog 71 #[.bool b] w (Copied (boT b) w) := (vBool_any b w).mono fun _ _ h => h.leaf (by decide)
theorem vNumber (v : Int) (w : World) (hv : I64 v) (hP : PTab w) : Calls Tryz.prog 70 #[.int .i64 v] w (Copied (nbT v) w) := (vNumber_any v w hv hP).mono fun _ _ h => h.leaf (by decide)
theorem rNum (v : Int) (w : World) (hv : I64 v) : Calls Tryz.prog 74 #[.int .i64 v] w (Copied (nbT v) w) := (rNum_any v w hv).mono fun _ _ h => h.leaf (by decide)
end Go.Proofs.YtfploakafbnigaaGreatDoor
