/-
  Joined texts: MkTrees.
-/
import Derived.Test.YtfploakafbnigaaGreatDoorCPkMkB
import Derived.Test.YtfploakafbnigaaGreatDoorCPkNb
import Derived.Test.YtfploakafbnigaaGreatDoorCPkValB
import Derived.Test.YtfploakafbnigaaGreatDoorShelf
import Derived.Shelf.Unicode.PredsPay
import Derived.Lib.AppendIntMem
namespace Go.Proofs.YtfploakafbnigaaGreatDoor
open Go.RowKit Val Num
set_option linter.unusedVariables false
set_option linter.unusedSimpArgs false
set_option maxRecDepth 100000 in
set_option maxHeartbeats 4000000 in
theorem vText_any (s : ByteArray) (w : World) : Calls Tryz.prog 72 #[.string s] w (Made (.agg #[.int .i64 3, .bool false, .string s, .slice none 0 0, .slice none 0 0]) w) := by
  go_enter Tryz.func72, Tryz.ntmps72
  have HY : BX (w.alloc (.cells #[.int .i64 0, .bool false, .string ⟨#[]⟩, .slice none 0 0, .slice none 0 0] 25)) w.heap.size (.int .i64 0) (.bool false) (.string ⟨#[]⟩) (.slice none 0 0) (.slice none 0 0) := BX.new _ _ _ _ _ _
  have y0 := HY.c0
  have f0 := HY.fr 0
  have y1 := HY.c1
  have f1 := HY.fr 1
  have y2 := HY.c2
  have f2 := HY.fr 2
  have y3 := HY.c3
  have f3 := HY.fr 3
  have y4 := HY.c4
  have f4 := HY.fr 4
  have hres := HY.put (.int .i64 3) (.bool false) (.string s) (.slice none 0 0) (.slice none 0 0)
  have r0 := hres.c0
  have r1 := hres.c1
  have r2 := hres.c2
  have r3 := hres.c3
  have r4 := hres.c4
  clear hres
  go_wp2
  exact bodyPost_ret (v := .agg #[.int .i64 3, .bool false, .string s, .slice none 0 0, .slice none 0 0]) (by simp [results, Tryz.results72, go_sem, r0, r1, r2, r3, r4]) rfl ⟨rfl, made_end _⟩
/-- the library's table of powers -/
def PTab (w : World) : Prop := Lib.TabIs Tryz.prog w "internal/strconv.uint64pow10" .u64 Lib.pow10Tab
theorem PTab.on {w w' : World} (h : PTab w) (hb : Below w.heap.size w w') : PTab w' := TabIs_below (g := 0) (by kernel_rfl) h hb
def I64 (x : Int) : Prop := -9223372036854775808 ≤ x ∧ x ≤ 9223372036854775807
theorem decDigits_textS (n : Nat) : Lib.decDigits n = textS n := by
  induction n using Nat.strongRecOn with
  | ind n ih =>
    by_cases h : n < 10
    · rw [textS_small h, Lib.decDigits, dif_pos h]; rfl
    · rw [textS_great h, Lib.decDigits, dif_neg h, ih (n / 10) (by omega)]; rfl
theorem itoa_numS (v : Int) : Lib.itoa v = numS v := by
  unfold Lib.itoa numS
  split
  · rw [decDigits_textS]
  · rw [decDigits_textS, show v.toNat = v.natAbs by omega]
set_option maxRecDepth 100000 in
set_option maxHeartbeats 4000000 in
theorem vNumber_any (v : Int) (w : World) (hv : I64 v) (hP : PTab w) : Calls Tryz.prog 70 #[.int .i64 v] w (Made (.agg #[.int .i64 2, .bool false, .string (bs (numS v)), .slice none 0 0, .slice none 0 0]) w) := by
  have HY := Lib.hid (BX.new w (.int .i64 0) (.bool false) (.string ⟨#[]⟩) (.slice none 0 0) (.slice none 0 0))
  have HB := Lib.hid (made_end (w := w) (.cells #[.int .i64 0, .bool false, .string ⟨#[]⟩, .slice none 0 0, .slice none 0 0] 25))
  have HP := Lib.hid (hP.on HB.out)
  have HV := Lib.hid hv
  clear hv hP
  go_enter Tryz.func70, Tryz.ntmps70
  go_wp2_with fail
  generalize (w.alloc (.cells #[.int .i64 0, .bool false, .string ⟨#[]⟩, .slice none 0 0, .slice none 0 0] 25)) = w1 at *
  refine (Tryz.strconv_Itoa v HV.out.1 HV.out.2 w1 HP.out).mono ?_
  rintro e w2 ⟨rfl, kk, os, hw⟩
  have hb : Below w1.heap.size w1 w2 := by rw [hw]; exact Lib.below_grow w1.heap.size w1 (Nat.le_refl _) kk os
  clear hw
  have hs : (ByteArray.mk (Lib.itoa v).toArray) = bs (numS v) := by rw [itoa_numS]; rfl
  rw [hs]
  have HB2 := Lib.hid (HB.out.trans (hb.mono HB.out.size))
  have hy := HY.out.on hb
  have y0 := hy.c0
  have y1 := hy.c1
  have y2 := hy.c2
  have y3 := hy.c3
  have y4 := hy.c4
  have f0 := hy.fr 0
  have f1 := hy.fr 1
  have f2 := hy.fr 2
  have f3 := hy.fr 3
  have f4 := hy.fr 4
  have hres := hy.put (.int .i64 2) (.bool false) (.string (bs (numS v))) (.slice none 0 0) (.slice none 0 0)
  have r0 := hres.c0
  have r1 := hres.c1
  have r2 := hres.c2
  have r3 := hres.c3
  have r4 := hres.c4
  clear hres hy hs hb
  go_wp2
  exact bodyPost_ret (v := .agg #[.int .i64 2, .bool false, .string (bs (numS v)), .slice none 0 0, .slice none 0 0]) (by simp [results, Tryz.results70, go_sem, r0, r1, r2, r3, r4]) rfl ⟨rfl, five_below HB2.out w.heap.size _ _ _ _ _ (Nat.le_refl _)⟩
/-- whatever is made whole, of no blocks, lies in every zone -/
theorem Made.leaf {k : Int} {i : Bool} {s : ByteArray} {w w' : World} {e : Ending} (h : Made (.agg #[.int .i64 k, .bool i, .string s, .slice none 0 0, .slice none 0 0]) w e w') (hk : -9223372036854775808 ≤ k ∧ k ≤ 9223372036854775807) : Copied (.ofL k i s [] []) w e w' :=
  ⟨_, h.1, VAL.shut hk (.inl rfl) (.inl rfl), h.2⟩
def nbT (v : Int) : VT := nmT (bs (numS v))
end Go.Proofs.YtfploakafbnigaaGreatDoor
