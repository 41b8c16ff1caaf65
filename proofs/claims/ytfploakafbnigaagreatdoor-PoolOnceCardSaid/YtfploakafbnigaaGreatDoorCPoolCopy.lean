/-
  Layer 28, the walks: value.Copy of a value without members.
-/
import Derived.Test.YtfploakafbnigaaGreatDoorCPoolMem
import Derived.Deep.LoopGhost
namespace Go.Proofs.YtfploakafbnigaaGreatDoor
open Go.RowKit Val Pl YtfploakafbnigaaGreatDoorW.PrintLast
set_option linter.unusedVariables false
set_option linter.unusedSimpArgs false
theorem CloneT_nil (w : World) : Calls Tryz.prog 151 #[.slice none 0 0] w fun e w' => e = .returned (.slice none 0 0) ∧ w = w' := by
  have hq := fun W => Go.run_eql_slice_nil (P := Tryz.prog) W 23 9 none 0 0 Tryz.underlying23
  go_enter Tryz.func151, Tryz.ntmps151
  go_wp2
  go_ret
  exact ⟨rfl, rfl⟩
theorem CloneV_nil (w : World) : Calls Tryz.prog 152 #[.slice none 0 0] w fun e w' => e = .returned (.slice none 0 0) ∧ w = w' := by
  have hq := fun W => Go.run_eql_slice_nil (P := Tryz.prog) W 22 25 none 0 0 Tryz.underlying22
  go_enter Tryz.func152, Tryz.ntmps152
  go_wp2
  go_ret
  exact ⟨rfl, rfl⟩
set_option maxRecDepth 100000 in
set_option maxHeartbeats 4000000 in
theorem Copy_leaf (i : LId) (w : World) : Calls Tryz.prog 101 #[.agg (LId.cells i).toArray] w (Made (.agg (LId.cells i).toArray) w) := by
  have jl : (LId.cells i).toArray = #[.int .i64 i.kind, .bool false, .string i.text, .slice none 0 0, .slice none 0 0] := rfl
  rw [jl]
  clear jl
  go_enter Tryz.func101, Tryz.ntmps101
  go_wp2_with fail
  have HX : Hid (BK _ w.heap.size 25 #[.int .i64 i.kind, .bool false, .string i.text, .slice none 0 0, .slice none 0 0]) := Lib.hid (al2_0 w (.cells #[.int .i64 i.kind, .bool false, .string i.text, .slice none 0 0, .slice none 0 0] 25) (.cells #[.int .i64 0, .bool false, .string ⟨#[]⟩, .slice none 0 0, .slice none 0 0] 25))
  have HY : Hid (BK _ (w.heap.size + 1) 25 #[.int .i64 0, .bool false, .string ⟨#[]⟩, .slice none 0 0, .slice none 0 0]) := Lib.hid (al2_1 w (.cells #[.int .i64 i.kind, .bool false, .string i.text, .slice none 0 0, .slice none 0 0] 25) (.cells #[.int .i64 0, .bool false, .string ⟨#[]⟩, .slice none 0 0, .slice none 0 0] 25))
  have HB := Lib.hid (al2_below w (.cells #[.int .i64 i.kind, .bool false, .string i.text, .slice none 0 0, .slice none 0 0] 25) (.cells #[.int .i64 0, .bool false, .string ⟨#[]⟩, .slice none 0 0, .slice none 0 0] 25))
  generalize ((w.alloc (.cells #[.int .i64 i.kind, .bool false, .string i.text, .slice none 0 0, .slice none 0 0] 25)).alloc (.cells #[.int .i64 0, .bool false, .string ⟨#[]⟩, .slice none 0 0, .slice none 0 0] 25)) = w1 at *
  refine start_ (n := 10) (S := fun W => BK W w.heap.size 25 #[.int .i64 i.kind, .bool false, .string i.text, .slice none 0 0, .slice none 0 0]) (ds := [7, 9]) #[false, false, false, false, false, false, false, false, false, false] (by kernel_rfl) rfl rfl (HX.out.on (Below.refl _ _).drew) (fun hHeld => ?_)
  have hbd := (Below.refl w1.heap.size w1).drew
  replace HX := Lib.hid (HX.out.on hbd)
  replace HY := Lib.hid (HY.out.on hbd)
  replace HB := Lib.hid (HB.out.trans (hbd.mono HB.out.size))
  clear hbd
  generalize w1.drew = w2 at *
  refine pure_ (i := 0) (N := some 5) (v := ?_) (a' := ?_) #[true, false, false, false, false, false, false, false, false, false] rfl rfl (by kernel_rfl) (fun _ _ _ h => h) (Or.inl ⟨by rfl, ?_⟩) ?_ ?_
  rotate_left
  · intro w'; go_simp; with_reducible rfl
  rotate_left
  · simp only [Act.put, List.setIfInBounds_toArray, List.set_cons_zero, List.set_cons_succ, i64_w, i32_w]; rfl
  refine pure_ (i := 3) (N := some 8) (v := ?_) (a' := ?_) #[true, false, false, true, false, false, false, false, false, false] rfl rfl (by kernel_rfl) (fun _ _ _ h => h) (Or.inl ⟨by rfl, ?_⟩) ?_ ?_
  rotate_left
  · intro w'; go_simp; with_reducible rfl
  rotate_left
  · simp only [Act.put, List.setIfInBounds_toArray, List.set_cons_zero, List.set_cons_succ, i64_w, i32_w]; rfl
  refine take_ (i := 1) (N := some 6) (v := ?_) (a' := ?_) #[true, true, false, true, false, false, false, false, false, false] rfl rfl (by kernel_rfl) (fun _ _ _ h => h) (Or.inl ⟨by rfl, ?_⟩) hHeld ?_ ?_
  rotate_left
  · intro w' hh; have t := BK.c hh 4 rfl; clear hh; go_simp; with_reducible rfl
  rotate_left
  · simp only [Act.put, List.setIfInBounds_toArray, List.set_cons_zero, List.set_cons_succ, i64_w, i32_w]; rfl
  refine take_ (i := 4) (N := some 9) (v := ?_) (a' := ?_) #[true, true, false, true, true, false, false, false, false, false] rfl rfl (by kernel_rfl) (fun _ _ _ h => h) (Or.inl ⟨by rfl, ?_⟩) hHeld ?_ ?_
  rotate_left
  · intro w' hh; have t := BK.c hh 3 rfl; clear hh; go_simp; with_reducible rfl
  rotate_left
  · simp only [Act.put, List.setIfInBounds_toArray, List.set_cons_zero, List.set_cons_succ, i64_w, i32_w]; rfl
  refine one_ (i := 2) (N := some 7) #[true, true, true, true, true, false, false, false, false, false] rfl rfl (by kernel_rfl) (by decide) (fun K hK => ?_)
  refine goes_ Tryz.func151 (by kernel_rfl) rfl #[.slice none 0 0] (by rfl) rfl rfl (by (try simp only [List.map_toArray, List.map_cons, List.map_nil]); first | done | rfl) ?_
  with_reducible refine (CloneT_nil w2).mono ?_
  rintro e w3 ⟨rfl, rfl⟩
  refine ⟨_, rfl, ?_⟩
  refine hK.out _ _ hHeld (fun hHeld2 => ?_)
  clear hK K hHeld
  have hHeld := hHeld2
  clear hHeld2
  refine norm_ (a' := ?_) ?_ ?_
  rotate_left
  · show Act.put _ (some 7) _ = _; simp only [Act.put, List.setIfInBounds_toArray, List.set_cons_zero, List.set_cons_succ, i64_w, i32_w]; rfl
  refine pure_ (i := 6) (N := some 11) (v := ?_) (a' := ?_) #[true, true, true, true, true, false, true, false, false, false] rfl rfl (by kernel_rfl) (fun _ _ _ h => h) (Or.inl ⟨by rfl, ?_⟩) ?_ ?_
  rotate_left
  · intro w'; go_simp; with_reducible rfl
  rotate_left
  · simp only [Act.put, List.setIfInBounds_toArray, List.set_cons_zero, List.set_cons_succ, i64_w, i32_w]; rfl
  refine one_ (i := 5) (N := some 10) #[true, true, true, true, true, true, true, false, false, false] rfl rfl (by kernel_rfl) (by decide) (fun K hK => ?_)
  refine goes_ Tryz.func152 (by kernel_rfl) rfl #[.slice none 0 0] (by rfl) rfl rfl (by (try simp only [List.map_toArray, List.map_cons, List.map_nil]); first | done | rfl) ?_
  with_reducible refine (CloneV_nil w2).mono ?_
  rintro e w3 ⟨rfl, rfl⟩
  refine ⟨_, rfl, ?_⟩
  refine hK.out _ _ hHeld (fun hHeld2 => ?_)
  clear hK K hHeld
  have hHeld := hHeld2
  clear hHeld2
  refine norm_ (a' := ?_) ?_ ?_
  rotate_left
  · show Act.put _ (some 10) _ = _; simp only [Act.put, List.setIfInBounds_toArray, List.set_cons_zero, List.set_cons_succ, i64_w, i32_w]; rfl
  refine last_ (i := 7) (N := none) #[true, true, true, true, true, true, true, true, false, false] rfl rfl (by kernel_rfl) (by decide) (fun K hK => ?_)
  have hx := HX.out
  have c0 := hx.c 4 rfl
  have f0 := hx.fr 4
  clear hx
  refine skip_ (w1 := w2.setCell ⟨w.heap.size, 4, none⟩ (.slice none 0 0)) rfl rfl ?_ (hK.out _ _ ?_)
  · go_simp
    all_goals first | rfl | (constructor <;> rfl)
  clear hK K c0 f0
  replace HX := Lib.hid (HX.out.set 4 (.slice none 0 0) rfl)
  replace HY := Lib.hid (HY.out.far (p := ⟨w.heap.size, 4, none⟩) (.slice none 0 0) (by show w.heap.size + 1 ≠ w.heap.size; omega))
  replace HB := Lib.hid (HB.out.setCell (p := ⟨w.heap.size, 4, none⟩) (Nat.le_refl _) (.slice none 0 0))
  generalize w2.setCell ⟨w.heap.size, 4, none⟩ (.slice none 0 0) = w3 at *
  have HX' : Hid (BK w3 w.heap.size 25 #[.int .i64 i.kind, .bool false, .string i.text, .slice none 0 0, .slice none 0 0]) := Lib.hid HX.out
  clear HX
  have HX := HX'
  clear HX'
  refine pure_ (i := 8) (N := some 12) (v := ?_) (a' := ?_) #[true, true, true, true, true, true, true, true, true, false] rfl rfl (by kernel_rfl) (fun _ _ _ h => h) (Or.inl ⟨by rfl, ?_⟩) ?_ ?_
  rotate_left
  · intro w'; go_simp; with_reducible rfl
  rotate_left
  · simp only [Act.put, List.setIfInBounds_toArray, List.set_cons_zero, List.set_cons_succ, i64_w, i32_w]; rfl
  refine last_ (i := 9) (N := none) #[true, true, true, true, true, true, true, true, true, true] rfl rfl (by kernel_rfl) (by decide) (fun K hK => ?_)
  have hx := HX.out
  have c0 := hx.c 3 rfl
  have f0 := hx.fr 3
  clear hx
  refine skip_ (w1 := w3.setCell ⟨w.heap.size, 3, none⟩ (.slice none 0 0)) rfl rfl ?_ (hK.out _ _ ?_)
  · go_simp
    all_goals first | rfl | (constructor <;> rfl)
  clear hK K c0 f0
  replace HX := Lib.hid (HX.out.set 3 (.slice none 0 0) rfl)
  replace HY := Lib.hid (HY.out.far (p := ⟨w.heap.size, 3, none⟩) (.slice none 0 0) (by show w.heap.size + 1 ≠ w.heap.size; omega))
  replace HB := Lib.hid (HB.out.setCell (p := ⟨w.heap.size, 3, none⟩) (Nat.le_refl _) (.slice none 0 0))
  generalize w3.setCell ⟨w.heap.size, 3, none⟩ (.slice none 0 0) = w4 at *
  have HX' : Hid (BK w4 w.heap.size 25 #[.int .i64 i.kind, .bool false, .string i.text, .slice none 0 0, .slice none 0 0]) := Lib.hid HX.out
  clear HX
  have HX := HX'
  clear HX'
  refine done_ (by kernel_rfl) ?_
  have y0 := HX.out.c 0 rfl
  have y1 := HX.out.c 1 rfl
  have y2 := HX.out.c 2 rfl
  have y3 := HX.out.c 3 rfl
  have y4 := HX.out.c 4 rfl
  go_wp2_with fail
  clear y0 y1 y2 y3 y4
  go_loopg [16] 0 (fun q v wr => v = .int .i64 0 ∧ w4 = wr)
  case atStart => exact ⟨rfl, rfl⟩
  case round =>
    obtain ⟨rfl, rfl⟩ := hrel
    have y0 := HX.out.c 0 rfl
    have y1 := HX.out.c 1 rfl
    have y2 := HX.out.c 2 rfl
    have y3 := HX.out.c 3 rfl
    have y4 := HX.out.c 4 rfl
    go_wp2_with (
      refine store_fld rfl rfl 25 (.tmp 2) (.tmp 28) rfl (w.heap.size + 1) 0 (.agg #[.int .i64 i.kind, .bool false, .string i.text, .slice none 0 0, .slice none 0 0]) [.int .i64 i.kind, .bool false, .string i.text, .slice none 0 0, .slice none 0 0] rfl rfl rfl #[.int .i64 i.kind, .bool false, .string i.text, .slice none 0 0, .slice none 0 0] HY.out (by kernel_rfl) (Nat.le_of_ble_eq_true rfl) (by simp [Value.oneCell']) rfl ?_
      intro w5 hS hbt hsz)
    exact bodyPost_ret (results_row1 Tryz.results101 _ _ (w.heap.size + 1) 25 _ _ rfl hS Tryz.underlying25 rfl (by kernel_rfl)) rfl ⟨rfl, hbt.below HB.out (by omega) HB.out.size⟩
end Go.Proofs.YtfploakafbnigaaGreatDoor
