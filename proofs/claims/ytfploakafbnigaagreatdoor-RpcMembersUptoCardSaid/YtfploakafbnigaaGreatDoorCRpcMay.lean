/-
  Layer 12, the walks: own, mayBe.
-/
import Derived.Test.YtfploakafbnigaaGreatDoorCRpcRow
import Derived.Test.YtfploakafbnigaaGreatDoorCRpcPlain
import Derived.Test.YtfploakafbnigaaGreatDoorCRpcReadsPlain
namespace Go.Proofs.YtfploakafbnigaaGreatDoor
open Go.RowKit Val Num YtfploakafbnigaaGreatDoorW.PrintLast
set_option linter.unusedVariables false
set_option linter.unusedSimpArgs false
/-- own's answer: whether there is such a kind; then the message has what its kind has -/
def OwnM (m : MT) (w : World) (e : Ending) (w' : World) : Prop := ∃ v' m', e = .returned (.tuple #[v', .bool (decide (1 ≤ m.kind) && decide (m.kind ≤ 4))]) ∧ (1 ≤ m.kind → m.kind ≤ 4 → m' = MTown m) ∧ MSV (zLt w.heap.size) m' w' v' ∧ Below w.heap.size w w'
set_option maxRecDepth 100000 in
set_option maxHeartbeats 8000000 in
theorem own_any (m : MT) (z : Zone) (v : Value) (w : World) (h : MSV z m w v) : Calls Tryz.prog 178 #[v] w (OwnM m w) := by
  obtain ⟨mk, mid, mme, mha, mpa, mre, mco, mte⟩ := m
  obtain ⟨im0, im1, im2, im3, im4, pm0, pm1, pm2, pm3, pm4, rm0, rm1, rm2, rm3, rm4, rfl, q1, q2, q3⟩ := h
  dsimp only at q1 q2 q3
  obtain ⟨kmi, bmi, xmi, Ami, nmi, cmi, Bmi, mmi, dmi, rfl, rfl, rfl, rfl, rfl⟩ := VAL.shape5 q1
  obtain ⟨kmp, bmp, xmp, Amp, nmp, cmp, Bmp, mmp, dmp, rfl, rfl, rfl, rfl, rfl⟩ := VAL.shape5 q2
  obtain ⟨kmr, bmr, xmr, Amr, nmr, cmr, Bmr, mmr, dmr, rfl, rfl, rfl, rfl, rfl⟩ := VAL.shape5 q3
  have HVi := Lib.hid q1.old
  have HVp := Lib.hid q2.old
  have HVr := Lib.hid q3.old
  clear q1 q2 q3
  dsimp only
  unfold OwnM
  dsimp only
  have HB := Lib.hid (Below.refl w.heap.size w)
  have hcs : mk = 1 ∨ mk = 2 ∨ mk = 3 ∨ mk = 4 ∨ (¬ mk = 1 ∧ ¬ mk = 2 ∧ ¬ mk = 3 ∧ ¬ mk = 4) := by omega
  rcases hcs with rfl | rfl | rfl | rfl | ⟨n1, n2, n3, n4⟩
  · skip
    rw [show (decide ((1 : Int) ≤ 1) && decide ((1 : Int) ≤ 4)) = true from by decide]
    go_enter Tryz.func178, Tryz.ntmps178
    go_upto_region 1 with (fail)
    have hb : Below w.heap.size w (((w.alloc (.cells #[.int .i64 1, .int .i64 kmi, .bool bmi, .string xmi, .slice Ami nmi cmi, .slice Bmi mmi dmi, .string mme, .bool mha, .int .i64 kmp, .bool bmp, .string xmp, .slice Amp nmp cmp, .slice Bmp mmp dmp, .int .i64 kmr, .bool bmr, .string xmr, .slice Amr nmr cmr, .slice Bmr mmr dmr, .int .i64 mco, .string mte] 46))).alloc (.cells #[.int .i64 0, .int .i64 0, .bool false, .string ⟨#[]⟩, .slice none 0 0, .slice none 0 0, .string ⟨#[]⟩, .bool false, .int .i64 0, .bool false, .string ⟨#[]⟩, .slice none 0 0, .slice none 0 0, .int .i64 0, .bool false, .string ⟨#[]⟩, .slice none 0 0, .slice none 0 0, .int .i64 0, .string ⟨#[]⟩] 46)) := al2_below w _ _
    replace HVi := Lib.hid (HVi.out.up hb)
    replace HVp := Lib.hid (HVp.out.up hb)
    replace HVr := Lib.hid (HVr.out.up hb)
    replace HB := Lib.hid (HB.out.trans (hb.mono HB.out.size))
    have hX0 : BK (((w.alloc (.cells #[.int .i64 1, .int .i64 kmi, .bool bmi, .string xmi, .slice Ami nmi cmi, .slice Bmi mmi dmi, .string mme, .bool mha, .int .i64 kmp, .bool bmp, .string xmp, .slice Amp nmp cmp, .slice Bmp mmp dmp, .int .i64 kmr, .bool bmr, .string xmr, .slice Amr nmr cmr, .slice Bmr mmr dmr, .int .i64 mco, .string mte] 46))).alloc (.cells #[.int .i64 0, .int .i64 0, .bool false, .string ⟨#[]⟩, .slice none 0 0, .slice none 0 0, .string ⟨#[]⟩, .bool false, .int .i64 0, .bool false, .string ⟨#[]⟩, .slice none 0 0, .slice none 0 0, .int .i64 0, .bool false, .string ⟨#[]⟩, .slice none 0 0, .slice none 0 0, .int .i64 0, .string ⟨#[]⟩] 46)) (w.heap.size) 46 #[.int .i64 1, .int .i64 kmi, .bool bmi, .string xmi, .slice Ami nmi cmi, .slice Bmi mmi dmi, .string mme, .bool mha, .int .i64 kmp, .bool bmp, .string xmp, .slice Amp nmp cmp, .slice Bmp mmp dmp, .int .i64 kmr, .bool bmr, .string xmr, .slice Amr nmr cmr, .slice Bmr mmr dmr, .int .i64 mco, .string mte] := al2_0 w _ _
    have HK := Lib.hid (Blks.one hX0)
    have hX1 : BK (((w.alloc (.cells #[.int .i64 1, .int .i64 kmi, .bool bmi, .string xmi, .slice Ami nmi cmi, .slice Bmi mmi dmi, .string mme, .bool mha, .int .i64 kmp, .bool bmp, .string xmp, .slice Amp nmp cmp, .slice Bmp mmp dmp, .int .i64 kmr, .bool bmr, .string xmr, .slice Amr nmr cmr, .slice Bmr mmr dmr, .int .i64 mco, .string mte] 46))).alloc (.cells #[.int .i64 0, .int .i64 0, .bool false, .string ⟨#[]⟩, .slice none 0 0, .slice none 0 0, .string ⟨#[]⟩, .bool false, .int .i64 0, .bool false, .string ⟨#[]⟩, .slice none 0 0, .slice none 0 0, .int .i64 0, .bool false, .string ⟨#[]⟩, .slice none 0 0, .slice none 0 0, .int .i64 0, .string ⟨#[]⟩] 46)) (w.heap.size + 1) 46 #[.int .i64 0, .int .i64 0, .bool false, .string ⟨#[]⟩, .slice none 0 0, .slice none 0 0, .string ⟨#[]⟩, .bool false, .int .i64 0, .bool false, .string ⟨#[]⟩, .slice none 0 0, .slice none 0 0, .int .i64 0, .bool false, .string ⟨#[]⟩, .slice none 0 0, .slice none 0 0, .int .i64 0, .string ⟨#[]⟩] := al2_1 w _ _
    replace HK := Lib.hid (Blks.cons hX1 HK.out)
    clear hb hX0 hX1
    generalize (((w.alloc (.cells #[.int .i64 1, .int .i64 kmi, .bool bmi, .string xmi, .slice Ami nmi cmi, .slice Bmi mmi dmi, .string mme, .bool mha, .int .i64 kmp, .bool bmp, .string xmp, .slice Amp nmp cmp, .slice Bmp mmp dmp, .int .i64 kmr, .bool bmr, .string xmr, .slice Amr nmr cmr, .slice Bmr mmr dmr, .int .i64 mco, .string mte] 46))).alloc (.cells #[.int .i64 0, .int .i64 0, .bool false, .string ⟨#[]⟩, .slice none 0 0, .slice none 0 0, .string ⟨#[]⟩, .bool false, .int .i64 0, .bool false, .string ⟨#[]⟩, .slice none 0 0, .slice none 0 0, .int .i64 0, .bool false, .string ⟨#[]⟩, .slice none 0 0, .slice none 0 0, .int .i64 0, .string ⟨#[]⟩] 46)) = w1 at *
    have hg := Blks.hd (Blks.tl HK.out)
    have y0 := hg.c 0 rfl
    clear hg
    go_wp2_with (first
      | (refine store1 rfl rfl 46 (.tmp 4) (.tmp 7) rfl rfl #[.int .i64 1, .int .i64 0, .bool false, .string ⟨#[]⟩, .slice none 0 0, .slice none 0 0, .string ⟨#[]⟩, .bool false, .int .i64 0, .bool false, .string ⟨#[]⟩, .slice none 0 0, .slice none 0 0, .int .i64 0, .bool false, .string ⟨#[]⟩, .slice none 0 0, .slice none 0 0, .int .i64 0, .string ⟨#[]⟩] rfl (by kernel_rfl) rfl (by simp [Value.oneCell']) ?_
         intro w2 hX hb hz
         have HGgO : Hid (w.heap.size + 1 < w1.heap.size) := Lib.hid (Blks.hd HK.out).lt
         replace HVi := Lib.hid (HVi.out.up hb)
         replace HVp := Lib.hid (HVp.out.up hb)
         replace HVr := Lib.hid (HVr.out.up hb)
         replace HK := Lib.hid (HK.out.on hb)
         replace HB := Lib.hid (HB.out.trans (hb.mono HB.out.size))
         replace HK := Lib.hid (Blks.cons hX HK.out)
         clear hX hb hz
         generalize w1.heap.size = gO at *
         have hg := Blks.hd (Blks.tl (Blks.tl HK.out))
         have z0 := hg.c 0 rfl
         have z1 := hg.c 1 rfl
         have z2 := hg.c 2 rfl
         have z3 := hg.c 3 rfl
         have z4 := hg.c 4 rfl
         have z5 := hg.c 5 rfl
         clear hg)
      | (refine store_fld rfl rfl 25 (.tmp 20) (.tmp 19) rfl (gO) 1 (.agg #[.int .i64 kmi, .bool bmi, .string xmi, .slice Ami nmi cmi, .slice Bmi mmi dmi]) [.int .i64 kmi, .bool bmi, .string xmi, .slice Ami nmi cmi, .slice Bmi mmi dmi] rfl rfl rfl #[.int .i64 1, .int .i64 kmi, .bool bmi, .string xmi, .slice Ami nmi cmi, .slice Bmi mmi dmi, .string ⟨#[]⟩, .bool false, .int .i64 0, .bool false, .string ⟨#[]⟩, .slice none 0 0, .slice none 0 0, .int .i64 0, .bool false, .string ⟨#[]⟩, .slice none 0 0, .slice none 0 0, .int .i64 0, .string ⟨#[]⟩] (Blks.hd HK.out) (by kernel_rfl) (Nat.le_of_ble_eq_true rfl) (by simp [Value.oneCell']) rfl ?_
         intro w3 hS hbt hsz
         replace HVi := Lib.hid (HVi.out.butL hbt (by have := HGgO.out; omega))
         replace HVp := Lib.hid (HVp.out.butL hbt (by have := HGgO.out; omega))
         replace HVr := Lib.hid (HVr.out.butL hbt (by have := HGgO.out; omega))
         replace HK := Lib.hid (Blks.cons hS (Blks.cons (BK.but (Blks.hd (Blks.tl HK.out)) hbt (by have := HGgO.out; omega)) (Blks.one (BK.but (Blks.hd (Blks.tl (Blks.tl HK.out))) hbt (by have := HGgO.out; omega)))))
         replace HB := Lib.hid (hbt.below HB.out (by have := HGgO.out; omega) HB.out.size)
         clear hbt hS hsz))
    have hb : Below w3.heap.size w3 w3.drew := (Below.refl _ _).drew
    refine start_ (n := 12) (S := Blks [⟨w.heap.size, 46, #[.int .i64 1, .int .i64 kmi, .bool bmi, .string xmi, .slice Ami nmi cmi, .slice Bmi mmi dmi, .string mme, .bool mha, .int .i64 kmp, .bool bmp, .string xmp, .slice Amp nmp cmp, .slice Bmp mmp dmp, .int .i64 kmr, .bool bmr, .string xmr, .slice Amr nmr cmr, .slice Bmr mmr dmr, .int .i64 mco, .string mte]⟩]) (ds := []) #[false, false, false, false, false, false, false, false, false, false, false, false] (by kernel_rfl) rfl rfl (Blks.on (Blks.one (Blks.hd (Blks.tl (Blks.tl HK.out)))) hb) (fun hHeld => ?_)
    replace HVi := Lib.hid (HVi.out.up hb)
    replace HVp := Lib.hid (HVp.out.up hb)
    replace HVr := Lib.hid (HVr.out.up hb)
    replace HK := Lib.hid (HK.out.on hb)
    replace HB := Lib.hid (HB.out.trans (hb.mono HB.out.size))
    clear hb
    generalize w3.drew = w4 at *
    refine pure_ (i := 0) (N := some 21) (v := ?_) (a' := ?_) #[true, false, false, false, false, false, false, false, false, false, false, false] rfl rfl (by kernel_rfl) (fun _ _ _ h => h) (Or.inl ⟨by rfl, ?_⟩) ?_ ?_
    rotate_left
    · intro w'; go_simp; with_reducible rfl
    rotate_left
    · simp only [Act.put, List.setIfInBounds_toArray, List.set_cons_zero, List.set_cons_succ, i64_w, i32_w]; rfl
    refine take_ (i := 1) (N := some 22) (v := ?_) (a' := ?_) #[true, true, false, false, false, false, false, false, false, false, false, false] rfl rfl (by kernel_rfl) (fun _ _ _ h => h) (Or.inl ⟨by rfl, ?_⟩) hHeld ?_ ?_
    rotate_left
    · intro w' hh; have hg := Blks.hd hh; have t6 := hg.c 6 rfl; clear hh hg; go_simp; with_reducible rfl
    rotate_left
    · simp only [Act.put, List.setIfInBounds_toArray, List.set_cons_zero, List.set_cons_succ, i64_w, i32_w]; rfl
    refine pure_ (i := 2) (N := some 23) (v := ?_) (a' := ?_) #[true, true, true, false, false, false, false, false, false, false, false, false] rfl rfl (by kernel_rfl) (fun _ _ _ h => h) (Or.inl ⟨by rfl, ?_⟩) ?_ ?_
    rotate_left
    · intro w'; go_simp; with_reducible rfl
    rotate_left
    · simp only [Act.put, List.setIfInBounds_toArray, List.set_cons_zero, List.set_cons_succ, i64_w, i32_w]; rfl
    refine take_ (i := 3) (N := some 24) (v := ?_) (a' := ?_) #[true, true, true, true, false, false, false, false, false, false, false, false] rfl rfl (by kernel_rfl) (fun _ _ _ h => h) (Or.inl ⟨by rfl, ?_⟩) hHeld ?_ ?_
    rotate_left
    · intro w' hh; have hg := Blks.hd hh; have t7 := hg.c 7 rfl; clear hh hg; go_simp; with_reducible rfl
    rotate_left
    · simp only [Act.put, List.setIfInBounds_toArray, List.set_cons_zero, List.set_cons_succ, i64_w, i32_w]; rfl
    refine pure_ (i := 4) (N := some 25) (v := ?_) (a' := ?_) #[true, true, true, true, true, false, false, false, false, false, false, false] rfl rfl (by kernel_rfl) (fun _ _ _ h => h) (Or.inl ⟨by rfl, ?_⟩) ?_ ?_
    rotate_left
    · intro w'; go_simp; with_reducible rfl
    rotate_left
    · simp only [Act.put, List.setIfInBounds_toArray, List.set_cons_zero, List.set_cons_succ, i64_w, i32_w]; rfl
    refine take_ (i := 5) (N := some 26) (v := ?_) (a' := ?_) #[true, true, true, true, true, true, false, false, false, false, false, false] rfl rfl (by kernel_rfl) (fun _ _ _ h => h) (Or.inl ⟨by rfl, ?_⟩) hHeld ?_ ?_
    rotate_left
    · intro w' hh; have hg := Blks.hd hh; have t8 := hg.c 8 rfl; have t9 := hg.c 9 rfl; have t10 := hg.c 10 rfl; have t11 := hg.c 11 rfl; have t12 := hg.c 12 rfl; clear hh hg; go_simp; with_reducible rfl
    rotate_left
    · simp only [Act.put, List.setIfInBounds_toArray, List.set_cons_zero, List.set_cons_succ, i64_w, i32_w]; rfl
    refine pure_ (i := 6) (N := some 27) (v := ?_) (a' := ?_) #[true, true, true, true, true, true, true, false, false, false, false, false] rfl rfl (by kernel_rfl) (fun _ _ _ h => h) (Or.inl ⟨by rfl, ?_⟩) ?_ ?_
    rotate_left
    · intro w'; go_simp; with_reducible rfl
    rotate_left
    · simp only [Act.put, List.setIfInBounds_toArray, List.set_cons_zero, List.set_cons_succ, i64_w, i32_w]; rfl
    refine one_ (i := 7) (N := none) #[true, true, true, true, true, true, true, true, false, false, false, false] rfl rfl (by kernel_rfl) (by decide) (fun K hK => ?_)
    refine store_fldK (by rfl) rfl 9 (.tmp 27) (.tmp 22) rfl (gO) 6 (.string mme) [.string mme] (by rfl) (by rfl) rfl #[.int .i64 1, .int .i64 kmi, .bool bmi, .string xmi, .slice Ami nmi cmi, .slice Bmi mmi dmi, .string mme, .bool false, .int .i64 0, .bool false, .string ⟨#[]⟩, .slice none 0 0, .slice none 0 0, .int .i64 0, .bool false, .string ⟨#[]⟩, .slice none 0 0, .slice none 0 0, .int .i64 0, .string ⟨#[]⟩] (Blks.hd HK.out) (by kernel_rfl) (Nat.le_of_ble_eq_true rfl) (by simp [Value.oneCell']) rfl (fun w5 hS hbt hsz => hK.out _ _ (Blks.one (BK.but (Blks.hd hHeld) hbt (by have := HGgO.out; omega))) (fun hHeld' => ?_))
    clear hK K
    clear hHeld
    have hHeld := hHeld'
    clear hHeld'
    replace HVi := Lib.hid (HVi.out.butL hbt (by have := HGgO.out; omega))
    replace HVp := Lib.hid (HVp.out.butL hbt (by have := HGgO.out; omega))
    replace HVr := Lib.hid (HVr.out.butL hbt (by have := HGgO.out; omega))
    replace HK := Lib.hid (Blks.cons hS (Blks.cons (BK.but (Blks.hd (Blks.tl HK.out)) hbt (by have := HGgO.out; omega)) (Blks.one (BK.but (Blks.hd (Blks.tl (Blks.tl HK.out))) hbt (by have := HGgO.out; omega)))))
    replace HB := Lib.hid (hbt.below HB.out (by have := HGgO.out; omega) HB.out.size)
    clear hbt hS hsz
    refine pure_ (i := 8) (N := some 28) (v := ?_) (a' := ?_) #[true, true, true, true, true, true, true, true, true, false, false, false] rfl rfl (by kernel_rfl) (fun _ _ _ h => h) (Or.inl ⟨by rfl, ?_⟩) ?_ ?_
    rotate_left
    · intro w'; go_simp; with_reducible rfl
    rotate_left
    · simp only [Act.put, List.setIfInBounds_toArray, List.set_cons_zero, List.set_cons_succ, i64_w, i32_w]; rfl
    refine one_ (i := 9) (N := none) #[true, true, true, true, true, true, true, true, true, true, false, false] rfl rfl (by kernel_rfl) (by decide) (fun K hK => ?_)
    refine store_fldK (by rfl) rfl 4 (.tmp 28) (.tmp 24) rfl (gO) 7 (.bool mha) [.bool mha] (by rfl) (by rfl) rfl #[.int .i64 1, .int .i64 kmi, .bool bmi, .string xmi, .slice Ami nmi cmi, .slice Bmi mmi dmi, .string mme, .bool mha, .int .i64 0, .bool false, .string ⟨#[]⟩, .slice none 0 0, .slice none 0 0, .int .i64 0, .bool false, .string ⟨#[]⟩, .slice none 0 0, .slice none 0 0, .int .i64 0, .string ⟨#[]⟩] (Blks.hd HK.out) (by kernel_rfl) (Nat.le_of_ble_eq_true rfl) (by simp [Value.oneCell']) rfl (fun w6 hS hbt hsz => hK.out _ _ (Blks.one (BK.but (Blks.hd hHeld) hbt (by have := HGgO.out; omega))) (fun hHeld' => ?_))
    clear hK K
    clear hHeld
    have hHeld := hHeld'
    clear hHeld'
    replace HVi := Lib.hid (HVi.out.butL hbt (by have := HGgO.out; omega))
    replace HVp := Lib.hid (HVp.out.butL hbt (by have := HGgO.out; omega))
    replace HVr := Lib.hid (HVr.out.butL hbt (by have := HGgO.out; omega))
    replace HK := Lib.hid (Blks.cons hS (Blks.cons (BK.but (Blks.hd (Blks.tl HK.out)) hbt (by have := HGgO.out; omega)) (Blks.one (BK.but (Blks.hd (Blks.tl (Blks.tl HK.out))) hbt (by have := HGgO.out; omega)))))
    replace HB := Lib.hid (hbt.below HB.out (by have := HGgO.out; omega) HB.out.size)
    clear hbt hS hsz
    refine pure_ (i := 10) (N := some 29) (v := ?_) (a' := ?_) #[true, true, true, true, true, true, true, true, true, true, true, false] rfl rfl (by kernel_rfl) (fun _ _ _ h => h) (Or.inl ⟨by rfl, ?_⟩) ?_ ?_
    rotate_left
    · intro w'; go_simp; with_reducible rfl
    rotate_left
    · simp only [Act.put, List.setIfInBounds_toArray, List.set_cons_zero, List.set_cons_succ, i64_w, i32_w]; rfl
    refine one_ (i := 11) (N := none) #[true, true, true, true, true, true, true, true, true, true, true, true] rfl rfl (by kernel_rfl) (by decide) (fun K hK => ?_)
    refine store_fldK (by rfl) rfl 25 (.tmp 29) (.tmp 26) rfl (gO) 8 (.agg #[.int .i64 kmp, .bool bmp, .string xmp, .slice Amp nmp cmp, .slice Bmp mmp dmp]) [.int .i64 kmp, .bool bmp, .string xmp, .slice Amp nmp cmp, .slice Bmp mmp dmp] (by rfl) (by rfl) rfl #[.int .i64 1, .int .i64 kmi, .bool bmi, .string xmi, .slice Ami nmi cmi, .slice Bmi mmi dmi, .string mme, .bool mha, .int .i64 kmp, .bool bmp, .string xmp, .slice Amp nmp cmp, .slice Bmp mmp dmp, .int .i64 0, .bool false, .string ⟨#[]⟩, .slice none 0 0, .slice none 0 0, .int .i64 0, .string ⟨#[]⟩] (Blks.hd HK.out) (by kernel_rfl) (Nat.le_of_ble_eq_true rfl) (by simp [Value.oneCell']) rfl (fun w7 hS hbt hsz => hK.out _ _ (Blks.one (BK.but (Blks.hd hHeld) hbt (by have := HGgO.out; omega))) (fun hHeld' => ?_))
    clear hK K
    clear hHeld
    have hHeld := hHeld'
    clear hHeld'
    replace HVi := Lib.hid (HVi.out.butL hbt (by have := HGgO.out; omega))
    replace HVp := Lib.hid (HVp.out.butL hbt (by have := HGgO.out; omega))
    replace HVr := Lib.hid (HVr.out.butL hbt (by have := HGgO.out; omega))
    replace HK := Lib.hid (Blks.cons hS (Blks.cons (BK.but (Blks.hd (Blks.tl HK.out)) hbt (by have := HGgO.out; omega)) (Blks.one (BK.but (Blks.hd (Blks.tl (Blks.tl HK.out))) hbt (by have := HGgO.out; omega)))))
    replace HB := Lib.hid (hbt.below HB.out (by have := HGgO.out; omega) HB.out.size)
    clear hbt hS hsz
    refine done_ (by kernel_rfl) ?_
    go_wp2_with (first
      | (refine wpList_load_row rfl 46 (.tmp 4) rfl (gO) rfl 46 #[.int .i64 1, .int .i64 kmi, .bool bmi, .string xmi, .slice Ami nmi cmi, .slice Bmi mmi dmi, .string mme, .bool mha, .int .i64 kmp, .bool bmp, .string xmp, .slice Amp nmp cmp, .slice Bmp mmp dmp, .int .i64 0, .bool false, .string ⟨#[]⟩, .slice none 0 0, .slice none 0 0, .int .i64 0, .string ⟨#[]⟩] (0, 0) _ (Blks.hd HK.out) Tryz.underlying46 rfl (by kernel_rfl) ?_)
      | (refine store_fld rfl rfl 46 (.tmp 2) (.tmp 46) rfl (w.heap.size + 1) 0 (.agg #[.int .i64 1, .int .i64 kmi, .bool bmi, .string xmi, .slice Ami nmi cmi, .slice Bmi mmi dmi, .string mme, .bool mha, .int .i64 kmp, .bool bmp, .string xmp, .slice Amp nmp cmp, .slice Bmp mmp dmp, .int .i64 0, .bool false, .string ⟨#[]⟩, .slice none 0 0, .slice none 0 0, .int .i64 0, .string ⟨#[]⟩]) [.int .i64 1, .int .i64 kmi, .bool bmi, .string xmi, .slice Ami nmi cmi, .slice Bmi mmi dmi, .string mme, .bool mha, .int .i64 kmp, .bool bmp, .string xmp, .slice Amp nmp cmp, .slice Bmp mmp dmp, .int .i64 0, .bool false, .string ⟨#[]⟩, .slice none 0 0, .slice none 0 0, .int .i64 0, .string ⟨#[]⟩] rfl rfl rfl #[.int .i64 1, .int .i64 kmi, .bool bmi, .string xmi, .slice Ami nmi cmi, .slice Bmi mmi dmi, .string mme, .bool mha, .int .i64 kmp, .bool bmp, .string xmp, .slice Amp nmp cmp, .slice Bmp mmp dmp, .int .i64 0, .bool false, .string ⟨#[]⟩, .slice none 0 0, .slice none 0 0, .int .i64 0, .string ⟨#[]⟩] (Blks.hd (Blks.tl HK.out)) (by kernel_rfl) (Nat.le_of_ble_eq_true rfl) (by simp [Value.oneCell']) rfl ?_
         intro w8 hS hbt hsz
         replace HVi := Lib.hid (HVi.out.butL hbt (by have := HGgO.out; omega))
         replace HVp := Lib.hid (HVp.out.butL hbt (by have := HGgO.out; omega))
         replace HVr := Lib.hid (HVr.out.butL hbt (by have := HGgO.out; omega))
         replace HK := Lib.hid (Blks.cons (BK.but (Blks.hd HK.out) hbt (by have := HGgO.out; omega)) (Blks.cons hS (Blks.one (BK.but (Blks.hd (Blks.tl (Blks.tl HK.out))) hbt (by have := HGgO.out; omega)))))
         replace HB := Lib.hid (hbt.below HB.out (by have := HGgO.out; omega) HB.out.size)
         clear hbt hS hsz))
    go_wp2
    exact bodyPost_ret (results_row2 rfl _ _ (w.heap.size + 1) _ #[.int .i64 1, .int .i64 kmi, .bool bmi, .string xmi, .slice Ami nmi cmi, .slice Bmi mmi dmi, .string mme, .bool mha, .int .i64 kmp, .bool bmp, .string xmp, .slice Amp nmp cmp, .slice Bmp mmp dmp, .int .i64 0, .bool false, .string ⟨#[]⟩, .slice none 0 0, .slice none 0 0, .int .i64 0, .string ⟨#[]⟩] _ rfl _ rfl (Blks.hd (Blks.tl HK.out)) Tryz.underlying46 rfl (by kernel_rfl)) rfl ⟨_, ⟨1, mid, mme, mha, mpa, .nul, 0, .empty⟩, rfl, fun _ _ => rfl, ⟨_, _, _, _, _, _, _, _, _, _, _, _, _, _, _, rfl, HVi.out, HVp.out, (nul_VLV _ _)⟩, HB.out⟩
  · skip
    rw [show (decide ((1 : Int) ≤ 2) && decide ((2 : Int) ≤ 4)) = true from by decide]
    go_enter Tryz.func178, Tryz.ntmps178
    go_upto_region 1 with (fail)
    have hb : Below w.heap.size w (((w.alloc (.cells #[.int .i64 2, .int .i64 kmi, .bool bmi, .string xmi, .slice Ami nmi cmi, .slice Bmi mmi dmi, .string mme, .bool mha, .int .i64 kmp, .bool bmp, .string xmp, .slice Amp nmp cmp, .slice Bmp mmp dmp, .int .i64 kmr, .bool bmr, .string xmr, .slice Amr nmr cmr, .slice Bmr mmr dmr, .int .i64 mco, .string mte] 46))).alloc (.cells #[.int .i64 0, .int .i64 0, .bool false, .string ⟨#[]⟩, .slice none 0 0, .slice none 0 0, .string ⟨#[]⟩, .bool false, .int .i64 0, .bool false, .string ⟨#[]⟩, .slice none 0 0, .slice none 0 0, .int .i64 0, .bool false, .string ⟨#[]⟩, .slice none 0 0, .slice none 0 0, .int .i64 0, .string ⟨#[]⟩] 46)) := al2_below w _ _
    replace HVi := Lib.hid (HVi.out.up hb)
    replace HVp := Lib.hid (HVp.out.up hb)
    replace HVr := Lib.hid (HVr.out.up hb)
    replace HB := Lib.hid (HB.out.trans (hb.mono HB.out.size))
    have hX0 : BK (((w.alloc (.cells #[.int .i64 2, .int .i64 kmi, .bool bmi, .string xmi, .slice Ami nmi cmi, .slice Bmi mmi dmi, .string mme, .bool mha, .int .i64 kmp, .bool bmp, .string xmp, .slice Amp nmp cmp, .slice Bmp mmp dmp, .int .i64 kmr, .bool bmr, .string xmr, .slice Amr nmr cmr, .slice Bmr mmr dmr, .int .i64 mco, .string mte] 46))).alloc (.cells #[.int .i64 0, .int .i64 0, .bool false, .string ⟨#[]⟩, .slice none 0 0, .slice none 0 0, .string ⟨#[]⟩, .bool false, .int .i64 0, .bool false, .string ⟨#[]⟩, .slice none 0 0, .slice none 0 0, .int .i64 0, .bool false, .string ⟨#[]⟩, .slice none 0 0, .slice none 0 0, .int .i64 0, .string ⟨#[]⟩] 46)) (w.heap.size) 46 #[.int .i64 2, .int .i64 kmi, .bool bmi, .string xmi, .slice Ami nmi cmi, .slice Bmi mmi dmi, .string mme, .bool mha, .int .i64 kmp, .bool bmp, .string xmp, .slice Amp nmp cmp, .slice Bmp mmp dmp, .int .i64 kmr, .bool bmr, .string xmr, .slice Amr nmr cmr, .slice Bmr mmr dmr, .int .i64 mco, .string mte] := al2_0 w _ _
    have HK := Lib.hid (Blks.one hX0)
    have hX1 : BK (((w.alloc (.cells #[.int .i64 2, .int .i64 kmi, .bool bmi, .string xmi, .slice Ami nmi cmi, .slice Bmi mmi dmi, .string mme, .bool mha, .int .i64 kmp, .bool bmp, .string xmp, .slice Amp nmp cmp, .slice Bmp mmp dmp, .int .i64 kmr, .bool bmr, .string xmr, .slice Amr nmr cmr, .slice Bmr mmr dmr, .int .i64 mco, .string mte] 46))).alloc (.cells #[.int .i64 0, .int .i64 0, .bool false, .string ⟨#[]⟩, .slice none 0 0, .slice none 0 0, .string ⟨#[]⟩, .bool false, .int .i64 0, .bool false, .string ⟨#[]⟩, .slice none 0 0, .slice none 0 0, .int .i64 0, .bool false, .string ⟨#[]⟩, .slice none 0 0, .slice none 0 0, .int .i64 0, .string ⟨#[]⟩] 46)) (w.heap.size + 1) 46 #[.int .i64 0, .int .i64 0, .bool false, .string ⟨#[]⟩, .slice none 0 0, .slice none 0 0, .string ⟨#[]⟩, .bool false, .int .i64 0, .bool false, .string ⟨#[]⟩, .slice none 0 0, .slice none 0 0, .int .i64 0, .bool false, .string ⟨#[]⟩, .slice none 0 0, .slice none 0 0, .int .i64 0, .string ⟨#[]⟩] := al2_1 w _ _
    replace HK := Lib.hid (Blks.cons hX1 HK.out)
    clear hb hX0 hX1
    generalize (((w.alloc (.cells #[.int .i64 2, .int .i64 kmi, .bool bmi, .string xmi, .slice Ami nmi cmi, .slice Bmi mmi dmi, .string mme, .bool mha, .int .i64 kmp, .bool bmp, .string xmp, .slice Amp nmp cmp, .slice Bmp mmp dmp, .int .i64 kmr, .bool bmr, .string xmr, .slice Amr nmr cmr, .slice Bmr mmr dmr, .int .i64 mco, .string mte] 46))).alloc (.cells #[.int .i64 0, .int .i64 0, .bool false, .string ⟨#[]⟩, .slice none 0 0, .slice none 0 0, .string ⟨#[]⟩, .bool false, .int .i64 0, .bool false, .string ⟨#[]⟩, .slice none 0 0, .slice none 0 0, .int .i64 0, .bool false, .string ⟨#[]⟩, .slice none 0 0, .slice none 0 0, .int .i64 0, .string ⟨#[]⟩] 46)) = w1 at *
    have hg := Blks.hd (Blks.tl HK.out)
    have y0 := hg.c 0 rfl
    clear hg
    go_wp2_with (first
      | (refine store1 rfl rfl 46 (.tmp 4) (.tmp 7) rfl rfl #[.int .i64 2, .int .i64 0, .bool false, .string ⟨#[]⟩, .slice none 0 0, .slice none 0 0, .string ⟨#[]⟩, .bool false, .int .i64 0, .bool false, .string ⟨#[]⟩, .slice none 0 0, .slice none 0 0, .int .i64 0, .bool false, .string ⟨#[]⟩, .slice none 0 0, .slice none 0 0, .int .i64 0, .string ⟨#[]⟩] rfl (by kernel_rfl) rfl (by simp [Value.oneCell']) ?_
         intro w2 hX hb hz
         have HGgO : Hid (w.heap.size + 1 < w1.heap.size) := Lib.hid (Blks.hd HK.out).lt
         replace HVi := Lib.hid (HVi.out.up hb)
         replace HVp := Lib.hid (HVp.out.up hb)
         replace HVr := Lib.hid (HVr.out.up hb)
         replace HK := Lib.hid (HK.out.on hb)
         replace HB := Lib.hid (HB.out.trans (hb.mono HB.out.size))
         replace HK := Lib.hid (Blks.cons hX HK.out)
         clear hX hb hz
         generalize w1.heap.size = gO at *
         have hg := Blks.hd (Blks.tl (Blks.tl HK.out))
         have z0 := hg.c 0 rfl
         clear hg))
    have hb : Below w2.heap.size w2 w2.drew := (Below.refl _ _).drew
    refine start_ (n := 12) (S := Blks [⟨w.heap.size, 46, #[.int .i64 2, .int .i64 kmi, .bool bmi, .string xmi, .slice Ami nmi cmi, .slice Bmi mmi dmi, .string mme, .bool mha, .int .i64 kmp, .bool bmp, .string xmp, .slice Amp nmp cmp, .slice Bmp mmp dmp, .int .i64 kmr, .bool bmr, .string xmr, .slice Amr nmr cmr, .slice Bmr mmr dmr, .int .i64 mco, .string mte]⟩]) (ds := []) #[false, false, false, false, false, false, false, false, false, false, false, false] (by kernel_rfl) rfl rfl (Blks.on (Blks.one (Blks.hd (Blks.tl (Blks.tl HK.out)))) hb) (fun hHeld => ?_)
    replace HVi := Lib.hid (HVi.out.up hb)
    replace HVp := Lib.hid (HVp.out.up hb)
    replace HVr := Lib.hid (HVr.out.up hb)
    replace HK := Lib.hid (HK.out.on hb)
    replace HB := Lib.hid (HB.out.trans (hb.mono HB.out.size))
    clear hb
    generalize w2.drew = w3 at *
    refine pure_ (i := 0) (N := some 21) (v := ?_) (a' := ?_) #[true, false, false, false, false, false, false, false, false, false, false, false] rfl rfl (by kernel_rfl) (fun _ _ _ h => h) (Or.inl ⟨by rfl, ?_⟩) ?_ ?_
    rotate_left
    · intro w'; go_simp; with_reducible rfl
    rotate_left
    · simp only [Act.put, List.setIfInBounds_toArray, List.set_cons_zero, List.set_cons_succ, i64_w, i32_w]; rfl
    refine take_ (i := 1) (N := some 22) (v := ?_) (a' := ?_) #[true, true, false, false, false, false, false, false, false, false, false, false] rfl rfl (by kernel_rfl) (fun _ _ _ h => h) (Or.inl ⟨by rfl, ?_⟩) hHeld ?_ ?_
    rotate_left
    · intro w' hh; have hg := Blks.hd hh; have t6 := hg.c 6 rfl; clear hh hg; go_simp; with_reducible rfl
    rotate_left
    · simp only [Act.put, List.setIfInBounds_toArray, List.set_cons_zero, List.set_cons_succ, i64_w, i32_w]; rfl
    refine pure_ (i := 2) (N := some 23) (v := ?_) (a' := ?_) #[true, true, true, false, false, false, false, false, false, false, false, false] rfl rfl (by kernel_rfl) (fun _ _ _ h => h) (Or.inl ⟨by rfl, ?_⟩) ?_ ?_
    rotate_left
    · intro w'; go_simp; with_reducible rfl
    rotate_left
    · simp only [Act.put, List.setIfInBounds_toArray, List.set_cons_zero, List.set_cons_succ, i64_w, i32_w]; rfl
    refine take_ (i := 3) (N := some 24) (v := ?_) (a' := ?_) #[true, true, true, true, false, false, false, false, false, false, false, false] rfl rfl (by kernel_rfl) (fun _ _ _ h => h) (Or.inl ⟨by rfl, ?_⟩) hHeld ?_ ?_
    rotate_left
    · intro w' hh; have hg := Blks.hd hh; have t7 := hg.c 7 rfl; clear hh hg; go_simp; with_reducible rfl
    rotate_left
    · simp only [Act.put, List.setIfInBounds_toArray, List.set_cons_zero, List.set_cons_succ, i64_w, i32_w]; rfl
    refine pure_ (i := 4) (N := some 25) (v := ?_) (a' := ?_) #[true, true, true, true, true, false, false, false, false, false, false, false] rfl rfl (by kernel_rfl) (fun _ _ _ h => h) (Or.inl ⟨by rfl, ?_⟩) ?_ ?_
    rotate_left
    · intro w'; go_simp; with_reducible rfl
    rotate_left
    · simp only [Act.put, List.setIfInBounds_toArray, List.set_cons_zero, List.set_cons_succ, i64_w, i32_w]; rfl
    refine take_ (i := 5) (N := some 26) (v := ?_) (a' := ?_) #[true, true, true, true, true, true, false, false, false, false, false, false] rfl rfl (by kernel_rfl) (fun _ _ _ h => h) (Or.inl ⟨by rfl, ?_⟩) hHeld ?_ ?_
    rotate_left
    · intro w' hh; have hg := Blks.hd hh; have t8 := hg.c 8 rfl; have t9 := hg.c 9 rfl; have t10 := hg.c 10 rfl; have t11 := hg.c 11 rfl; have t12 := hg.c 12 rfl; clear hh hg; go_simp; with_reducible rfl
    rotate_left
    · simp only [Act.put, List.setIfInBounds_toArray, List.set_cons_zero, List.set_cons_succ, i64_w, i32_w]; rfl
    refine pure_ (i := 6) (N := some 27) (v := ?_) (a' := ?_) #[true, true, true, true, true, true, true, false, false, false, false, false] rfl rfl (by kernel_rfl) (fun _ _ _ h => h) (Or.inl ⟨by rfl, ?_⟩) ?_ ?_
    rotate_left
    · intro w'; go_simp; with_reducible rfl
    rotate_left
    · simp only [Act.put, List.setIfInBounds_toArray, List.set_cons_zero, List.set_cons_succ, i64_w, i32_w]; rfl
    refine one_ (i := 7) (N := none) #[true, true, true, true, true, true, true, true, false, false, false, false] rfl rfl (by kernel_rfl) (by decide) (fun K hK => ?_)
    refine store_fldK (by rfl) rfl 9 (.tmp 27) (.tmp 22) rfl (gO) 6 (.string mme) [.string mme] (by rfl) (by rfl) rfl #[.int .i64 2, .int .i64 0, .bool false, .string ⟨#[]⟩, .slice none 0 0, .slice none 0 0, .string mme, .bool false, .int .i64 0, .bool false, .string ⟨#[]⟩, .slice none 0 0, .slice none 0 0, .int .i64 0, .bool false, .string ⟨#[]⟩, .slice none 0 0, .slice none 0 0, .int .i64 0, .string ⟨#[]⟩] (Blks.hd HK.out) (by kernel_rfl) (Nat.le_of_ble_eq_true rfl) (by simp [Value.oneCell']) rfl (fun w4 hS hbt hsz => hK.out _ _ (Blks.one (BK.but (Blks.hd hHeld) hbt (by have := HGgO.out; omega))) (fun hHeld' => ?_))
    clear hK K
    clear hHeld
    have hHeld := hHeld'
    clear hHeld'
    replace HVi := Lib.hid (HVi.out.butL hbt (by have := HGgO.out; omega))
    replace HVp := Lib.hid (HVp.out.butL hbt (by have := HGgO.out; omega))
    replace HVr := Lib.hid (HVr.out.butL hbt (by have := HGgO.out; omega))
    replace HK := Lib.hid (Blks.cons hS (Blks.cons (BK.but (Blks.hd (Blks.tl HK.out)) hbt (by have := HGgO.out; omega)) (Blks.one (BK.but (Blks.hd (Blks.tl (Blks.tl HK.out))) hbt (by have := HGgO.out; omega)))))
    replace HB := Lib.hid (hbt.below HB.out (by have := HGgO.out; omega) HB.out.size)
    clear hbt hS hsz
    refine pure_ (i := 8) (N := some 28) (v := ?_) (a' := ?_) #[true, true, true, true, true, true, true, true, true, false, false, false] rfl rfl (by kernel_rfl) (fun _ _ _ h => h) (Or.inl ⟨by rfl, ?_⟩) ?_ ?_
    rotate_left
    · intro w'; go_simp; with_reducible rfl
    rotate_left
    · simp only [Act.put, List.setIfInBounds_toArray, List.set_cons_zero, List.set_cons_succ, i64_w, i32_w]; rfl
    refine one_ (i := 9) (N := none) #[true, true, true, true, true, true, true, true, true, true, false, false] rfl rfl (by kernel_rfl) (by decide) (fun K hK => ?_)
    refine store_fldK (by rfl) rfl 4 (.tmp 28) (.tmp 24) rfl (gO) 7 (.bool mha) [.bool mha] (by rfl) (by rfl) rfl #[.int .i64 2, .int .i64 0, .bool false, .string ⟨#[]⟩, .slice none 0 0, .slice none 0 0, .string mme, .bool mha, .int .i64 0, .bool false, .string ⟨#[]⟩, .slice none 0 0, .slice none 0 0, .int .i64 0, .bool false, .string ⟨#[]⟩, .slice none 0 0, .slice none 0 0, .int .i64 0, .string ⟨#[]⟩] (Blks.hd HK.out) (by kernel_rfl) (Nat.le_of_ble_eq_true rfl) (by simp [Value.oneCell']) rfl (fun w5 hS hbt hsz => hK.out _ _ (Blks.one (BK.but (Blks.hd hHeld) hbt (by have := HGgO.out; omega))) (fun hHeld' => ?_))
    clear hK K
    clear hHeld
    have hHeld := hHeld'
    clear hHeld'
    replace HVi := Lib.hid (HVi.out.butL hbt (by have := HGgO.out; omega))
    replace HVp := Lib.hid (HVp.out.butL hbt (by have := HGgO.out; omega))
    replace HVr := Lib.hid (HVr.out.butL hbt (by have := HGgO.out; omega))
    replace HK := Lib.hid (Blks.cons hS (Blks.cons (BK.but (Blks.hd (Blks.tl HK.out)) hbt (by have := HGgO.out; omega)) (Blks.one (BK.but (Blks.hd (Blks.tl (Blks.tl HK.out))) hbt (by have := HGgO.out; omega)))))
    replace HB := Lib.hid (hbt.below HB.out (by have := HGgO.out; omega) HB.out.size)
    clear hbt hS hsz
    refine pure_ (i := 10) (N := some 29) (v := ?_) (a' := ?_) #[true, true, true, true, true, true, true, true, true, true, true, false] rfl rfl (by kernel_rfl) (fun _ _ _ h => h) (Or.inl ⟨by rfl, ?_⟩) ?_ ?_
    rotate_left
    · intro w'; go_simp; with_reducible rfl
    rotate_left
    · simp only [Act.put, List.setIfInBounds_toArray, List.set_cons_zero, List.set_cons_succ, i64_w, i32_w]; rfl
    refine one_ (i := 11) (N := none) #[true, true, true, true, true, true, true, true, true, true, true, true] rfl rfl (by kernel_rfl) (by decide) (fun K hK => ?_)
    refine store_fldK (by rfl) rfl 25 (.tmp 29) (.tmp 26) rfl (gO) 8 (.agg #[.int .i64 kmp, .bool bmp, .string xmp, .slice Amp nmp cmp, .slice Bmp mmp dmp]) [.int .i64 kmp, .bool bmp, .string xmp, .slice Amp nmp cmp, .slice Bmp mmp dmp] (by rfl) (by rfl) rfl #[.int .i64 2, .int .i64 0, .bool false, .string ⟨#[]⟩, .slice none 0 0, .slice none 0 0, .string mme, .bool mha, .int .i64 kmp, .bool bmp, .string xmp, .slice Amp nmp cmp, .slice Bmp mmp dmp, .int .i64 0, .bool false, .string ⟨#[]⟩, .slice none 0 0, .slice none 0 0, .int .i64 0, .string ⟨#[]⟩] (Blks.hd HK.out) (by kernel_rfl) (Nat.le_of_ble_eq_true rfl) (by simp [Value.oneCell']) rfl (fun w6 hS hbt hsz => hK.out _ _ (Blks.one (BK.but (Blks.hd hHeld) hbt (by have := HGgO.out; omega))) (fun hHeld' => ?_))
    clear hK K
    clear hHeld
    have hHeld := hHeld'
    clear hHeld'
    replace HVi := Lib.hid (HVi.out.butL hbt (by have := HGgO.out; omega))
    replace HVp := Lib.hid (HVp.out.butL hbt (by have := HGgO.out; omega))
    replace HVr := Lib.hid (HVr.out.butL hbt (by have := HGgO.out; omega))
    replace HK := Lib.hid (Blks.cons hS (Blks.cons (BK.but (Blks.hd (Blks.tl HK.out)) hbt (by have := HGgO.out; omega)) (Blks.one (BK.but (Blks.hd (Blks.tl (Blks.tl HK.out))) hbt (by have := HGgO.out; omega)))))
    replace HB := Lib.hid (hbt.below HB.out (by have := HGgO.out; omega) HB.out.size)
    clear hbt hS hsz
    refine done_ (by kernel_rfl) ?_
    go_wp2_with (first
      | (refine wpList_load_row rfl 46 (.tmp 4) rfl (gO) rfl 46 #[.int .i64 2, .int .i64 0, .bool false, .string ⟨#[]⟩, .slice none 0 0, .slice none 0 0, .string mme, .bool mha, .int .i64 kmp, .bool bmp, .string xmp, .slice Amp nmp cmp, .slice Bmp mmp dmp, .int .i64 0, .bool false, .string ⟨#[]⟩, .slice none 0 0, .slice none 0 0, .int .i64 0, .string ⟨#[]⟩] (0, 0) _ (Blks.hd HK.out) Tryz.underlying46 rfl (by kernel_rfl) ?_)
      | (refine store_fld rfl rfl 46 (.tmp 2) (.tmp 46) rfl (w.heap.size + 1) 0 (.agg #[.int .i64 2, .int .i64 0, .bool false, .string ⟨#[]⟩, .slice none 0 0, .slice none 0 0, .string mme, .bool mha, .int .i64 kmp, .bool bmp, .string xmp, .slice Amp nmp cmp, .slice Bmp mmp dmp, .int .i64 0, .bool false, .string ⟨#[]⟩, .slice none 0 0, .slice none 0 0, .int .i64 0, .string ⟨#[]⟩]) [.int .i64 2, .int .i64 0, .bool false, .string ⟨#[]⟩, .slice none 0 0, .slice none 0 0, .string mme, .bool mha, .int .i64 kmp, .bool bmp, .string xmp, .slice Amp nmp cmp, .slice Bmp mmp dmp, .int .i64 0, .bool false, .string ⟨#[]⟩, .slice none 0 0, .slice none 0 0, .int .i64 0, .string ⟨#[]⟩] rfl rfl rfl #[.int .i64 2, .int .i64 0, .bool false, .string ⟨#[]⟩, .slice none 0 0, .slice none 0 0, .string mme, .bool mha, .int .i64 kmp, .bool bmp, .string xmp, .slice Amp nmp cmp, .slice Bmp mmp dmp, .int .i64 0, .bool false, .string ⟨#[]⟩, .slice none 0 0, .slice none 0 0, .int .i64 0, .string ⟨#[]⟩] (Blks.hd (Blks.tl HK.out)) (by kernel_rfl) (Nat.le_of_ble_eq_true rfl) (by simp [Value.oneCell']) rfl ?_
         intro w7 hS hbt hsz
         replace HVi := Lib.hid (HVi.out.butL hbt (by have := HGgO.out; omega))
         replace HVp := Lib.hid (HVp.out.butL hbt (by have := HGgO.out; omega))
         replace HVr := Lib.hid (HVr.out.butL hbt (by have := HGgO.out; omega))
         replace HK := Lib.hid (Blks.cons (BK.but (Blks.hd HK.out) hbt (by have := HGgO.out; omega)) (Blks.cons hS (Blks.one (BK.but (Blks.hd (Blks.tl (Blks.tl HK.out))) hbt (by have := HGgO.out; omega)))))
         replace HB := Lib.hid (hbt.below HB.out (by have := HGgO.out; omega) HB.out.size)
         clear hbt hS hsz))
    go_wp2
    exact bodyPost_ret (results_row2 rfl _ _ (w.heap.size + 1) _ #[.int .i64 2, .int .i64 0, .bool false, .string ⟨#[]⟩, .slice none 0 0, .slice none 0 0, .string mme, .bool mha, .int .i64 kmp, .bool bmp, .string xmp, .slice Amp nmp cmp, .slice Bmp mmp dmp, .int .i64 0, .bool false, .string ⟨#[]⟩, .slice none 0 0, .slice none 0 0, .int .i64 0, .string ⟨#[]⟩] _ rfl _ rfl (Blks.hd (Blks.tl HK.out)) Tryz.underlying46 rfl (by kernel_rfl)) rfl ⟨_, ⟨2, .nul, mme, mha, mpa, .nul, 0, .empty⟩, rfl, fun _ _ => rfl, ⟨_, _, _, _, _, _, _, _, _, _, _, _, _, _, _, rfl, (nul_VLV _ _), HVp.out, (nul_VLV _ _)⟩, HB.out⟩
  · skip
    rw [show (decide ((1 : Int) ≤ 3) && decide ((3 : Int) ≤ 4)) = true from by decide]
    go_enter Tryz.func178, Tryz.ntmps178
    go_upto_region 1 with (fail)
    have hb : Below w.heap.size w (((w.alloc (.cells #[.int .i64 3, .int .i64 kmi, .bool bmi, .string xmi, .slice Ami nmi cmi, .slice Bmi mmi dmi, .string mme, .bool mha, .int .i64 kmp, .bool bmp, .string xmp, .slice Amp nmp cmp, .slice Bmp mmp dmp, .int .i64 kmr, .bool bmr, .string xmr, .slice Amr nmr cmr, .slice Bmr mmr dmr, .int .i64 mco, .string mte] 46))).alloc (.cells #[.int .i64 0, .int .i64 0, .bool false, .string ⟨#[]⟩, .slice none 0 0, .slice none 0 0, .string ⟨#[]⟩, .bool false, .int .i64 0, .bool false, .string ⟨#[]⟩, .slice none 0 0, .slice none 0 0, .int .i64 0, .bool false, .string ⟨#[]⟩, .slice none 0 0, .slice none 0 0, .int .i64 0, .string ⟨#[]⟩] 46)) := al2_below w _ _
    replace HVi := Lib.hid (HVi.out.up hb)
    replace HVp := Lib.hid (HVp.out.up hb)
    replace HVr := Lib.hid (HVr.out.up hb)
    replace HB := Lib.hid (HB.out.trans (hb.mono HB.out.size))
    have hX0 : BK (((w.alloc (.cells #[.int .i64 3, .int .i64 kmi, .bool bmi, .string xmi, .slice Ami nmi cmi, .slice Bmi mmi dmi, .string mme, .bool mha, .int .i64 kmp, .bool bmp, .string xmp, .slice Amp nmp cmp, .slice Bmp mmp dmp, .int .i64 kmr, .bool bmr, .string xmr, .slice Amr nmr cmr, .slice Bmr mmr dmr, .int .i64 mco, .string mte] 46))).alloc (.cells #[.int .i64 0, .int .i64 0, .bool false, .string ⟨#[]⟩, .slice none 0 0, .slice none 0 0, .string ⟨#[]⟩, .bool false, .int .i64 0, .bool false, .string ⟨#[]⟩, .slice none 0 0, .slice none 0 0, .int .i64 0, .bool false, .string ⟨#[]⟩, .slice none 0 0, .slice none 0 0, .int .i64 0, .string ⟨#[]⟩] 46)) (w.heap.size) 46 #[.int .i64 3, .int .i64 kmi, .bool bmi, .string xmi, .slice Ami nmi cmi, .slice Bmi mmi dmi, .string mme, .bool mha, .int .i64 kmp, .bool bmp, .string xmp, .slice Amp nmp cmp, .slice Bmp mmp dmp, .int .i64 kmr, .bool bmr, .string xmr, .slice Amr nmr cmr, .slice Bmr mmr dmr, .int .i64 mco, .string mte] := al2_0 w _ _
    have HK := Lib.hid (Blks.one hX0)
    have hX1 : BK (((w.alloc (.cells #[.int .i64 3, .int .i64 kmi, .bool bmi, .string xmi, .slice Ami nmi cmi, .slice Bmi mmi dmi, .string mme, .bool mha, .int .i64 kmp, .bool bmp, .string xmp, .slice Amp nmp cmp, .slice Bmp mmp dmp, .int .i64 kmr, .bool bmr, .string xmr, .slice Amr nmr cmr, .slice Bmr mmr dmr, .int .i64 mco, .string mte] 46))).alloc (.cells #[.int .i64 0, .int .i64 0, .bool false, .string ⟨#[]⟩, .slice none 0 0, .slice none 0 0, .string ⟨#[]⟩, .bool false, .int .i64 0, .bool false, .string ⟨#[]⟩, .slice none 0 0, .slice none 0 0, .int .i64 0, .bool false, .string ⟨#[]⟩, .slice none 0 0, .slice none 0 0, .int .i64 0, .string ⟨#[]⟩] 46)) (w.heap.size + 1) 46 #[.int .i64 0, .int .i64 0, .bool false, .string ⟨#[]⟩, .slice none 0 0, .slice none 0 0, .string ⟨#[]⟩, .bool false, .int .i64 0, .bool false, .string ⟨#[]⟩, .slice none 0 0, .slice none 0 0, .int .i64 0, .bool false, .string ⟨#[]⟩, .slice none 0 0, .slice none 0 0, .int .i64 0, .string ⟨#[]⟩] := al2_1 w _ _
    replace HK := Lib.hid (Blks.cons hX1 HK.out)
    clear hb hX0 hX1
    generalize (((w.alloc (.cells #[.int .i64 3, .int .i64 kmi, .bool bmi, .string xmi, .slice Ami nmi cmi, .slice Bmi mmi dmi, .string mme, .bool mha, .int .i64 kmp, .bool bmp, .string xmp, .slice Amp nmp cmp, .slice Bmp mmp dmp, .int .i64 kmr, .bool bmr, .string xmr, .slice Amr nmr cmr, .slice Bmr mmr dmr, .int .i64 mco, .string mte] 46))).alloc (.cells #[.int .i64 0, .int .i64 0, .bool false, .string ⟨#[]⟩, .slice none 0 0, .slice none 0 0, .string ⟨#[]⟩, .bool false, .int .i64 0, .bool false, .string ⟨#[]⟩, .slice none 0 0, .slice none 0 0, .int .i64 0, .bool false, .string ⟨#[]⟩, .slice none 0 0, .slice none 0 0, .int .i64 0, .string ⟨#[]⟩] 46)) = w1 at *
    have hg := Blks.hd (Blks.tl HK.out)
    have y0 := hg.c 0 rfl
    clear hg
    go_wp2_with (first
      | (refine store1 rfl rfl 46 (.tmp 4) (.tmp 7) rfl rfl #[.int .i64 3, .int .i64 0, .bool false, .string ⟨#[]⟩, .slice none 0 0, .slice none 0 0, .string ⟨#[]⟩, .bool false, .int .i64 0, .bool false, .string ⟨#[]⟩, .slice none 0 0, .slice none 0 0, .int .i64 0, .bool false, .string ⟨#[]⟩, .slice none 0 0, .slice none 0 0, .int .i64 0, .string ⟨#[]⟩] rfl (by kernel_rfl) rfl (by simp [Value.oneCell']) ?_
         intro w2 hX hb hz
         have HGgO : Hid (w.heap.size + 1 < w1.heap.size) := Lib.hid (Blks.hd HK.out).lt
         replace HVi := Lib.hid (HVi.out.up hb)
         replace HVp := Lib.hid (HVp.out.up hb)
         replace HVr := Lib.hid (HVr.out.up hb)
         replace HK := Lib.hid (HK.out.on hb)
         replace HB := Lib.hid (HB.out.trans (hb.mono HB.out.size))
         replace HK := Lib.hid (Blks.cons hX HK.out)
         clear hX hb hz
         generalize w1.heap.size = gO at *
         have hg := Blks.hd (Blks.tl (Blks.tl HK.out))
         have z0 := hg.c 0 rfl
         clear hg))
    have hb : Below w2.heap.size w2 w2.drew := (Below.refl _ _).drew
    refine start_ (n := 8) (S := Blks [⟨w.heap.size, 46, #[.int .i64 3, .int .i64 kmi, .bool bmi, .string xmi, .slice Ami nmi cmi, .slice Bmi mmi dmi, .string mme, .bool mha, .int .i64 kmp, .bool bmp, .string xmp, .slice Amp nmp cmp, .slice Bmp mmp dmp, .int .i64 kmr, .bool bmr, .string xmr, .slice Amr nmr cmr, .slice Bmr mmr dmr, .int .i64 mco, .string mte]⟩]) (ds := []) #[false, false, false, false, false, false, false, false] (by kernel_rfl) rfl rfl (Blks.on (Blks.one (Blks.hd (Blks.tl (Blks.tl HK.out)))) hb) (fun hHeld => ?_)
    replace HVi := Lib.hid (HVi.out.up hb)
    replace HVp := Lib.hid (HVp.out.up hb)
    replace HVr := Lib.hid (HVr.out.up hb)
    replace HK := Lib.hid (HK.out.on hb)
    replace HB := Lib.hid (HB.out.trans (hb.mono HB.out.size))
    clear hb
    generalize w2.drew = w3 at *
    refine pure_ (i := 0) (N := some 30) (v := ?_) (a' := ?_) #[true, false, false, false, false, false, false, false] rfl rfl (by kernel_rfl) (fun _ _ _ h => h) (Or.inl ⟨by rfl, ?_⟩) ?_ ?_
    rotate_left
    · intro w'; go_simp; with_reducible rfl
    rotate_left
    · simp only [Act.put, List.setIfInBounds_toArray, List.set_cons_zero, List.set_cons_succ, i64_w, i32_w]; rfl
    refine take_ (i := 1) (N := some 31) (v := ?_) (a' := ?_) #[true, true, false, false, false, false, false, false] rfl rfl (by kernel_rfl) (fun _ _ _ h => h) (Or.inl ⟨by rfl, ?_⟩) hHeld ?_ ?_
    rotate_left
    · intro w' hh; have hg := Blks.hd hh; have t1 := hg.c 1 rfl; have t2 := hg.c 2 rfl; have t3 := hg.c 3 rfl; have t4 := hg.c 4 rfl; have t5 := hg.c 5 rfl; clear hh hg; go_simp; with_reducible rfl
    rotate_left
    · simp only [Act.put, List.setIfInBounds_toArray, List.set_cons_zero, List.set_cons_succ, i64_w, i32_w]; rfl
    refine pure_ (i := 2) (N := some 32) (v := ?_) (a' := ?_) #[true, true, true, false, false, false, false, false] rfl rfl (by kernel_rfl) (fun _ _ _ h => h) (Or.inl ⟨by rfl, ?_⟩) ?_ ?_
    rotate_left
    · intro w'; go_simp; with_reducible rfl
    rotate_left
    · simp only [Act.put, List.setIfInBounds_toArray, List.set_cons_zero, List.set_cons_succ, i64_w, i32_w]; rfl
    refine take_ (i := 3) (N := some 33) (v := ?_) (a' := ?_) #[true, true, true, true, false, false, false, false] rfl rfl (by kernel_rfl) (fun _ _ _ h => h) (Or.inl ⟨by rfl, ?_⟩) hHeld ?_ ?_
    rotate_left
    · intro w' hh; have hg := Blks.hd hh; have t13 := hg.c 13 rfl; have t14 := hg.c 14 rfl; have t15 := hg.c 15 rfl; have t16 := hg.c 16 rfl; have t17 := hg.c 17 rfl; clear hh hg; go_simp; with_reducible rfl
    rotate_left
    · simp only [Act.put, List.setIfInBounds_toArray, List.set_cons_zero, List.set_cons_succ, i64_w, i32_w]; rfl
    refine pure_ (i := 4) (N := some 34) (v := ?_) (a' := ?_) #[true, true, true, true, true, false, false, false] rfl rfl (by kernel_rfl) (fun _ _ _ h => h) (Or.inl ⟨by rfl, ?_⟩) ?_ ?_
    rotate_left
    · intro w'; go_simp; with_reducible rfl
    rotate_left
    · simp only [Act.put, List.setIfInBounds_toArray, List.set_cons_zero, List.set_cons_succ, i64_w, i32_w]; rfl
    refine one_ (i := 5) (N := none) #[true, true, true, true, true, true, false, false] rfl rfl (by kernel_rfl) (by decide) (fun K hK => ?_)
    refine store_fldK (by rfl) rfl 25 (.tmp 34) (.tmp 31) rfl (gO) 1 (.agg #[.int .i64 kmi, .bool bmi, .string xmi, .slice Ami nmi cmi, .slice Bmi mmi dmi]) [.int .i64 kmi, .bool bmi, .string xmi, .slice Ami nmi cmi, .slice Bmi mmi dmi] (by rfl) (by rfl) rfl #[.int .i64 3, .int .i64 kmi, .bool bmi, .string xmi, .slice Ami nmi cmi, .slice Bmi mmi dmi, .string ⟨#[]⟩, .bool false, .int .i64 0, .bool false, .string ⟨#[]⟩, .slice none 0 0, .slice none 0 0, .int .i64 0, .bool false, .string ⟨#[]⟩, .slice none 0 0, .slice none 0 0, .int .i64 0, .string ⟨#[]⟩] (Blks.hd HK.out) (by kernel_rfl) (Nat.le_of_ble_eq_true rfl) (by simp [Value.oneCell']) rfl (fun w4 hS hbt hsz => hK.out _ _ (Blks.one (BK.but (Blks.hd hHeld) hbt (by have := HGgO.out; omega))) (fun hHeld' => ?_))
    clear hK K
    clear hHeld
    have hHeld := hHeld'
    clear hHeld'
    replace HVi := Lib.hid (HVi.out.butL hbt (by have := HGgO.out; omega))
    replace HVp := Lib.hid (HVp.out.butL hbt (by have := HGgO.out; omega))
    replace HVr := Lib.hid (HVr.out.butL hbt (by have := HGgO.out; omega))
    replace HK := Lib.hid (Blks.cons hS (Blks.cons (BK.but (Blks.hd (Blks.tl HK.out)) hbt (by have := HGgO.out; omega)) (Blks.one (BK.but (Blks.hd (Blks.tl (Blks.tl HK.out))) hbt (by have := HGgO.out; omega)))))
    replace HB := Lib.hid (hbt.below HB.out (by have := HGgO.out; omega) HB.out.size)
    clear hbt hS hsz
    refine pure_ (i := 6) (N := some 35) (v := ?_) (a' := ?_) #[true, true, true, true, true, true, true, false] rfl rfl (by kernel_rfl) (fun _ _ _ h => h) (Or.inl ⟨by rfl, ?_⟩) ?_ ?_
    rotate_left
    · intro w'; go_simp; with_reducible rfl
    rotate_left
    · simp only [Act.put, List.setIfInBounds_toArray, List.set_cons_zero, List.set_cons_succ, i64_w, i32_w]; rfl
    refine one_ (i := 7) (N := none) #[true, true, true, true, true, true, true, true] rfl rfl (by kernel_rfl) (by decide) (fun K hK => ?_)
    refine store_fldK (by rfl) rfl 25 (.tmp 35) (.tmp 33) rfl (gO) 13 (.agg #[.int .i64 kmr, .bool bmr, .string xmr, .slice Amr nmr cmr, .slice Bmr mmr dmr]) [.int .i64 kmr, .bool bmr, .string xmr, .slice Amr nmr cmr, .slice Bmr mmr dmr] (by rfl) (by rfl) rfl #[.int .i64 3, .int .i64 kmi, .bool bmi, .string xmi, .slice Ami nmi cmi, .slice Bmi mmi dmi, .string ⟨#[]⟩, .bool false, .int .i64 0, .bool false, .string ⟨#[]⟩, .slice none 0 0, .slice none 0 0, .int .i64 kmr, .bool bmr, .string xmr, .slice Amr nmr cmr, .slice Bmr mmr dmr, .int .i64 0, .string ⟨#[]⟩] (Blks.hd HK.out) (by kernel_rfl) (Nat.le_of_ble_eq_true rfl) (by simp [Value.oneCell']) rfl (fun w5 hS hbt hsz => hK.out _ _ (Blks.one (BK.but (Blks.hd hHeld) hbt (by have := HGgO.out; omega))) (fun hHeld' => ?_))
    clear hK K
    clear hHeld
    have hHeld := hHeld'
    clear hHeld'
    replace HVi := Lib.hid (HVi.out.butL hbt (by have := HGgO.out; omega))
    replace HVp := Lib.hid (HVp.out.butL hbt (by have := HGgO.out; omega))
    replace HVr := Lib.hid (HVr.out.butL hbt (by have := HGgO.out; omega))
    replace HK := Lib.hid (Blks.cons hS (Blks.cons (BK.but (Blks.hd (Blks.tl HK.out)) hbt (by have := HGgO.out; omega)) (Blks.one (BK.but (Blks.hd (Blks.tl (Blks.tl HK.out))) hbt (by have := HGgO.out; omega)))))
    replace HB := Lib.hid (hbt.below HB.out (by have := HGgO.out; omega) HB.out.size)
    clear hbt hS hsz
    refine done_ (by kernel_rfl) ?_
    go_wp2_with (first
      | (refine wpList_load_row rfl 46 (.tmp 4) rfl (gO) rfl 46 #[.int .i64 3, .int .i64 kmi, .bool bmi, .string xmi, .slice Ami nmi cmi, .slice Bmi mmi dmi, .string ⟨#[]⟩, .bool false, .int .i64 0, .bool false, .string ⟨#[]⟩, .slice none 0 0, .slice none 0 0, .int .i64 kmr, .bool bmr, .string xmr, .slice Amr nmr cmr, .slice Bmr mmr dmr, .int .i64 0, .string ⟨#[]⟩] (0, 0) _ (Blks.hd HK.out) Tryz.underlying46 rfl (by kernel_rfl) ?_)
      | (refine store_fld rfl rfl 46 (.tmp 2) (.tmp 46) rfl (w.heap.size + 1) 0 (.agg #[.int .i64 3, .int .i64 kmi, .bool bmi, .string xmi, .slice Ami nmi cmi, .slice Bmi mmi dmi, .string ⟨#[]⟩, .bool false, .int .i64 0, .bool false, .string ⟨#[]⟩, .slice none 0 0, .slice none 0 0, .int .i64 kmr, .bool bmr, .string xmr, .slice Amr nmr cmr, .slice Bmr mmr dmr, .int .i64 0, .string ⟨#[]⟩]) [.int .i64 3, .int .i64 kmi, .bool bmi, .string xmi, .slice Ami nmi cmi, .slice Bmi mmi dmi, .string ⟨#[]⟩, .bool false, .int .i64 0, .bool false, .string ⟨#[]⟩, .slice none 0 0, .slice none 0 0, .int .i64 kmr, .bool bmr, .string xmr, .slice Amr nmr cmr, .slice Bmr mmr dmr, .int .i64 0, .string ⟨#[]⟩] rfl rfl rfl #[.int .i64 3, .int .i64 kmi, .bool bmi, .string xmi, .slice Ami nmi cmi, .slice Bmi mmi dmi, .string ⟨#[]⟩, .bool false, .int .i64 0, .bool false, .string ⟨#[]⟩, .slice none 0 0, .slice none 0 0, .int .i64 kmr, .bool bmr, .string xmr, .slice Amr nmr cmr, .slice Bmr mmr dmr, .int .i64 0, .string ⟨#[]⟩] (Blks.hd (Blks.tl HK.out)) (by kernel_rfl) (Nat.le_of_ble_eq_true rfl) (by simp [Value.oneCell']) rfl ?_
         intro w6 hS hbt hsz
         replace HVi := Lib.hid (HVi.out.butL hbt (by have := HGgO.out; omega))
         replace HVp := Lib.hid (HVp.out.butL hbt (by have := HGgO.out; omega))
         replace HVr := Lib.hid (HVr.out.butL hbt (by have := HGgO.out; omega))
         replace HK := Lib.hid (Blks.cons (BK.but (Blks.hd HK.out) hbt (by have := HGgO.out; omega)) (Blks.cons hS (Blks.one (BK.but (Blks.hd (Blks.tl (Blks.tl HK.out))) hbt (by have := HGgO.out; omega)))))
         replace HB := Lib.hid (hbt.below HB.out (by have := HGgO.out; omega) HB.out.size)
         clear hbt hS hsz))
    go_wp2
    exact bodyPost_ret (results_row2 rfl _ _ (w.heap.size + 1) _ #[.int .i64 3, .int .i64 kmi, .bool bmi, .string xmi, .slice Ami nmi cmi, .slice Bmi mmi dmi, .string ⟨#[]⟩, .bool false, .int .i64 0, .bool false, .string ⟨#[]⟩, .slice none 0 0, .slice none 0 0, .int .i64 kmr, .bool bmr, .string xmr, .slice Amr nmr cmr, .slice Bmr mmr dmr, .int .i64 0, .string ⟨#[]⟩] _ rfl _ rfl (Blks.hd (Blks.tl HK.out)) Tryz.underlying46 rfl (by kernel_rfl)) rfl ⟨_, ⟨3, mid, .empty, false, .nul, mre, 0, .empty⟩, rfl, fun _ _ => rfl, ⟨_, _, _, _, _, _, _, _, _, _, _, _, _, _, _, rfl, HVi.out, (nul_VLV _ _), HVr.out⟩, HB.out⟩
  · skip
    rw [show (decide ((1 : Int) ≤ 4) && decide ((4 : Int) ≤ 4)) = true from by decide]
    go_enter Tryz.func178, Tryz.ntmps178
    go_upto_region 1 with (fail)
    have hb : Below w.heap.size w (((w.alloc (.cells #[.int .i64 4, .int .i64 kmi, .bool bmi, .string xmi, .slice Ami nmi cmi, .slice Bmi mmi dmi, .string mme, .bool mha, .int .i64 kmp, .bool bmp, .string xmp, .slice Amp nmp cmp, .slice Bmp mmp dmp, .int .i64 kmr, .bool bmr, .string xmr, .slice Amr nmr cmr, .slice Bmr mmr dmr, .int .i64 mco, .string mte] 46))).alloc (.cells #[.int .i64 0, .int .i64 0, .bool false, .string ⟨#[]⟩, .slice none 0 0, .slice none 0 0, .string ⟨#[]⟩, .bool false, .int .i64 0, .bool false, .string ⟨#[]⟩, .slice none 0 0, .slice none 0 0, .int .i64 0, .bool false, .string ⟨#[]⟩, .slice none 0 0, .slice none 0 0, .int .i64 0, .string ⟨#[]⟩] 46)) := al2_below w _ _
    replace HVi := Lib.hid (HVi.out.up hb)
    replace HVp := Lib.hid (HVp.out.up hb)
    replace HVr := Lib.hid (HVr.out.up hb)
    replace HB := Lib.hid (HB.out.trans (hb.mono HB.out.size))
    have hX0 : BK (((w.alloc (.cells #[.int .i64 4, .int .i64 kmi, .bool bmi, .string xmi, .slice Ami nmi cmi, .slice Bmi mmi dmi, .string mme, .bool mha, .int .i64 kmp, .bool bmp, .string xmp, .slice Amp nmp cmp, .slice Bmp mmp dmp, .int .i64 kmr, .bool bmr, .string xmr, .slice Amr nmr cmr, .slice Bmr mmr dmr, .int .i64 mco, .string mte] 46))).alloc (.cells #[.int .i64 0, .int .i64 0, .bool false, .string ⟨#[]⟩, .slice none 0 0, .slice none 0 0, .string ⟨#[]⟩, .bool false, .int .i64 0, .bool false, .string ⟨#[]⟩, .slice none 0 0, .slice none 0 0, .int .i64 0, .bool false, .string ⟨#[]⟩, .slice none 0 0, .slice none 0 0, .int .i64 0, .string ⟨#[]⟩] 46)) (w.heap.size) 46 #[.int .i64 4, .int .i64 kmi, .bool bmi, .string xmi, .slice Ami nmi cmi, .slice Bmi mmi dmi, .string mme, .bool mha, .int .i64 kmp, .bool bmp, .string xmp, .slice Amp nmp cmp, .slice Bmp mmp dmp, .int .i64 kmr, .bool bmr, .string xmr, .slice Amr nmr cmr, .slice Bmr mmr dmr, .int .i64 mco, .string mte] := al2_0 w _ _
    have HK := Lib.hid (Blks.one hX0)
    have hX1 : BK (((w.alloc (.cells #[.int .i64 4, .int .i64 kmi, .bool bmi, .string xmi, .slice Ami nmi cmi, .slice Bmi mmi dmi, .string mme, .bool mha, .int .i64 kmp, .bool bmp, .string xmp, .slice Amp nmp cmp, .slice Bmp mmp dmp, .int .i64 kmr, .bool bmr, .string xmr, .slice Amr nmr cmr, .slice Bmr mmr dmr, .int .i64 mco, .string mte] 46))).alloc (.cells #[.int .i64 0, .int .i64 0, .bool false, .string ⟨#[]⟩, .slice none 0 0, .slice none 0 0, .string ⟨#[]⟩, .bool false, .int .i64 0, .bool false, .string ⟨#[]⟩, .slice none 0 0, .slice none 0 0, .int .i64 0, .bool false, .string ⟨#[]⟩, .slice none 0 0, .slice none 0 0, .int .i64 0, .string ⟨#[]⟩] 46)) (w.heap.size + 1) 46 #[.int .i64 0, .int .i64 0, .bool false, .string ⟨#[]⟩, .slice none 0 0, .slice none 0 0, .string ⟨#[]⟩, .bool false, .int .i64 0, .bool false, .string ⟨#[]⟩, .slice none 0 0, .slice none 0 0, .int .i64 0, .bool false, .string ⟨#[]⟩, .slice none 0 0, .slice none 0 0, .int .i64 0, .string ⟨#[]⟩] := al2_1 w _ _
    replace HK := Lib.hid (Blks.cons hX1 HK.out)
    clear hb hX0 hX1
    generalize (((w.alloc (.cells #[.int .i64 4, .int .i64 kmi, .bool bmi, .string xmi, .slice Ami nmi cmi, .slice Bmi mmi dmi, .string mme, .bool mha, .int .i64 kmp, .bool bmp, .string xmp, .slice Amp nmp cmp, .slice Bmp mmp dmp, .int .i64 kmr, .bool bmr, .string xmr, .slice Amr nmr cmr, .slice Bmr mmr dmr, .int .i64 mco, .string mte] 46))).alloc (.cells #[.int .i64 0, .int .i64 0, .bool false, .string ⟨#[]⟩, .slice none 0 0, .slice none 0 0, .string ⟨#[]⟩, .bool false, .int .i64 0, .bool false, .string ⟨#[]⟩, .slice none 0 0, .slice none 0 0, .int .i64 0, .bool false, .string ⟨#[]⟩, .slice none 0 0, .slice none 0 0, .int .i64 0, .string ⟨#[]⟩] 46)) = w1 at *
    have hg := Blks.hd (Blks.tl HK.out)
    have y0 := hg.c 0 rfl
    clear hg
    go_wp2_with (first
      | (refine store1 rfl rfl 46 (.tmp 4) (.tmp 7) rfl rfl #[.int .i64 4, .int .i64 0, .bool false, .string ⟨#[]⟩, .slice none 0 0, .slice none 0 0, .string ⟨#[]⟩, .bool false, .int .i64 0, .bool false, .string ⟨#[]⟩, .slice none 0 0, .slice none 0 0, .int .i64 0, .bool false, .string ⟨#[]⟩, .slice none 0 0, .slice none 0 0, .int .i64 0, .string ⟨#[]⟩] rfl (by kernel_rfl) rfl (by simp [Value.oneCell']) ?_
         intro w2 hX hb hz
         have HGgO : Hid (w.heap.size + 1 < w1.heap.size) := Lib.hid (Blks.hd HK.out).lt
         replace HVi := Lib.hid (HVi.out.up hb)
         replace HVp := Lib.hid (HVp.out.up hb)
         replace HVr := Lib.hid (HVr.out.up hb)
         replace HK := Lib.hid (HK.out.on hb)
         replace HB := Lib.hid (HB.out.trans (hb.mono HB.out.size))
         replace HK := Lib.hid (Blks.cons hX HK.out)
         clear hX hb hz
         generalize w1.heap.size = gO at *
         have hg := Blks.hd (Blks.tl (Blks.tl HK.out))
         have z0 := hg.c 0 rfl
         clear hg))
    have hb : Below w2.heap.size w2 w2.drew := (Below.refl _ _).drew
    refine start_ (n := 12) (S := Blks [⟨w.heap.size, 46, #[.int .i64 4, .int .i64 kmi, .bool bmi, .string xmi, .slice Ami nmi cmi, .slice Bmi mmi dmi, .string mme, .bool mha, .int .i64 kmp, .bool bmp, .string xmp, .slice Amp nmp cmp, .slice Bmp mmp dmp, .int .i64 kmr, .bool bmr, .string xmr, .slice Amr nmr cmr, .slice Bmr mmr dmr, .int .i64 mco, .string mte]⟩]) (ds := []) #[false, false, false, false, false, false, false, false, false, false, false, false] (by kernel_rfl) rfl rfl (Blks.on (Blks.one (Blks.hd (Blks.tl (Blks.tl HK.out)))) hb) (fun hHeld => ?_)
    replace HVi := Lib.hid (HVi.out.up hb)
    replace HVp := Lib.hid (HVp.out.up hb)
    replace HVr := Lib.hid (HVr.out.up hb)
    replace HK := Lib.hid (HK.out.on hb)
    replace HB := Lib.hid (HB.out.trans (hb.mono HB.out.size))
    clear hb
    generalize w2.drew = w3 at *
    refine pure_ (i := 0) (N := some 36) (v := ?_) (a' := ?_) #[true, false, false, false, false, false, false, false, false, false, false, false] rfl rfl (by kernel_rfl) (fun _ _ _ h => h) (Or.inl ⟨by rfl, ?_⟩) ?_ ?_
    rotate_left
    · intro w'; go_simp; with_reducible rfl
    rotate_left
    · simp only [Act.put, List.setIfInBounds_toArray, List.set_cons_zero, List.set_cons_succ, i64_w, i32_w]; rfl
    refine take_ (i := 1) (N := some 37) (v := ?_) (a' := ?_) #[true, true, false, false, false, false, false, false, false, false, false, false] rfl rfl (by kernel_rfl) (fun _ _ _ h => h) (Or.inl ⟨by rfl, ?_⟩) hHeld ?_ ?_
    rotate_left
    · intro w' hh; have hg := Blks.hd hh; have t1 := hg.c 1 rfl; have t2 := hg.c 2 rfl; have t3 := hg.c 3 rfl; have t4 := hg.c 4 rfl; have t5 := hg.c 5 rfl; clear hh hg; go_simp; with_reducible rfl
    rotate_left
    · simp only [Act.put, List.setIfInBounds_toArray, List.set_cons_zero, List.set_cons_succ, i64_w, i32_w]; rfl
    refine pure_ (i := 2) (N := some 38) (v := ?_) (a' := ?_) #[true, true, true, false, false, false, false, false, false, false, false, false] rfl rfl (by kernel_rfl) (fun _ _ _ h => h) (Or.inl ⟨by rfl, ?_⟩) ?_ ?_
    rotate_left
    · intro w'; go_simp; with_reducible rfl
    rotate_left
    · simp only [Act.put, List.setIfInBounds_toArray, List.set_cons_zero, List.set_cons_succ, i64_w, i32_w]; rfl
    refine take_ (i := 3) (N := some 39) (v := ?_) (a' := ?_) #[true, true, true, true, false, false, false, false, false, false, false, false] rfl rfl (by kernel_rfl) (fun _ _ _ h => h) (Or.inl ⟨by rfl, ?_⟩) hHeld ?_ ?_
    rotate_left
    · intro w' hh; have hg := Blks.hd hh; have t18 := hg.c 18 rfl; clear hh hg; go_simp; with_reducible rfl
    rotate_left
    · simp only [Act.put, List.setIfInBounds_toArray, List.set_cons_zero, List.set_cons_succ, i64_w, i32_w]; rfl
    refine pure_ (i := 4) (N := some 40) (v := ?_) (a' := ?_) #[true, true, true, true, true, false, false, false, false, false, false, false] rfl rfl (by kernel_rfl) (fun _ _ _ h => h) (Or.inl ⟨by rfl, ?_⟩) ?_ ?_
    rotate_left
    · intro w'; go_simp; with_reducible rfl
    rotate_left
    · simp only [Act.put, List.setIfInBounds_toArray, List.set_cons_zero, List.set_cons_succ, i64_w, i32_w]; rfl
    refine take_ (i := 5) (N := some 41) (v := ?_) (a' := ?_) #[true, true, true, true, true, true, false, false, false, false, false, false] rfl rfl (by kernel_rfl) (fun _ _ _ h => h) (Or.inl ⟨by rfl, ?_⟩) hHeld ?_ ?_
    rotate_left
    · intro w' hh; have hg := Blks.hd hh; have t19 := hg.c 19 rfl; clear hh hg; go_simp; with_reducible rfl
    rotate_left
    · simp only [Act.put, List.setIfInBounds_toArray, List.set_cons_zero, List.set_cons_succ, i64_w, i32_w]; rfl
    refine pure_ (i := 6) (N := some 42) (v := ?_) (a' := ?_) #[true, true, true, true, true, true, true, false, false, false, false, false] rfl rfl (by kernel_rfl) (fun _ _ _ h => h) (Or.inl ⟨by rfl, ?_⟩) ?_ ?_
    rotate_left
    · intro w'; go_simp; with_reducible rfl
    rotate_left
    · simp only [Act.put, List.setIfInBounds_toArray, List.set_cons_zero, List.set_cons_succ, i64_w, i32_w]; rfl
    refine one_ (i := 7) (N := none) #[true, true, true, true, true, true, true, true, false, false, false, false] rfl rfl (by kernel_rfl) (by decide) (fun K hK => ?_)
    refine store_fldK (by rfl) rfl 25 (.tmp 42) (.tmp 37) rfl (gO) 1 (.agg #[.int .i64 kmi, .bool bmi, .string xmi, .slice Ami nmi cmi, .slice Bmi mmi dmi]) [.int .i64 kmi, .bool bmi, .string xmi, .slice Ami nmi cmi, .slice Bmi mmi dmi] (by rfl) (by rfl) rfl #[.int .i64 4, .int .i64 kmi, .bool bmi, .string xmi, .slice Ami nmi cmi, .slice Bmi mmi dmi, .string ⟨#[]⟩, .bool false, .int .i64 0, .bool false, .string ⟨#[]⟩, .slice none 0 0, .slice none 0 0, .int .i64 0, .bool false, .string ⟨#[]⟩, .slice none 0 0, .slice none 0 0, .int .i64 0, .string ⟨#[]⟩] (Blks.hd HK.out) (by kernel_rfl) (Nat.le_of_ble_eq_true rfl) (by simp [Value.oneCell']) rfl (fun w4 hS hbt hsz => hK.out _ _ (Blks.one (BK.but (Blks.hd hHeld) hbt (by have := HGgO.out; omega))) (fun hHeld' => ?_))
    clear hK K
    clear hHeld
    have hHeld := hHeld'
    clear hHeld'
    replace HVi := Lib.hid (HVi.out.butL hbt (by have := HGgO.out; omega))
    replace HVp := Lib.hid (HVp.out.butL hbt (by have := HGgO.out; omega))
    replace HVr := Lib.hid (HVr.out.butL hbt (by have := HGgO.out; omega))
    replace HK := Lib.hid (Blks.cons hS (Blks.cons (BK.but (Blks.hd (Blks.tl HK.out)) hbt (by have := HGgO.out; omega)) (Blks.one (BK.but (Blks.hd (Blks.tl (Blks.tl HK.out))) hbt (by have := HGgO.out; omega)))))
    replace HB := Lib.hid (hbt.below HB.out (by have := HGgO.out; omega) HB.out.size)
    clear hbt hS hsz
    refine pure_ (i := 8) (N := some 43) (v := ?_) (a' := ?_) #[true, true, true, true, true, true, true, true, true, false, false, false] rfl rfl (by kernel_rfl) (fun _ _ _ h => h) (Or.inl ⟨by rfl, ?_⟩) ?_ ?_
    rotate_left
    · intro w'; go_simp; with_reducible rfl
    rotate_left
    · simp only [Act.put, List.setIfInBounds_toArray, List.set_cons_zero, List.set_cons_succ, i64_w, i32_w]; rfl
    refine one_ (i := 9) (N := none) #[true, true, true, true, true, true, true, true, true, true, false, false] rfl rfl (by kernel_rfl) (by decide) (fun K hK => ?_)
    refine store_fldK (by rfl) rfl 3 (.tmp 43) (.tmp 39) rfl (gO) 18 (.int .i64 mco) [.int .i64 mco] (by rfl) (by rfl) rfl #[.int .i64 4, .int .i64 kmi, .bool bmi, .string xmi, .slice Ami nmi cmi, .slice Bmi mmi dmi, .string ⟨#[]⟩, .bool false, .int .i64 0, .bool false, .string ⟨#[]⟩, .slice none 0 0, .slice none 0 0, .int .i64 0, .bool false, .string ⟨#[]⟩, .slice none 0 0, .slice none 0 0, .int .i64 mco, .string ⟨#[]⟩] (Blks.hd HK.out) (by kernel_rfl) (Nat.le_of_ble_eq_true rfl) (by simp [Value.oneCell']) rfl (fun w5 hS hbt hsz => hK.out _ _ (Blks.one (BK.but (Blks.hd hHeld) hbt (by have := HGgO.out; omega))) (fun hHeld' => ?_))
    clear hK K
    clear hHeld
    have hHeld := hHeld'
    clear hHeld'
    replace HVi := Lib.hid (HVi.out.butL hbt (by have := HGgO.out; omega))
    replace HVp := Lib.hid (HVp.out.butL hbt (by have := HGgO.out; omega))
    replace HVr := Lib.hid (HVr.out.butL hbt (by have := HGgO.out; omega))
    replace HK := Lib.hid (Blks.cons hS (Blks.cons (BK.but (Blks.hd (Blks.tl HK.out)) hbt (by have := HGgO.out; omega)) (Blks.one (BK.but (Blks.hd (Blks.tl (Blks.tl HK.out))) hbt (by have := HGgO.out; omega)))))
    replace HB := Lib.hid (hbt.below HB.out (by have := HGgO.out; omega) HB.out.size)
    clear hbt hS hsz
    refine pure_ (i := 10) (N := some 44) (v := ?_) (a' := ?_) #[true, true, true, true, true, true, true, true, true, true, true, false] rfl rfl (by kernel_rfl) (fun _ _ _ h => h) (Or.inl ⟨by rfl, ?_⟩) ?_ ?_
    rotate_left
    · intro w'; go_simp; with_reducible rfl
    rotate_left
    · simp only [Act.put, List.setIfInBounds_toArray, List.set_cons_zero, List.set_cons_succ, i64_w, i32_w]; rfl
    refine one_ (i := 11) (N := none) #[true, true, true, true, true, true, true, true, true, true, true, true] rfl rfl (by kernel_rfl) (by decide) (fun K hK => ?_)
    refine store_fldK (by rfl) rfl 9 (.tmp 44) (.tmp 41) rfl (gO) 19 (.string mte) [.string mte] (by rfl) (by rfl) rfl #[.int .i64 4, .int .i64 kmi, .bool bmi, .string xmi, .slice Ami nmi cmi, .slice Bmi mmi dmi, .string ⟨#[]⟩, .bool false, .int .i64 0, .bool false, .string ⟨#[]⟩, .slice none 0 0, .slice none 0 0, .int .i64 0, .bool false, .string ⟨#[]⟩, .slice none 0 0, .slice none 0 0, .int .i64 mco, .string mte] (Blks.hd HK.out) (by kernel_rfl) (Nat.le_of_ble_eq_true rfl) (by simp [Value.oneCell']) rfl (fun w6 hS hbt hsz => hK.out _ _ (Blks.one (BK.but (Blks.hd hHeld) hbt (by have := HGgO.out; omega))) (fun hHeld' => ?_))
    clear hK K
    clear hHeld
    have hHeld := hHeld'
    clear hHeld'
    replace HVi := Lib.hid (HVi.out.butL hbt (by have := HGgO.out; omega))
    replace HVp := Lib.hid (HVp.out.butL hbt (by have := HGgO.out; omega))
    replace HVr := Lib.hid (HVr.out.butL hbt (by have := HGgO.out; omega))
    replace HK := Lib.hid (Blks.cons hS (Blks.cons (BK.but (Blks.hd (Blks.tl HK.out)) hbt (by have := HGgO.out; omega)) (Blks.one (BK.but (Blks.hd (Blks.tl (Blks.tl HK.out))) hbt (by have := HGgO.out; omega)))))
    replace HB := Lib.hid (hbt.below HB.out (by have := HGgO.out; omega) HB.out.size)
    clear hbt hS hsz
    refine done_ (by kernel_rfl) ?_
    go_wp2_with (first
      | (refine wpList_load_row rfl 46 (.tmp 4) rfl (gO) rfl 46 #[.int .i64 4, .int .i64 kmi, .bool bmi, .string xmi, .slice Ami nmi cmi, .slice Bmi mmi dmi, .string ⟨#[]⟩, .bool false, .int .i64 0, .bool false, .string ⟨#[]⟩, .slice none 0 0, .slice none 0 0, .int .i64 0, .bool false, .string ⟨#[]⟩, .slice none 0 0, .slice none 0 0, .int .i64 mco, .string mte] (0, 0) _ (Blks.hd HK.out) Tryz.underlying46 rfl (by kernel_rfl) ?_)
      | (refine store_fld rfl rfl 46 (.tmp 2) (.tmp 46) rfl (w.heap.size + 1) 0 (.agg #[.int .i64 4, .int .i64 kmi, .bool bmi, .string xmi, .slice Ami nmi cmi, .slice Bmi mmi dmi, .string ⟨#[]⟩, .bool false, .int .i64 0, .bool false, .string ⟨#[]⟩, .slice none 0 0, .slice none 0 0, .int .i64 0, .bool false, .string ⟨#[]⟩, .slice none 0 0, .slice none 0 0, .int .i64 mco, .string mte]) [.int .i64 4, .int .i64 kmi, .bool bmi, .string xmi, .slice Ami nmi cmi, .slice Bmi mmi dmi, .string ⟨#[]⟩, .bool false, .int .i64 0, .bool false, .string ⟨#[]⟩, .slice none 0 0, .slice none 0 0, .int .i64 0, .bool false, .string ⟨#[]⟩, .slice none 0 0, .slice none 0 0, .int .i64 mco, .string mte] rfl rfl rfl #[.int .i64 4, .int .i64 kmi, .bool bmi, .string xmi, .slice Ami nmi cmi, .slice Bmi mmi dmi, .string ⟨#[]⟩, .bool false, .int .i64 0, .bool false, .string ⟨#[]⟩, .slice none 0 0, .slice none 0 0, .int .i64 0, .bool false, .string ⟨#[]⟩, .slice none 0 0, .slice none 0 0, .int .i64 mco, .string mte] (Blks.hd (Blks.tl HK.out)) (by kernel_rfl) (Nat.le_of_ble_eq_true rfl) (by simp [Value.oneCell']) rfl ?_
         intro w7 hS hbt hsz
         replace HVi := Lib.hid (HVi.out.butL hbt (by have := HGgO.out; omega))
         replace HVp := Lib.hid (HVp.out.butL hbt (by have := HGgO.out; omega))
         replace HVr := Lib.hid (HVr.out.butL hbt (by have := HGgO.out; omega))
         replace HK := Lib.hid (Blks.cons (BK.but (Blks.hd HK.out) hbt (by have := HGgO.out; omega)) (Blks.cons hS (Blks.one (BK.but (Blks.hd (Blks.tl (Blks.tl HK.out))) hbt (by have := HGgO.out; omega)))))
         replace HB := Lib.hid (hbt.below HB.out (by have := HGgO.out; omega) HB.out.size)
         clear hbt hS hsz))
    go_wp2
    exact bodyPost_ret (results_row2 rfl _ _ (w.heap.size + 1) _ #[.int .i64 4, .int .i64 kmi, .bool bmi, .string xmi, .slice Ami nmi cmi, .slice Bmi mmi dmi, .string ⟨#[]⟩, .bool false, .int .i64 0, .bool false, .string ⟨#[]⟩, .slice none 0 0, .slice none 0 0, .int .i64 0, .bool false, .string ⟨#[]⟩, .slice none 0 0, .slice none 0 0, .int .i64 mco, .string mte] _ rfl _ rfl (Blks.hd (Blks.tl HK.out)) Tryz.underlying46 rfl (by kernel_rfl)) rfl ⟨_, ⟨4, mid, .empty, false, .nul, .nul, mco, mte⟩, rfl, fun _ _ => rfl, ⟨_, _, _, _, _, _, _, _, _, _, _, _, _, _, _, rfl, HVi.out, (nul_VLV _ _), (nul_VLV _ _)⟩, HB.out⟩
  · skip
    have e1 := beq_f n1
    have e2 := beq_f n2
    have e3 := beq_f n3
    have e4 := beq_f n4
    have HE : Hid ((decide (1 ≤ mk) && decide (mk ≤ 4)) = false) := Lib.hid (by simp; omega)
    rw [HE.out]
    clear n1 n2 n3 n4
    go_enter Tryz.func178, Tryz.ntmps178
    go_upto_region 1 with (fail)
    have hb : Below w.heap.size w (((w.alloc (.cells #[.int .i64 mk, .int .i64 kmi, .bool bmi, .string xmi, .slice Ami nmi cmi, .slice Bmi mmi dmi, .string mme, .bool mha, .int .i64 kmp, .bool bmp, .string xmp, .slice Amp nmp cmp, .slice Bmp mmp dmp, .int .i64 kmr, .bool bmr, .string xmr, .slice Amr nmr cmr, .slice Bmr mmr dmr, .int .i64 mco, .string mte] 46))).alloc (.cells #[.int .i64 0, .int .i64 0, .bool false, .string ⟨#[]⟩, .slice none 0 0, .slice none 0 0, .string ⟨#[]⟩, .bool false, .int .i64 0, .bool false, .string ⟨#[]⟩, .slice none 0 0, .slice none 0 0, .int .i64 0, .bool false, .string ⟨#[]⟩, .slice none 0 0, .slice none 0 0, .int .i64 0, .string ⟨#[]⟩] 46)) := al2_below w _ _
    replace HVi := Lib.hid (HVi.out.up hb)
    replace HVp := Lib.hid (HVp.out.up hb)
    replace HVr := Lib.hid (HVr.out.up hb)
    replace HB := Lib.hid (HB.out.trans (hb.mono HB.out.size))
    have hX0 : BK (((w.alloc (.cells #[.int .i64 mk, .int .i64 kmi, .bool bmi, .string xmi, .slice Ami nmi cmi, .slice Bmi mmi dmi, .string mme, .bool mha, .int .i64 kmp, .bool bmp, .string xmp, .slice Amp nmp cmp, .slice Bmp mmp dmp, .int .i64 kmr, .bool bmr, .string xmr, .slice Amr nmr cmr, .slice Bmr mmr dmr, .int .i64 mco, .string mte] 46))).alloc (.cells #[.int .i64 0, .int .i64 0, .bool false, .string ⟨#[]⟩, .slice none 0 0, .slice none 0 0, .string ⟨#[]⟩, .bool false, .int .i64 0, .bool false, .string ⟨#[]⟩, .slice none 0 0, .slice none 0 0, .int .i64 0, .bool false, .string ⟨#[]⟩, .slice none 0 0, .slice none 0 0, .int .i64 0, .string ⟨#[]⟩] 46)) (w.heap.size) 46 #[.int .i64 mk, .int .i64 kmi, .bool bmi, .string xmi, .slice Ami nmi cmi, .slice Bmi mmi dmi, .string mme, .bool mha, .int .i64 kmp, .bool bmp, .string xmp, .slice Amp nmp cmp, .slice Bmp mmp dmp, .int .i64 kmr, .bool bmr, .string xmr, .slice Amr nmr cmr, .slice Bmr mmr dmr, .int .i64 mco, .string mte] := al2_0 w _ _
    have HK := Lib.hid (Blks.one hX0)
    have hX1 : BK (((w.alloc (.cells #[.int .i64 mk, .int .i64 kmi, .bool bmi, .string xmi, .slice Ami nmi cmi, .slice Bmi mmi dmi, .string mme, .bool mha, .int .i64 kmp, .bool bmp, .string xmp, .slice Amp nmp cmp, .slice Bmp mmp dmp, .int .i64 kmr, .bool bmr, .string xmr, .slice Amr nmr cmr, .slice Bmr mmr dmr, .int .i64 mco, .string mte] 46))).alloc (.cells #[.int .i64 0, .int .i64 0, .bool false, .string ⟨#[]⟩, .slice none 0 0, .slice none 0 0, .string ⟨#[]⟩, .bool false, .int .i64 0, .bool false, .string ⟨#[]⟩, .slice none 0 0, .slice none 0 0, .int .i64 0, .bool false, .string ⟨#[]⟩, .slice none 0 0, .slice none 0 0, .int .i64 0, .string ⟨#[]⟩] 46)) (w.heap.size + 1) 46 #[.int .i64 0, .int .i64 0, .bool false, .string ⟨#[]⟩, .slice none 0 0, .slice none 0 0, .string ⟨#[]⟩, .bool false, .int .i64 0, .bool false, .string ⟨#[]⟩, .slice none 0 0, .slice none 0 0, .int .i64 0, .bool false, .string ⟨#[]⟩, .slice none 0 0, .slice none 0 0, .int .i64 0, .string ⟨#[]⟩] := al2_1 w _ _
    replace HK := Lib.hid (Blks.cons hX1 HK.out)
    clear hb hX0 hX1
    generalize (((w.alloc (.cells #[.int .i64 mk, .int .i64 kmi, .bool bmi, .string xmi, .slice Ami nmi cmi, .slice Bmi mmi dmi, .string mme, .bool mha, .int .i64 kmp, .bool bmp, .string xmp, .slice Amp nmp cmp, .slice Bmp mmp dmp, .int .i64 kmr, .bool bmr, .string xmr, .slice Amr nmr cmr, .slice Bmr mmr dmr, .int .i64 mco, .string mte] 46))).alloc (.cells #[.int .i64 0, .int .i64 0, .bool false, .string ⟨#[]⟩, .slice none 0 0, .slice none 0 0, .string ⟨#[]⟩, .bool false, .int .i64 0, .bool false, .string ⟨#[]⟩, .slice none 0 0, .slice none 0 0, .int .i64 0, .bool false, .string ⟨#[]⟩, .slice none 0 0, .slice none 0 0, .int .i64 0, .string ⟨#[]⟩] 46)) = w1 at *
    have hg := Blks.hd (Blks.tl HK.out)
    have y0 := hg.c 0 rfl
    clear hg
    go_wp2_with (first
      | (refine store1 rfl rfl 46 (.tmp 4) (.tmp 7) rfl rfl #[.int .i64 mk, .int .i64 0, .bool false, .string ⟨#[]⟩, .slice none 0 0, .slice none 0 0, .string ⟨#[]⟩, .bool false, .int .i64 0, .bool false, .string ⟨#[]⟩, .slice none 0 0, .slice none 0 0, .int .i64 0, .bool false, .string ⟨#[]⟩, .slice none 0 0, .slice none 0 0, .int .i64 0, .string ⟨#[]⟩] rfl (by kernel_rfl) rfl (by simp [Value.oneCell']) ?_
         intro w2 hX hb hz
         have HGgO : Hid (w.heap.size + 1 < w1.heap.size) := Lib.hid (Blks.hd HK.out).lt
         replace HVi := Lib.hid (HVi.out.up hb)
         replace HVp := Lib.hid (HVp.out.up hb)
         replace HVr := Lib.hid (HVr.out.up hb)
         replace HK := Lib.hid (HK.out.on hb)
         replace HB := Lib.hid (HB.out.trans (hb.mono HB.out.size))
         replace HK := Lib.hid (Blks.cons hX HK.out)
         clear hX hb hz
         generalize w1.heap.size = gO at *
         have hg := Blks.hd (Blks.tl (Blks.tl HK.out))
         have z0 := hg.c 0 rfl
         clear hg)
      | (refine wpList_load_row rfl 46 (.tmp 4) rfl (gO) rfl 46 #[.int .i64 mk, .int .i64 0, .bool false, .string ⟨#[]⟩, .slice none 0 0, .slice none 0 0, .string ⟨#[]⟩, .bool false, .int .i64 0, .bool false, .string ⟨#[]⟩, .slice none 0 0, .slice none 0 0, .int .i64 0, .bool false, .string ⟨#[]⟩, .slice none 0 0, .slice none 0 0, .int .i64 0, .string ⟨#[]⟩] (0, 0) _ (Blks.hd HK.out) Tryz.underlying46 rfl (by kernel_rfl) ?_)
      | (refine store_fld rfl rfl 46 (.tmp 2) (.tmp 45) rfl (w.heap.size + 1) 0 (.agg #[.int .i64 mk, .int .i64 0, .bool false, .string ⟨#[]⟩, .slice none 0 0, .slice none 0 0, .string ⟨#[]⟩, .bool false, .int .i64 0, .bool false, .string ⟨#[]⟩, .slice none 0 0, .slice none 0 0, .int .i64 0, .bool false, .string ⟨#[]⟩, .slice none 0 0, .slice none 0 0, .int .i64 0, .string ⟨#[]⟩]) [.int .i64 mk, .int .i64 0, .bool false, .string ⟨#[]⟩, .slice none 0 0, .slice none 0 0, .string ⟨#[]⟩, .bool false, .int .i64 0, .bool false, .string ⟨#[]⟩, .slice none 0 0, .slice none 0 0, .int .i64 0, .bool false, .string ⟨#[]⟩, .slice none 0 0, .slice none 0 0, .int .i64 0, .string ⟨#[]⟩] rfl rfl rfl #[.int .i64 mk, .int .i64 0, .bool false, .string ⟨#[]⟩, .slice none 0 0, .slice none 0 0, .string ⟨#[]⟩, .bool false, .int .i64 0, .bool false, .string ⟨#[]⟩, .slice none 0 0, .slice none 0 0, .int .i64 0, .bool false, .string ⟨#[]⟩, .slice none 0 0, .slice none 0 0, .int .i64 0, .string ⟨#[]⟩] (Blks.hd (Blks.tl HK.out)) (by kernel_rfl) (Nat.le_of_ble_eq_true rfl) (by simp [Value.oneCell']) rfl ?_
         intro w3 hS hbt hsz
         replace HVi := Lib.hid (HVi.out.butL hbt (by have := HGgO.out; omega))
         replace HVp := Lib.hid (HVp.out.butL hbt (by have := HGgO.out; omega))
         replace HVr := Lib.hid (HVr.out.butL hbt (by have := HGgO.out; omega))
         replace HK := Lib.hid (Blks.cons (BK.but (Blks.hd HK.out) hbt (by have := HGgO.out; omega)) (Blks.cons hS (Blks.one (BK.but (Blks.hd (Blks.tl (Blks.tl HK.out))) hbt (by have := HGgO.out; omega)))))
         replace HB := Lib.hid (hbt.below HB.out (by have := HGgO.out; omega) HB.out.size)
         clear hbt hS hsz))
    go_wp2
    exact bodyPost_ret (results_row2 rfl _ _ (w.heap.size + 1) _ #[.int .i64 mk, .int .i64 0, .bool false, .string ⟨#[]⟩, .slice none 0 0, .slice none 0 0, .string ⟨#[]⟩, .bool false, .int .i64 0, .bool false, .string ⟨#[]⟩, .slice none 0 0, .slice none 0 0, .int .i64 0, .bool false, .string ⟨#[]⟩, .slice none 0 0, .slice none 0 0, .int .i64 0, .string ⟨#[]⟩] _ rfl _ rfl (Blks.hd (Blks.tl HK.out)) Tryz.underlying46 rfl (by kernel_rfl)) rfl ⟨_, ⟨mk, .nul, .empty, false, .nul, .nul, 0, .empty⟩, rfl, fun h1 h2 => absurd HE.out (by simp [h1, h2]), ⟨_, _, _, _, _, _, _, _, _, _, _, _, _, _, _, rfl, (nul_VLV _ _), (nul_VLV _ _), (nul_VLV _ _)⟩, HB.out⟩
set_option maxRecDepth 100000 in
set_option maxHeartbeats 8000000 in
theorem mayBe_any (m : MT) (z : Zone) (v : Value) (w : World) (h : MSV z m w v) (hM : ML w) (hk : m.bulk ≤ 1073741000) : Calls Tryz.prog 123 #[v] w (Made (.bool (MTmay m)) w) := by
  have hq0 := h
  have HOW := Lib.hid (fun W z v (hv : MSV z m W v) => own_any m z v W hv)
  have hob : (MTown m).bulk ≤ 1073741824 := by
    have h0 := VT.nul_bulk10
    have he : ByteArray.empty.size = 0 := rfl
    unfold MTown MT.bulk
    unfold MT.bulk at hk
    split
    · dsimp only; omega
    split
    · dsimp only; omega
    split <;> (dsimp only; omega)
  have HSM := Lib.hid (fun W z z' v v' (hv : MSV z (MTown m) W v) (hv' : MSV z' m W v') => sameM_any (MTown m) m z z' v v' W hv hv' hob (by omega))
  have HME : Hid (MTmay m = (decide (1 ≤ m.kind) && decide (m.kind ≤ 4) && (MTown m).eqv m && MTids m && MTlists m && decide (-9007199254740991 ≤ m.code) && decide (m.code ≤ 9007199254740991))) := Lib.hid rfl
  have HT := Lib.hid (fun W z v (hv : VLV z m.id W v) (hM : ML W) => isId_any m.id z v W hv hM (by unfold MT.bulk at hk; omega))
  have HN := Lib.hid (fun W z v (hv : VLV z m.id W v) => isNull_any m.id z v W hv (by unfold MT.bulk at hk; omega))
  have HL := Lib.hid (fun W z v (hv : VLV z m.params W v) => isList_any m.params z v W hv)
  have HP := Lib.hid (fun W z v (hv : VLV z m.params W v) => isNull_any m.params z v W hv (by unfold MT.bulk at hk; omega))
  have HOM : Hid (∀ m', (1 ≤ m.kind → m.kind ≤ 4 → m' = MTown m) → 1 ≤ m.kind ∧ m.kind ≤ 4 → m' = MTown m) := Lib.hid (fun m' h1 h2 => h1 h2.1 h2.2)
  unfold MTids MTlists at HME
  unfold OwnM at HOW
  generalize (MTown m).eqv m = qs at *
  generalize MTown m = mO at *
  generalize m.id.isId = qi at *
  generalize m.id.isNull = qn at *
  generalize m.params.isList = ql at *
  generalize m.params.isNull = qz at *
  generalize MTmay m = R at *
  have HMS : Hid (MSV (zLt w.heap.size) m w v) := Lib.hid (by
    obtain ⟨i0, i1, i2, i3, i4, p0, p1, p2, p3, p4, r0, r1, r2, r3, r4, e, h1, h2, h3⟩ := h
    exact ⟨i0, i1, i2, i3, i4, p0, p1, p2, p3, p4, r0, r1, r2, r3, r4, e, h1.old, h2.old, h3.old⟩)
  clear hq0 hob hk
  obtain ⟨mk, mid, mme, mha, mpa, mre, mco, mte⟩ := m
  obtain ⟨im0, im1, im2, im3, im4, pm0, pm1, pm2, pm3, pm4, rm0, rm1, rm2, rm3, rm4, rfl, q1, q2, q3⟩ := h
  dsimp only at q1 q2 q3
  obtain ⟨kmi, bmi, xmi, Ami, nmi, cmi, Bmi, mmi, dmi, rfl, rfl, rfl, rfl, rfl⟩ := VAL.shape5 q1
  obtain ⟨kmp, bmp, xmp, Amp, nmp, cmp, Bmp, mmp, dmp, rfl, rfl, rfl, rfl, rfl⟩ := VAL.shape5 q2
  obtain ⟨kmr, bmr, xmr, Amr, nmr, cmr, Bmr, mmr, dmr, rfl, rfl, rfl, rfl, rfl⟩ := VAL.shape5 q3
  have HVi := Lib.hid q1.old
  have HVp := Lib.hid q2.old
  have HVr := Lib.hid q3.old
  clear q1 q2 q3
  dsimp only
  dsimp only at HME HT HN HL HP HOW HSM HMS HOM
  have HM := Lib.hid hM
  have HB := Lib.hid (Below.refl w.heap.size w)
  clear hM
  obtain ⟨c1, hc1⟩ : ∃ b, decide (-9007199254740991 ≤ mco) = b := ⟨_, rfl⟩
  obtain ⟨c2, hc2⟩ : ∃ b, decide (mco ≤ 9007199254740991) = b := ⟨_, rfl⟩
  rw [hc1, hc2] at HME
  go_enter Tryz.func123, Tryz.ntmps123
  go_upto_region 1 with (fail)
  have hb : Below w.heap.size w (w.alloc (.cells #[.int .i64 mk, .int .i64 kmi, .bool bmi, .string xmi, .slice Ami nmi cmi, .slice Bmi mmi dmi, .string mme, .bool mha, .int .i64 kmp, .bool bmp, .string xmp, .slice Amp nmp cmp, .slice Bmp mmp dmp, .int .i64 kmr, .bool bmr, .string xmr, .slice Amr nmr cmr, .slice Bmr mmr dmr, .int .i64 mco, .string mte] 46)) := made_end' w _
  replace HVi := Lib.hid (HVi.out.up hb)
  replace HVp := Lib.hid (HVp.out.up hb)
  replace HVr := Lib.hid (HVr.out.up hb)
  replace HM := Lib.hid (HM.out.on hb)
  replace HMS := Lib.hid (HMS.out.up hb)
  replace HB := Lib.hid (HB.out.trans (hb.mono HB.out.size))
  have hX0 : BK (w.alloc (.cells #[.int .i64 mk, .int .i64 kmi, .bool bmi, .string xmi, .slice Ami nmi cmi, .slice Bmi mmi dmi, .string mme, .bool mha, .int .i64 kmp, .bool bmp, .string xmp, .slice Amp nmp cmp, .slice Bmp mmp dmp, .int .i64 kmr, .bool bmr, .string xmr, .slice Amr nmr cmr, .slice Bmr mmr dmr, .int .i64 mco, .string mte] 46)) (w.heap.size) 46 #[.int .i64 mk, .int .i64 kmi, .bool bmi, .string xmi, .slice Ami nmi cmi, .slice Bmi mmi dmi, .string mme, .bool mha, .int .i64 kmp, .bool bmp, .string xmp, .slice Amp nmp cmp, .slice Bmp mmp dmp, .int .i64 kmr, .bool bmr, .string xmr, .slice Amr nmr cmr, .slice Bmr mmr dmr, .int .i64 mco, .string mte] := BK.new w _ _
  have HK := Lib.hid (Blks.one hX0)
  clear hb hX0
  generalize (w.alloc (.cells #[.int .i64 mk, .int .i64 kmi, .bool bmi, .string xmi, .slice Ami nmi cmi, .slice Bmi mmi dmi, .string mme, .bool mha, .int .i64 kmp, .bool bmp, .string xmp, .slice Amp nmp cmp, .slice Bmp mmp dmp, .int .i64 kmr, .bool bmr, .string xmr, .slice Amr nmr cmr, .slice Bmr mmr dmr, .int .i64 mco, .string mte] 46)) = w1 at *
  go_wp2_with ((refine wpList_load_row rfl 46 (.tmp 1) rfl (w.heap.size) rfl 46 #[.int .i64 mk, .int .i64 kmi, .bool bmi, .string xmi, .slice Ami nmi cmi, .slice Bmi mmi dmi, .string mme, .bool mha, .int .i64 kmp, .bool bmp, .string xmp, .slice Amp nmp cmp, .slice Bmp mmp dmp, .int .i64 kmr, .bool bmr, .string xmr, .slice Amr nmr cmr, .slice Bmr mmr dmr, .int .i64 mco, .string mte] (0, 0) _ (Blks.hd HK.out) Tryz.underlying46 rfl (by kernel_rfl) ?_))
  refine (HOW.out w1 _ _ HMS.out).mono ?_
  rintro e w2 ⟨v', m', rfl, hm1, hm2, hb⟩
  replace HVi := Lib.hid (HVi.out.up hb)
  replace HVp := Lib.hid (HVp.out.up hb)
  replace HVr := Lib.hid (HVr.out.up hb)
  replace HM := Lib.hid (HM.out.on hb)
  replace HMS := Lib.hid (HMS.out.up hb)
  replace HK := Lib.hid (HK.out.on hb)
  replace HB := Lib.hid (HB.out.trans (hb.mono HB.out.size))
  have HMO := Lib.hid hm2
  clear hb hm2
  obtain ⟨ok, hok⟩ : ∃ b, (decide (1 ≤ mk) && decide (mk ≤ 4)) = b := ⟨_, rfl⟩
  rw [hok] at HME ⊢
  have HOK := Lib.hid hok
  have HM1 := Lib.hid hm1
  clear hok hm1
  obtain ⟨iX0, iX1, iX2, iX3, iX4, pX0, pX1, pX2, pX3, pX4, rX0, rX1, rX2, rX3, rX4, he, x1, x2, x3⟩ := id HMO.out
  subst he
  obtain ⟨kXi, bXi, xXi, AXi, nXi, cXi, BXi, mXi, dXi, rfl, rfl, rfl, rfl, rfl⟩ := VAL.shape5 x1
  obtain ⟨kXp, bXp, xXp, AXp, nXp, cXp, BXp, mXp, dXp, rfl, rfl, rfl, rfl, rfl⟩ := VAL.shape5 x2
  obtain ⟨kXr, bXr, xXr, AXr, nXr, cXr, BXr, mXr, dXr, rfl, rfl, rfl, rfl, rfl⟩ := VAL.shape5 x3
  clear x1 x2 x3
  cases ok
  · skip
    have HF : Hid (R = false) := Lib.hid (by rw [HME.out]; simp)
    go_wp2_with (first
      | (refine store1 rfl rfl 46 (.tmp 3) (.tmp 10) rfl rfl #[.int .i64 m'.kind, .int .i64 kXi, .bool bXi, .string xXi, .slice AXi nXi cXi, .slice BXi mXi dXi, .string m'.method, .bool m'.has, .int .i64 kXp, .bool bXp, .string xXp, .slice AXp nXp cXp, .slice BXp mXp dXp, .int .i64 kXr, .bool bXr, .string xXr, .slice AXr nXr cXr, .slice BXr mXr dXr, .int .i64 m'.code, .string m'.text] rfl (by kernel_rfl) rfl (by simp [Value.oneCell']) ?_
         intro w3 hX hb hz
         have HGgO : Hid (w.heap.size < w2.heap.size) := Lib.hid (Blks.hd HK.out).lt
         replace HVi := Lib.hid (HVi.out.up hb)
         replace HVp := Lib.hid (HVp.out.up hb)
         replace HVr := Lib.hid (HVr.out.up hb)
         replace HM := Lib.hid (HM.out.on hb)
         replace HMS := Lib.hid (HMS.out.up hb)
         replace HMO := Lib.hid (HMO.out.up hb)
         replace HK := Lib.hid (HK.out.on hb)
         replace HB := Lib.hid (HB.out.trans (hb.mono HB.out.size))
         replace HK := Lib.hid (Blks.cons hX HK.out)
         clear hX hb hz
         generalize w2.heap.size = gO at *))
    go_ret
    exact ⟨ret_bool' HF.out.symm, HB.out⟩
  have hmo := HOM.out _ HM1.out (by have := HOK.out; simpa using this)
  subst hmo
  clear HOM HM1
  go_wp2_with (first
    | (refine store1 rfl rfl 46 (.tmp 3) (.tmp 10) rfl rfl #[.int .i64 m'.kind, .int .i64 kXi, .bool bXi, .string xXi, .slice AXi nXi cXi, .slice BXi mXi dXi, .string m'.method, .bool m'.has, .int .i64 kXp, .bool bXp, .string xXp, .slice AXp nXp cXp, .slice BXp mXp dXp, .int .i64 kXr, .bool bXr, .string xXr, .slice AXr nXr cXr, .slice BXr mXr dXr, .int .i64 m'.code, .string m'.text] rfl (by kernel_rfl) rfl (by simp [Value.oneCell']) ?_
       intro w3 hX hb hz
       have HGgO : Hid (w.heap.size < w2.heap.size) := Lib.hid (Blks.hd HK.out).lt
       replace HVi := Lib.hid (HVi.out.up hb)
       replace HVp := Lib.hid (HVp.out.up hb)
       replace HVr := Lib.hid (HVr.out.up hb)
       replace HM := Lib.hid (HM.out.on hb)
       replace HMS := Lib.hid (HMS.out.up hb)
       replace HMO := Lib.hid (HMO.out.up hb)
       replace HK := Lib.hid (HK.out.on hb)
       replace HB := Lib.hid (HB.out.trans (hb.mono HB.out.size))
       replace HK := Lib.hid (Blks.cons hX HK.out)
       clear hX hb hz
       generalize w2.heap.size = gO at *)
    | (refine load_blk (by rfl) 46 (.tmp 3) rfl gO rfl (Blks.hd HK.out) _ Tryz.underlying46 rfl (by kernel_rfl) ?_)
    | (refine load_blk (by rfl) 46 (.tmp 1) rfl w.heap.size rfl (Blks.hd (Blks.tl HK.out)) _ Tryz.underlying46 rfl (by kernel_rfl) ?_))
  refine (HSM.out w3 _ _ _ _ HMO.out HMS.out).mono ?_
  rintro e w4 ⟨rfl, hb⟩
  replace HVi := Lib.hid (HVi.out.up hb)
  replace HVp := Lib.hid (HVp.out.up hb)
  replace HVr := Lib.hid (HVr.out.up hb)
  replace HM := Lib.hid (HM.out.on hb)
  replace HMS := Lib.hid (HMS.out.up hb)
  replace HMO := Lib.hid (HMO.out.up hb)
  replace HK := Lib.hid (HK.out.on hb)
  replace HB := Lib.hid (HB.out.trans (hb.mono HB.out.size))
  clear hb HSM
  clear HMO
  cases qs
  · skip
    have HF : Hid (R = false) := Lib.hid (by rw [HME.out]; simp)
    go_wp2
    go_ret
    exact ⟨ret_bool' HF.out.symm, HB.out⟩
  have hg := Blks.hd (Blks.tl HK.out)
  have y0 := hg.c 0 rfl
  have y1 := hg.c 1 rfl
  have y2 := hg.c 2 rfl
  have y3 := hg.c 3 rfl
  have y4 := hg.c 4 rfl
  have y5 := hg.c 5 rfl
  clear hg
  go_wp2_with fail
  clear y0 y1 y2 y3 y4 y5
  refine (HT.out w4 _ _ HVi.out HM.out).mono ?_
  rintro e w5 ⟨rfl, hb⟩
  replace HVi := Lib.hid (HVi.out.up hb)
  replace HVp := Lib.hid (HVp.out.up hb)
  replace HVr := Lib.hid (HVr.out.up hb)
  replace HM := Lib.hid (HM.out.on hb)
  replace HMS := Lib.hid (HMS.out.up hb)
  replace HK := Lib.hid (HK.out.on hb)
  replace HB := Lib.hid (HB.out.trans (hb.mono HB.out.size))
  clear hb
  have hcs : qi = true ∨ (qi = false ∧ mk = 2) ∨ (qi = false ∧ ¬ mk = 2 ∧ ¬ mk = 4) ∨ (qi = false ∧ mk = 4) := by
    cases qi
    · simp; omega
    · simp
  rcases hcs with rfl | ⟨rfl, rfl⟩ | ⟨rfl, n2, n4⟩ | ⟨rfl, rfl⟩
  · skip
    have hg := Blks.hd (Blks.tl HK.out)
    have y0 := hg.c 0 rfl
    have y1 := hg.c 1 rfl
    have y2 := hg.c 2 rfl
    have y3 := hg.c 3 rfl
    have y4 := hg.c 4 rfl
    have y5 := hg.c 5 rfl
    clear hg
    have HX : Hid (R = (true && ((mha && ql) || (!mha && qz)) && c1 && c2)) := Lib.hid (by rw [HME.out]; simp)
    clear HME
    go_upto_region 5 with (fail)
    clear y0 y1 y2 y3 y4 y5
    cases mha
    · skip
      have hg := Blks.hd (Blks.tl HK.out)
      have y7 := hg.c 7 rfl
      have y8 := hg.c 8 rfl
      have y9 := hg.c 9 rfl
      have y10 := hg.c 10 rfl
      have y11 := hg.c 11 rfl
      have y12 := hg.c 12 rfl
      clear hg
      go_wp2_with fail
      clear y7 y8 y9 y10 y11 y12
      refine (HP.out w5 _ _ HVp.out).mono ?_
      rintro e w6 ⟨rfl, hb⟩
      replace HVi := Lib.hid (HVi.out.up hb)
      replace HVp := Lib.hid (HVp.out.up hb)
      replace HVr := Lib.hid (HVr.out.up hb)
      replace HM := Lib.hid (HM.out.on hb)
      replace HMS := Lib.hid (HMS.out.up hb)
      replace HK := Lib.hid (HK.out.on hb)
      replace HB := Lib.hid (HB.out.trans (hb.mono HB.out.size))
      clear hb
      cases qz <;> cases c1
      all_goals (
        have hg := Blks.hd (Blks.tl HK.out)
        have y7 := hg.c 7 rfl
        have y18 := hg.c 18 rfl
        clear hg
        go_wp2
        go_ret
        exact ⟨ret_bool' (by rw [HX.out]; first | rfl | exact hc2.symm | simp [hc2]), HB.out⟩)
    · skip
      have hg := Blks.hd (Blks.tl HK.out)
      have y7 := hg.c 7 rfl
      have y8 := hg.c 8 rfl
      have y9 := hg.c 9 rfl
      have y10 := hg.c 10 rfl
      have y11 := hg.c 11 rfl
      have y12 := hg.c 12 rfl
      clear hg
      go_wp2_with fail
      clear y7 y8 y9 y10 y11 y12
      refine (HL.out w5 _ _ HVp.out).mono ?_
      rintro e w6 ⟨rfl, hb⟩
      replace HVi := Lib.hid (HVi.out.up hb)
      replace HVp := Lib.hid (HVp.out.up hb)
      replace HVr := Lib.hid (HVr.out.up hb)
      replace HM := Lib.hid (HM.out.on hb)
      replace HMS := Lib.hid (HMS.out.up hb)
      replace HK := Lib.hid (HK.out.on hb)
      replace HB := Lib.hid (HB.out.trans (hb.mono HB.out.size))
      clear hb
      cases ql <;> cases c1
      all_goals (
        have hg := Blks.hd (Blks.tl HK.out)
        have y7 := hg.c 7 rfl
        have y18 := hg.c 18 rfl
        clear hg
        go_wp2
        go_ret
        exact ⟨ret_bool' (by rw [HX.out]; first | rfl | exact hc2.symm | simp [hc2]), HB.out⟩)
  · skip
    have hg := Blks.hd (Blks.tl HK.out)
    have y0 := hg.c 0 rfl
    have y1 := hg.c 1 rfl
    have y2 := hg.c 2 rfl
    have y3 := hg.c 3 rfl
    have y4 := hg.c 4 rfl
    have y5 := hg.c 5 rfl
    clear hg
    have HX : Hid (R = (true && ((mha && ql) || (!mha && qz)) && c1 && c2)) := Lib.hid (by rw [HME.out]; simp)
    clear HME
    go_upto_region 5 with (fail)
    clear y0 y1 y2 y3 y4 y5
    cases mha
    · skip
      have hg := Blks.hd (Blks.tl HK.out)
      have y7 := hg.c 7 rfl
      have y8 := hg.c 8 rfl
      have y9 := hg.c 9 rfl
      have y10 := hg.c 10 rfl
      have y11 := hg.c 11 rfl
      have y12 := hg.c 12 rfl
      clear hg
      go_wp2_with fail
      clear y7 y8 y9 y10 y11 y12
      refine (HP.out w5 _ _ HVp.out).mono ?_
      rintro e w6 ⟨rfl, hb⟩
      replace HVi := Lib.hid (HVi.out.up hb)
      replace HVp := Lib.hid (HVp.out.up hb)
      replace HVr := Lib.hid (HVr.out.up hb)
      replace HM := Lib.hid (HM.out.on hb)
      replace HMS := Lib.hid (HMS.out.up hb)
      replace HK := Lib.hid (HK.out.on hb)
      replace HB := Lib.hid (HB.out.trans (hb.mono HB.out.size))
      clear hb
      cases qz <;> cases c1
      all_goals (
        have hg := Blks.hd (Blks.tl HK.out)
        have y7 := hg.c 7 rfl
        have y18 := hg.c 18 rfl
        clear hg
        go_wp2
        go_ret
        exact ⟨ret_bool' (by rw [HX.out]; first | rfl | exact hc2.symm | simp [hc2]), HB.out⟩)
    · skip
      have hg := Blks.hd (Blks.tl HK.out)
      have y7 := hg.c 7 rfl
      have y8 := hg.c 8 rfl
      have y9 := hg.c 9 rfl
      have y10 := hg.c 10 rfl
      have y11 := hg.c 11 rfl
      have y12 := hg.c 12 rfl
      clear hg
      go_wp2_with fail
      clear y7 y8 y9 y10 y11 y12
      refine (HL.out w5 _ _ HVp.out).mono ?_
      rintro e w6 ⟨rfl, hb⟩
      replace HVi := Lib.hid (HVi.out.up hb)
      replace HVp := Lib.hid (HVp.out.up hb)
      replace HVr := Lib.hid (HVr.out.up hb)
      replace HM := Lib.hid (HM.out.on hb)
      replace HMS := Lib.hid (HMS.out.up hb)
      replace HK := Lib.hid (HK.out.on hb)
      replace HB := Lib.hid (HB.out.trans (hb.mono HB.out.size))
      clear hb
      cases ql <;> cases c1
      all_goals (
        have hg := Blks.hd (Blks.tl HK.out)
        have y7 := hg.c 7 rfl
        have y18 := hg.c 18 rfl
        clear hg
        go_wp2
        go_ret
        exact ⟨ret_bool' (by rw [HX.out]; first | rfl | exact hc2.symm | simp [hc2]), HB.out⟩)
  · skip
    have e2 := beq_f n2
    have e4 := beq_f n4
    have hg := Blks.hd (Blks.tl HK.out)
    have y0 := hg.c 0 rfl
    have y1 := hg.c 1 rfl
    have y2 := hg.c 2 rfl
    have y3 := hg.c 3 rfl
    have y4 := hg.c 4 rfl
    have y5 := hg.c 5 rfl
    clear hg
    have HX : Hid (R = (false && ((mha && ql) || (!mha && qz)) && c1 && c2)) := Lib.hid (by rw [HME.out]; simp [e2, e4, n2, n4])
    clear HME
    clear n2 n4
    go_upto_region 5 with (fail)
    clear y0 y1 y2 y3 y4 y5 e2 e4
    cases mha
    · skip
      have hg := Blks.hd (Blks.tl HK.out)
      have y7 := hg.c 7 rfl
      have y8 := hg.c 8 rfl
      have y9 := hg.c 9 rfl
      have y10 := hg.c 10 rfl
      have y11 := hg.c 11 rfl
      have y12 := hg.c 12 rfl
      clear hg
      go_wp2_with fail
      clear y7 y8 y9 y10 y11 y12
      refine (HP.out w5 _ _ HVp.out).mono ?_
      rintro e w6 ⟨rfl, hb⟩
      replace HVi := Lib.hid (HVi.out.up hb)
      replace HVp := Lib.hid (HVp.out.up hb)
      replace HVr := Lib.hid (HVr.out.up hb)
      replace HM := Lib.hid (HM.out.on hb)
      replace HMS := Lib.hid (HMS.out.up hb)
      replace HK := Lib.hid (HK.out.on hb)
      replace HB := Lib.hid (HB.out.trans (hb.mono HB.out.size))
      clear hb
      cases qz <;> cases c1
      all_goals (
        have hg := Blks.hd (Blks.tl HK.out)
        have y7 := hg.c 7 rfl
        have y18 := hg.c 18 rfl
        clear hg
        go_wp2
        go_ret
        exact ⟨ret_bool' (by rw [HX.out]; first | rfl | exact hc2.symm | simp [hc2]), HB.out⟩)
    · skip
      have hg := Blks.hd (Blks.tl HK.out)
      have y7 := hg.c 7 rfl
      have y8 := hg.c 8 rfl
      have y9 := hg.c 9 rfl
      have y10 := hg.c 10 rfl
      have y11 := hg.c 11 rfl
      have y12 := hg.c 12 rfl
      clear hg
      go_wp2_with fail
      clear y7 y8 y9 y10 y11 y12
      refine (HL.out w5 _ _ HVp.out).mono ?_
      rintro e w6 ⟨rfl, hb⟩
      replace HVi := Lib.hid (HVi.out.up hb)
      replace HVp := Lib.hid (HVp.out.up hb)
      replace HVr := Lib.hid (HVr.out.up hb)
      replace HM := Lib.hid (HM.out.on hb)
      replace HMS := Lib.hid (HMS.out.up hb)
      replace HK := Lib.hid (HK.out.on hb)
      replace HB := Lib.hid (HB.out.trans (hb.mono HB.out.size))
      clear hb
      cases ql <;> cases c1
      all_goals (
        have hg := Blks.hd (Blks.tl HK.out)
        have y7 := hg.c 7 rfl
        have y18 := hg.c 18 rfl
        clear hg
        go_wp2
        go_ret
        exact ⟨ret_bool' (by rw [HX.out]; first | rfl | exact hc2.symm | simp [hc2]), HB.out⟩)
  · skip
    have hg := Blks.hd (Blks.tl HK.out)
    have y0 := hg.c 0 rfl
    have y1 := hg.c 1 rfl
    have y2 := hg.c 2 rfl
    have y3 := hg.c 3 rfl
    have y4 := hg.c 4 rfl
    have y5 := hg.c 5 rfl
    clear hg
    go_wp2_with fail
    clear y0 y1 y2 y3 y4 y5
    refine (HN.out w5 _ _ HVi.out).mono ?_
    rintro e w6 ⟨rfl, hb⟩
    replace HVi := Lib.hid (HVi.out.up hb)
    replace HVp := Lib.hid (HVp.out.up hb)
    replace HVr := Lib.hid (HVr.out.up hb)
    replace HM := Lib.hid (HM.out.on hb)
    replace HMS := Lib.hid (HMS.out.up hb)
    replace HK := Lib.hid (HK.out.on hb)
    replace HB := Lib.hid (HB.out.trans (hb.mono HB.out.size))
    clear hb
    cases qn
    · skip
      have HX : Hid (R = (false && ((mha && ql) || (!mha && qz)) && c1 && c2)) := Lib.hid (by rw [HME.out]; simp)
      clear HME
      cases mha
      · skip
        have hg := Blks.hd (Blks.tl HK.out)
        have y7 := hg.c 7 rfl
        have y8 := hg.c 8 rfl
        have y9 := hg.c 9 rfl
        have y10 := hg.c 10 rfl
        have y11 := hg.c 11 rfl
        have y12 := hg.c 12 rfl
        clear hg
        go_wp2_with fail
        clear y7 y8 y9 y10 y11 y12
        refine (HP.out w6 _ _ HVp.out).mono ?_
        rintro e w7 ⟨rfl, hb⟩
        replace HVi := Lib.hid (HVi.out.up hb)
        replace HVp := Lib.hid (HVp.out.up hb)
        replace HVr := Lib.hid (HVr.out.up hb)
        replace HM := Lib.hid (HM.out.on hb)
        replace HMS := Lib.hid (HMS.out.up hb)
        replace HK := Lib.hid (HK.out.on hb)
        replace HB := Lib.hid (HB.out.trans (hb.mono HB.out.size))
        clear hb
        cases qz <;> cases c1
        all_goals (
          have hg := Blks.hd (Blks.tl HK.out)
          have y7 := hg.c 7 rfl
          have y18 := hg.c 18 rfl
          clear hg
          go_wp2
          go_ret
          exact ⟨ret_bool' (by rw [HX.out]; first | rfl | exact hc2.symm | simp [hc2]), HB.out⟩)
      · skip
        have hg := Blks.hd (Blks.tl HK.out)
        have y7 := hg.c 7 rfl
        have y8 := hg.c 8 rfl
        have y9 := hg.c 9 rfl
        have y10 := hg.c 10 rfl
        have y11 := hg.c 11 rfl
        have y12 := hg.c 12 rfl
        clear hg
        go_wp2_with fail
        clear y7 y8 y9 y10 y11 y12
        refine (HL.out w6 _ _ HVp.out).mono ?_
        rintro e w7 ⟨rfl, hb⟩
        replace HVi := Lib.hid (HVi.out.up hb)
        replace HVp := Lib.hid (HVp.out.up hb)
        replace HVr := Lib.hid (HVr.out.up hb)
        replace HM := Lib.hid (HM.out.on hb)
        replace HMS := Lib.hid (HMS.out.up hb)
        replace HK := Lib.hid (HK.out.on hb)
        replace HB := Lib.hid (HB.out.trans (hb.mono HB.out.size))
        clear hb
        cases ql <;> cases c1
        all_goals (
          have hg := Blks.hd (Blks.tl HK.out)
          have y7 := hg.c 7 rfl
          have y18 := hg.c 18 rfl
          clear hg
          go_wp2
          go_ret
          exact ⟨ret_bool' (by rw [HX.out]; first | rfl | exact hc2.symm | simp [hc2]), HB.out⟩)
    · skip
      have HX : Hid (R = (true && ((mha && ql) || (!mha && qz)) && c1 && c2)) := Lib.hid (by rw [HME.out]; simp)
      clear HME
      cases mha
      · skip
        have hg := Blks.hd (Blks.tl HK.out)
        have y7 := hg.c 7 rfl
        have y8 := hg.c 8 rfl
        have y9 := hg.c 9 rfl
        have y10 := hg.c 10 rfl
        have y11 := hg.c 11 rfl
        have y12 := hg.c 12 rfl
        clear hg
        go_wp2_with fail
        clear y7 y8 y9 y10 y11 y12
        refine (HP.out w6 _ _ HVp.out).mono ?_
        rintro e w7 ⟨rfl, hb⟩
        replace HVi := Lib.hid (HVi.out.up hb)
        replace HVp := Lib.hid (HVp.out.up hb)
        replace HVr := Lib.hid (HVr.out.up hb)
        replace HM := Lib.hid (HM.out.on hb)
        replace HMS := Lib.hid (HMS.out.up hb)
        replace HK := Lib.hid (HK.out.on hb)
        replace HB := Lib.hid (HB.out.trans (hb.mono HB.out.size))
        clear hb
        cases qz <;> cases c1
        all_goals (
          have hg := Blks.hd (Blks.tl HK.out)
          have y7 := hg.c 7 rfl
          have y18 := hg.c 18 rfl
          clear hg
          go_wp2
          go_ret
          exact ⟨ret_bool' (by rw [HX.out]; first | rfl | exact hc2.symm | simp [hc2]), HB.out⟩)
      · skip
        have hg := Blks.hd (Blks.tl HK.out)
        have y7 := hg.c 7 rfl
        have y8 := hg.c 8 rfl
        have y9 := hg.c 9 rfl
        have y10 := hg.c 10 rfl
        have y11 := hg.c 11 rfl
        have y12 := hg.c 12 rfl
        clear hg
        go_wp2_with fail
        clear y7 y8 y9 y10 y11 y12
        refine (HL.out w6 _ _ HVp.out).mono ?_
        rintro e w7 ⟨rfl, hb⟩
        replace HVi := Lib.hid (HVi.out.up hb)
        replace HVp := Lib.hid (HVp.out.up hb)
        replace HVr := Lib.hid (HVr.out.up hb)
        replace HM := Lib.hid (HM.out.on hb)
        replace HMS := Lib.hid (HMS.out.up hb)
        replace HK := Lib.hid (HK.out.on hb)
        replace HB := Lib.hid (HB.out.trans (hb.mono HB.out.size))
        clear hb
        cases ql <;> cases c1
        all_goals (
          have hg := Blks.hd (Blks.tl HK.out)
          have y7 := hg.c 7 rfl
          have y18 := hg.c 18 rfl
          clear hg
          go_wp2
          go_ret
          exact ⟨ret_bool' (by rw [HX.out]; first | rfl | exact hc2.symm | simp [hc2]), HB.out⟩)
end Go.Proofs.YtfploakafbnigaaGreatDoor
