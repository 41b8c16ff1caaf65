/-
  Layer 12, the walks: Print, some of its ways.
-/
import Derived.Test.YtfploakafbnigaaGreatDoorCRpcPrintK
namespace Go.Proofs.YtfploakafbnigaaGreatDoor
open Go.RowKit Val Num YtfploakafbnigaaGreatDoorW.PrintLast
set_option linter.unusedVariables false
set_option linter.unusedSimpArgs false
set_option maxRecDepth 100000 in
set_option maxHeartbeats 8000000 in
theorem Print_1f (m : MT) (z : Zone) (v : Value) (w : World) (h : MSV z m w v) (hM : ML w) (hP : PTab w) (hk : m.bulk ≤ 1073741000) (ht : (MTtree m).bulk ≤ 1073741824) (hR : MTmay m = true) (hkd : m.kind = 1) (hha : m.has = false) : Calls Tryz.prog 55 #[v] w (PrM m w) := by
  have hq0 := h
  have HMY := Lib.hid (fun W z v (hv : MSV z m W v) (hM : ML W) => mayBe_any m z v W hv hM hk)
  have hI := may_code hR
  have hOK := MTok_may hR
  rw [hR] at HMY
  clear hR
  have HMS : Hid (MSV (zLt w.heap.size) m w v) := Lib.hid (by
    obtain ⟨i0, i1, i2, i3, i4, p0, p1, p2, p3, p4, r0, r1, r2, r3, r4, e, h1, h2, h3⟩ := h
    exact ⟨i0, i1, i2, i3, i4, p0, p1, p2, p3, p4, r0, r1, r2, r3, r4, e, h1.old, h2.old, h3.old⟩)
  clear hq0 hk
  obtain ⟨mk, mid, mme, mha, mpa, mre, mco, mte⟩ := m
  obtain ⟨im0, im1, im2, im3, im4, pm0, pm1, pm2, pm3, pm4, rm0, rm1, rm2, rm3, rm4, rfl, q1, q2, q3⟩ := h
  dsimp only at q1 q2 q3
  obtain ⟨kmi, bmi, xmi, Ami, nmi, cmi, Bmi, mmi, dmi, rfl, rfl, rfl, rfl, rfl⟩ := VAL.shape5 q1
  obtain ⟨kmp, bmp, xmp, Amp, nmp, cmp, Bmp, mmp, dmp, rfl, rfl, rfl, rfl, rfl⟩ := VAL.shape5 q2
  obtain ⟨kmr, bmr, xmr, Amr, nmr, cmr, Bmr, mmr, dmr, rfl, rfl, rfl, rfl, rfl⟩ := VAL.shape5 q3
  have HVi := Lib.hid q1.old
  have HVp := Lib.hid q2.old
  have HVr := Lib.hid q3.old
  clear q1 q2 q3
  dsimp only
  have HM := Lib.hid hM
  have HM0 := Lib.hid hM
  have HP := Lib.hid hP
  have HB := Lib.hid (Below.refl w.heap.size w)
  clear hM hP
  dsimp only at hkd hI hha
  subst hkd
  subst hha
  unfold PrM
  rw [hOK]
  clear hOK
  have HTR : Hid (MTtree ⟨1, mid, mme, false, mpa, mre, mco, mte⟩ = obT ([] ++ [VT.rpcN] ++ [VT.idN] ++ [VT.methodN]) ([] ++ [txT VT.twoS] ++ [mid] ++ [txT mme])) := Lib.hid rfl
  have HCK := Lib.hid (fun W z v (hv : VLV z (MTtree ⟨1, mid, mme, false, mpa, mre, mco, mte⟩) W v) => pCheck_any (MTtree ⟨1, mid, mme, false, mpa, mre, mco, mte⟩) W _ v hv (z.lt W) ht)
  have HCP := Lib.hid (fun W z v (hv : VLV z (MTtree ⟨1, mid, mme, false, mpa, mre, mco, mte⟩) W v) => Copy_nf (MTtree ⟨1, mid, mme, false, mpa, mre, mco, mte⟩) W _ v hv (z.lt W) ht)
  have HI := Lib.hid hI
  clear ht hI
  obtain ⟨ck, hck⟩ : ∃ n, (MTtree ⟨1, mid, mme, false, mpa, mre, mco, mte⟩).check = n := ⟨_, rfl⟩
  rw [hck] at HCK ⊢
  clear hck
  generalize MTtree ⟨1, mid, mme, false, mpa, mre, mco, mte⟩ = tr at *
  dsimp only at HMY HMS
  obtain ⟨er, her⟩ : ∃ x, (if decide (ck = 0) = true then (0 : Int) else 120) = x := ⟨_, rfl⟩
  obtain ⟨rT, hrT⟩ : ∃ x, (if decide (ck = 0) = true then tr else VT.nul) = x := ⟨_, rfl⟩
  rw [her, hrT]
  have HER := Lib.hid her
  have HRT := Lib.hid hrT
  clear her hrT
  go_enter Tryz.func55, Tryz.ntmps55
  go_upto_region 1 with (fail)
  have hb : Below w.heap.size w (((w.alloc (.cells #[.int .i64 1, .int .i64 kmi, .bool bmi, .string xmi, .slice Ami nmi cmi, .slice Bmi mmi dmi, .string mme, .bool false, .int .i64 kmp, .bool bmp, .string xmp, .slice Amp nmp cmp, .slice Bmp mmp dmp, .int .i64 kmr, .bool bmr, .string xmr, .slice Amr nmr cmr, .slice Bmr mmr dmr, .int .i64 mco, .string mte] 46))).alloc (.cells #[.int .i64 0, .bool false, .string ⟨#[]⟩, .slice none 0 0, .slice none 0 0] 25)) := al2_below w _ _
  replace HVi := Lib.hid (HVi.out.up hb)
  replace HVp := Lib.hid (HVp.out.up hb)
  replace HVr := Lib.hid (HVr.out.up hb)
  replace HM := Lib.hid (HM.out.on hb)
  replace HP := Lib.hid (HP.out.on hb)
  replace HMS := Lib.hid (HMS.out.up hb)
  replace HB := Lib.hid (HB.out.trans (hb.mono HB.out.size))
  have hX0 : BK (((w.alloc (.cells #[.int .i64 1, .int .i64 kmi, .bool bmi, .string xmi, .slice Ami nmi cmi, .slice Bmi mmi dmi, .string mme, .bool false, .int .i64 kmp, .bool bmp, .string xmp, .slice Amp nmp cmp, .slice Bmp mmp dmp, .int .i64 kmr, .bool bmr, .string xmr, .slice Amr nmr cmr, .slice Bmr mmr dmr, .int .i64 mco, .string mte] 46))).alloc (.cells #[.int .i64 0, .bool false, .string ⟨#[]⟩, .slice none 0 0, .slice none 0 0] 25)) (w.heap.size) 46 #[.int .i64 1, .int .i64 kmi, .bool bmi, .string xmi, .slice Ami nmi cmi, .slice Bmi mmi dmi, .string mme, .bool false, .int .i64 kmp, .bool bmp, .string xmp, .slice Amp nmp cmp, .slice Bmp mmp dmp, .int .i64 kmr, .bool bmr, .string xmr, .slice Amr nmr cmr, .slice Bmr mmr dmr, .int .i64 mco, .string mte] := al2_0 w _ _
  have HK := Lib.hid (Blks.one hX0)
  have hX1 : BK (((w.alloc (.cells #[.int .i64 1, .int .i64 kmi, .bool bmi, .string xmi, .slice Ami nmi cmi, .slice Bmi mmi dmi, .string mme, .bool false, .int .i64 kmp, .bool bmp, .string xmp, .slice Amp nmp cmp, .slice Bmp mmp dmp, .int .i64 kmr, .bool bmr, .string xmr, .slice Amr nmr cmr, .slice Bmr mmr dmr, .int .i64 mco, .string mte] 46))).alloc (.cells #[.int .i64 0, .bool false, .string ⟨#[]⟩, .slice none 0 0, .slice none 0 0] 25)) (w.heap.size + 1) 25 #[.int .i64 0, .bool false, .string ⟨#[]⟩, .slice none 0 0, .slice none 0 0] := al2_1 w _ _
  replace HK := Lib.hid (Blks.cons hX1 HK.out)
  clear hb hX0 hX1
  generalize (((w.alloc (.cells #[.int .i64 1, .int .i64 kmi, .bool bmi, .string xmi, .slice Ami nmi cmi, .slice Bmi mmi dmi, .string mme, .bool false, .int .i64 kmp, .bool bmp, .string xmp, .slice Amp nmp cmp, .slice Bmp mmp dmp, .int .i64 kmr, .bool bmr, .string xmr, .slice Amr nmr cmr, .slice Bmr mmr dmr, .int .i64 mco, .string mte] 46))).alloc (.cells #[.int .i64 0, .bool false, .string ⟨#[]⟩, .slice none 0 0, .slice none 0 0] 25)) = w1 at *
  go_wp2_with ((refine wpList_load_row rfl 46 (.tmp 1) rfl (w.heap.size) rfl 46 #[.int .i64 1, .int .i64 kmi, .bool bmi, .string xmi, .slice Ami nmi cmi, .slice Bmi mmi dmi, .string mme, .bool false, .int .i64 kmp, .bool bmp, .string xmp, .slice Amp nmp cmp, .slice Bmp mmp dmp, .int .i64 kmr, .bool bmr, .string xmr, .slice Amr nmr cmr, .slice Bmr mmr dmr, .int .i64 mco, .string mte] (0, 0) _ (Blks.hd (Blks.tl HK.out)) Tryz.underlying46 rfl (by kernel_rfl) ?_))
  refine (HMY.out w1 _ _ HMS.out HM.out).mono ?_
  rintro e w2 ⟨rfl, hb⟩
  replace HVi := Lib.hid (HVi.out.up hb)
  replace HVp := Lib.hid (HVp.out.up hb)
  replace HVr := Lib.hid (HVr.out.up hb)
  replace HM := Lib.hid (HM.out.on hb)
  replace HP := Lib.hid (HP.out.on hb)
  replace HMS := Lib.hid (HMS.out.up hb)
  replace HK := Lib.hid (HK.out.on hb)
  replace HB := Lib.hid (HB.out.trans (hb.mono HB.out.size))
  clear hb
  clear HMY HMS
  go_upto_region 4 with (fail)
  have HAD := Lib.hid (AdV.new w2)
  generalize (w2.alloc (.cells #[.int .i64 5, .bool false, .string ⟨#[]⟩, .slice none 0 0, .slice none 0 0] 25)) = x0_ at *
  go_wp2_with fail
  refine (vText_any _ x0_).mono ?_
  rintro e x1_ ⟨rfl, hb⟩
  replace HAD := Lib.hid (HAD.out.on hb)
  clear hb
  go_wp2_with fail
  refine (add_any w2 x1_ _ _ _ VT.rpcN (txT VT.twoS) _ HAD.out (leaf_VAL _ _ 3 _ (by decide)) (Nat.le_of_ble_eq_true rfl)).mono ?_
  rintro e x2_ ⟨rfl, hA⟩
  replace HAD := Lib.hid hA
  clear hA
  have hg := (Blks.hd (Blks.tl HK.out)).on HAD.out.below
  have y0 := hg.c 0 rfl
  have y1 := hg.c 1 rfl
  have y2 := hg.c 2 rfl
  have y3 := hg.c 3 rfl
  have y4 := hg.c 4 rfl
  have y5 := hg.c 5 rfl
  clear hg
  go_wp2_with fail
  clear y0 y1 y2 y3 y4 y5
  refine (add_any w2 x2_ _ _ _ VT.idN mid _ HAD.out (VAL.mono (fun b hb => ⟨.inl (Nat.lt_of_lt_of_le hb.1 HB.out.size), hb.2⟩) (VLV.up HVi.out HAD.out.below)) (Nat.le_of_ble_eq_true rfl)).mono ?_
  rintro e x3_ ⟨rfl, hA⟩
  replace HAD := Lib.hid hA
  clear hA
  have hg := (Blks.hd (Blks.tl HK.out)).on HAD.out.below
  have y0 := hg.c 0 rfl
  have y6 := hg.c 6 rfl
  clear hg
  go_wp2_with fail
  clear y0 y6
  refine (vText_any _ x3_).mono ?_
  rintro e x4_ ⟨rfl, hb⟩
  replace HAD := Lib.hid (HAD.out.on hb)
  clear hb
  go_wp2_with fail
  refine (add_any w2 x4_ _ _ _ VT.methodN (txT mme) _ HAD.out (leaf_VAL _ _ 3 _ (by decide)) (Nat.le_of_ble_eq_true rfl)).mono ?_
  rintro e x5_ ⟨rfl, hA⟩
  replace HAD := Lib.hid hA
  clear hA
  have hg := (Blks.hd (Blks.tl HK.out)).on HAD.out.below
  have y7 := hg.c 7 rfl
  have y8 := hg.c 8 rfl
  have y9 := hg.c 9 rfl
  have y10 := hg.c 10 rfl
  have y11 := hg.c 11 rfl
  have y12 := hg.c 12 rfl
  clear hg
  clear HP
  obtain ⟨OA, oc, NA, nc, hbk, hvl⟩ := HAD.out.obj
  rw [← HTR.out] at hvl
  have HVL := Lib.hid hvl
  have HBK := Lib.hid hbk
  clear hvl hbk HTR
  obtain ⟨l1, hl1⟩ : ∃ n, ([] ++ [VT.rpcN] ++ [VT.idN] ++ [VT.methodN]).length = n := ⟨_, rfl⟩
  obtain ⟨l2, hl2⟩ : ∃ n, ([] ++ [txT VT.twoS] ++ [mid] ++ [txT mme]).length = n := ⟨_, rfl⟩
  rw [hl1, hl2] at HVL HBK
  clear hl1 hl2
  have hg := HBK.out
  have u0 := hg.c 0 rfl
  have u1 := hg.c 1 rfl
  have u2 := hg.c 2 rfl
  have u3 := hg.c 3 rfl
  have u4 := hg.c 4 rfl
  clear hg
  go_wp2_with fail
  clear u0 u1 u2 u3 u4 y7 y8 y9 y10 y11 y12
  refine (HCK.out x5_ _ _ HVL.out).mono ?_
  rintro e x6_ ⟨rfl, hb⟩
  replace HAD := Lib.hid (HAD.out.on hb)
  replace HVL := Lib.hid (HVL.out.up hb)
  replace HBK := Lib.hid (HBK.out.on hb)
  clear hb
  by_cases hc : ¬ ck = 0
  · have q1 := bne_t hc
    have h1 := HER.out
    have h2 := HRT.out
    rw [decide_eq_false hc] at h1 h2
    simp only [Bool.false_eq_true, if_false] at h1 h2
    clear HER HRT
    subst h1 h2
    clear hc
    have hb := HAD.out.below
    replace HVi := Lib.hid (HVi.out.up hb)
    replace HVp := Lib.hid (HVp.out.up hb)
    replace HVr := Lib.hid (HVr.out.up hb)
    replace HM := Lib.hid (HM.out.on hb)
    replace HK := Lib.hid (HK.out.on hb)
    replace HB := Lib.hid (HB.out.trans (hb.mono HB.out.size))
    clear hb
    clear HAD HVL HBK
    go_wp2_with (
      refine store_fld rfl rfl 25 (.tmp 2) (.tmp 63) rfl (w.heap.size + 1) 0 (.agg #[.int .i64 0, .bool false, .string ⟨#[]⟩, .slice none 0 0, .slice none 0 0]) [.int .i64 0, .bool false, .string ⟨#[]⟩, .slice none 0 0, .slice none 0 0] rfl rfl rfl #[.int .i64 0, .bool false, .string ⟨#[]⟩, .slice none 0 0, .slice none 0 0] (Blks.hd HK.out) (by kernel_rfl) (Nat.le_of_ble_eq_true rfl) (by simp [Value.oneCell']) rfl ?_
      intro w3 hS hbt hsz
      replace HVi := Lib.hid (HVi.out.butL hbt (by omega))
      replace HVp := Lib.hid (HVp.out.butL hbt (by omega))
      replace HVr := Lib.hid (HVr.out.butL hbt (by omega))
      replace HM := Lib.hid (ML.but2 HM0.out HM.out hbt (by omega))
      replace HK := Lib.hid (Blks.cons hS (Blks.one (BK.but (Blks.hd (Blks.tl HK.out)) hbt (by omega))))
      replace HB := Lib.hid (hbt.below HB.out (by omega) HB.out.size)
      clear hbt hS hsz)
    go_wp2
    exact bodyPost_ret (results_row2 rfl _ _ (w.heap.size + 1) _ #[.int .i64 0, .bool false, .string ⟨#[]⟩, .slice none 0 0, .slice none 0 0] _ rfl _ rfl (Blks.hd HK.out) Tryz.underlying25 rfl (by kernel_rfl)) rfl ⟨_, rfl, nul_VLF _ _, HB.out⟩
  replace hc := Classical.not_not.1 hc
  subst hc
  have h1 := HER.out
  have h2 := HRT.out
  rw [show (decide ((0 : Int) = 0)) = true from rfl] at h1 h2
  simp only [if_true] at h1 h2
  clear HER HRT
  subst h1 h2
  have hb := HAD.out.below
  replace HVi := Lib.hid (HVi.out.up hb)
  replace HVp := Lib.hid (HVp.out.up hb)
  replace HVr := Lib.hid (HVr.out.up hb)
  replace HM := Lib.hid (HM.out.on hb)
  replace HK := Lib.hid (HK.out.on hb)
  replace HB := Lib.hid (HB.out.trans (hb.mono HB.out.size))
  clear hb
  have hg := HBK.out
  have u0 := hg.c 0 rfl
  have u1 := hg.c 1 rfl
  have u2 := hg.c 2 rfl
  have u3 := hg.c 3 rfl
  have u4 := hg.c 4 rfl
  clear hg
  go_wp2_with fail
  clear u0 u1 u2 u3 u4
  have HQ : Hid (w.heap.size + 2 ≤ x6_.heap.size) := Lib.hid (by have := (Blks.hd HK.out).lt; omega)
  refine (HCP.out x6_ _ _ HVL.out).mono ?_
  rintro e w3c ⟨v', rfl, hv, hb, hnf⟩
  obtain ⟨kx, bx, xx, Ax, nx, cx, Bx, mx, dx, rfl⟩ := VAL.shape hv
  have HVx := Lib.hid (VAL.zf hv hnf HQ.out)
  clear hv hnf HAD HVL HBK HQ
  replace HVi := Lib.hid (HVi.out.up hb)
  replace HVp := Lib.hid (HVp.out.up hb)
  replace HVr := Lib.hid (HVr.out.up hb)
  replace HM := Lib.hid (HM.out.on hb)
  replace HK := Lib.hid (HK.out.on hb)
  replace HB := Lib.hid (HB.out.trans (hb.mono HB.out.size))
  clear hb
  go_wp2_with (
    refine store_fld rfl rfl 25 (.tmp 2) (.tmp 65) rfl (w.heap.size + 1) 0 (.agg #[.int .i64 kx, .bool bx, .string xx, .slice Ax nx cx, .slice Bx mx dx]) [.int .i64 kx, .bool bx, .string xx, .slice Ax nx cx, .slice Bx mx dx] rfl rfl rfl #[.int .i64 kx, .bool bx, .string xx, .slice Ax nx cx, .slice Bx mx dx] (Blks.hd HK.out) (by kernel_rfl) (Nat.le_of_ble_eq_true rfl) (by simp [Value.oneCell']) rfl ?_
    intro w4 hS hbt hsz
    replace HVi := Lib.hid (HVi.out.butL hbt (by omega))
    replace HVp := Lib.hid (HVp.out.butL hbt (by omega))
    replace HVr := Lib.hid (HVr.out.butL hbt (by omega))
    replace HM := Lib.hid (ML.but2 HM0.out HM.out hbt (by omega))
    replace HVx := Lib.hid (HVx.out.but hbt (by omega))
    replace HK := Lib.hid (Blks.cons hS (Blks.one (BK.but (Blks.hd (Blks.tl HK.out)) hbt (by omega))))
    replace HB := Lib.hid (hbt.below HB.out (by omega) HB.out.size)
    clear hbt hS hsz)
  go_wp2
  exact bodyPost_ret (results_row2 rfl _ _ (w.heap.size + 1) _ #[.int .i64 kx, .bool bx, .string xx, .slice Ax nx cx, .slice Bx mx dx] _ rfl _ rfl (Blks.hd HK.out) Tryz.underlying25 rfl (by kernel_rfl)) rfl ⟨_, rfl, VLF.le HVx.out (by omega), HB.out⟩
set_option maxRecDepth 100000 in
set_option maxHeartbeats 8000000 in
theorem Print_1t (m : MT) (z : Zone) (v : Value) (w : World) (h : MSV z m w v) (hM : ML w) (hP : PTab w) (hk : m.bulk ≤ 1073741000) (ht : (MTtree m).bulk ≤ 1073741824) (hR : MTmay m = true) (hkd : m.kind = 1) (hha : m.has = true) : Calls Tryz.prog 55 #[v] w (PrM m w) := by
  have hq0 := h
  have HMY := Lib.hid (fun W z v (hv : MSV z m W v) (hM : ML W) => mayBe_any m z v W hv hM hk)
  have hI := may_code hR
  have hOK := MTok_may hR
  rw [hR] at HMY
  clear hR
  have HMS : Hid (MSV (zLt w.heap.size) m w v) := Lib.hid (by
    obtain ⟨i0, i1, i2, i3, i4, p0, p1, p2, p3, p4, r0, r1, r2, r3, r4, e, h1, h2, h3⟩ := h
    exact ⟨i0, i1, i2, i3, i4, p0, p1, p2, p3, p4, r0, r1, r2, r3, r4, e, h1.old, h2.old, h3.old⟩)
  clear hq0 hk
  obtain ⟨mk, mid, mme, mha, mpa, mre, mco, mte⟩ := m
  obtain ⟨im0, im1, im2, im3, im4, pm0, pm1, pm2, pm3, pm4, rm0, rm1, rm2, rm3, rm4, rfl, q1, q2, q3⟩ := h
  dsimp only at q1 q2 q3
  obtain ⟨kmi, bmi, xmi, Ami, nmi, cmi, Bmi, mmi, dmi, rfl, rfl, rfl, rfl, rfl⟩ := VAL.shape5 q1
  obtain ⟨kmp, bmp, xmp, Amp, nmp, cmp, Bmp, mmp, dmp, rfl, rfl, rfl, rfl, rfl⟩ := VAL.shape5 q2
  obtain ⟨kmr, bmr, xmr, Amr, nmr, cmr, Bmr, mmr, dmr, rfl, rfl, rfl, rfl, rfl⟩ := VAL.shape5 q3
  have HVi := Lib.hid q1.old
  have HVp := Lib.hid q2.old
  have HVr := Lib.hid q3.old
  clear q1 q2 q3
  dsimp only
  have HM := Lib.hid hM
  have HM0 := Lib.hid hM
  have HP := Lib.hid hP
  have HB := Lib.hid (Below.refl w.heap.size w)
  clear hM hP
  dsimp only at hkd hI hha
  subst hkd
  subst hha
  unfold PrM
  rw [hOK]
  clear hOK
  have HTR : Hid (MTtree ⟨1, mid, mme, true, mpa, mre, mco, mte⟩ = obT ([] ++ [VT.rpcN] ++ [VT.idN] ++ [VT.methodN] ++ [VT.paramsN]) ([] ++ [txT VT.twoS] ++ [mid] ++ [txT mme] ++ [mpa])) := Lib.hid rfl
  have HCK := Lib.hid (fun W z v (hv : VLV z (MTtree ⟨1, mid, mme, true, mpa, mre, mco, mte⟩) W v) => pCheck_any (MTtree ⟨1, mid, mme, true, mpa, mre, mco, mte⟩) W _ v hv (z.lt W) ht)
  have HCP := Lib.hid (fun W z v (hv : VLV z (MTtree ⟨1, mid, mme, true, mpa, mre, mco, mte⟩) W v) => Copy_nf (MTtree ⟨1, mid, mme, true, mpa, mre, mco, mte⟩) W _ v hv (z.lt W) ht)
  have HI := Lib.hid hI
  clear ht hI
  obtain ⟨ck, hck⟩ : ∃ n, (MTtree ⟨1, mid, mme, true, mpa, mre, mco, mte⟩).check = n := ⟨_, rfl⟩
  rw [hck] at HCK ⊢
  clear hck
  generalize MTtree ⟨1, mid, mme, true, mpa, mre, mco, mte⟩ = tr at *
  dsimp only at HMY HMS
  obtain ⟨er, her⟩ : ∃ x, (if decide (ck = 0) = true then (0 : Int) else 120) = x := ⟨_, rfl⟩
  obtain ⟨rT, hrT⟩ : ∃ x, (if decide (ck = 0) = true then tr else VT.nul) = x := ⟨_, rfl⟩
  rw [her, hrT]
  have HER := Lib.hid her
  have HRT := Lib.hid hrT
  clear her hrT
  go_enter Tryz.func55, Tryz.ntmps55
  go_upto_region 1 with (fail)
  have hb : Below w.heap.size w (((w.alloc (.cells #[.int .i64 1, .int .i64 kmi, .bool bmi, .string xmi, .slice Ami nmi cmi, .slice Bmi mmi dmi, .string mme, .bool true, .int .i64 kmp, .bool bmp, .string xmp, .slice Amp nmp cmp, .slice Bmp mmp dmp, .int .i64 kmr, .bool bmr, .string xmr, .slice Amr nmr cmr, .slice Bmr mmr dmr, .int .i64 mco, .string mte] 46))).alloc (.cells #[.int .i64 0, .bool false, .string ⟨#[]⟩, .slice none 0 0, .slice none 0 0] 25)) := al2_below w _ _
  replace HVi := Lib.hid (HVi.out.up hb)
  replace HVp := Lib.hid (HVp.out.up hb)
  replace HVr := Lib.hid (HVr.out.up hb)
  replace HM := Lib.hid (HM.out.on hb)
  replace HP := Lib.hid (HP.out.on hb)
  replace HMS := Lib.hid (HMS.out.up hb)
  replace HB := Lib.hid (HB.out.trans (hb.mono HB.out.size))
  have hX0 : BK (((w.alloc (.cells #[.int .i64 1, .int .i64 kmi, .bool bmi, .string xmi, .slice Ami nmi cmi, .slice Bmi mmi dmi, .string mme, .bool true, .int .i64 kmp, .bool bmp, .string xmp, .slice Amp nmp cmp, .slice Bmp mmp dmp, .int .i64 kmr, .bool bmr, .string xmr, .slice Amr nmr cmr, .slice Bmr mmr dmr, .int .i64 mco, .string mte] 46))).alloc (.cells #[.int .i64 0, .bool false, .string ⟨#[]⟩, .slice none 0 0, .slice none 0 0] 25)) (w.heap.size) 46 #[.int .i64 1, .int .i64 kmi, .bool bmi, .string xmi, .slice Ami nmi cmi, .slice Bmi mmi dmi, .string mme, .bool true, .int .i64 kmp, .bool bmp, .string xmp, .slice Amp nmp cmp, .slice Bmp mmp dmp, .int .i64 kmr, .bool bmr, .string xmr, .slice Amr nmr cmr, .slice Bmr mmr dmr, .int .i64 mco, .string mte] := al2_0 w _ _
  have HK := Lib.hid (Blks.one hX0)
  have hX1 : BK (((w.alloc (.cells #[.int .i64 1, .int .i64 kmi, .bool bmi, .string xmi, .slice Ami nmi cmi, .slice Bmi mmi dmi, .string mme, .bool true, .int .i64 kmp, .bool bmp, .string xmp, .slice Amp nmp cmp, .slice Bmp mmp dmp, .int .i64 kmr, .bool bmr, .string xmr, .slice Amr nmr cmr, .slice Bmr mmr dmr, .int .i64 mco, .string mte] 46))).alloc (.cells #[.int .i64 0, .bool false, .string ⟨#[]⟩, .slice none 0 0, .slice none 0 0] 25)) (w.heap.size + 1) 25 #[.int .i64 0, .bool false, .string ⟨#[]⟩, .slice none 0 0, .slice none 0 0] := al2_1 w _ _
  replace HK := Lib.hid (Blks.cons hX1 HK.out)
  clear hb hX0 hX1
  generalize (((w.alloc (.cells #[.int .i64 1, .int .i64 kmi, .bool bmi, .string xmi, .slice Ami nmi cmi, .slice Bmi mmi dmi, .string mme, .bool true, .int .i64 kmp, .bool bmp, .string xmp, .slice Amp nmp cmp, .slice Bmp mmp dmp, .int .i64 kmr, .bool bmr, .string xmr, .slice Amr nmr cmr, .slice Bmr mmr dmr, .int .i64 mco, .string mte] 46))).alloc (.cells #[.int .i64 0, .bool false, .string ⟨#[]⟩, .slice none 0 0, .slice none 0 0] 25)) = w1 at *
  go_wp2_with ((refine wpList_load_row rfl 46 (.tmp 1) rfl (w.heap.size) rfl 46 #[.int .i64 1, .int .i64 kmi, .bool bmi, .string xmi, .slice Ami nmi cmi, .slice Bmi mmi dmi, .string mme, .bool true, .int .i64 kmp, .bool bmp, .string xmp, .slice Amp nmp cmp, .slice Bmp mmp dmp, .int .i64 kmr, .bool bmr, .string xmr, .slice Amr nmr cmr, .slice Bmr mmr dmr, .int .i64 mco, .string mte] (0, 0) _ (Blks.hd (Blks.tl HK.out)) Tryz.underlying46 rfl (by kernel_rfl) ?_))
  refine (HMY.out w1 _ _ HMS.out HM.out).mono ?_
  rintro e w2 ⟨rfl, hb⟩
  replace HVi := Lib.hid (HVi.out.up hb)
  replace HVp := Lib.hid (HVp.out.up hb)
  replace HVr := Lib.hid (HVr.out.up hb)
  replace HM := Lib.hid (HM.out.on hb)
  replace HP := Lib.hid (HP.out.on hb)
  replace HMS := Lib.hid (HMS.out.up hb)
  replace HK := Lib.hid (HK.out.on hb)
  replace HB := Lib.hid (HB.out.trans (hb.mono HB.out.size))
  clear hb
  clear HMY HMS
  go_upto_region 4 with (fail)
  have HAD := Lib.hid (AdV.new w2)
  generalize (w2.alloc (.cells #[.int .i64 5, .bool false, .string ⟨#[]⟩, .slice none 0 0, .slice none 0 0] 25)) = x0_ at *
  go_wp2_with fail
  refine (vText_any _ x0_).mono ?_
  rintro e x1_ ⟨rfl, hb⟩
  replace HAD := Lib.hid (HAD.out.on hb)
  clear hb
  go_wp2_with fail
  refine (add_any w2 x1_ _ _ _ VT.rpcN (txT VT.twoS) _ HAD.out (leaf_VAL _ _ 3 _ (by decide)) (Nat.le_of_ble_eq_true rfl)).mono ?_
  rintro e x2_ ⟨rfl, hA⟩
  replace HAD := Lib.hid hA
  clear hA
  have hg := (Blks.hd (Blks.tl HK.out)).on HAD.out.below
  have y0 := hg.c 0 rfl
  have y1 := hg.c 1 rfl
  have y2 := hg.c 2 rfl
  have y3 := hg.c 3 rfl
  have y4 := hg.c 4 rfl
  have y5 := hg.c 5 rfl
  clear hg
  go_wp2_with fail
  clear y0 y1 y2 y3 y4 y5
  refine (add_any w2 x2_ _ _ _ VT.idN mid _ HAD.out (VAL.mono (fun b hb => ⟨.inl (Nat.lt_of_lt_of_le hb.1 HB.out.size), hb.2⟩) (VLV.up HVi.out HAD.out.below)) (Nat.le_of_ble_eq_true rfl)).mono ?_
  rintro e x3_ ⟨rfl, hA⟩
  replace HAD := Lib.hid hA
  clear hA
  have hg := (Blks.hd (Blks.tl HK.out)).on HAD.out.below
  have y0 := hg.c 0 rfl
  have y6 := hg.c 6 rfl
  clear hg
  go_wp2_with fail
  clear y0 y6
  refine (vText_any _ x3_).mono ?_
  rintro e x4_ ⟨rfl, hb⟩
  replace HAD := Lib.hid (HAD.out.on hb)
  clear hb
  go_wp2_with fail
  refine (add_any w2 x4_ _ _ _ VT.methodN (txT mme) _ HAD.out (leaf_VAL _ _ 3 _ (by decide)) (Nat.le_of_ble_eq_true rfl)).mono ?_
  rintro e x5_ ⟨rfl, hA⟩
  replace HAD := Lib.hid hA
  clear hA
  have hg := (Blks.hd (Blks.tl HK.out)).on HAD.out.below
  have y7 := hg.c 7 rfl
  have y8 := hg.c 8 rfl
  have y9 := hg.c 9 rfl
  have y10 := hg.c 10 rfl
  have y11 := hg.c 11 rfl
  have y12 := hg.c 12 rfl
  clear hg
  go_wp2_with fail
  clear y7 y8 y9 y10 y11 y12
  refine (add_any w2 x5_ _ _ _ VT.paramsN mpa _ HAD.out (VAL.mono (fun b hb => ⟨.inl (Nat.lt_of_lt_of_le hb.1 HB.out.size), hb.2⟩) (VLV.up HVp.out HAD.out.below)) (Nat.le_of_ble_eq_true rfl)).mono ?_
  rintro e x6_ ⟨rfl, hA⟩
  replace HAD := Lib.hid hA
  clear hA
  clear HP
  obtain ⟨OA, oc, NA, nc, hbk, hvl⟩ := HAD.out.obj
  rw [← HTR.out] at hvl
  have HVL := Lib.hid hvl
  have HBK := Lib.hid hbk
  clear hvl hbk HTR
  obtain ⟨l1, hl1⟩ : ∃ n, ([] ++ [VT.rpcN] ++ [VT.idN] ++ [VT.methodN] ++ [VT.paramsN]).length = n := ⟨_, rfl⟩
  obtain ⟨l2, hl2⟩ : ∃ n, ([] ++ [txT VT.twoS] ++ [mid] ++ [txT mme] ++ [mpa]).length = n := ⟨_, rfl⟩
  rw [hl1, hl2] at HVL HBK
  clear hl1 hl2
  have hg := HBK.out
  have u0 := hg.c 0 rfl
  have u1 := hg.c 1 rfl
  have u2 := hg.c 2 rfl
  have u3 := hg.c 3 rfl
  have u4 := hg.c 4 rfl
  clear hg
  go_wp2_with fail
  clear u0 u1 u2 u3 u4
  refine (HCK.out x6_ _ _ HVL.out).mono ?_
  rintro e x7_ ⟨rfl, hb⟩
  replace HAD := Lib.hid (HAD.out.on hb)
  replace HVL := Lib.hid (HVL.out.up hb)
  replace HBK := Lib.hid (HBK.out.on hb)
  clear hb
  by_cases hc : ¬ ck = 0
  · have q1 := bne_t hc
    have h1 := HER.out
    have h2 := HRT.out
    rw [decide_eq_false hc] at h1 h2
    simp only [Bool.false_eq_true, if_false] at h1 h2
    clear HER HRT
    subst h1 h2
    clear hc
    have hb := HAD.out.below
    replace HVi := Lib.hid (HVi.out.up hb)
    replace HVp := Lib.hid (HVp.out.up hb)
    replace HVr := Lib.hid (HVr.out.up hb)
    replace HM := Lib.hid (HM.out.on hb)
    replace HK := Lib.hid (HK.out.on hb)
    replace HB := Lib.hid (HB.out.trans (hb.mono HB.out.size))
    clear hb
    clear HAD HVL HBK
    go_wp2_with (
      refine store_fld rfl rfl 25 (.tmp 2) (.tmp 63) rfl (w.heap.size + 1) 0 (.agg #[.int .i64 0, .bool false, .string ⟨#[]⟩, .slice none 0 0, .slice none 0 0]) [.int .i64 0, .bool false, .string ⟨#[]⟩, .slice none 0 0, .slice none 0 0] rfl rfl rfl #[.int .i64 0, .bool false, .string ⟨#[]⟩, .slice none 0 0, .slice none 0 0] (Blks.hd HK.out) (by kernel_rfl) (Nat.le_of_ble_eq_true rfl) (by simp [Value.oneCell']) rfl ?_
      intro w3 hS hbt hsz
      replace HVi := Lib.hid (HVi.out.butL hbt (by omega))
      replace HVp := Lib.hid (HVp.out.butL hbt (by omega))
      replace HVr := Lib.hid (HVr.out.butL hbt (by omega))
      replace HM := Lib.hid (ML.but2 HM0.out HM.out hbt (by omega))
      replace HK := Lib.hid (Blks.cons hS (Blks.one (BK.but (Blks.hd (Blks.tl HK.out)) hbt (by omega))))
      replace HB := Lib.hid (hbt.below HB.out (by omega) HB.out.size)
      clear hbt hS hsz)
    go_wp2
    exact bodyPost_ret (results_row2 rfl _ _ (w.heap.size + 1) _ #[.int .i64 0, .bool false, .string ⟨#[]⟩, .slice none 0 0, .slice none 0 0] _ rfl _ rfl (Blks.hd HK.out) Tryz.underlying25 rfl (by kernel_rfl)) rfl ⟨_, rfl, nul_VLF _ _, HB.out⟩
  replace hc := Classical.not_not.1 hc
  subst hc
  have h1 := HER.out
  have h2 := HRT.out
  rw [show (decide ((0 : Int) = 0)) = true from rfl] at h1 h2
  simp only [if_true] at h1 h2
  clear HER HRT
  subst h1 h2
  have hb := HAD.out.below
  replace HVi := Lib.hid (HVi.out.up hb)
  replace HVp := Lib.hid (HVp.out.up hb)
  replace HVr := Lib.hid (HVr.out.up hb)
  replace HM := Lib.hid (HM.out.on hb)
  replace HK := Lib.hid (HK.out.on hb)
  replace HB := Lib.hid (HB.out.trans (hb.mono HB.out.size))
  clear hb
  have hg := HBK.out
  have u0 := hg.c 0 rfl
  have u1 := hg.c 1 rfl
  have u2 := hg.c 2 rfl
  have u3 := hg.c 3 rfl
  have u4 := hg.c 4 rfl
  clear hg
  go_wp2_with fail
  clear u0 u1 u2 u3 u4
  have HQ : Hid (w.heap.size + 2 ≤ x7_.heap.size) := Lib.hid (by have := (Blks.hd HK.out).lt; omega)
  refine (HCP.out x7_ _ _ HVL.out).mono ?_
  rintro e w3c ⟨v', rfl, hv, hb, hnf⟩
  obtain ⟨kx, bx, xx, Ax, nx, cx, Bx, mx, dx, rfl⟩ := VAL.shape hv
  have HVx := Lib.hid (VAL.zf hv hnf HQ.out)
  clear hv hnf HAD HVL HBK HQ
  replace HVi := Lib.hid (HVi.out.up hb)
  replace HVp := Lib.hid (HVp.out.up hb)
  replace HVr := Lib.hid (HVr.out.up hb)
  replace HM := Lib.hid (HM.out.on hb)
  replace HK := Lib.hid (HK.out.on hb)
  replace HB := Lib.hid (HB.out.trans (hb.mono HB.out.size))
  clear hb
  go_wp2_with (
    refine store_fld rfl rfl 25 (.tmp 2) (.tmp 65) rfl (w.heap.size + 1) 0 (.agg #[.int .i64 kx, .bool bx, .string xx, .slice Ax nx cx, .slice Bx mx dx]) [.int .i64 kx, .bool bx, .string xx, .slice Ax nx cx, .slice Bx mx dx] rfl rfl rfl #[.int .i64 kx, .bool bx, .string xx, .slice Ax nx cx, .slice Bx mx dx] (Blks.hd HK.out) (by kernel_rfl) (Nat.le_of_ble_eq_true rfl) (by simp [Value.oneCell']) rfl ?_
    intro w4 hS hbt hsz
    replace HVi := Lib.hid (HVi.out.butL hbt (by omega))
    replace HVp := Lib.hid (HVp.out.butL hbt (by omega))
    replace HVr := Lib.hid (HVr.out.butL hbt (by omega))
    replace HM := Lib.hid (ML.but2 HM0.out HM.out hbt (by omega))
    replace HVx := Lib.hid (HVx.out.but hbt (by omega))
    replace HK := Lib.hid (Blks.cons hS (Blks.one (BK.but (Blks.hd (Blks.tl HK.out)) hbt (by omega))))
    replace HB := Lib.hid (hbt.below HB.out (by omega) HB.out.size)
    clear hbt hS hsz)
  go_wp2
  exact bodyPost_ret (results_row2 rfl _ _ (w.heap.size + 1) _ #[.int .i64 kx, .bool bx, .string xx, .slice Ax nx cx, .slice Bx mx dx] _ rfl _ rfl (Blks.hd HK.out) Tryz.underlying25 rfl (by kernel_rfl)) rfl ⟨_, rfl, VLF.le HVx.out (by omega), HB.out⟩
set_option maxRecDepth 100000 in
set_option maxHeartbeats 8000000 in
theorem Print_3 (m : MT) (z : Zone) (v : Value) (w : World) (h : MSV z m w v) (hM : ML w) (hP : PTab w) (hk : m.bulk ≤ 1073741000) (ht : (MTtree m).bulk ≤ 1073741824) (hR : MTmay m = true) (hkd : m.kind = 3) : Calls Tryz.prog 55 #[v] w (PrM m w) := by
  have hq0 := h
  have HMY := Lib.hid (fun W z v (hv : MSV z m W v) (hM : ML W) => mayBe_any m z v W hv hM hk)
  have hI := may_code hR
  have hOK := MTok_may hR
  rw [hR] at HMY
  clear hR
  have HMS : Hid (MSV (zLt w.heap.size) m w v) := Lib.hid (by
    obtain ⟨i0, i1, i2, i3, i4, p0, p1, p2, p3, p4, r0, r1, r2, r3, r4, e, h1, h2, h3⟩ := h
    exact ⟨i0, i1, i2, i3, i4, p0, p1, p2, p3, p4, r0, r1, r2, r3, r4, e, h1.old, h2.old, h3.old⟩)
  clear hq0 hk
  obtain ⟨mk, mid, mme, mha, mpa, mre, mco, mte⟩ := m
  obtain ⟨im0, im1, im2, im3, im4, pm0, pm1, pm2, pm3, pm4, rm0, rm1, rm2, rm3, rm4, rfl, q1, q2, q3⟩ := h
  dsimp only at q1 q2 q3
  obtain ⟨kmi, bmi, xmi, Ami, nmi, cmi, Bmi, mmi, dmi, rfl, rfl, rfl, rfl, rfl⟩ := VAL.shape5 q1
  obtain ⟨kmp, bmp, xmp, Amp, nmp, cmp, Bmp, mmp, dmp, rfl, rfl, rfl, rfl, rfl⟩ := VAL.shape5 q2
  obtain ⟨kmr, bmr, xmr, Amr, nmr, cmr, Bmr, mmr, dmr, rfl, rfl, rfl, rfl, rfl⟩ := VAL.shape5 q3
  have HVi := Lib.hid q1.old
  have HVp := Lib.hid q2.old
  have HVr := Lib.hid q3.old
  clear q1 q2 q3
  dsimp only
  have HM := Lib.hid hM
  have HM0 := Lib.hid hM
  have HP := Lib.hid hP
  have HB := Lib.hid (Below.refl w.heap.size w)
  clear hM hP
  dsimp only at hkd hI
  subst hkd
  unfold PrM
  rw [hOK]
  clear hOK
  have HTR : Hid (MTtree ⟨3, mid, mme, mha, mpa, mre, mco, mte⟩ = obT ([] ++ [VT.rpcN] ++ [VT.idN] ++ [VT.resultN]) ([] ++ [txT VT.twoS] ++ [mid] ++ [mre])) := Lib.hid rfl
  have HCK := Lib.hid (fun W z v (hv : VLV z (MTtree ⟨3, mid, mme, mha, mpa, mre, mco, mte⟩) W v) => pCheck_any (MTtree ⟨3, mid, mme, mha, mpa, mre, mco, mte⟩) W _ v hv (z.lt W) ht)
  have HCP := Lib.hid (fun W z v (hv : VLV z (MTtree ⟨3, mid, mme, mha, mpa, mre, mco, mte⟩) W v) => Copy_nf (MTtree ⟨3, mid, mme, mha, mpa, mre, mco, mte⟩) W _ v hv (z.lt W) ht)
  have HI := Lib.hid hI
  clear ht hI
  obtain ⟨ck, hck⟩ : ∃ n, (MTtree ⟨3, mid, mme, mha, mpa, mre, mco, mte⟩).check = n := ⟨_, rfl⟩
  rw [hck] at HCK ⊢
  clear hck
  generalize MTtree ⟨3, mid, mme, mha, mpa, mre, mco, mte⟩ = tr at *
  dsimp only at HMY HMS
  obtain ⟨er, her⟩ : ∃ x, (if decide (ck = 0) = true then (0 : Int) else 120) = x := ⟨_, rfl⟩
  obtain ⟨rT, hrT⟩ : ∃ x, (if decide (ck = 0) = true then tr else VT.nul) = x := ⟨_, rfl⟩
  rw [her, hrT]
  have HER := Lib.hid her
  have HRT := Lib.hid hrT
  clear her hrT
  go_enter Tryz.func55, Tryz.ntmps55
  go_upto_region 1 with (fail)
  have hb : Below w.heap.size w (((w.alloc (.cells #[.int .i64 3, .int .i64 kmi, .bool bmi, .string xmi, .slice Ami nmi cmi, .slice Bmi mmi dmi, .string mme, .bool mha, .int .i64 kmp, .bool bmp, .string xmp, .slice Amp nmp cmp, .slice Bmp mmp dmp, .int .i64 kmr, .bool bmr, .string xmr, .slice Amr nmr cmr, .slice Bmr mmr dmr, .int .i64 mco, .string mte] 46))).alloc (.cells #[.int .i64 0, .bool false, .string ⟨#[]⟩, .slice none 0 0, .slice none 0 0] 25)) := al2_below w _ _
  replace HVi := Lib.hid (HVi.out.up hb)
  replace HVp := Lib.hid (HVp.out.up hb)
  replace HVr := Lib.hid (HVr.out.up hb)
  replace HM := Lib.hid (HM.out.on hb)
  replace HP := Lib.hid (HP.out.on hb)
  replace HMS := Lib.hid (HMS.out.up hb)
  replace HB := Lib.hid (HB.out.trans (hb.mono HB.out.size))
  have hX0 : BK (((w.alloc (.cells #[.int .i64 3, .int .i64 kmi, .bool bmi, .string xmi, .slice Ami nmi cmi, .slice Bmi mmi dmi, .string mme, .bool mha, .int .i64 kmp, .bool bmp, .string xmp, .slice Amp nmp cmp, .slice Bmp mmp dmp, .int .i64 kmr, .bool bmr, .string xmr, .slice Amr nmr cmr, .slice Bmr mmr dmr, .int .i64 mco, .string mte] 46))).alloc (.cells #[.int .i64 0, .bool false, .string ⟨#[]⟩, .slice none 0 0, .slice none 0 0] 25)) (w.heap.size) 46 #[.int .i64 3, .int .i64 kmi, .bool bmi, .string xmi, .slice Ami nmi cmi, .slice Bmi mmi dmi, .string mme, .bool mha, .int .i64 kmp, .bool bmp, .string xmp, .slice Amp nmp cmp, .slice Bmp mmp dmp, .int .i64 kmr, .bool bmr, .string xmr, .slice Amr nmr cmr, .slice Bmr mmr dmr, .int .i64 mco, .string mte] := al2_0 w _ _
  have HK := Lib.hid (Blks.one hX0)
  have hX1 : BK (((w.alloc (.cells #[.int .i64 3, .int .i64 kmi, .bool bmi, .string xmi, .slice Ami nmi cmi, .slice Bmi mmi dmi, .string mme, .bool mha, .int .i64 kmp, .bool bmp, .string xmp, .slice Amp nmp cmp, .slice Bmp mmp dmp, .int .i64 kmr, .bool bmr, .string xmr, .slice Amr nmr cmr, .slice Bmr mmr dmr, .int .i64 mco, .string mte] 46))).alloc (.cells #[.int .i64 0, .bool false, .string ⟨#[]⟩, .slice none 0 0, .slice none 0 0] 25)) (w.heap.size + 1) 25 #[.int .i64 0, .bool false, .string ⟨#[]⟩, .slice none 0 0, .slice none 0 0] := al2_1 w _ _
  replace HK := Lib.hid (Blks.cons hX1 HK.out)
  clear hb hX0 hX1
  generalize (((w.alloc (.cells #[.int .i64 3, .int .i64 kmi, .bool bmi, .string xmi, .slice Ami nmi cmi, .slice Bmi mmi dmi, .string mme, .bool mha, .int .i64 kmp, .bool bmp, .string xmp, .slice Amp nmp cmp, .slice Bmp mmp dmp, .int .i64 kmr, .bool bmr, .string xmr, .slice Amr nmr cmr, .slice Bmr mmr dmr, .int .i64 mco, .string mte] 46))).alloc (.cells #[.int .i64 0, .bool false, .string ⟨#[]⟩, .slice none 0 0, .slice none 0 0] 25)) = w1 at *
  go_wp2_with ((refine wpList_load_row rfl 46 (.tmp 1) rfl (w.heap.size) rfl 46 #[.int .i64 3, .int .i64 kmi, .bool bmi, .string xmi, .slice Ami nmi cmi, .slice Bmi mmi dmi, .string mme, .bool mha, .int .i64 kmp, .bool bmp, .string xmp, .slice Amp nmp cmp, .slice Bmp mmp dmp, .int .i64 kmr, .bool bmr, .string xmr, .slice Amr nmr cmr, .slice Bmr mmr dmr, .int .i64 mco, .string mte] (0, 0) _ (Blks.hd (Blks.tl HK.out)) Tryz.underlying46 rfl (by kernel_rfl) ?_))
  refine (HMY.out w1 _ _ HMS.out HM.out).mono ?_
  rintro e w2 ⟨rfl, hb⟩
  replace HVi := Lib.hid (HVi.out.up hb)
  replace HVp := Lib.hid (HVp.out.up hb)
  replace HVr := Lib.hid (HVr.out.up hb)
  replace HM := Lib.hid (HM.out.on hb)
  replace HP := Lib.hid (HP.out.on hb)
  replace HMS := Lib.hid (HMS.out.up hb)
  replace HK := Lib.hid (HK.out.on hb)
  replace HB := Lib.hid (HB.out.trans (hb.mono HB.out.size))
  clear hb
  clear HMY HMS
  go_upto_region 4 with (fail)
  have HAD := Lib.hid (AdV.new w2)
  generalize (w2.alloc (.cells #[.int .i64 5, .bool false, .string ⟨#[]⟩, .slice none 0 0, .slice none 0 0] 25)) = x0_ at *
  go_wp2_with fail
  refine (vText_any _ x0_).mono ?_
  rintro e x1_ ⟨rfl, hb⟩
  replace HAD := Lib.hid (HAD.out.on hb)
  clear hb
  go_wp2_with fail
  refine (add_any w2 x1_ _ _ _ VT.rpcN (txT VT.twoS) _ HAD.out (leaf_VAL _ _ 3 _ (by decide)) (Nat.le_of_ble_eq_true rfl)).mono ?_
  rintro e x2_ ⟨rfl, hA⟩
  replace HAD := Lib.hid hA
  clear hA
  have hg := (Blks.hd (Blks.tl HK.out)).on HAD.out.below
  have y0 := hg.c 0 rfl
  have y1 := hg.c 1 rfl
  have y2 := hg.c 2 rfl
  have y3 := hg.c 3 rfl
  have y4 := hg.c 4 rfl
  have y5 := hg.c 5 rfl
  clear hg
  go_wp2_with fail
  clear y0 y1 y2 y3 y4 y5
  refine (add_any w2 x2_ _ _ _ VT.idN mid _ HAD.out (VAL.mono (fun b hb => ⟨.inl (Nat.lt_of_lt_of_le hb.1 HB.out.size), hb.2⟩) (VLV.up HVi.out HAD.out.below)) (Nat.le_of_ble_eq_true rfl)).mono ?_
  rintro e x3_ ⟨rfl, hA⟩
  replace HAD := Lib.hid hA
  clear hA
  have hg := (Blks.hd (Blks.tl HK.out)).on HAD.out.below
  have y0 := hg.c 0 rfl
  have y13 := hg.c 13 rfl
  have y14 := hg.c 14 rfl
  have y15 := hg.c 15 rfl
  have y16 := hg.c 16 rfl
  have y17 := hg.c 17 rfl
  clear hg
  go_wp2_with fail
  clear y0 y13 y14 y15 y16 y17
  refine (add_any w2 x3_ _ _ _ VT.resultN mre _ HAD.out (VAL.mono (fun b hb => ⟨.inl (Nat.lt_of_lt_of_le hb.1 HB.out.size), hb.2⟩) (VLV.up HVr.out HAD.out.below)) (Nat.le_of_ble_eq_true rfl)).mono ?_
  rintro e x4_ ⟨rfl, hA⟩
  replace HAD := Lib.hid hA
  clear hA
  clear HP
  obtain ⟨OA, oc, NA, nc, hbk, hvl⟩ := HAD.out.obj
  rw [← HTR.out] at hvl
  have HVL := Lib.hid hvl
  have HBK := Lib.hid hbk
  clear hvl hbk HTR
  obtain ⟨l1, hl1⟩ : ∃ n, ([] ++ [VT.rpcN] ++ [VT.idN] ++ [VT.resultN]).length = n := ⟨_, rfl⟩
  obtain ⟨l2, hl2⟩ : ∃ n, ([] ++ [txT VT.twoS] ++ [mid] ++ [mre]).length = n := ⟨_, rfl⟩
  rw [hl1, hl2] at HVL HBK
  clear hl1 hl2
  have hg := HBK.out
  have u0 := hg.c 0 rfl
  have u1 := hg.c 1 rfl
  have u2 := hg.c 2 rfl
  have u3 := hg.c 3 rfl
  have u4 := hg.c 4 rfl
  clear hg
  go_wp2_with fail
  clear u0 u1 u2 u3 u4
  refine (HCK.out x4_ _ _ HVL.out).mono ?_
  rintro e x5_ ⟨rfl, hb⟩
  replace HAD := Lib.hid (HAD.out.on hb)
  replace HVL := Lib.hid (HVL.out.up hb)
  replace HBK := Lib.hid (HBK.out.on hb)
  clear hb
  by_cases hc : ¬ ck = 0
  · have q1 := bne_t hc
    have h1 := HER.out
    have h2 := HRT.out
    rw [decide_eq_false hc] at h1 h2
    simp only [Bool.false_eq_true, if_false] at h1 h2
    clear HER HRT
    subst h1 h2
    clear hc
    have hb := HAD.out.below
    replace HVi := Lib.hid (HVi.out.up hb)
    replace HVp := Lib.hid (HVp.out.up hb)
    replace HVr := Lib.hid (HVr.out.up hb)
    replace HM := Lib.hid (HM.out.on hb)
    replace HK := Lib.hid (HK.out.on hb)
    replace HB := Lib.hid (HB.out.trans (hb.mono HB.out.size))
    clear hb
    clear HAD HVL HBK
    go_wp2_with (
      refine store_fld rfl rfl 25 (.tmp 2) (.tmp 63) rfl (w.heap.size + 1) 0 (.agg #[.int .i64 0, .bool false, .string ⟨#[]⟩, .slice none 0 0, .slice none 0 0]) [.int .i64 0, .bool false, .string ⟨#[]⟩, .slice none 0 0, .slice none 0 0] rfl rfl rfl #[.int .i64 0, .bool false, .string ⟨#[]⟩, .slice none 0 0, .slice none 0 0] (Blks.hd HK.out) (by kernel_rfl) (Nat.le_of_ble_eq_true rfl) (by simp [Value.oneCell']) rfl ?_
      intro w3 hS hbt hsz
      replace HVi := Lib.hid (HVi.out.butL hbt (by omega))
      replace HVp := Lib.hid (HVp.out.butL hbt (by omega))
      replace HVr := Lib.hid (HVr.out.butL hbt (by omega))
      replace HM := Lib.hid (ML.but2 HM0.out HM.out hbt (by omega))
      replace HK := Lib.hid (Blks.cons hS (Blks.one (BK.but (Blks.hd (Blks.tl HK.out)) hbt (by omega))))
      replace HB := Lib.hid (hbt.below HB.out (by omega) HB.out.size)
      clear hbt hS hsz)
    go_wp2
    exact bodyPost_ret (results_row2 rfl _ _ (w.heap.size + 1) _ #[.int .i64 0, .bool false, .string ⟨#[]⟩, .slice none 0 0, .slice none 0 0] _ rfl _ rfl (Blks.hd HK.out) Tryz.underlying25 rfl (by kernel_rfl)) rfl ⟨_, rfl, nul_VLF _ _, HB.out⟩
  replace hc := Classical.not_not.1 hc
  subst hc
  have h1 := HER.out
  have h2 := HRT.out
  rw [show (decide ((0 : Int) = 0)) = true from rfl] at h1 h2
  simp only [if_true] at h1 h2
  clear HER HRT
  subst h1 h2
  have hb := HAD.out.below
  replace HVi := Lib.hid (HVi.out.up hb)
  replace HVp := Lib.hid (HVp.out.up hb)
  replace HVr := Lib.hid (HVr.out.up hb)
  replace HM := Lib.hid (HM.out.on hb)
  replace HK := Lib.hid (HK.out.on hb)
  replace HB := Lib.hid (HB.out.trans (hb.mono HB.out.size))
  clear hb
  have hg := HBK.out
  have u0 := hg.c 0 rfl
  have u1 := hg.c 1 rfl
  have u2 := hg.c 2 rfl
  have u3 := hg.c 3 rfl
  have u4 := hg.c 4 rfl
  clear hg
  go_wp2_with fail
  clear u0 u1 u2 u3 u4
  have HQ : Hid (w.heap.size + 2 ≤ x5_.heap.size) := Lib.hid (by have := (Blks.hd HK.out).lt; omega)
  refine (HCP.out x5_ _ _ HVL.out).mono ?_
  rintro e w3c ⟨v', rfl, hv, hb, hnf⟩
  obtain ⟨kx, bx, xx, Ax, nx, cx, Bx, mx, dx, rfl⟩ := VAL.shape hv
  have HVx := Lib.hid (VAL.zf hv hnf HQ.out)
  clear hv hnf HAD HVL HBK HQ
  replace HVi := Lib.hid (HVi.out.up hb)
  replace HVp := Lib.hid (HVp.out.up hb)
  replace HVr := Lib.hid (HVr.out.up hb)
  replace HM := Lib.hid (HM.out.on hb)
  replace HK := Lib.hid (HK.out.on hb)
  replace HB := Lib.hid (HB.out.trans (hb.mono HB.out.size))
  clear hb
  go_wp2_with (
    refine store_fld rfl rfl 25 (.tmp 2) (.tmp 65) rfl (w.heap.size + 1) 0 (.agg #[.int .i64 kx, .bool bx, .string xx, .slice Ax nx cx, .slice Bx mx dx]) [.int .i64 kx, .bool bx, .string xx, .slice Ax nx cx, .slice Bx mx dx] rfl rfl rfl #[.int .i64 kx, .bool bx, .string xx, .slice Ax nx cx, .slice Bx mx dx] (Blks.hd HK.out) (by kernel_rfl) (Nat.le_of_ble_eq_true rfl) (by simp [Value.oneCell']) rfl ?_
    intro w4 hS hbt hsz
    replace HVi := Lib.hid (HVi.out.butL hbt (by omega))
    replace HVp := Lib.hid (HVp.out.butL hbt (by omega))
    replace HVr := Lib.hid (HVr.out.butL hbt (by omega))
    replace HM := Lib.hid (ML.but2 HM0.out HM.out hbt (by omega))
    replace HVx := Lib.hid (HVx.out.but hbt (by omega))
    replace HK := Lib.hid (Blks.cons hS (Blks.one (BK.but (Blks.hd (Blks.tl HK.out)) hbt (by omega))))
    replace HB := Lib.hid (hbt.below HB.out (by omega) HB.out.size)
    clear hbt hS hsz)
  go_wp2
  exact bodyPost_ret (results_row2 rfl _ _ (w.heap.size + 1) _ #[.int .i64 kx, .bool bx, .string xx, .slice Ax nx cx, .slice Bx mx dx] _ rfl _ rfl (Blks.hd HK.out) Tryz.underlying25 rfl (by kernel_rfl)) rfl ⟨_, rfl, VLF.le HVx.out (by omega), HB.out⟩
end Go.Proofs.YtfploakafbnigaaGreatDoor
