/-
  Layer 12, the walks: Print, some of its ways.
-/
import Derived.Test.YtfploakafbnigaaGreatDoorCRpcPrintK
namespace Go.Proofs.YtfploakafbnigaaGreatDoor
open Go.RowKit Val Num YtfploakafbnigaaGreatDoorW.PrintLast
set_option linter.unusedVariables false
set_option linter.unusedSimpArgs false
theorem upV_nil : ToldsV.up [] := fun _ h => by cases h
theorem upV_cons {i : Nat} {t : Tmp} {D : List Nat} {F : (Nat → Value) → Nat → Nat → World → Value → Prop} {L : ToldsV} (h : ∀ V V' lo hi w w' v, (∀ j ∈ D, V j = V' j) → hi ≤ w.heap.size → F V lo hi w v → Below w.heap.size w w' → F V' lo hi w' v) (hs : ToldsV.up L) : ToldsV.up ((i, t, D, F) :: L) := fun e he => by
  rcases List.mem_cons.1 he with rfl | he
  · exact h
  · exact hs e he
def tv_flt (g0 : Nat) (mco : Int) (mte : ByteArray) : ToldsV := [(0, 46, [], fun _ lo _ w v => v = .slice (some ⟨lo, 0, none⟩) 2 2 ∧ BK w lo 9 #[.string ⟨#[99, 111, 100, 101]⟩, .string ⟨#[109, 101, 115, 115, 97, 103, 101]⟩]), (1, 47, [], fun _ _ _ _ v => v = .pointer (some ⟨g0, 18, none⟩)), (2, 48, [], fun _ _ _ _ v => v = .int .i64 mco), (3, 49, [], fun _ _ _ _ v => v = .agg #[.int .i64 2, .bool false, .string (bs (numS mco)), .slice none 0 0, .slice none 0 0]), (4, 50, [], fun _ _ _ _ v => v = .pointer (some ⟨g0, 19, none⟩)), (5, 51, [], fun _ _ _ _ v => v = .string mte), (6, 52, [], fun _ _ _ _ v => v = .agg #[.int .i64 3, .bool false, .string mte, .slice none 0 0, .slice none 0 0]), (7, 53, [], fun _ lo _ w v => v = .slice (some ⟨lo, 0, none⟩) 2 2 ∧ BK w lo 25 #[.int .i64 2, .bool false, .string (bs (numS mco)), .slice none 0 0, .slice none 0 0, .int .i64 3, .bool false, .string mte, .slice none 0 0, .slice none 0 0]), (8, 54, [], fun _ lo hi w v => ∃ u, v = .tuple #[u, .int .i64 0] ∧ VAL w (fun b => lo ≤ b ∧ b < hi) (faultT mco mte) u), (9, 45, [8], fun V _ _ _ v => v = V 8), (10, 55, [9], fun V _ _ _ v => ∃ x, V 9 = .tuple #[v, x]), (11, 56, [9], fun V _ _ _ v => ∃ x, V 9 = .tuple #[x, v]), (12, 6, [], fun _ lo hi w v => v = .pointer (some ⟨lo, 0, none⟩) ∧ lo < hi ∧ BK w lo 25 #[.int .i64 0, .bool false, .string ⟨#[]⟩, .slice none 0 0, .slice none 0 0])]
theorem tv_flt_ok (g0 : Nat) (mco : Int) (mte : ByteArray) : (tv_flt g0 mco mte).flat.ok 13 = true := by kernel_rfl
theorem tv_flt_up (g0 : Nat) (mco : Int) (mte : ByteArray) : (tv_flt g0 mco mte).up := (upV_cons (fun _ _ _ _ _ _ _ _ _ h hb => ⟨h.1, h.2.on hb⟩) (upV_cons (fun _ _ _ _ _ _ _ _ _ h _ => h) (upV_cons (fun _ _ _ _ _ _ _ _ _ h _ => h) (upV_cons (fun _ _ _ _ _ _ _ _ _ h _ => h) (upV_cons (fun _ _ _ _ _ _ _ _ _ h _ => h) (upV_cons (fun _ _ _ _ _ _ _ _ _ h _ => h) (upV_cons (fun _ _ _ _ _ _ _ _ _ h _ => h) (upV_cons (fun _ _ _ _ _ _ _ _ _ h hb => ⟨h.1, h.2.on hb⟩) (upV_cons (fun _ _ _ _ _ _ _ _ hh h hb => by obtain ⟨u, e, h⟩ := h; exact ⟨u, e, VAL.same (below_same hb (fun b hq => Nat.lt_of_lt_of_le hq.2 hh)) h⟩) (upV_cons (fun _ _ _ _ _ _ _ hV _ h _ => by rw [h]; exact hV 8 (by simp)) (upV_cons (fun _ _ _ _ _ _ _ hV _ h _ => by obtain ⟨x, h⟩ := h; exact ⟨x, by rw [← hV 9 (by simp)]; exact h⟩) (upV_cons (fun _ _ _ _ _ _ _ hV _ h _ => by obtain ⟨x, h⟩ := h; exact ⟨x, by rw [← hV 9 (by simp)]; exact h⟩) (upV_cons (fun _ _ _ _ _ _ _ _ _ h hb => ⟨h.1, h.2.1, h.2.2.on hb⟩) upV_nil)))))))))))))
set_option maxRecDepth 100000 in
set_option maxHeartbeats 8000000 in
theorem Print_4 (m : MT) (z : Zone) (v : Value) (w : World) (h : MSV z m w v) (hM : ML w) (hP : PTab w) (hk : m.bulk ≤ 1073741000) (ht : (MTtree m).bulk ≤ 1073741824) (hR : MTmay m = true) (hkd : m.kind = 4) (hf : (faultT m.code m.text).bulk ≤ 1073741824) : Calls Tryz.prog 55 #[v] w (PrM m w) := by
  have hq0 := h
  have HMY := Lib.hid (fun W z v (hv : MSV z m W v) (hM : ML W) => mayBe_any m z v W hv hM hk)
  have hI := may_code hR
  have hOK := MTok_may hR
  rw [hR] at HMY
  clear hR
  have HMS : Hid (MSV (zLt w.heap.size) m w v) := Lib.hid (by
    obtain ⟨i0, i1, i2, i3, i4, p0, p1, p2, p3, p4, r0, r1, r2, r3, r4, e, h1, h2, h3⟩ := h
    exact ⟨i0, i1, i2, i3, i4, p0, p1, p2, p3, p4, r0, r1, r2, r3, r4, e, h1.old, h2.old, h3.old⟩)
  clear hq0 hk
  obtain ⟨mk, mid, mme, mha, mpa, mre, mco, mte⟩ := m
  obtain ⟨im0, im1, im2, im3, im4, pm0, pm1, pm2, pm3, pm4, rm0, rm1, rm2, rm3, rm4, rfl, q1, q2, q3⟩ := h
  dsimp only at q1 q2 q3
  obtain ⟨kmi, bmi, xmi, Ami, nmi, cmi, Bmi, mmi, dmi, rfl, rfl, rfl, rfl, rfl⟩ := VAL.shape5 q1
  obtain ⟨kmp, bmp, xmp, Amp, nmp, cmp, Bmp, mmp, dmp, rfl, rfl, rfl, rfl, rfl⟩ := VAL.shape5 q2
  obtain ⟨kmr, bmr, xmr, Amr, nmr, cmr, Bmr, mmr, dmr, rfl, rfl, rfl, rfl, rfl⟩ := VAL.shape5 q3
  have HVi := Lib.hid q1.old
  have HVp := Lib.hid q2.old
  have HVr := Lib.hid q3.old
  clear q1 q2 q3
  dsimp only
  have HM := Lib.hid hM
  have HM0 := Lib.hid hM
  have HP := Lib.hid hP
  have HB := Lib.hid (Below.refl w.heap.size w)
  clear hM hP
  dsimp only at hkd hI
  subst hkd
  unfold PrM
  rw [hOK]
  clear hOK
  have HTR : Hid (MTtree ⟨4, mid, mme, mha, mpa, mre, mco, mte⟩ = obT ([] ++ [VT.rpcN] ++ [VT.idN] ++ [VT.errorN]) ([] ++ [txT VT.twoS] ++ [mid] ++ [faultT mco mte])) := Lib.hid rfl
  have HCK := Lib.hid (fun W z v (hv : VLV z (MTtree ⟨4, mid, mme, mha, mpa, mre, mco, mte⟩) W v) => pCheck_any (MTtree ⟨4, mid, mme, mha, mpa, mre, mco, mte⟩) W _ v hv (z.lt W) ht)
  have HCP := Lib.hid (fun W z v (hv : VLV z (MTtree ⟨4, mid, mme, mha, mpa, mre, mco, mte⟩) W v) => Copy_nf (MTtree ⟨4, mid, mme, mha, mpa, mre, mco, mte⟩) W _ v hv (z.lt W) ht)
  have HI := Lib.hid hI
  clear ht hI
  obtain ⟨ck, hck⟩ : ∃ n, (MTtree ⟨4, mid, mme, mha, mpa, mre, mco, mte⟩).check = n := ⟨_, rfl⟩
  rw [hck] at HCK ⊢
  clear hck
  generalize MTtree ⟨4, mid, mme, mha, mpa, mre, mco, mte⟩ = tr at *
  dsimp only at HMY HMS
  obtain ⟨er, her⟩ : ∃ x, (if decide (ck = 0) = true then (0 : Int) else 120) = x := ⟨_, rfl⟩
  obtain ⟨rT, hrT⟩ : ∃ x, (if decide (ck = 0) = true then tr else VT.nul) = x := ⟨_, rfl⟩
  rw [her, hrT]
  have HER := Lib.hid her
  have HRT := Lib.hid hrT
  clear her hrT
  have HFB := Lib.hid hf
  clear hf
  dsimp only at HFB
  go_enter Tryz.func55, Tryz.ntmps55
  go_upto_region 1 with (fail)
  have hb : Below w.heap.size w (((w.alloc (.cells #[.int .i64 4, .int .i64 kmi, .bool bmi, .string xmi, .slice Ami nmi cmi, .slice Bmi mmi dmi, .string mme, .bool mha, .int .i64 kmp, .bool bmp, .string xmp, .slice Amp nmp cmp, .slice Bmp mmp dmp, .int .i64 kmr, .bool bmr, .string xmr, .slice Amr nmr cmr, .slice Bmr mmr dmr, .int .i64 mco, .string mte] 46))).alloc (.cells #[.int .i64 0, .bool false, .string ⟨#[]⟩, .slice none 0 0, .slice none 0 0] 25)) := al2_below w _ _
  replace HVi := Lib.hid (HVi.out.up hb)
  replace HVp := Lib.hid (HVp.out.up hb)
  replace HVr := Lib.hid (HVr.out.up hb)
  replace HM := Lib.hid (HM.out.on hb)
  replace HP := Lib.hid (HP.out.on hb)
  replace HMS := Lib.hid (HMS.out.up hb)
  replace HB := Lib.hid (HB.out.trans (hb.mono HB.out.size))
  have hX0 : BK (((w.alloc (.cells #[.int .i64 4, .int .i64 kmi, .bool bmi, .string xmi, .slice Ami nmi cmi, .slice Bmi mmi dmi, .string mme, .bool mha, .int .i64 kmp, .bool bmp, .string xmp, .slice Amp nmp cmp, .slice Bmp mmp dmp, .int .i64 kmr, .bool bmr, .string xmr, .slice Amr nmr cmr, .slice Bmr mmr dmr, .int .i64 mco, .string mte] 46))).alloc (.cells #[.int .i64 0, .bool false, .string ⟨#[]⟩, .slice none 0 0, .slice none 0 0] 25)) (w.heap.size) 46 #[.int .i64 4, .int .i64 kmi, .bool bmi, .string xmi, .slice Ami nmi cmi, .slice Bmi mmi dmi, .string mme, .bool mha, .int .i64 kmp, .bool bmp, .string xmp, .slice Amp nmp cmp, .slice Bmp mmp dmp, .int .i64 kmr, .bool bmr, .string xmr, .slice Amr nmr cmr, .slice Bmr mmr dmr, .int .i64 mco, .string mte] := al2_0 w _ _
  have HK := Lib.hid (Blks.one hX0)
  have hX1 : BK (((w.alloc (.cells #[.int .i64 4, .int .i64 kmi, .bool bmi, .string xmi, .slice Ami nmi cmi, .slice Bmi mmi dmi, .string mme, .bool mha, .int .i64 kmp, .bool bmp, .string xmp, .slice Amp nmp cmp, .slice Bmp mmp dmp, .int .i64 kmr, .bool bmr, .string xmr, .slice Amr nmr cmr, .slice Bmr mmr dmr, .int .i64 mco, .string mte] 46))).alloc (.cells #[.int .i64 0, .bool false, .string ⟨#[]⟩, .slice none 0 0, .slice none 0 0] 25)) (w.heap.size + 1) 25 #[.int .i64 0, .bool false, .string ⟨#[]⟩, .slice none 0 0, .slice none 0 0] := al2_1 w _ _
  replace HK := Lib.hid (Blks.cons hX1 HK.out)
  clear hb hX0 hX1
  generalize (((w.alloc (.cells #[.int .i64 4, .int .i64 kmi, .bool bmi, .string xmi, .slice Ami nmi cmi, .slice Bmi mmi dmi, .string mme, .bool mha, .int .i64 kmp, .bool bmp, .string xmp, .slice Amp nmp cmp, .slice Bmp mmp dmp, .int .i64 kmr, .bool bmr, .string xmr, .slice Amr nmr cmr, .slice Bmr mmr dmr, .int .i64 mco, .string mte] 46))).alloc (.cells #[.int .i64 0, .bool false, .string ⟨#[]⟩, .slice none 0 0, .slice none 0 0] 25)) = w1 at *
  go_wp2_with ((refine wpList_load_row rfl 46 (.tmp 1) rfl (w.heap.size) rfl 46 #[.int .i64 4, .int .i64 kmi, .bool bmi, .string xmi, .slice Ami nmi cmi, .slice Bmi mmi dmi, .string mme, .bool mha, .int .i64 kmp, .bool bmp, .string xmp, .slice Amp nmp cmp, .slice Bmp mmp dmp, .int .i64 kmr, .bool bmr, .string xmr, .slice Amr nmr cmr, .slice Bmr mmr dmr, .int .i64 mco, .string mte] (0, 0) _ (Blks.hd (Blks.tl HK.out)) Tryz.underlying46 rfl (by kernel_rfl) ?_))
  refine (HMY.out w1 _ _ HMS.out HM.out).mono ?_
  rintro e w2 ⟨rfl, hb⟩
  replace HVi := Lib.hid (HVi.out.up hb)
  replace HVp := Lib.hid (HVp.out.up hb)
  replace HVr := Lib.hid (HVr.out.up hb)
  replace HM := Lib.hid (HM.out.on hb)
  replace HP := Lib.hid (HP.out.on hb)
  replace HMS := Lib.hid (HMS.out.up hb)
  replace HK := Lib.hid (HK.out.on hb)
  replace HB := Lib.hid (HB.out.trans (hb.mono HB.out.size))
  clear hb
  clear HMY HMS
  go_upto_region 4 with (fail)
  have HAD := Lib.hid (AdV.new w2)
  generalize (w2.alloc (.cells #[.int .i64 5, .bool false, .string ⟨#[]⟩, .slice none 0 0, .slice none 0 0] 25)) = x0_ at *
  go_wp2_with fail
  refine (vText_any _ x0_).mono ?_
  rintro e x1_ ⟨rfl, hb⟩
  replace HAD := Lib.hid (HAD.out.on hb)
  clear hb
  go_wp2_with fail
  refine (add_any w2 x1_ _ _ _ VT.rpcN (txT VT.twoS) _ HAD.out (leaf_VAL _ _ 3 _ (by decide)) (Nat.le_of_ble_eq_true rfl)).mono ?_
  rintro e x2_ ⟨rfl, hA⟩
  replace HAD := Lib.hid hA
  clear hA
  have hg := (Blks.hd (Blks.tl HK.out)).on HAD.out.below
  have y0 := hg.c 0 rfl
  have y1 := hg.c 1 rfl
  have y2 := hg.c 2 rfl
  have y3 := hg.c 3 rfl
  have y4 := hg.c 4 rfl
  have y5 := hg.c 5 rfl
  clear hg
  go_wp2_with fail
  clear y0 y1 y2 y3 y4 y5
  refine (add_any w2 x2_ _ _ _ VT.idN mid _ HAD.out (VAL.mono (fun b hb => ⟨.inl (Nat.lt_of_lt_of_le hb.1 HB.out.size), hb.2⟩) (VLV.up HVi.out HAD.out.below)) (Nat.le_of_ble_eq_true rfl)).mono ?_
  rintro e x3_ ⟨rfl, hA⟩
  replace HAD := Lib.hid hA
  clear hA
  have hg := (Blks.hd (Blks.tl HK.out)).on HAD.out.below
  have y0 := hg.c 0 rfl
  clear hg
  go_wp2_with fail
  clear y0
  refine start_ (n := 15) (S := fun w' => True) (ds := []) #[false, false, false, false, false, false, false, false, false, false, false, false, false, false, false] (by kernel_rfl) rfl rfl trivial (fun hHeld => ?_)
  clear hHeld
  have hb : Below x3_.heap.size x3_ x3_.drew := (Below.refl _ _).drew
  replace HAD := Lib.hid (HAD.out.on hb)
  clear hb
  generalize x3_.drew = x4_ at *
  have HKc := Lib.hid ((Blks.hd (Blks.tl HK.out)).on HAD.out.below)
  have HPc := Lib.hid (HP.out.on HAD.out.below)
  refine inv_at (B := [0, 0, 2, 6, 0, 16, 62, 126, 255, 511, 1023, 1023, 0, 6143, 16383]) [0, 1, 2, 3, 4, 5, 6, 7, 8, 9, 10, 11, 12, 13, 14] (fun a0_ => ToldV (TwoB _ (fun b a w' => ∃ (V : Nat → Value) (g6 l h : Nat) (f0 f1 f2 f3 f4 x : Value), a = putSel a0_ (fun j => j != 11 || b 11) (((tv_flt w.heap.size mco mte)).flat.put V) ∧ V 12 = .pointer (some ⟨g6, 0, none⟩) ∧ V 9 = .tuple #[.agg #[f0, f1, f2, f3, f4], x] ∧ Below x4_.heap.size x4_ w' ∧ BK w' g6 25 #[f0, f1, f2, f3, f4] ∧ VAL w' (fun b => l ≤ b ∧ b < h) (faultT mco mte) (.agg #[f0, f1, f2, f3, f4]) ∧ (x4_.heap.size ≤ l ∧ h ≤ w'.heap.size)) 14) (tv_flt w.heap.size mco mte) 13 x4_ a0_) rfl (by kernel_rfl) (by kernel_rfl) (by kernel_rfl) toldV_begin ?_ (two_endB (by kernel_rfl) (by kernel_rfl))
  refine steps_cons (toldV_step 0 (tv_flt_ok w.heap.size mco mte) (tv_flt_up w.heap.size mco mte) rfl (by kernel_rfl) (by kernel_rfl) ?_) ?_
  · intro b V lo hi a w' ha hB hF hon
    refine ⟨_, rfl, rfl, fun K hK => ?_⟩
    refine value_ (w1 := w'.alloc (.cells #[.string ⟨#[99, 111, 100, 101]⟩, .string ⟨#[109, 101, 115, 115, 97, 103, 101]⟩] 9)) (v := .slice (some ⟨w'.heap.size, 0, none⟩) 2 2) rfl rfl ?_ (hK _ _ (made_end' _ _) ⟨rfl, BK.new _ _ _⟩)
    clear ha hF hon hK K
    go_simp
    all_goals first | rfl | (constructor <;> rfl)
  refine steps_cons (toldV_step 1 (tv_flt_ok w.heap.size mco mte) (tv_flt_up w.heap.size mco mte) rfl (by kernel_rfl) (by kernel_rfl) ?_) ?_
  · intro b V lo hi a w' ha hB hF hon
    refine ⟨_, rfl, rfl, fun K hK => ?_⟩
    have e1 : a.tmps[1]? = some (.pointer (some ⟨w.heap.size, 0, none⟩)) := by rw [ha]; exact (putSel_off (by rfl)).trans rfl
    refine value_ (w1 := w') (v := .pointer (some ⟨w.heap.size, 18, none⟩)) rfl rfl ?_ (hK _ _ (Below.refl _ _) rfl)
    clear ha hF hon hK K
    go_simp
    all_goals first | rfl | (constructor <;> rfl)
  refine steps_cons (toldV_step 2 (tv_flt_ok w.heap.size mco mte) (tv_flt_up w.heap.size mco mte) rfl (by kernel_rfl) (by kernel_rfl) ?_) ?_
  · intro b V lo hi a w' ha hB hF hon
    refine ⟨_, rfl, rfl, fun K hK => ?_⟩
    have e47 := told_get 1 (tv_flt_ok w.heap.size mco mte) rfl ha (hon 1 (by kernel_rfl)) (by kernel_rfl)
    have F47 := (hF.1 _ (List.mem_of_getElem? (i := 1) rfl) (hon 1 (by kernel_rfl))).2.2.2.1
    replace F47 : V 1 = .pointer (some ⟨w.heap.size, 18, none⟩) := F47
    rw [F47] at e47
    have hg := HKc.out.on hB
    have y0 := hg.c 18 rfl
    clear hg
    refine value_ (w1 := w') (v := .int .i64 mco) rfl rfl ?_ (hK _ _ (Below.refl _ _) rfl)
    clear ha hF hon hK K
    go_simp
    all_goals first | rfl | (constructor <;> rfl)
  refine steps_cons (toldV_step 3 (tv_flt_ok w.heap.size mco mte) (tv_flt_up w.heap.size mco mte) rfl (by kernel_rfl) (by kernel_rfl) ?_) ?_
  · intro b V lo hi a w' ha hB hF hon
    refine ⟨_, rfl, rfl, fun K hK => ?_⟩
    have e48 := told_get 2 (tv_flt_ok w.heap.size mco mte) rfl ha (hon 2 (by kernel_rfl)) (by kernel_rfl)
    have F48 := (hF.1 _ (List.mem_of_getElem? (i := 2) rfl) (hon 2 (by kernel_rfl))).2.2.2.1
    replace F48 : V 2 = .int .i64 mco := F48
    rw [F48] at e48
    refine goes_ Tryz.func70 (by kernel_rfl) rfl #[.int .i64 mco] rfl rfl rfl (by simp only [List.map_toArray, List.map_cons, List.map_nil, Act.eval, Array.getD_eq_getD_getElem?, e48, Option.getD_some]) ?_
    refine (vNumber_any mco w' HI.out (HPc.out.on hB)).mono ?_
    rintro e w'' ⟨rfl, hb⟩
    exact ⟨_, rfl, hK _ w'' hb rfl⟩
  refine steps_cons (toldV_step 4 (tv_flt_ok w.heap.size mco mte) (tv_flt_up w.heap.size mco mte) rfl (by kernel_rfl) (by kernel_rfl) ?_) ?_
  · intro b V lo hi a w' ha hB hF hon
    refine ⟨_, rfl, rfl, fun K hK => ?_⟩
    have e1 : a.tmps[1]? = some (.pointer (some ⟨w.heap.size, 0, none⟩)) := by rw [ha]; exact (putSel_off (by rfl)).trans rfl
    refine value_ (w1 := w') (v := .pointer (some ⟨w.heap.size, 19, none⟩)) rfl rfl ?_ (hK _ _ (Below.refl _ _) rfl)
    clear ha hF hon hK K
    go_simp
    all_goals first | rfl | (constructor <;> rfl)
  refine steps_cons (toldV_step 5 (tv_flt_ok w.heap.size mco mte) (tv_flt_up w.heap.size mco mte) rfl (by kernel_rfl) (by kernel_rfl) ?_) ?_
  · intro b V lo hi a w' ha hB hF hon
    refine ⟨_, rfl, rfl, fun K hK => ?_⟩
    have e50 := told_get 4 (tv_flt_ok w.heap.size mco mte) rfl ha (hon 4 (by kernel_rfl)) (by kernel_rfl)
    have F50 := (hF.1 _ (List.mem_of_getElem? (i := 4) rfl) (hon 4 (by kernel_rfl))).2.2.2.1
    replace F50 : V 4 = .pointer (some ⟨w.heap.size, 19, none⟩) := F50
    rw [F50] at e50
    have hg := HKc.out.on hB
    have y0 := hg.c 19 rfl
    clear hg
    refine value_ (w1 := w') (v := .string mte) rfl rfl ?_ (hK _ _ (Below.refl _ _) rfl)
    clear ha hF hon hK K
    go_simp
    all_goals first | rfl | (constructor <;> rfl)
  refine steps_cons (toldV_step 6 (tv_flt_ok w.heap.size mco mte) (tv_flt_up w.heap.size mco mte) rfl (by kernel_rfl) (by kernel_rfl) ?_) ?_
  · intro b V lo hi a w' ha hB hF hon
    refine ⟨_, rfl, rfl, fun K hK => ?_⟩
    have e51 := told_get 5 (tv_flt_ok w.heap.size mco mte) rfl ha (hon 5 (by kernel_rfl)) (by kernel_rfl)
    have F51 := (hF.1 _ (List.mem_of_getElem? (i := 5) rfl) (hon 5 (by kernel_rfl))).2.2.2.1
    replace F51 : V 5 = .string mte := F51
    rw [F51] at e51
    refine goes_ Tryz.func72 (by kernel_rfl) rfl #[.string mte] rfl rfl rfl (by simp only [List.map_toArray, List.map_cons, List.map_nil, Act.eval, Array.getD_eq_getD_getElem?, e51, Option.getD_some]) ?_
    refine (vText_any mte w').mono ?_
    rintro e w'' ⟨rfl, hb⟩
    exact ⟨_, rfl, hK _ w'' hb rfl⟩
  refine steps_cons (toldV_step 7 (tv_flt_ok w.heap.size mco mte) (tv_flt_up w.heap.size mco mte) rfl (by kernel_rfl) (by kernel_rfl) ?_) ?_
  · intro b V lo hi a w' ha hB hF hon
    refine ⟨_, rfl, rfl, fun K hK => ?_⟩
    have e49 := told_get 3 (tv_flt_ok w.heap.size mco mte) rfl ha (hon 3 (by kernel_rfl)) (by kernel_rfl)
    have F49 := (hF.1 _ (List.mem_of_getElem? (i := 3) rfl) (hon 3 (by kernel_rfl))).2.2.2.1
    replace F49 : V 3 = .agg #[.int .i64 2, .bool false, .string (bs (numS mco)), .slice none 0 0, .slice none 0 0] := F49
    rw [F49] at e49
    have e52 := told_get 6 (tv_flt_ok w.heap.size mco mte) rfl ha (hon 6 (by kernel_rfl)) (by kernel_rfl)
    have F52 := (hF.1 _ (List.mem_of_getElem? (i := 6) rfl) (hon 6 (by kernel_rfl))).2.2.2.1
    replace F52 : V 6 = .agg #[.int .i64 3, .bool false, .string mte, .slice none 0 0, .slice none 0 0] := F52
    rw [F52] at e52
    refine value_ (w1 := w'.alloc (.cells #[.int .i64 2, .bool false, .string (bs (numS mco)), .slice none 0 0, .slice none 0 0, .int .i64 3, .bool false, .string mte, .slice none 0 0, .slice none 0 0] 25)) (v := .slice (some ⟨w'.heap.size, 0, none⟩) 2 2) rfl rfl ?_ (hK _ _ (made_end' _ _) ⟨rfl, BK.new _ _ _⟩)
    clear ha hF hon hK K
    go_simp
    all_goals first | rfl | (constructor <;> rfl)
  refine steps_cons (toldV_step 8 (tv_flt_ok w.heap.size mco mte) (tv_flt_up w.heap.size mco mte) rfl (by kernel_rfl) (by kernel_rfl) ?_) ?_
  · intro b V lo hi a w' ha hB hF hon
    refine ⟨_, rfl, rfl, fun K hK => ?_⟩
    have e46 := told_get 0 (tv_flt_ok w.heap.size mco mte) rfl ha (hon 0 (by kernel_rfl)) (by kernel_rfl)
    have F46 := (hF.1 _ (List.mem_of_getElem? (i := 0) rfl) (hon 0 (by kernel_rfl))).2.2.2.1
    have e53 := told_get 7 (tv_flt_ok w.heap.size mco mte) rfl ha (hon 7 (by kernel_rfl)) (by kernel_rfl)
    have F53 := (hF.1 _ (List.mem_of_getElem? (i := 7) rfl) (hon 7 (by kernel_rfl))).2.2.2.1
    obtain ⟨hv46, bk46⟩ := F46
    obtain ⟨hv53, bk53⟩ := F53
    rw [hv46] at e46
    rw [hv53] at e53
    refine goes_ Tryz.func125 (by kernel_rfl) rfl #[.slice (some ⟨lo 0, 0, none⟩) 2 2, .slice (some ⟨lo 7, 0, none⟩) 2 2] rfl rfl rfl (by simp only [List.map_toArray, List.map_cons, List.map_nil, Act.eval, Array.getD_eq_getD_getElem?, e46, e53, Option.getD_some]) ?_
    refine (Make_any [VT.codeN, VT.messageN] [nbT mco, txT mte] (fun b => b < w'.heap.size) _ _ _ _ w' (BL.TS bk46 _ rfl) (BL.VS bk53 _ (VR.cons (leaf_VAL _ _ 2 _ (by decide)) (VR.cons (leaf_VAL _ _ 3 _ (by decide)) (VR.none _ _)))) (fun _ h => h) rfl (by have := HFB.out; exact this)).mono ?_
    rintro e w'' ⟨u, rfl, hv, hb⟩
    exact ⟨_, rfl, hK _ w'' hb ⟨u, rfl, hv⟩⟩
  refine steps_cons (toldV_step 9 (tv_flt_ok w.heap.size mco mte) (tv_flt_up w.heap.size mco mte) rfl (by kernel_rfl) (by kernel_rfl) ?_) ?_
  · intro b V lo hi a w' ha hB hF hon
    refine ⟨_, rfl, rfl, fun K hK => ?_⟩
    have e54 := told_get 8 (tv_flt_ok w.heap.size mco mte) rfl ha (hon 8 (by kernel_rfl)) (by kernel_rfl)
    have F54 := (hF.1 _ (List.mem_of_getElem? (i := 8) rfl) (hon 8 (by kernel_rfl))).2.2.2.1
    refine value_ (w1 := w') (v := V 8) rfl rfl ?_ (hK _ _ (Below.refl _ _) rfl)
    clear F54
    clear ha hF hon hK K
    go_simp
    all_goals first | rfl | (constructor <;> rfl)
  refine steps_cons (toldV_step 10 (tv_flt_ok w.heap.size mco mte) (tv_flt_up w.heap.size mco mte) rfl (by kernel_rfl) (by kernel_rfl) ?_) ?_
  · intro b V lo hi a w' ha hB hF hon
    refine ⟨_, rfl, rfl, fun K hK => ?_⟩
    have e45 := told_get 9 (tv_flt_ok w.heap.size mco mte) rfl ha (hon 9 (by kernel_rfl)) (by kernel_rfl)
    have F45 := (hF.1 _ (List.mem_of_getElem? (i := 9) rfl) (hon 9 (by kernel_rfl))).2.2.2.1
    replace F45 : V 9 = V 8 := F45
    have F54 := (hF.1 _ (List.mem_of_getElem? (i := 8) rfl) (hon 8 (by kernel_rfl))).2.2.2.1
    obtain ⟨u, hu, -⟩ := F54
    rw [hu] at F45
    rw [F45] at e45
    refine value_ (w1 := w') (v := u) rfl rfl ?_ (hK _ _ (Below.refl _ _) ⟨_, F45⟩)
    clear F45 hu
    clear ha hF hon hK K
    go_simp
    all_goals first | rfl | (constructor <;> rfl)
  refine steps_cons (toldV_stepF 11 (tv_flt_ok w.heap.size mco mte) (tv_flt_up w.heap.size mco mte) rfl (by kernel_rfl) (by decide) ?_ ?_) ?_
  · intro b V lo hi a w' ha hB hF hon
    refine ⟨_, rfl, rfl, fun K hK => ?_⟩
    have e45 := told_get 9 (tv_flt_ok w.heap.size mco mte) rfl ha (hon 9 (by kernel_rfl)) (by kernel_rfl)
    have F45 := (hF.1 _ (List.mem_of_getElem? (i := 9) rfl) (hon 9 (by kernel_rfl))).2.2.2.1
    replace F45 : V 9 = V 8 := F45
    have F54 := (hF.1 _ (List.mem_of_getElem? (i := 8) rfl) (hon 8 (by kernel_rfl))).2.2.2.1
    obtain ⟨u, hu, -⟩ := F54
    rw [hu] at F45
    rw [F45] at e45
    refine value_ (w1 := w') (v := .int .i64 0) rfl rfl ?_ (hK _ _ (Below.refl _ _) ⟨_, F45⟩)
    clear F45 hu
    clear ha hF hon hK K
    go_simp
    all_goals first | rfl | (constructor <;> rfl)
  · intro b a w' hbs hb0 hR hon hoff
    refine ⟨_, rfl, rfl, fun K hK => ?_⟩
    have hb14 : b 14 = false := hoff 14 (by kernel_rfl)
    obtain ⟨V, g6, l6, h6, f0, f1, f2, f3, f4, x, ha, hv6, hv9, hb, bk6, hvl, q1, q2⟩ := hR.1 hb14
    have e45 := told_get 9 (tv_flt_ok w.heap.size mco mte) rfl ha (by simp) (by kernel_rfl)
    rw [hv9] at e45
    refine value_ (w1 := w') (v := x) rfl rfl ?_ (hK _ _ ⟨fun _ => ⟨fun j => if j = 11 then x else V j, g6, l6, h6, f0, f1, f2, f3, f4, x, ?_, hv6, hv9, hb, bk6, hvl, q1, q2⟩, fun h => by rw [show (fun k => if k = 11 then true else b k) 14 = b 14 from rfl, hb14] at h; cases h⟩)
    · clear ha hK K
      go_simp
      all_goals first | rfl | (constructor <;> rfl)
    · rw [ha, putV_up (tv_flt_ok w.heap.size mco mte) 11 rfl (by simp [hb0])]
      congr 1
      funext j
      by_cases e : j = 11 <;> simp [e]
  refine steps_cons (toldV_step 12 (tv_flt_ok w.heap.size mco mte) (tv_flt_up w.heap.size mco mte) rfl (by kernel_rfl) (by kernel_rfl) ?_) ?_
  · intro b V lo hi a w' ha hB hF hon
    refine ⟨_, rfl, rfl, fun K hK => ?_⟩
    refine value_ (w1 := w'.alloc (.cells #[.int .i64 0, .bool false, .string ⟨#[]⟩, .slice none 0 0, .slice none 0 0] 25)) (v := .pointer (some ⟨w'.heap.size, 0, none⟩)) rfl rfl ?_ (hK _ _ (made_end' _ _) ⟨rfl, by simp, BK.new _ _ _⟩)
    clear ha hF hon hK K
    go_simp
    all_goals first | rfl | (constructor <;> rfl)
  refine steps_cons (two_firstB (f := 11) ?_ (by kernel_rfl) (by decide) ?_) ?_
  · intro e he hf; simp only [tv_flt, List.mem_cons, List.mem_nil_iff, or_false] at he; rcases he with rfl | rfl | rfl | rfl | rfl | rfl | rfl | rfl | rfl | rfl | rfl | rfl | rfl <;> first | exact absurd rfl hf | kernel_rfl
  · intro b V lo hi a w' hall ha hB hF
    refine ⟨_, rfl, fun K hK => ?_⟩
    have e54 := told_get 8 (tv_flt_ok w.heap.size mco mte) rfl ha (hall _ (List.mem_of_getElem? (i := 8) rfl) (by show (8 : Nat) ≠ 11; decide)) (by kernel_rfl)
    have F54 := (hF.1 _ (List.mem_of_getElem? (i := 8) rfl) (hall _ (List.mem_of_getElem? (i := 8) rfl) (by show (8 : Nat) ≠ 11; decide))).2.2.2.1
    have e45 := told_get 9 (tv_flt_ok w.heap.size mco mte) rfl ha (hall _ (List.mem_of_getElem? (i := 9) rfl) (by show (9 : Nat) ≠ 11; decide)) (by kernel_rfl)
    have F45 := (hF.1 _ (List.mem_of_getElem? (i := 9) rfl) (hall _ (List.mem_of_getElem? (i := 9) rfl) (by show (9 : Nat) ≠ 11; decide))).2.2.2.1
    have e55 := told_get 10 (tv_flt_ok w.heap.size mco mte) rfl ha (hall _ (List.mem_of_getElem? (i := 10) rfl) (by show (10 : Nat) ≠ 11; decide)) (by kernel_rfl)
    have F55 := (hF.1 _ (List.mem_of_getElem? (i := 10) rfl) (hall _ (List.mem_of_getElem? (i := 10) rfl) (by show (10 : Nat) ≠ 11; decide))).2.2.2.1
    have e6 := told_get 12 (tv_flt_ok w.heap.size mco mte) rfl ha (hall _ (List.mem_of_getElem? (i := 12) rfl) (by show (12 : Nat) ≠ 11; decide)) (by kernel_rfl)
    have F6 := (hF.1 _ (List.mem_of_getElem? (i := 12) rfl) (hall _ (List.mem_of_getElem? (i := 12) rfl) (by show (12 : Nat) ≠ 11; decide))).2.2.2.1
    obtain ⟨u, hu, hvl⟩ := F54
    replace F45 : V 9 = V 8 := F45
    obtain ⟨x, F55⟩ := F55
    rw [F45, hu] at F55
    have HV9 : Hid (V 9 = .tuple #[u, .int .i64 0]) := Lib.hid (F45.trans hu)
    injection F55 with F55
    injection F55 with F55
    injection F55 with F55 _
    obtain ⟨hv6, hl6, bk6⟩ := F6
    obtain ⟨kq, bq, xq, Aq, nq, cq, Bq, mq, dq, rfl⟩ := VAL.shape hvl
    rw [hv6] at e6
    rw [← F55] at e55
    have dd := hF.2 _ (List.mem_of_getElem? (i := 8) rfl) _ (List.mem_of_getElem? (i := 12) rfl) (hall _ (List.mem_of_getElem? (i := 8) rfl) (by show (8 : Nat) ≠ 11; decide)) (hall _ (List.mem_of_getElem? (i := 12) rfl) (by show (12 : Nat) ≠ 11; decide)) (by show (8 : Nat) ≠ 12; decide)
    have b8 := hF.1 _ (List.mem_of_getElem? (i := 8) rfl) (hall _ (List.mem_of_getElem? (i := 8) rfl) (by show (8 : Nat) ≠ 11; decide))
    have b6 := hF.1 _ (List.mem_of_getElem? (i := 12) rfl) (hall _ (List.mem_of_getElem? (i := 12) rfl) (by show (12 : Nat) ≠ 11; decide))
    have q2 := b8.2.2.1
    have q8 := b8.1
    have q6 := b6.1
    clear b8 b6 hF e54 e45 F45
    dsimp only at dd q2 q8 q6 hl6 bk6 hvl
    refine store_fldK rfl rfl 25 (.tmp 6) (.tmp 55) rfl (lo 12) 0 (.agg #[.int .i64 kq, .bool bq, .string xq, .slice Aq nq cq, .slice Bq mq dq]) [.int .i64 kq, .bool bq, .string xq, .slice Aq nq cq, .slice Bq mq dq] (by simp only [Act.eval, Array.getD_eq_getD_getElem?, e6, Option.getD_some]) (by simp only [Act.eval, Array.getD_eq_getD_getElem?, e55, Option.getD_some]) rfl #[.int .i64 kq, .bool bq, .string xq, .slice Aq nq cq, .slice Bq mq dq] bk6 (by kernel_rfl) (Nat.le_of_ble_eq_true rfl) (by simp [Value.oneCell']) rfl (fun W hS hbt hsz => hK _ _ ?_)
    refine ⟨V, lo 12, lo 8, hi 8, _, _, _, _, _, _, ?_, hv6, HV9.out, hbt.below hB (by omega) hB.size, hS, VAL.same (hbt.same (fun b hq => ⟨by omega, by omega⟩)) hvl, by omega, by rw [hsz]; exact q2⟩
    rw [ha]
    refine putSel_eq _ _ (fun e he => ?_)
    obtain ⟨y, hy, rfl⟩ := List.mem_map.1 he
    obtain ⟨y2, hy2, rfl⟩ := List.mem_map.1 hy
    by_cases e11 : y2.1 = 11
    · show b y2.1 = (y2.1 != 11 || (if 11 = 13 then true else b 11))
      rw [e11]; simp
    · show b y2.1 = (y2.1 != 11 || (if 11 = 13 then true else b 11))
      rw [hall _ hy2 e11]; simp [e11]
  refine steps_cons (two_lastB (by kernel_rfl) (by decide) ?_) steps_nil
  rintro b a x5_ hon ⟨V, g6, l6, h6, f0, f1, f2, f3, f4, x, ha, hv6, hv9, hb, bk6, hvl, q1, q2⟩
  rw [hon 11 (by kernel_rfl)] at ha
  replace ha : a = putSel _ (fun _ => true) _ := ha.trans (putSel_eq _ _ (fun e he => by simp))
  clear hon hv9
  refine ⟨_, rfl, fun K hK => ?_⟩
  have e56 := told_get 11 (tv_flt_ok w.heap.size mco mte) rfl ha rfl (by kernel_rfl)
  obtain ⟨kq, bq, xq, Aq, nq, cq, Bq, mq, dq, he⟩ := VAL.shape hvl
  injection he with he
  injection he with he
  injection he with z0 he; injection he with z1 he; injection he with z2 he; injection he with z3 he; injection he with z4 he
  subst z0 z1 z2 z3 z4
  clear he
  refine value_ (w1 := x5_) (v := V 11) rfl rfl ?_ (hK _ _ ?_)
  · clear ha hK K
    go_simp
    all_goals first | rfl | (constructor <;> rfl)
  clear hK K e56
  have HVX : Hid (VAL x5_ (fun b => (b < w2.heap.size ∨ _ ≤ b) ∧ b < x5_.heap.size) (faultT mco mte) _) := Lib.hid (VAL.mono (fun b hq => ⟨.inr (Nat.le_trans HAD.out.size (Nat.le_trans q1 hq.1)), Nat.lt_of_lt_of_le hq.2 q2⟩) hvl)
  have HX6 := Lib.hid bk6
  replace HAD := Lib.hid (HAD.out.on hb)
  clear hvl bk6 hb q1 q2 HKc HPc
  rw [ha]
  clear ha
  simp only [tv_flt, ToldsV.flat, Tolds.put, List.map_cons, List.map_nil, putSel, if_true, Act.put, List.setIfInBounds_toArray, List.set_cons_zero, List.set_cons_succ, hv6]
  clear hv6
  generalize V 0 = t0_
  generalize V 1 = t1_
  generalize V 2 = t2_
  generalize V 3 = t3_
  generalize V 4 = t4_
  generalize V 5 = t5_
  generalize V 6 = t6_
  generalize V 7 = t7_
  generalize V 8 = t8_
  generalize V 9 = t9_
  generalize V 10 = t10_
  generalize V 11 = t11_
  try clear V
  have hg := HX6.out
  have y0 := hg.c 0 rfl
  have y1 := hg.c 1 rfl
  have y2 := hg.c 2 rfl
  have y3 := hg.c 3 rfl
  have y4 := hg.c 4 rfl
  clear hg
  go_wp2_with fail
  clear y0 y1 y2 y3 y4
  refine (add_any w2 x5_ _ _ _ VT.errorN (faultT mco mte) _ HAD.out HVX.out (Nat.le_of_ble_eq_true rfl)).mono ?_
  rintro e x6_ ⟨rfl, hA⟩
  replace HAD := Lib.hid hA
  clear hA
  clear HVX HX6
  clear HP
  obtain ⟨OA, oc, NA, nc, hbk, hvl⟩ := HAD.out.obj
  rw [← HTR.out] at hvl
  have HVL := Lib.hid hvl
  have HBK := Lib.hid hbk
  clear hvl hbk HTR
  obtain ⟨l1, hl1⟩ : ∃ n, ([] ++ [VT.rpcN] ++ [VT.idN] ++ [VT.errorN]).length = n := ⟨_, rfl⟩
  obtain ⟨l2, hl2⟩ : ∃ n, ([] ++ [txT VT.twoS] ++ [mid] ++ [faultT mco mte]).length = n := ⟨_, rfl⟩
  rw [hl1, hl2] at HVL HBK
  clear hl1 hl2
  have hg := HBK.out
  have u0 := hg.c 0 rfl
  have u1 := hg.c 1 rfl
  have u2 := hg.c 2 rfl
  have u3 := hg.c 3 rfl
  have u4 := hg.c 4 rfl
  clear hg
  go_wp2_with fail
  clear u0 u1 u2 u3 u4
  refine (HCK.out x6_ _ _ HVL.out).mono ?_
  rintro e x7_ ⟨rfl, hb⟩
  replace HAD := Lib.hid (HAD.out.on hb)
  replace HVL := Lib.hid (HVL.out.up hb)
  replace HBK := Lib.hid (HBK.out.on hb)
  clear hb
  by_cases hc : ¬ ck = 0
  · have q1 := bne_t hc
    have h1 := HER.out
    have h2 := HRT.out
    rw [decide_eq_false hc] at h1 h2
    simp only [Bool.false_eq_true, if_false] at h1 h2
    clear HER HRT
    subst h1 h2
    clear hc
    have hb := HAD.out.below
    replace HVi := Lib.hid (HVi.out.up hb)
    replace HVp := Lib.hid (HVp.out.up hb)
    replace HVr := Lib.hid (HVr.out.up hb)
    replace HM := Lib.hid (HM.out.on hb)
    replace HK := Lib.hid (HK.out.on hb)
    replace HB := Lib.hid (HB.out.trans (hb.mono HB.out.size))
    clear hb
    clear HAD HVL HBK
    go_wp2_with (
      refine store_fld rfl rfl 25 (.tmp 2) (.tmp 63) rfl (w.heap.size + 1) 0 (.agg #[.int .i64 0, .bool false, .string ⟨#[]⟩, .slice none 0 0, .slice none 0 0]) [.int .i64 0, .bool false, .string ⟨#[]⟩, .slice none 0 0, .slice none 0 0] rfl rfl rfl #[.int .i64 0, .bool false, .string ⟨#[]⟩, .slice none 0 0, .slice none 0 0] (Blks.hd HK.out) (by kernel_rfl) (Nat.le_of_ble_eq_true rfl) (by simp [Value.oneCell']) rfl ?_
      intro w3 hS hbt hsz
      replace HVi := Lib.hid (HVi.out.butL hbt (by omega))
      replace HVp := Lib.hid (HVp.out.butL hbt (by omega))
      replace HVr := Lib.hid (HVr.out.butL hbt (by omega))
      replace HM := Lib.hid (ML.but2 HM0.out HM.out hbt (by omega))
      replace HK := Lib.hid (Blks.cons hS (Blks.one (BK.but (Blks.hd (Blks.tl HK.out)) hbt (by omega))))
      replace HB := Lib.hid (hbt.below HB.out (by omega) HB.out.size)
      clear hbt hS hsz)
    go_wp2
    exact bodyPost_ret (results_row2 rfl _ _ (w.heap.size + 1) _ #[.int .i64 0, .bool false, .string ⟨#[]⟩, .slice none 0 0, .slice none 0 0] _ rfl _ rfl (Blks.hd HK.out) Tryz.underlying25 rfl (by kernel_rfl)) rfl ⟨_, rfl, nul_VLF _ _, HB.out⟩
  replace hc := Classical.not_not.1 hc
  subst hc
  have h1 := HER.out
  have h2 := HRT.out
  rw [show (decide ((0 : Int) = 0)) = true from rfl] at h1 h2
  simp only [if_true] at h1 h2
  clear HER HRT
  subst h1 h2
  have hb := HAD.out.below
  replace HVi := Lib.hid (HVi.out.up hb)
  replace HVp := Lib.hid (HVp.out.up hb)
  replace HVr := Lib.hid (HVr.out.up hb)
  replace HM := Lib.hid (HM.out.on hb)
  replace HK := Lib.hid (HK.out.on hb)
  replace HB := Lib.hid (HB.out.trans (hb.mono HB.out.size))
  clear hb
  have hg := HBK.out
  have u0 := hg.c 0 rfl
  have u1 := hg.c 1 rfl
  have u2 := hg.c 2 rfl
  have u3 := hg.c 3 rfl
  have u4 := hg.c 4 rfl
  clear hg
  go_wp2_with fail
  clear u0 u1 u2 u3 u4
  have HQ : Hid (w.heap.size + 2 ≤ x7_.heap.size) := Lib.hid (by have := (Blks.hd HK.out).lt; omega)
  refine (HCP.out x7_ _ _ HVL.out).mono ?_
  rintro e w3c ⟨v', rfl, hv, hb, hnf⟩
  obtain ⟨kx, bx, xx, Ax, nx, cx, Bx, mx, dx, rfl⟩ := VAL.shape hv
  have HVx := Lib.hid (VAL.zf hv hnf HQ.out)
  clear hv hnf HAD HVL HBK HQ
  replace HVi := Lib.hid (HVi.out.up hb)
  replace HVp := Lib.hid (HVp.out.up hb)
  replace HVr := Lib.hid (HVr.out.up hb)
  replace HM := Lib.hid (HM.out.on hb)
  replace HK := Lib.hid (HK.out.on hb)
  replace HB := Lib.hid (HB.out.trans (hb.mono HB.out.size))
  clear hb
  go_wp2_with (
    refine store_fld rfl rfl 25 (.tmp 2) (.tmp 65) rfl (w.heap.size + 1) 0 (.agg #[.int .i64 kx, .bool bx, .string xx, .slice Ax nx cx, .slice Bx mx dx]) [.int .i64 kx, .bool bx, .string xx, .slice Ax nx cx, .slice Bx mx dx] rfl rfl rfl #[.int .i64 kx, .bool bx, .string xx, .slice Ax nx cx, .slice Bx mx dx] (Blks.hd HK.out) (by kernel_rfl) (Nat.le_of_ble_eq_true rfl) (by simp [Value.oneCell']) rfl ?_
    intro w4 hS hbt hsz
    replace HVi := Lib.hid (HVi.out.butL hbt (by omega))
    replace HVp := Lib.hid (HVp.out.butL hbt (by omega))
    replace HVr := Lib.hid (HVr.out.butL hbt (by omega))
    replace HM := Lib.hid (ML.but2 HM0.out HM.out hbt (by omega))
    replace HVx := Lib.hid (HVx.out.but hbt (by omega))
    replace HK := Lib.hid (Blks.cons hS (Blks.one (BK.but (Blks.hd (Blks.tl HK.out)) hbt (by omega))))
    replace HB := Lib.hid (hbt.below HB.out (by omega) HB.out.size)
    clear hbt hS hsz)
  go_wp2
  exact bodyPost_ret (results_row2 rfl _ _ (w.heap.size + 1) _ #[.int .i64 kx, .bool bx, .string xx, .slice Ax nx cx, .slice Bx mx dx] _ rfl _ rfl (Blks.hd HK.out) Tryz.underlying25 rfl (by kernel_rfl)) rfl ⟨_, rfl, VLF.le HVx.out (by omega), HB.out⟩
end Go.Proofs.YtfploakafbnigaaGreatDoor
