/-
  Layer 12, the walks: value.Make; what Print gives.
-/
import Derived.Test.YtfploakafbnigaaGreatDoorCRpcMay
import Derived.Test.YtfploakafbnigaaGreatDoorCRpcAdd
import Derived.Test.YtfploakafbnigaaGreatDoorCRpcToldV
namespace Go.Proofs.YtfploakafbnigaaGreatDoor
open Go.RowKit Val Num YtfploakafbnigaaGreatDoorW.PrintLast
set_option linter.unusedVariables false
set_option linter.unusedSimpArgs false
/-- what Print gives -/
def PrM (m : MT) (w : World) (e : Ending) (w' : World) : Prop := ∃ v', e = .returned (.tuple #[v', .int .i64 (if MTok m = true then 0 else 120)]) ∧ VLF (zNew w.heap.size) (if MTok m = true then MTtree m else .nul) w' v' ∧ Below w.heap.size w w'
theorem AdV.below {w : World} {nms : List ByteArray} {ts : List VT} {B : Nat} {W : World} (h : AdV w nms ts B W) : Below w.heap.size w W := by
  obtain ⟨nv, ov, xs, hM, -⟩ := h
  exact hM.below
theorem AdV.size {w : World} {nms : List ByteArray} {ts : List VT} {B : Nat} {W : World} (h : AdV w nms ts B W) : B ≤ W.heap.size := by
  obtain ⟨nv, ov, xs, -, -, -, h1, -⟩ := h
  exact h1
theorem leaf_VAL (w : World) (S : Nat → Prop) (k : Int) (s : ByteArray) (hk : -9223372036854775808 ≤ k ∧ k ≤ 9223372036854775807) : VAL w S (.ofL k false s [] []) (.agg #[.int .i64 k, .bool false, .string s, .slice none 0 0, .slice none 0 0]) := VAL.shut hk (.inl rfl) (.inl rfl)
theorem MTok_no {m : MT} (h : MTmay m = false) : MTok m = false := by unfold MTok; rw [h]; rfl
theorem MTok_may {m : MT} (h : MTmay m = true) : MTok m = decide ((MTtree m).check = 0) := by unfold MTok; rw [h]; rfl
theorem may_code {m : MT} (h : MTmay m = true) : I64 m.code := by
  unfold MTmay at h
  simp only [Bool.and_eq_true, decide_eq_true_eq] at h
  obtain ⟨⟨-, h1⟩, h2⟩ := h
  unfold I64; omega
set_option maxRecDepth 100000 in
set_option maxHeartbeats 8000000 in
theorem Make_any (nms : List ByteArray) (ts : List VT) (S : Nat → Prop) (A A' : Option Addr) (c c' : Nat) (w : World) (hT : TS w S A' nms) (hV : VS w S A ts.length (fun j => ts.getD j .leaf)) (hS : ∀ b, S b → b < w.heap.size) (hl : ts.length = nms.length) (hk : (obT nms ts).bulk ≤ 1073741824) : Calls Tryz.prog 125 #[.slice A' nms.length c', .slice A ts.length c] w (fun e w' => ∃ u, e = .returned (.tuple #[u, .int .i64 0]) ∧ VAL w' (New w w') (obT nms ts) u ∧ Below w.heap.size w w') := by
  have hob : VAL w S (obT nms ts) (.agg #[.int .i64 5, .bool false, .string ⟨#[]⟩, .slice A ts.length c, .slice A' nms.length c']) := VAL.shut (by decide) hT hV
  have HV : Hid (VLV (zLt w.heap.size) (obT nms ts) w _) := Lib.hid (VAL.mono (fun b hb => ⟨hS b hb, hS b hb⟩) hob)
  have HKt := Lib.hid hk
  have HB := Lib.hid (Below.refl w.heap.size w)
  obtain ⟨n, hn⟩ : ∃ n, nms.length = n := ⟨_, rfl⟩
  rw [hl, hn] at HV ⊢
  clear hob hT hV hS hk hl hn
  generalize obT nms ts = t at *
  go_enter Tryz.func125, Tryz.ntmps125
  go_wp2_with fail
  refine at1 (fun w1 hX0 hb hz => ?_)
  replace HV := Lib.hid (HV.out.up hb)
  replace HB := Lib.hid (HB.out.trans (hb.mono HB.out.size))
  have HK := Lib.hid (Blks.one hX0)
  clear hX0 hb
  have HQ := Lib.hid hz
  clear hz
  refine (Copy_nf t w1 _ _ HV.out (Zone.lt _ _) HKt.out).mono ?_
  rintro e w2 ⟨v', rfl, hv, hb, hnf⟩
  obtain ⟨kx, bx, xx, Ax, nx, cx, Bx, mx, dx, rfl⟩ := VAL.shape hv
  have HVx : Hid (VLV (zNew (w.heap.size + 1)) t _ _) := Lib.hid (VAL.z hv HQ.out)
  clear hv hnf
  replace HV := Lib.hid (HV.out.up hb)
  replace HQ := Lib.hid (Nat.le_trans HQ.out hb.size)
  replace HK := Lib.hid (HK.out.on hb)
  replace HB := Lib.hid (HB.out.trans (hb.mono HB.out.size))
  clear hb
  go_wp2_with (
    refine store_fld rfl rfl 25 (.tmp 4) (.tmp 15) rfl (w.heap.size) 0 (.agg #[.int .i64 kx, .bool bx, .string xx, .slice Ax nx cx, .slice Bx mx dx]) [.int .i64 kx, .bool bx, .string xx, .slice Ax nx cx, .slice Bx mx dx] rfl rfl rfl #[.int .i64 kx, .bool bx, .string xx, .slice Ax nx cx, .slice Bx mx dx] (Blks.hd HK.out) (by kernel_rfl) (Nat.le_of_ble_eq_true rfl) (by simp [Value.oneCell']) rfl ?_
    intro w3 hS hbt hsz
    replace HV := Lib.hid (HV.out.butL hbt (by omega))
    replace HQ := Lib.hid (Nat.le_trans HQ.out hbt.size)
    replace HVx := Lib.hid (HVx.out.but hbt (by omega))
    replace HK := Lib.hid (Blks.one hS)
    replace HB := Lib.hid (hbt.below HB.out (by omega) HB.out.size)
    clear hbt hS hsz)
  go_wp2
  exact bodyPost_ret (results_row2 rfl _ _ (w.heap.size) _ #[.int .i64 kx, .bool bx, .string xx, .slice Ax nx cx, .slice Bx mx dx] _ rfl _ rfl (Blks.hd HK.out) Tryz.underlying25 rfl (by kernel_rfl)) rfl ⟨_, rfl, VAL.mono (fun b hb => ⟨by have := hb.1; omega, hb.2⟩) HVx.out, HB.out⟩
set_option maxRecDepth 100000 in
set_option maxHeartbeats 8000000 in
theorem Print_no (m : MT) (z : Zone) (v : Value) (w : World) (h : MSV z m w v) (hM : ML w) (hP : PTab w) (hk : m.bulk ≤ 1073741000) (ht : (MTtree m).bulk ≤ 1073741824) (hR : MTmay m = false) : Calls Tryz.prog 55 #[v] w (PrM m w) := by
  have hq0 := h
  have HMY := Lib.hid (fun W z v (hv : MSV z m W v) (hM : ML W) => mayBe_any m z v W hv hM hk)
  unfold PrM
  rw [MTok_no hR]
  rw [hR] at HMY
  clear hR ht
  have HMS : Hid (MSV (zLt w.heap.size) m w v) := Lib.hid (by
    obtain ⟨i0, i1, i2, i3, i4, p0, p1, p2, p3, p4, r0, r1, r2, r3, r4, e, h1, h2, h3⟩ := h
    exact ⟨i0, i1, i2, i3, i4, p0, p1, p2, p3, p4, r0, r1, r2, r3, r4, e, h1.old, h2.old, h3.old⟩)
  clear hq0 hk
  obtain ⟨mk, mid, mme, mha, mpa, mre, mco, mte⟩ := m
  obtain ⟨im0, im1, im2, im3, im4, pm0, pm1, pm2, pm3, pm4, rm0, rm1, rm2, rm3, rm4, rfl, q1, q2, q3⟩ := h
  dsimp only at q1 q2 q3
  obtain ⟨kmi, bmi, xmi, Ami, nmi, cmi, Bmi, mmi, dmi, rfl, rfl, rfl, rfl, rfl⟩ := VAL.shape5 q1
  obtain ⟨kmp, bmp, xmp, Amp, nmp, cmp, Bmp, mmp, dmp, rfl, rfl, rfl, rfl, rfl⟩ := VAL.shape5 q2
  obtain ⟨kmr, bmr, xmr, Amr, nmr, cmr, Bmr, mmr, dmr, rfl, rfl, rfl, rfl, rfl⟩ := VAL.shape5 q3
  have HVi := Lib.hid q1.old
  have HVp := Lib.hid q2.old
  have HVr := Lib.hid q3.old
  clear q1 q2 q3
  dsimp only
  have HM := Lib.hid hM
  have HM0 := Lib.hid hM
  have HP := Lib.hid hP
  have HB := Lib.hid (Below.refl w.heap.size w)
  clear hM hP
  try dsimp only at HMY HMS
  simp only [Bool.false_eq_true, if_false]
  go_enter Tryz.func55, Tryz.ntmps55
  go_upto_region 1 with (fail)
  have hb : Below w.heap.size w (((w.alloc (.cells #[.int .i64 mk, .int .i64 kmi, .bool bmi, .string xmi, .slice Ami nmi cmi, .slice Bmi mmi dmi, .string mme, .bool mha, .int .i64 kmp, .bool bmp, .string xmp, .slice Amp nmp cmp, .slice Bmp mmp dmp, .int .i64 kmr, .bool bmr, .string xmr, .slice Amr nmr cmr, .slice Bmr mmr dmr, .int .i64 mco, .string mte] 46))).alloc (.cells #[.int .i64 0, .bool false, .string ⟨#[]⟩, .slice none 0 0, .slice none 0 0] 25)) := al2_below w _ _
  replace HVi := Lib.hid (HVi.out.up hb)
  replace HVp := Lib.hid (HVp.out.up hb)
  replace HVr := Lib.hid (HVr.out.up hb)
  replace HM := Lib.hid (HM.out.on hb)
  replace HP := Lib.hid (HP.out.on hb)
  replace HMS := Lib.hid (HMS.out.up hb)
  replace HB := Lib.hid (HB.out.trans (hb.mono HB.out.size))
  have hX0 : BK (((w.alloc (.cells #[.int .i64 mk, .int .i64 kmi, .bool bmi, .string xmi, .slice Ami nmi cmi, .slice Bmi mmi dmi, .string mme, .bool mha, .int .i64 kmp, .bool bmp, .string xmp, .slice Amp nmp cmp, .slice Bmp mmp dmp, .int .i64 kmr, .bool bmr, .string xmr, .slice Amr nmr cmr, .slice Bmr mmr dmr, .int .i64 mco, .string mte] 46))).alloc (.cells #[.int .i64 0, .bool false, .string ⟨#[]⟩, .slice none 0 0, .slice none 0 0] 25)) (w.heap.size) 46 #[.int .i64 mk, .int .i64 kmi, .bool bmi, .string xmi, .slice Ami nmi cmi, .slice Bmi mmi dmi, .string mme, .bool mha, .int .i64 kmp, .bool bmp, .string xmp, .slice Amp nmp cmp, .slice Bmp mmp dmp, .int .i64 kmr, .bool bmr, .string xmr, .slice Amr nmr cmr, .slice Bmr mmr dmr, .int .i64 mco, .string mte] := al2_0 w _ _
  have HK := Lib.hid (Blks.one hX0)
  have hX1 : BK (((w.alloc (.cells #[.int .i64 mk, .int .i64 kmi, .bool bmi, .string xmi, .slice Ami nmi cmi, .slice Bmi mmi dmi, .string mme, .bool mha, .int .i64 kmp, .bool bmp, .string xmp, .slice Amp nmp cmp, .slice Bmp mmp dmp, .int .i64 kmr, .bool bmr, .string xmr, .slice Amr nmr cmr, .slice Bmr mmr dmr, .int .i64 mco, .string mte] 46))).alloc (.cells #[.int .i64 0, .bool false, .string ⟨#[]⟩, .slice none 0 0, .slice none 0 0] 25)) (w.heap.size + 1) 25 #[.int .i64 0, .bool false, .string ⟨#[]⟩, .slice none 0 0, .slice none 0 0] := al2_1 w _ _
  replace HK := Lib.hid (Blks.cons hX1 HK.out)
  clear hb hX0 hX1
  generalize (((w.alloc (.cells #[.int .i64 mk, .int .i64 kmi, .bool bmi, .string xmi, .slice Ami nmi cmi, .slice Bmi mmi dmi, .string mme, .bool mha, .int .i64 kmp, .bool bmp, .string xmp, .slice Amp nmp cmp, .slice Bmp mmp dmp, .int .i64 kmr, .bool bmr, .string xmr, .slice Amr nmr cmr, .slice Bmr mmr dmr, .int .i64 mco, .string mte] 46))).alloc (.cells #[.int .i64 0, .bool false, .string ⟨#[]⟩, .slice none 0 0, .slice none 0 0] 25)) = w1 at *
  go_wp2_with ((refine wpList_load_row rfl 46 (.tmp 1) rfl (w.heap.size) rfl 46 #[.int .i64 mk, .int .i64 kmi, .bool bmi, .string xmi, .slice Ami nmi cmi, .slice Bmi mmi dmi, .string mme, .bool mha, .int .i64 kmp, .bool bmp, .string xmp, .slice Amp nmp cmp, .slice Bmp mmp dmp, .int .i64 kmr, .bool bmr, .string xmr, .slice Amr nmr cmr, .slice Bmr mmr dmr, .int .i64 mco, .string mte] (0, 0) _ (Blks.hd (Blks.tl HK.out)) Tryz.underlying46 rfl (by kernel_rfl) ?_))
  refine (HMY.out w1 _ _ HMS.out HM.out).mono ?_
  rintro e w2 ⟨rfl, hb⟩
  replace HVi := Lib.hid (HVi.out.up hb)
  replace HVp := Lib.hid (HVp.out.up hb)
  replace HVr := Lib.hid (HVr.out.up hb)
  replace HM := Lib.hid (HM.out.on hb)
  replace HP := Lib.hid (HP.out.on hb)
  replace HMS := Lib.hid (HMS.out.up hb)
  replace HK := Lib.hid (HK.out.on hb)
  replace HB := Lib.hid (HB.out.trans (hb.mono HB.out.size))
  clear hb
  clear HP HMS
  go_wp2_with (
    refine store_fld rfl rfl 25 (.tmp 2) (.tmp 11) rfl (w.heap.size + 1) 0 (.agg #[.int .i64 0, .bool false, .string ⟨#[]⟩, .slice none 0 0, .slice none 0 0]) [.int .i64 0, .bool false, .string ⟨#[]⟩, .slice none 0 0, .slice none 0 0] rfl rfl rfl #[.int .i64 0, .bool false, .string ⟨#[]⟩, .slice none 0 0, .slice none 0 0] (Blks.hd HK.out) (by kernel_rfl) (Nat.le_of_ble_eq_true rfl) (by simp [Value.oneCell']) rfl ?_
    intro w3 hS hbt hsz
    replace HVi := Lib.hid (HVi.out.butL hbt (by omega))
    replace HVp := Lib.hid (HVp.out.butL hbt (by omega))
    replace HVr := Lib.hid (HVr.out.butL hbt (by omega))
    replace HM := Lib.hid (ML.but2 HM0.out HM.out hbt (by omega))
    replace HK := Lib.hid (Blks.cons hS (Blks.one (BK.but (Blks.hd (Blks.tl HK.out)) hbt (by omega))))
    replace HB := Lib.hid (hbt.below HB.out (by omega) HB.out.size)
    clear hbt hS hsz)
  go_wp2
  exact bodyPost_ret (results_row2 rfl _ _ (w.heap.size + 1) _ #[.int .i64 0, .bool false, .string ⟨#[]⟩, .slice none 0 0, .slice none 0 0] _ rfl _ rfl (Blks.hd HK.out) Tryz.underlying25 rfl (by kernel_rfl)) rfl ⟨_, rfl, nul_VLF _ _, HB.out⟩
end Go.Proofs.YtfploakafbnigaaGreatDoor
