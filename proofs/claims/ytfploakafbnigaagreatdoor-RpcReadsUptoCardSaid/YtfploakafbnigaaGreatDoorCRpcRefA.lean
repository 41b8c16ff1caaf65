/-
  Layer 12, the walks: the document's Parse, some of its ways.
-/
import Derived.Test.YtfploakafbnigaaGreatDoorCRpcRefId
namespace Go.Proofs.YtfploakafbnigaaGreatDoor
open Go.RowKit Val Num YtfploakafbnigaaGreatDoorW.PrintLast
set_option linter.unusedVariables false
set_option linter.unusedSimpArgs false
set_option maxRecDepth 100000 in
set_option maxHeartbeats 64000000 in
theorem rP_c (t : VT) (z : Zone) (v : Value) (w : World) (h : VLV z t w v) (hk : t.bulk ≤ 1073741790) (hc : ¬ t.check = 0) : Calls Tryz.prog 34 #[v] w (MkV2 t.readM (.int .i64 t.readE) w) := by
  have HRL := fun (hc : t.check = 0) => rd_law t hc
  have HRM := rd_msg t
  unfold VT.err at HRL HRM
  obtain ⟨bV, uV, eV, fV, hkV, hnV, GV⟩ := rgot_let t VT.rpcN (by omega)
  obtain ⟨bI, uI, eI, fI, hkI, hnI, GI⟩ := rgot_let t VT.idN (by omega)
  obtain ⟨bM, uM, eM, fM, hkM, hnM, GM⟩ := rgot_let t VT.methodN (by omega)
  obtain ⟨bP, uP, eP, fP, hkP, hnP, GP⟩ := rgot_let t VT.paramsN (by omega)
  obtain ⟨bR, uR, eR, fR, hkR, hnR, GR⟩ := rgot_let t VT.resultN (by omega)
  obtain ⟨bE, uE, eE, fE, hkE, hnE, GE⟩ := rgot_let t VT.errorN (by omega)
  rw [eM, eI, eP, eR, eE, fV, fM, fI, fP, fE] at HRL
  rw [eM, eI, eP, eR, fI, fP, fR, fM, fE] at HRM
  have HC := Lib.hid (fun W z v (hv : VLV z t W v) => vCheck_any t W _ v hv (z.lt W) (by omega))
  have HT := Lib.hid (fun W z v (hv : VLV z uI W v) => refId_any uI z v W hv (by omega))
  have HF := Lib.hid (fun W z v (hv : VLV z uE W v) => refFault_any uE z v W hv (by omega))
  generalize (uE.getD VT.codeN).numOf.1 = nv at *
  generalize (uE.getD VT.messageN).text = tx at *
  generalize rErrOk uE = eo at *
  generalize uI.idK = q at *
  obtain ⟨zV, hzV_⟩ : ∃ b, (uV.kind != 3) = b := ⟨_, rfl⟩
  obtain ⟨x2, hx2_⟩ : ∃ b, (uV.text.toList == [50, 46, 48]) = b := ⟨_, rfl⟩
  obtain ⟨zM, hzM_⟩ : ∃ b, (uM.kind != 3) = b := ⟨_, rfl⟩
  obtain ⟨z4, hz4_⟩ : ∃ b, (uP.kind != 4) = b := ⟨_, rfl⟩
  obtain ⟨z5, hz5_⟩ : ∃ b, (uP.kind != 5) = b := ⟨_, rfl⟩
  obtain ⟨z0, hz0_⟩ : ∃ b, (uI.kind != 0) = b := ⟨_, rfl⟩
  rw [hzV_, hx2_, hzM_, hz4_, hz5_, hz0_] at HRL
  have HNO : Hid (t.msgOk = false → t.readM = .nul ∧ t.readE = 120) := Lib.hid (fun h => by unfold VT.readM VT.readE; rw [h]; exact ⟨rfl, rfl⟩)
  have HYE : Hid (t.msgOk = true → t.readM = t.msgM ∧ t.readE = 0) := Lib.hid (fun h => by unfold VT.readM VT.readE; rw [h]; exact ⟨rfl, rfl⟩)
  have HCN : Hid (¬ t.check = 0 → t.msgOk = false) := Lib.hid (fun h => by unfold VT.msgOk VT.headOk; rw [decide_eq_false h]; rfl)
  obtain ⟨At, nt, ct, Bt, mt, dt, rfl⟩ := h.parts
  have Ht := Lib.hid h.old
  have HB := Lib.hid (Below.refl w.heap.size w)
  have HRL2 := Lib.hid HRL
  have HRM2 := Lib.hid HRM
  clear h hk HRL HRM
  have hnI_ := Lib.hid hnI
  clear hkV eV fV hnV hkI eI fI hnI hkM eM fM hnM hkP eP fP hnP hkR eR fR hnR hkE eE fE hnE
  generalize t.readM = rM at *
  generalize t.readE = rE_ at *
  generalize t.msgOk = okR at *
  generalize t.msgM = rMM at *
  generalize t.check = c at *
  clear HRL2
  go_enter Tryz.func34, Tryz.ntmps34
  go_wp2_with fail
  refine at2 (fun w1 hX0 hX1 hb hz => ?_)
  replace Ht := Lib.hid (Ht.out.up hb)
  replace HB := Lib.hid (HB.out.trans (hb.mono HB.out.size))
  have HK := Lib.hid (Blks.one hX0)
  replace HK := Lib.hid (Blks.cons hX1 HK.out)
  clear hX0 hX1 hb
  have HQ := Lib.hid hz
  clear hz
  refine (HC.out w1 _ _ Ht.out).mono ?_
  rintro e w2 ⟨rfl, hb⟩
  replace Ht := Lib.hid (Ht.out.up hb)
  replace HQ := Lib.hid (Nat.le_trans HQ.out hb.size)
  replace HK := Lib.hid (HK.out.on hb)
  replace HB := Lib.hid (HB.out.trans (hb.mono HB.out.size))
  clear hb
  have HOK_ := Lib.hid (HCN.out hc)
  have q1 := bne_t hc
  clear hc
  obtain ⟨hmr, her⟩ := HNO.out (by rw [HOK_.out])
  subst hmr
  subst her
  go_wp2_with (first
    | (refine isSt 46 2 (.tmp 24) rfl ?_
       refine store_fld rfl rfl 46 (.tmp 2) (.tmp 24) rfl (w.heap.size + 1) 0 (.agg #[.int .i64 0, .int .i64 0, .bool false, .string ⟨#[]⟩, .slice none 0 0, .slice none 0 0, .string ⟨#[]⟩, .bool false, .int .i64 0, .bool false, .string ⟨#[]⟩, .slice none 0 0, .slice none 0 0, .int .i64 0, .bool false, .string ⟨#[]⟩, .slice none 0 0, .slice none 0 0, .int .i64 0, .string ⟨#[]⟩]) [.int .i64 0, .int .i64 0, .bool false, .string ⟨#[]⟩, .slice none 0 0, .slice none 0 0, .string ⟨#[]⟩, .bool false, .int .i64 0, .bool false, .string ⟨#[]⟩, .slice none 0 0, .slice none 0 0, .int .i64 0, .bool false, .string ⟨#[]⟩, .slice none 0 0, .slice none 0 0, .int .i64 0, .string ⟨#[]⟩] rfl rfl rfl #[.int .i64 0, .int .i64 0, .bool false, .string ⟨#[]⟩, .slice none 0 0, .slice none 0 0, .string ⟨#[]⟩, .bool false, .int .i64 0, .bool false, .string ⟨#[]⟩, .slice none 0 0, .slice none 0 0, .int .i64 0, .bool false, .string ⟨#[]⟩, .slice none 0 0, .slice none 0 0, .int .i64 0, .string ⟨#[]⟩] (Blks.hd HK.out) (by kernel_rfl) (Nat.le_of_ble_eq_true rfl) (by simp [Value.oneCell']) rfl ?_
       intro w3 hS hbt hsz
       replace Ht := Lib.hid (Ht.out.butL hbt (by omega))
       replace HQ := Lib.hid (Nat.le_trans HQ.out hbt.size)
       replace HK := Lib.hid (Blks.cons hS (Blks.one (BK.but (Blks.hd (Blks.tl HK.out)) hbt (by omega))))
       replace HB := Lib.hid (hbt.below HB.out (by omega) HB.out.size)
       clear hbt hS hsz))
  go_wp2
  exact bodyPost_ret (results_row2 rfl _ _ (w.heap.size + 1) _ #[.int .i64 0, .int .i64 0, .bool false, .string ⟨#[]⟩, .slice none 0 0, .slice none 0 0, .string ⟨#[]⟩, .bool false, .int .i64 0, .bool false, .string ⟨#[]⟩, .slice none 0 0, .slice none 0 0, .int .i64 0, .bool false, .string ⟨#[]⟩, .slice none 0 0, .slice none 0 0, .int .i64 0, .string ⟨#[]⟩] _ rfl _ rfl (Blks.hd HK.out) Tryz.underlying46 rfl (by kernel_rfl)) rfl ⟨_, rfl, ⟨_, _, _, _, _, _, _, _, _, _, _, _, _, _, _, rfl, (nul_VLV _ _), (nul_VLV _ _), (nul_VLV _ _)⟩, HB.out⟩
set_option maxRecDepth 100000 in
set_option maxHeartbeats 64000000 in
theorem rP_v (t : VT) (z : Zone) (v : Value) (w : World) (h : VLV z t w v) (hk : t.bulk ≤ 1073741790) (hc : t.check = 0) (h_zV : ((t.getD VT.rpcN).kind != 3) = true) : Calls Tryz.prog 34 #[v] w (MkV2 t.readM (.int .i64 t.readE) w) := by
  have HRL := fun (hc : t.check = 0) => rd_law t hc
  have HRM := rd_msg t
  unfold VT.err at HRL HRM
  obtain ⟨bV, uV, eV, fV, hkV, hnV, GV⟩ := rgot_let t VT.rpcN (by omega)
  obtain ⟨bI, uI, eI, fI, hkI, hnI, GI⟩ := rgot_let t VT.idN (by omega)
  obtain ⟨bM, uM, eM, fM, hkM, hnM, GM⟩ := rgot_let t VT.methodN (by omega)
  obtain ⟨bP, uP, eP, fP, hkP, hnP, GP⟩ := rgot_let t VT.paramsN (by omega)
  obtain ⟨bR, uR, eR, fR, hkR, hnR, GR⟩ := rgot_let t VT.resultN (by omega)
  obtain ⟨bE, uE, eE, fE, hkE, hnE, GE⟩ := rgot_let t VT.errorN (by omega)
  rw [eM, eI, eP, eR, eE, fV, fM, fI, fP, fE] at HRL
  rw [eM, eI, eP, eR, fI, fP, fR, fM, fE] at HRM
  rw [fV] at h_zV
  have HC := Lib.hid (fun W z v (hv : VLV z t W v) => vCheck_any t W _ v hv (z.lt W) (by omega))
  have HT := Lib.hid (fun W z v (hv : VLV z uI W v) => refId_any uI z v W hv (by omega))
  have HF := Lib.hid (fun W z v (hv : VLV z uE W v) => refFault_any uE z v W hv (by omega))
  generalize (uE.getD VT.codeN).numOf.1 = nv at *
  generalize (uE.getD VT.messageN).text = tx at *
  generalize rErrOk uE = eo at *
  generalize uI.idK = q at *
  obtain ⟨zV, hzV_⟩ : ∃ b, (uV.kind != 3) = b := ⟨_, rfl⟩
  obtain ⟨x2, hx2_⟩ : ∃ b, (uV.text.toList == [50, 46, 48]) = b := ⟨_, rfl⟩
  obtain ⟨zM, hzM_⟩ : ∃ b, (uM.kind != 3) = b := ⟨_, rfl⟩
  obtain ⟨z4, hz4_⟩ : ∃ b, (uP.kind != 4) = b := ⟨_, rfl⟩
  obtain ⟨z5, hz5_⟩ : ∃ b, (uP.kind != 5) = b := ⟨_, rfl⟩
  obtain ⟨z0, hz0_⟩ : ∃ b, (uI.kind != 0) = b := ⟨_, rfl⟩
  rw [hzV_, hx2_, hzM_, hz4_, hz5_, hz0_] at HRL
  have HNO : Hid (t.msgOk = false → t.readM = .nul ∧ t.readE = 120) := Lib.hid (fun h => by unfold VT.readM VT.readE; rw [h]; exact ⟨rfl, rfl⟩)
  have HYE : Hid (t.msgOk = true → t.readM = t.msgM ∧ t.readE = 0) := Lib.hid (fun h => by unfold VT.readM VT.readE; rw [h]; exact ⟨rfl, rfl⟩)
  have HCN : Hid (¬ t.check = 0 → t.msgOk = false) := Lib.hid (fun h => by unfold VT.msgOk VT.headOk; rw [decide_eq_false h]; rfl)
  rw [hzV_] at h_zV
  subst h_zV
  obtain ⟨At, nt, ct, Bt, mt, dt, rfl⟩ := h.parts
  have Ht := Lib.hid h.old
  have HB := Lib.hid (Below.refl w.heap.size w)
  have HRL2 := Lib.hid HRL
  have HRM2 := Lib.hid HRM
  clear h hk HRL HRM
  have hnI_ := Lib.hid hnI
  clear hkV eV fV hnV hkI eI fI hnI hkM eM fM hnM hkP eP fP hnP hkR eR fR hnR hkE eE fE hnE
  generalize t.readM = rM at *
  generalize t.readE = rE_ at *
  generalize t.msgOk = okR at *
  generalize t.msgM = rMM at *
  generalize t.check = c at *
  skip
  subst hc
  go_enter Tryz.func34, Tryz.ntmps34
  go_wp2_with fail
  refine at2 (fun w1 hX0 hX1 hb hz => ?_)
  replace Ht := Lib.hid (Ht.out.up hb)
  replace HB := Lib.hid (HB.out.trans (hb.mono HB.out.size))
  have HK := Lib.hid (Blks.one hX0)
  replace HK := Lib.hid (Blks.cons hX1 HK.out)
  clear hX0 hX1 hb
  have HQ := Lib.hid hz
  clear hz
  refine (HC.out w1 _ _ Ht.out).mono ?_
  rintro e w2 ⟨rfl, hb⟩
  replace Ht := Lib.hid (Ht.out.up hb)
  replace HQ := Lib.hid (Nat.le_trans HQ.out hb.size)
  replace HK := Lib.hid (HK.out.on hb)
  replace HB := Lib.hid (HB.out.trans (hb.mono HB.out.size))
  clear hb
  clear HCN
  have hg := Blks.hd (Blks.tl HK.out)
  have y0 := hg.c 0 rfl
  have y1 := hg.c 1 rfl
  have y2 := hg.c 2 rfl
  have y3 := hg.c 3 rfl
  have y4 := hg.c 4 rfl
  clear hg
  go_wp2_with fail
  clear y0 y1 y2 y3 y4
  refine (GV w2 _ _ Ht.out).mono ?_
  rintro e w3 ⟨v', rfl, hv, hb⟩
  obtain ⟨AV, nV, cV, BV, mV, dV, rfl⟩ := VAL.parts hv
  have HVV : Hid (VLV (zNew (w.heap.size + 2)) _ _ _) := Lib.hid (VAL.z hv HQ.out)
  clear hv
  replace Ht := Lib.hid (Ht.out.up hb)
  replace HQ := Lib.hid (Nat.le_trans HQ.out hb.size)
  replace HK := Lib.hid (HK.out.on hb)
  replace HB := Lib.hid (HB.out.trans (hb.mono HB.out.size))
  clear hb
  go_upto_region 4 with (fail)
  have HGgV := Lib.hid ((Blks.hd HK.out).lt)
  have hb : Below w3.heap.size w3 (w3.alloc (.cells #[.int .i64 uV.kind, .bool uV.is, .string uV.text, .slice AV nV cV, .slice BV mV dV] 25)) := made_end' w3 _
  replace Ht := Lib.hid (Ht.out.up hb)
  replace HQ := Lib.hid (Nat.le_trans HQ.out hb.size)
  replace HVV := Lib.hid (HVV.out.up hb)
  replace HK := Lib.hid (HK.out.on hb)
  replace HB := Lib.hid (HB.out.trans (hb.mono HB.out.size))
  have hX0 : BK (w3.alloc (.cells #[.int .i64 uV.kind, .bool uV.is, .string uV.text, .slice AV nV cV, .slice BV mV dV] 25)) (w3.heap.size) 25 #[.int .i64 uV.kind, .bool uV.is, .string uV.text, .slice AV nV cV, .slice BV mV dV] := BK.new w3 _ _
  replace HK := Lib.hid (Blks.cons hX0 HK.out)
  clear hb hX0
  generalize (w3.alloc (.cells #[.int .i64 uV.kind, .bool uV.is, .string uV.text, .slice AV nV cV, .slice BV mV dV] 25)) = w4 at *
  generalize w3.heap.size = gV at *
  have hg := Blks.hd (Blks.tl (Blks.tl HK.out))
  have y0 := hg.c 0 rfl
  have y1 := hg.c 1 rfl
  have y2 := hg.c 2 rfl
  have y3 := hg.c 3 rfl
  have y4 := hg.c 4 rfl
  clear hg
  go_wp2_with fail
  clear y0 y1 y2 y3 y4
  refine (GI w4 _ _ Ht.out).mono ?_
  rintro e w5 ⟨v', rfl, hv, hb⟩
  obtain ⟨AI, nI, cI, BI, mI, dI, rfl⟩ := VAL.parts hv
  have HVI : Hid (VLV (zNew (w.heap.size + 2)) _ _ _) := Lib.hid (VAL.z hv HQ.out)
  clear hv
  replace Ht := Lib.hid (Ht.out.up hb)
  replace HQ := Lib.hid (Nat.le_trans HQ.out hb.size)
  replace HVV := Lib.hid (HVV.out.up hb)
  replace HK := Lib.hid (HK.out.on hb)
  replace HB := Lib.hid (HB.out.trans (hb.mono HB.out.size))
  clear hb
  go_upto_region 5 with (fail)
  have HGgI := Lib.hid ((Blks.hd HK.out).lt)
  have hb : Below w5.heap.size w5 (w5.alloc (.cells #[.int .i64 uI.kind, .bool uI.is, .string uI.text, .slice AI nI cI, .slice BI mI dI] 25)) := made_end' w5 _
  replace Ht := Lib.hid (Ht.out.up hb)
  replace HQ := Lib.hid (Nat.le_trans HQ.out hb.size)
  replace HVV := Lib.hid (HVV.out.up hb)
  replace HVI := Lib.hid (HVI.out.up hb)
  replace HK := Lib.hid (HK.out.on hb)
  replace HB := Lib.hid (HB.out.trans (hb.mono HB.out.size))
  have hX0 : BK (w5.alloc (.cells #[.int .i64 uI.kind, .bool uI.is, .string uI.text, .slice AI nI cI, .slice BI mI dI] 25)) (w5.heap.size) 25 #[.int .i64 uI.kind, .bool uI.is, .string uI.text, .slice AI nI cI, .slice BI mI dI] := BK.new w5 _ _
  replace HK := Lib.hid (Blks.cons hX0 HK.out)
  clear hb hX0
  generalize (w5.alloc (.cells #[.int .i64 uI.kind, .bool uI.is, .string uI.text, .slice AI nI cI, .slice BI mI dI] 25)) = w6 at *
  generalize w5.heap.size = gI at *
  have hg := Blks.hd (Blks.tl (Blks.tl (Blks.tl HK.out)))
  have y0 := hg.c 0 rfl
  have y1 := hg.c 1 rfl
  have y2 := hg.c 2 rfl
  have y3 := hg.c 3 rfl
  have y4 := hg.c 4 rfl
  clear hg
  go_wp2_with fail
  clear y0 y1 y2 y3 y4
  refine (GM w6 _ _ Ht.out).mono ?_
  rintro e w7 ⟨v', rfl, hv, hb⟩
  obtain ⟨AM, nM, cM, BM, mM, dM, rfl⟩ := VAL.parts hv
  have HVM : Hid (VLV (zNew (w.heap.size + 2)) _ _ _) := Lib.hid (VAL.z hv HQ.out)
  clear hv
  replace Ht := Lib.hid (Ht.out.up hb)
  replace HQ := Lib.hid (Nat.le_trans HQ.out hb.size)
  replace HVV := Lib.hid (HVV.out.up hb)
  replace HVI := Lib.hid (HVI.out.up hb)
  replace HK := Lib.hid (HK.out.on hb)
  replace HB := Lib.hid (HB.out.trans (hb.mono HB.out.size))
  clear hb
  go_upto_region 6 with (fail)
  have HGgM := Lib.hid ((Blks.hd HK.out).lt)
  have hb : Below w7.heap.size w7 (w7.alloc (.cells #[.int .i64 uM.kind, .bool uM.is, .string uM.text, .slice AM nM cM, .slice BM mM dM] 25)) := made_end' w7 _
  replace Ht := Lib.hid (Ht.out.up hb)
  replace HQ := Lib.hid (Nat.le_trans HQ.out hb.size)
  replace HVV := Lib.hid (HVV.out.up hb)
  replace HVI := Lib.hid (HVI.out.up hb)
  replace HVM := Lib.hid (HVM.out.up hb)
  replace HK := Lib.hid (HK.out.on hb)
  replace HB := Lib.hid (HB.out.trans (hb.mono HB.out.size))
  have hX0 : BK (w7.alloc (.cells #[.int .i64 uM.kind, .bool uM.is, .string uM.text, .slice AM nM cM, .slice BM mM dM] 25)) (w7.heap.size) 25 #[.int .i64 uM.kind, .bool uM.is, .string uM.text, .slice AM nM cM, .slice BM mM dM] := BK.new w7 _ _
  replace HK := Lib.hid (Blks.cons hX0 HK.out)
  clear hb hX0
  generalize (w7.alloc (.cells #[.int .i64 uM.kind, .bool uM.is, .string uM.text, .slice AM nM cM, .slice BM mM dM] 25)) = w8 at *
  generalize w7.heap.size = gM at *
  have hg := Blks.hd (Blks.tl (Blks.tl (Blks.tl (Blks.tl HK.out))))
  have y0 := hg.c 0 rfl
  have y1 := hg.c 1 rfl
  have y2 := hg.c 2 rfl
  have y3 := hg.c 3 rfl
  have y4 := hg.c 4 rfl
  clear hg
  go_wp2_with fail
  clear y0 y1 y2 y3 y4
  refine (GP w8 _ _ Ht.out).mono ?_
  rintro e w9 ⟨v', rfl, hv, hb⟩
  obtain ⟨AP, nP, cP, BP, mP, dP, rfl⟩ := VAL.parts hv
  have HVP : Hid (VLV (zNew (w.heap.size + 2)) _ _ _) := Lib.hid (VAL.z hv HQ.out)
  clear hv
  replace Ht := Lib.hid (Ht.out.up hb)
  replace HQ := Lib.hid (Nat.le_trans HQ.out hb.size)
  replace HVV := Lib.hid (HVV.out.up hb)
  replace HVI := Lib.hid (HVI.out.up hb)
  replace HVM := Lib.hid (HVM.out.up hb)
  replace HK := Lib.hid (HK.out.on hb)
  replace HB := Lib.hid (HB.out.trans (hb.mono HB.out.size))
  clear hb
  go_upto_region 7 with (fail)
  have HGgP := Lib.hid ((Blks.hd HK.out).lt)
  have hb : Below w9.heap.size w9 (w9.alloc (.cells #[.int .i64 uP.kind, .bool uP.is, .string uP.text, .slice AP nP cP, .slice BP mP dP] 25)) := made_end' w9 _
  replace Ht := Lib.hid (Ht.out.up hb)
  replace HQ := Lib.hid (Nat.le_trans HQ.out hb.size)
  replace HVV := Lib.hid (HVV.out.up hb)
  replace HVI := Lib.hid (HVI.out.up hb)
  replace HVM := Lib.hid (HVM.out.up hb)
  replace HVP := Lib.hid (HVP.out.up hb)
  replace HK := Lib.hid (HK.out.on hb)
  replace HB := Lib.hid (HB.out.trans (hb.mono HB.out.size))
  have hX0 : BK (w9.alloc (.cells #[.int .i64 uP.kind, .bool uP.is, .string uP.text, .slice AP nP cP, .slice BP mP dP] 25)) (w9.heap.size) 25 #[.int .i64 uP.kind, .bool uP.is, .string uP.text, .slice AP nP cP, .slice BP mP dP] := BK.new w9 _ _
  replace HK := Lib.hid (Blks.cons hX0 HK.out)
  clear hb hX0
  generalize (w9.alloc (.cells #[.int .i64 uP.kind, .bool uP.is, .string uP.text, .slice AP nP cP, .slice BP mP dP] 25)) = w10 at *
  generalize w9.heap.size = gP at *
  have hg := Blks.hd (Blks.tl (Blks.tl (Blks.tl (Blks.tl (Blks.tl HK.out)))))
  have y0 := hg.c 0 rfl
  have y1 := hg.c 1 rfl
  have y2 := hg.c 2 rfl
  have y3 := hg.c 3 rfl
  have y4 := hg.c 4 rfl
  clear hg
  go_wp2_with fail
  clear y0 y1 y2 y3 y4
  refine (GR w10 _ _ Ht.out).mono ?_
  rintro e w11 ⟨v', rfl, hv, hb⟩
  obtain ⟨AR, nR, cR, BR, mR, dR, rfl⟩ := VAL.parts hv
  have HVR : Hid (VLV (zNew (w.heap.size + 2)) _ _ _) := Lib.hid (VAL.z hv HQ.out)
  clear hv
  replace Ht := Lib.hid (Ht.out.up hb)
  replace HQ := Lib.hid (Nat.le_trans HQ.out hb.size)
  replace HVV := Lib.hid (HVV.out.up hb)
  replace HVI := Lib.hid (HVI.out.up hb)
  replace HVM := Lib.hid (HVM.out.up hb)
  replace HVP := Lib.hid (HVP.out.up hb)
  replace HK := Lib.hid (HK.out.on hb)
  replace HB := Lib.hid (HB.out.trans (hb.mono HB.out.size))
  clear hb
  go_upto_region 8 with (fail)
  have HGgR := Lib.hid ((Blks.hd HK.out).lt)
  have hb : Below w11.heap.size w11 (w11.alloc (.cells #[.int .i64 uR.kind, .bool uR.is, .string uR.text, .slice AR nR cR, .slice BR mR dR] 25)) := made_end' w11 _
  replace Ht := Lib.hid (Ht.out.up hb)
  replace HQ := Lib.hid (Nat.le_trans HQ.out hb.size)
  replace HVV := Lib.hid (HVV.out.up hb)
  replace HVI := Lib.hid (HVI.out.up hb)
  replace HVM := Lib.hid (HVM.out.up hb)
  replace HVP := Lib.hid (HVP.out.up hb)
  replace HVR := Lib.hid (HVR.out.up hb)
  replace HK := Lib.hid (HK.out.on hb)
  replace HB := Lib.hid (HB.out.trans (hb.mono HB.out.size))
  have hX0 : BK (w11.alloc (.cells #[.int .i64 uR.kind, .bool uR.is, .string uR.text, .slice AR nR cR, .slice BR mR dR] 25)) (w11.heap.size) 25 #[.int .i64 uR.kind, .bool uR.is, .string uR.text, .slice AR nR cR, .slice BR mR dR] := BK.new w11 _ _
  replace HK := Lib.hid (Blks.cons hX0 HK.out)
  clear hb hX0
  generalize (w11.alloc (.cells #[.int .i64 uR.kind, .bool uR.is, .string uR.text, .slice AR nR cR, .slice BR mR dR] 25)) = w12 at *
  generalize w11.heap.size = gR at *
  have hg := Blks.hd (Blks.tl (Blks.tl (Blks.tl (Blks.tl (Blks.tl (Blks.tl HK.out))))))
  have y0 := hg.c 0 rfl
  have y1 := hg.c 1 rfl
  have y2 := hg.c 2 rfl
  have y3 := hg.c 3 rfl
  have y4 := hg.c 4 rfl
  clear hg
  go_wp2_with fail
  clear y0 y1 y2 y3 y4
  refine (GE w12 _ _ Ht.out).mono ?_
  rintro e w13 ⟨v', rfl, hv, hb⟩
  obtain ⟨AE, nE, cE, BE, mE, dE, rfl⟩ := VAL.parts hv
  have HVE : Hid (VLV (zNew (w.heap.size + 2)) _ _ _) := Lib.hid (VAL.z hv HQ.out)
  clear hv
  replace Ht := Lib.hid (Ht.out.up hb)
  replace HQ := Lib.hid (Nat.le_trans HQ.out hb.size)
  replace HVV := Lib.hid (HVV.out.up hb)
  replace HVI := Lib.hid (HVI.out.up hb)
  replace HVM := Lib.hid (HVM.out.up hb)
  replace HVP := Lib.hid (HVP.out.up hb)
  replace HVR := Lib.hid (HVR.out.up hb)
  replace HK := Lib.hid (HK.out.on hb)
  replace HB := Lib.hid (HB.out.trans (hb.mono HB.out.size))
  clear hb
  go_upto_region 9 with (fail)
  have HGgE := Lib.hid ((Blks.hd HK.out).lt)
  have hb : Below w13.heap.size w13 (w13.alloc (.cells #[.int .i64 uE.kind, .bool uE.is, .string uE.text, .slice AE nE cE, .slice BE mE dE] 25)) := made_end' w13 _
  replace Ht := Lib.hid (Ht.out.up hb)
  replace HQ := Lib.hid (Nat.le_trans HQ.out hb.size)
  replace HVV := Lib.hid (HVV.out.up hb)
  replace HVI := Lib.hid (HVI.out.up hb)
  replace HVM := Lib.hid (HVM.out.up hb)
  replace HVP := Lib.hid (HVP.out.up hb)
  replace HVR := Lib.hid (HVR.out.up hb)
  replace HVE := Lib.hid (HVE.out.up hb)
  replace HK := Lib.hid (HK.out.on hb)
  replace HB := Lib.hid (HB.out.trans (hb.mono HB.out.size))
  have hX0 : BK (w13.alloc (.cells #[.int .i64 uE.kind, .bool uE.is, .string uE.text, .slice AE nE cE, .slice BE mE dE] 25)) (w13.heap.size) 25 #[.int .i64 uE.kind, .bool uE.is, .string uE.text, .slice AE nE cE, .slice BE mE dE] := BK.new w13 _ _
  replace HK := Lib.hid (Blks.cons hX0 HK.out)
  clear hb hX0
  generalize (w13.alloc (.cells #[.int .i64 uE.kind, .bool uE.is, .string uE.text, .slice AE nE cE, .slice BE mE dE] 25)) = w14 at *
  generalize w13.heap.size = gE at *
  have HLF : uI ≠ .leaf := by
    obtain ⟨k_, i_, x_, n_, c_, m_, e_⟩ := VAL.root HVI.out
    rw [e_]; exact VT.noConfusion
  have HOK := Lib.hid (HRL2.out (by first | rfl | trivial) HLF)
  clear HRL2 HLF
  replace HVV := Lib.hid HVV.out.mid
  replace HVI := Lib.hid HVI.out.mid
  replace HVM := Lib.hid HVM.out.mid
  replace HVP := Lib.hid HVP.out.mid
  replace HVR := Lib.hid HVR.out.mid
  replace HVE := Lib.hid HVE.out.mid
  skip
  have HOK_ : Hid (okR = false) := Lib.hid HOK.out
  obtain ⟨hmr, her⟩ := HNO.out (by rw [HOK_.out])
  subst hmr
  subst her
  go_wp2_with (first
    | (refine isSt 46 16 (.tmp 55) rfl ?_
       refine store1 rfl rfl 46 (.tmp 16) (.tmp 55) rfl rfl #[.int .i64 0, .int .i64 0, .bool false, .string ⟨#[]⟩, .slice none 0 0, .slice none 0 0, .string ⟨#[]⟩, .bool false, .int .i64 0, .bool false, .string ⟨#[]⟩, .slice none 0 0, .slice none 0 0, .int .i64 0, .bool false, .string ⟨#[]⟩, .slice none 0 0, .slice none 0 0, .int .i64 0, .string ⟨#[]⟩] rfl (by kernel_rfl) rfl (by simp [Value.oneCell']) ?_
       intro w15 hX hb hz
       have HGgB : Hid (gE < w14.heap.size) := Lib.hid (Blks.hd HK.out).lt
       replace Ht := Lib.hid (Ht.out.up hb)
       replace HQ := Lib.hid (Nat.le_trans HQ.out hb.size)
       replace HVV := Lib.hid (HVV.out.up hb)
       replace HVI := Lib.hid (HVI.out.up hb)
       replace HVM := Lib.hid (HVM.out.up hb)
       replace HVP := Lib.hid (HVP.out.up hb)
       replace HVR := Lib.hid (HVR.out.up hb)
       replace HVE := Lib.hid (HVE.out.up hb)
       replace HK := Lib.hid (HK.out.on hb)
       replace HB := Lib.hid (HB.out.trans (hb.mono HB.out.size))
       replace HK := Lib.hid (Blks.cons hX HK.out)
       clear hX hb hz
       generalize w14.heap.size = gB at *
       have hg := Blks.hd (Blks.tl (Blks.tl (Blks.tl (Blks.tl (Blks.tl (Blks.tl HK.out))))))
       have y0 := hg.c 0 rfl
       have y2 := hg.c 2 rfl
       clear hg)
    | (refine isLd 46 16 rfl ?_; refine wpList_load_row rfl 46 (.tmp 16) rfl (gB) rfl 46 #[.int .i64 0, .int .i64 0, .bool false, .string ⟨#[]⟩, .slice none 0 0, .slice none 0 0, .string ⟨#[]⟩, .bool false, .int .i64 0, .bool false, .string ⟨#[]⟩, .slice none 0 0, .slice none 0 0, .int .i64 0, .bool false, .string ⟨#[]⟩, .slice none 0 0, .slice none 0 0, .int .i64 0, .string ⟨#[]⟩] (0, 0) _ (Blks.hd HK.out) Tryz.underlying46 rfl (by kernel_rfl) ?_)
    | (refine isSt 46 2 (.tmp 64) rfl ?_
       refine store_fld rfl rfl 46 (.tmp 2) (.tmp 64) rfl (w.heap.size + 1) 0 (.agg #[.int .i64 0, .int .i64 0, .bool false, .string ⟨#[]⟩, .slice none 0 0, .slice none 0 0, .string ⟨#[]⟩, .bool false, .int .i64 0, .bool false, .string ⟨#[]⟩, .slice none 0 0, .slice none 0 0, .int .i64 0, .bool false, .string ⟨#[]⟩, .slice none 0 0, .slice none 0 0, .int .i64 0, .string ⟨#[]⟩]) [.int .i64 0, .int .i64 0, .bool false, .string ⟨#[]⟩, .slice none 0 0, .slice none 0 0, .string ⟨#[]⟩, .bool false, .int .i64 0, .bool false, .string ⟨#[]⟩, .slice none 0 0, .slice none 0 0, .int .i64 0, .bool false, .string ⟨#[]⟩, .slice none 0 0, .slice none 0 0, .int .i64 0, .string ⟨#[]⟩] rfl rfl rfl #[.int .i64 0, .int .i64 0, .bool false, .string ⟨#[]⟩, .slice none 0 0, .slice none 0 0, .string ⟨#[]⟩, .bool false, .int .i64 0, .bool false, .string ⟨#[]⟩, .slice none 0 0, .slice none 0 0, .int .i64 0, .bool false, .string ⟨#[]⟩, .slice none 0 0, .slice none 0 0, .int .i64 0, .string ⟨#[]⟩] (Blks.hd (Blks.tl (Blks.tl (Blks.tl (Blks.tl (Blks.tl (Blks.tl (Blks.tl HK.out)))))))) (by kernel_rfl) (Nat.le_of_ble_eq_true rfl) (by simp [Value.oneCell']) rfl ?_
       intro w16 hS hbt hsz
       replace Ht := Lib.hid (Ht.out.butL hbt (by have := HGgV.out; have := HGgI.out; have := HGgM.out; have := HGgP.out; have := HGgR.out; have := HGgE.out; have := HGgB.out; omega))
       replace HQ := Lib.hid (Nat.le_trans HQ.out hbt.size)
       replace HVV := Lib.hid (HVV.out.butM hbt (by have := HGgV.out; have := HGgI.out; have := HGgM.out; have := HGgP.out; have := HGgR.out; have := HGgE.out; have := HGgB.out; omega))
       replace HVI := Lib.hid (HVI.out.butM hbt (by have := HGgV.out; have := HGgI.out; have := HGgM.out; have := HGgP.out; have := HGgR.out; have := HGgE.out; have := HGgB.out; omega))
       replace HVM := Lib.hid (HVM.out.butM hbt (by have := HGgV.out; have := HGgI.out; have := HGgM.out; have := HGgP.out; have := HGgR.out; have := HGgE.out; have := HGgB.out; omega))
       replace HVP := Lib.hid (HVP.out.butM hbt (by have := HGgV.out; have := HGgI.out; have := HGgM.out; have := HGgP.out; have := HGgR.out; have := HGgE.out; have := HGgB.out; omega))
       replace HVR := Lib.hid (HVR.out.butM hbt (by have := HGgV.out; have := HGgI.out; have := HGgM.out; have := HGgP.out; have := HGgR.out; have := HGgE.out; have := HGgB.out; omega))
       replace HVE := Lib.hid (HVE.out.butM hbt (by have := HGgV.out; have := HGgI.out; have := HGgM.out; have := HGgP.out; have := HGgR.out; have := HGgE.out; have := HGgB.out; omega))
       replace HK := Lib.hid (Blks.cons (BK.but (Blks.hd HK.out) hbt (by have := HGgV.out; have := HGgI.out; have := HGgM.out; have := HGgP.out; have := HGgR.out; have := HGgE.out; have := HGgB.out; omega)) (Blks.cons (BK.but (Blks.hd (Blks.tl HK.out)) hbt (by have := HGgV.out; have := HGgI.out; have := HGgM.out; have := HGgP.out; have := HGgR.out; have := HGgE.out; have := HGgB.out; omega)) (Blks.cons (BK.but (Blks.hd (Blks.tl (Blks.tl HK.out))) hbt (by have := HGgV.out; have := HGgI.out; have := HGgM.out; have := HGgP.out; have := HGgR.out; have := HGgE.out; have := HGgB.out; omega)) (Blks.cons (BK.but (Blks.hd (Blks.tl (Blks.tl (Blks.tl HK.out)))) hbt (by have := HGgV.out; have := HGgI.out; have := HGgM.out; have := HGgP.out; have := HGgR.out; have := HGgE.out; have := HGgB.out; omega)) (Blks.cons (BK.but (Blks.hd (Blks.tl (Blks.tl (Blks.tl (Blks.tl HK.out))))) hbt (by have := HGgV.out; have := HGgI.out; have := HGgM.out; have := HGgP.out; have := HGgR.out; have := HGgE.out; have := HGgB.out; omega)) (Blks.cons (BK.but (Blks.hd (Blks.tl (Blks.tl (Blks.tl (Blks.tl (Blks.tl HK.out)))))) hbt (by have := HGgV.out; have := HGgI.out; have := HGgM.out; have := HGgP.out; have := HGgR.out; have := HGgE.out; have := HGgB.out; omega)) (Blks.cons (BK.but (Blks.hd (Blks.tl (Blks.tl (Blks.tl (Blks.tl (Blks.tl (Blks.tl HK.out))))))) hbt (by have := HGgV.out; have := HGgI.out; have := HGgM.out; have := HGgP.out; have := HGgR.out; have := HGgE.out; have := HGgB.out; omega)) (Blks.cons hS (Blks.one (BK.but (Blks.hd (Blks.tl (Blks.tl (Blks.tl (Blks.tl (Blks.tl (Blks.tl (Blks.tl (Blks.tl HK.out))))))))) hbt (by have := HGgV.out; have := HGgI.out; have := HGgM.out; have := HGgP.out; have := HGgR.out; have := HGgE.out; have := HGgB.out; omega)))))))))))
       replace HB := Lib.hid (hbt.below HB.out (by have := HGgV.out; have := HGgI.out; have := HGgM.out; have := HGgP.out; have := HGgR.out; have := HGgE.out; have := HGgB.out; omega) HB.out.size)
       clear hbt hS hsz))
  go_wp2
  exact bodyPost_ret (results_row2 rfl _ _ (w.heap.size + 1) _ #[.int .i64 0, .int .i64 0, .bool false, .string ⟨#[]⟩, .slice none 0 0, .slice none 0 0, .string ⟨#[]⟩, .bool false, .int .i64 0, .bool false, .string ⟨#[]⟩, .slice none 0 0, .slice none 0 0, .int .i64 0, .bool false, .string ⟨#[]⟩, .slice none 0 0, .slice none 0 0, .int .i64 0, .string ⟨#[]⟩] _ rfl _ rfl (Blks.hd (Blks.tl (Blks.tl (Blks.tl (Blks.tl (Blks.tl (Blks.tl (Blks.tl HK.out)))))))) Tryz.underlying46 rfl (by kernel_rfl)) rfl ⟨_, rfl, ⟨_, _, _, _, _, _, _, _, _, _, _, _, _, _, _, rfl, (nul_VLV _ _), (nul_VLV _ _), (nul_VLV _ _)⟩, HB.out⟩
set_option maxRecDepth 100000 in
set_option maxHeartbeats 64000000 in
theorem rP_x (t : VT) (z : Zone) (v : Value) (w : World) (h : VLV z t w v) (hk : t.bulk ≤ 1073741790) (hc : t.check = 0) (h_zV : ((t.getD VT.rpcN).kind != 3) = false) (h_x2 : ((t.getD VT.rpcN).text.toList == [50, 46, 48]) = false) : Calls Tryz.prog 34 #[v] w (MkV2 t.readM (.int .i64 t.readE) w) := by
  have HRL := fun (hc : t.check = 0) => rd_law t hc
  have HRM := rd_msg t
  unfold VT.err at HRL HRM
  obtain ⟨bV, uV, eV, fV, hkV, hnV, GV⟩ := rgot_let t VT.rpcN (by omega)
  obtain ⟨bI, uI, eI, fI, hkI, hnI, GI⟩ := rgot_let t VT.idN (by omega)
  obtain ⟨bM, uM, eM, fM, hkM, hnM, GM⟩ := rgot_let t VT.methodN (by omega)
  obtain ⟨bP, uP, eP, fP, hkP, hnP, GP⟩ := rgot_let t VT.paramsN (by omega)
  obtain ⟨bR, uR, eR, fR, hkR, hnR, GR⟩ := rgot_let t VT.resultN (by omega)
  obtain ⟨bE, uE, eE, fE, hkE, hnE, GE⟩ := rgot_let t VT.errorN (by omega)
  rw [eM, eI, eP, eR, eE, fV, fM, fI, fP, fE] at HRL
  rw [eM, eI, eP, eR, fI, fP, fR, fM, fE] at HRM
  rw [fV] at h_zV
  rw [fV] at h_x2
  have HC := Lib.hid (fun W z v (hv : VLV z t W v) => vCheck_any t W _ v hv (z.lt W) (by omega))
  have HT := Lib.hid (fun W z v (hv : VLV z uI W v) => refId_any uI z v W hv (by omega))
  have HF := Lib.hid (fun W z v (hv : VLV z uE W v) => refFault_any uE z v W hv (by omega))
  generalize (uE.getD VT.codeN).numOf.1 = nv at *
  generalize (uE.getD VT.messageN).text = tx at *
  generalize rErrOk uE = eo at *
  generalize uI.idK = q at *
  obtain ⟨zV, hzV_⟩ : ∃ b, (uV.kind != 3) = b := ⟨_, rfl⟩
  obtain ⟨x2, hx2_⟩ : ∃ b, (uV.text.toList == [50, 46, 48]) = b := ⟨_, rfl⟩
  obtain ⟨zM, hzM_⟩ : ∃ b, (uM.kind != 3) = b := ⟨_, rfl⟩
  obtain ⟨z4, hz4_⟩ : ∃ b, (uP.kind != 4) = b := ⟨_, rfl⟩
  obtain ⟨z5, hz5_⟩ : ∃ b, (uP.kind != 5) = b := ⟨_, rfl⟩
  obtain ⟨z0, hz0_⟩ : ∃ b, (uI.kind != 0) = b := ⟨_, rfl⟩
  rw [hzV_, hx2_, hzM_, hz4_, hz5_, hz0_] at HRL
  have HNO : Hid (t.msgOk = false → t.readM = .nul ∧ t.readE = 120) := Lib.hid (fun h => by unfold VT.readM VT.readE; rw [h]; exact ⟨rfl, rfl⟩)
  have HYE : Hid (t.msgOk = true → t.readM = t.msgM ∧ t.readE = 0) := Lib.hid (fun h => by unfold VT.readM VT.readE; rw [h]; exact ⟨rfl, rfl⟩)
  have HCN : Hid (¬ t.check = 0 → t.msgOk = false) := Lib.hid (fun h => by unfold VT.msgOk VT.headOk; rw [decide_eq_false h]; rfl)
  rw [hzV_] at h_zV
  subst h_zV
  rw [hx2_] at h_x2
  subst h_x2
  obtain ⟨At, nt, ct, Bt, mt, dt, rfl⟩ := h.parts
  have Ht := Lib.hid h.old
  have HB := Lib.hid (Below.refl w.heap.size w)
  have HRL2 := Lib.hid HRL
  have HRM2 := Lib.hid HRM
  clear h hk HRL HRM
  have hnI_ := Lib.hid hnI
  clear hkV eV fV hnV hkI eI fI hnI hkM eM fM hnM hkP eP fP hnP hkR eR fR hnR hkE eE fE hnE
  generalize t.readM = rM at *
  generalize t.readE = rE_ at *
  generalize t.msgOk = okR at *
  generalize t.msgM = rMM at *
  generalize t.check = c at *
  skip
  subst hc
  go_enter Tryz.func34, Tryz.ntmps34
  go_wp2_with fail
  refine at2 (fun w1 hX0 hX1 hb hz => ?_)
  replace Ht := Lib.hid (Ht.out.up hb)
  replace HB := Lib.hid (HB.out.trans (hb.mono HB.out.size))
  have HK := Lib.hid (Blks.one hX0)
  replace HK := Lib.hid (Blks.cons hX1 HK.out)
  clear hX0 hX1 hb
  have HQ := Lib.hid hz
  clear hz
  refine (HC.out w1 _ _ Ht.out).mono ?_
  rintro e w2 ⟨rfl, hb⟩
  replace Ht := Lib.hid (Ht.out.up hb)
  replace HQ := Lib.hid (Nat.le_trans HQ.out hb.size)
  replace HK := Lib.hid (HK.out.on hb)
  replace HB := Lib.hid (HB.out.trans (hb.mono HB.out.size))
  clear hb
  clear HCN
  have hg := Blks.hd (Blks.tl HK.out)
  have y0 := hg.c 0 rfl
  have y1 := hg.c 1 rfl
  have y2 := hg.c 2 rfl
  have y3 := hg.c 3 rfl
  have y4 := hg.c 4 rfl
  clear hg
  go_wp2_with fail
  clear y0 y1 y2 y3 y4
  refine (GV w2 _ _ Ht.out).mono ?_
  rintro e w3 ⟨v', rfl, hv, hb⟩
  obtain ⟨AV, nV, cV, BV, mV, dV, rfl⟩ := VAL.parts hv
  have HVV : Hid (VLV (zNew (w.heap.size + 2)) _ _ _) := Lib.hid (VAL.z hv HQ.out)
  clear hv
  replace Ht := Lib.hid (Ht.out.up hb)
  replace HQ := Lib.hid (Nat.le_trans HQ.out hb.size)
  replace HK := Lib.hid (HK.out.on hb)
  replace HB := Lib.hid (HB.out.trans (hb.mono HB.out.size))
  clear hb
  go_upto_region 4 with (fail)
  have HGgV := Lib.hid ((Blks.hd HK.out).lt)
  have hb : Below w3.heap.size w3 (w3.alloc (.cells #[.int .i64 uV.kind, .bool uV.is, .string uV.text, .slice AV nV cV, .slice BV mV dV] 25)) := made_end' w3 _
  replace Ht := Lib.hid (Ht.out.up hb)
  replace HQ := Lib.hid (Nat.le_trans HQ.out hb.size)
  replace HVV := Lib.hid (HVV.out.up hb)
  replace HK := Lib.hid (HK.out.on hb)
  replace HB := Lib.hid (HB.out.trans (hb.mono HB.out.size))
  have hX0 : BK (w3.alloc (.cells #[.int .i64 uV.kind, .bool uV.is, .string uV.text, .slice AV nV cV, .slice BV mV dV] 25)) (w3.heap.size) 25 #[.int .i64 uV.kind, .bool uV.is, .string uV.text, .slice AV nV cV, .slice BV mV dV] := BK.new w3 _ _
  replace HK := Lib.hid (Blks.cons hX0 HK.out)
  clear hb hX0
  generalize (w3.alloc (.cells #[.int .i64 uV.kind, .bool uV.is, .string uV.text, .slice AV nV cV, .slice BV mV dV] 25)) = w4 at *
  generalize w3.heap.size = gV at *
  have hg := Blks.hd (Blks.tl (Blks.tl HK.out))
  have y0 := hg.c 0 rfl
  have y1 := hg.c 1 rfl
  have y2 := hg.c 2 rfl
  have y3 := hg.c 3 rfl
  have y4 := hg.c 4 rfl
  clear hg
  go_wp2_with fail
  clear y0 y1 y2 y3 y4
  refine (GI w4 _ _ Ht.out).mono ?_
  rintro e w5 ⟨v', rfl, hv, hb⟩
  obtain ⟨AI, nI, cI, BI, mI, dI, rfl⟩ := VAL.parts hv
  have HVI : Hid (VLV (zNew (w.heap.size + 2)) _ _ _) := Lib.hid (VAL.z hv HQ.out)
  clear hv
  replace Ht := Lib.hid (Ht.out.up hb)
  replace HQ := Lib.hid (Nat.le_trans HQ.out hb.size)
  replace HVV := Lib.hid (HVV.out.up hb)
  replace HK := Lib.hid (HK.out.on hb)
  replace HB := Lib.hid (HB.out.trans (hb.mono HB.out.size))
  clear hb
  go_upto_region 5 with (fail)
  have HGgI := Lib.hid ((Blks.hd HK.out).lt)
  have hb : Below w5.heap.size w5 (w5.alloc (.cells #[.int .i64 uI.kind, .bool uI.is, .string uI.text, .slice AI nI cI, .slice BI mI dI] 25)) := made_end' w5 _
  replace Ht := Lib.hid (Ht.out.up hb)
  replace HQ := Lib.hid (Nat.le_trans HQ.out hb.size)
  replace HVV := Lib.hid (HVV.out.up hb)
  replace HVI := Lib.hid (HVI.out.up hb)
  replace HK := Lib.hid (HK.out.on hb)
  replace HB := Lib.hid (HB.out.trans (hb.mono HB.out.size))
  have hX0 : BK (w5.alloc (.cells #[.int .i64 uI.kind, .bool uI.is, .string uI.text, .slice AI nI cI, .slice BI mI dI] 25)) (w5.heap.size) 25 #[.int .i64 uI.kind, .bool uI.is, .string uI.text, .slice AI nI cI, .slice BI mI dI] := BK.new w5 _ _
  replace HK := Lib.hid (Blks.cons hX0 HK.out)
  clear hb hX0
  generalize (w5.alloc (.cells #[.int .i64 uI.kind, .bool uI.is, .string uI.text, .slice AI nI cI, .slice BI mI dI] 25)) = w6 at *
  generalize w5.heap.size = gI at *
  have hg := Blks.hd (Blks.tl (Blks.tl (Blks.tl HK.out)))
  have y0 := hg.c 0 rfl
  have y1 := hg.c 1 rfl
  have y2 := hg.c 2 rfl
  have y3 := hg.c 3 rfl
  have y4 := hg.c 4 rfl
  clear hg
  go_wp2_with fail
  clear y0 y1 y2 y3 y4
  refine (GM w6 _ _ Ht.out).mono ?_
  rintro e w7 ⟨v', rfl, hv, hb⟩
  obtain ⟨AM, nM, cM, BM, mM, dM, rfl⟩ := VAL.parts hv
  have HVM : Hid (VLV (zNew (w.heap.size + 2)) _ _ _) := Lib.hid (VAL.z hv HQ.out)
  clear hv
  replace Ht := Lib.hid (Ht.out.up hb)
  replace HQ := Lib.hid (Nat.le_trans HQ.out hb.size)
  replace HVV := Lib.hid (HVV.out.up hb)
  replace HVI := Lib.hid (HVI.out.up hb)
  replace HK := Lib.hid (HK.out.on hb)
  replace HB := Lib.hid (HB.out.trans (hb.mono HB.out.size))
  clear hb
  go_upto_region 6 with (fail)
  have HGgM := Lib.hid ((Blks.hd HK.out).lt)
  have hb : Below w7.heap.size w7 (w7.alloc (.cells #[.int .i64 uM.kind, .bool uM.is, .string uM.text, .slice AM nM cM, .slice BM mM dM] 25)) := made_end' w7 _
  replace Ht := Lib.hid (Ht.out.up hb)
  replace HQ := Lib.hid (Nat.le_trans HQ.out hb.size)
  replace HVV := Lib.hid (HVV.out.up hb)
  replace HVI := Lib.hid (HVI.out.up hb)
  replace HVM := Lib.hid (HVM.out.up hb)
  replace HK := Lib.hid (HK.out.on hb)
  replace HB := Lib.hid (HB.out.trans (hb.mono HB.out.size))
  have hX0 : BK (w7.alloc (.cells #[.int .i64 uM.kind, .bool uM.is, .string uM.text, .slice AM nM cM, .slice BM mM dM] 25)) (w7.heap.size) 25 #[.int .i64 uM.kind, .bool uM.is, .string uM.text, .slice AM nM cM, .slice BM mM dM] := BK.new w7 _ _
  replace HK := Lib.hid (Blks.cons hX0 HK.out)
  clear hb hX0
  generalize (w7.alloc (.cells #[.int .i64 uM.kind, .bool uM.is, .string uM.text, .slice AM nM cM, .slice BM mM dM] 25)) = w8 at *
  generalize w7.heap.size = gM at *
  have hg := Blks.hd (Blks.tl (Blks.tl (Blks.tl (Blks.tl HK.out))))
  have y0 := hg.c 0 rfl
  have y1 := hg.c 1 rfl
  have y2 := hg.c 2 rfl
  have y3 := hg.c 3 rfl
  have y4 := hg.c 4 rfl
  clear hg
  go_wp2_with fail
  clear y0 y1 y2 y3 y4
  refine (GP w8 _ _ Ht.out).mono ?_
  rintro e w9 ⟨v', rfl, hv, hb⟩
  obtain ⟨AP, nP, cP, BP, mP, dP, rfl⟩ := VAL.parts hv
  have HVP : Hid (VLV (zNew (w.heap.size + 2)) _ _ _) := Lib.hid (VAL.z hv HQ.out)
  clear hv
  replace Ht := Lib.hid (Ht.out.up hb)
  replace HQ := Lib.hid (Nat.le_trans HQ.out hb.size)
  replace HVV := Lib.hid (HVV.out.up hb)
  replace HVI := Lib.hid (HVI.out.up hb)
  replace HVM := Lib.hid (HVM.out.up hb)
  replace HK := Lib.hid (HK.out.on hb)
  replace HB := Lib.hid (HB.out.trans (hb.mono HB.out.size))
  clear hb
  go_upto_region 7 with (fail)
  have HGgP := Lib.hid ((Blks.hd HK.out).lt)
  have hb : Below w9.heap.size w9 (w9.alloc (.cells #[.int .i64 uP.kind, .bool uP.is, .string uP.text, .slice AP nP cP, .slice BP mP dP] 25)) := made_end' w9 _
  replace Ht := Lib.hid (Ht.out.up hb)
  replace HQ := Lib.hid (Nat.le_trans HQ.out hb.size)
  replace HVV := Lib.hid (HVV.out.up hb)
  replace HVI := Lib.hid (HVI.out.up hb)
  replace HVM := Lib.hid (HVM.out.up hb)
  replace HVP := Lib.hid (HVP.out.up hb)
  replace HK := Lib.hid (HK.out.on hb)
  replace HB := Lib.hid (HB.out.trans (hb.mono HB.out.size))
  have hX0 : BK (w9.alloc (.cells #[.int .i64 uP.kind, .bool uP.is, .string uP.text, .slice AP nP cP, .slice BP mP dP] 25)) (w9.heap.size) 25 #[.int .i64 uP.kind, .bool uP.is, .string uP.text, .slice AP nP cP, .slice BP mP dP] := BK.new w9 _ _
  replace HK := Lib.hid (Blks.cons hX0 HK.out)
  clear hb hX0
  generalize (w9.alloc (.cells #[.int .i64 uP.kind, .bool uP.is, .string uP.text, .slice AP nP cP, .slice BP mP dP] 25)) = w10 at *
  generalize w9.heap.size = gP at *
  have hg := Blks.hd (Blks.tl (Blks.tl (Blks.tl (Blks.tl (Blks.tl HK.out)))))
  have y0 := hg.c 0 rfl
  have y1 := hg.c 1 rfl
  have y2 := hg.c 2 rfl
  have y3 := hg.c 3 rfl
  have y4 := hg.c 4 rfl
  clear hg
  go_wp2_with fail
  clear y0 y1 y2 y3 y4
  refine (GR w10 _ _ Ht.out).mono ?_
  rintro e w11 ⟨v', rfl, hv, hb⟩
  obtain ⟨AR, nR, cR, BR, mR, dR, rfl⟩ := VAL.parts hv
  have HVR : Hid (VLV (zNew (w.heap.size + 2)) _ _ _) := Lib.hid (VAL.z hv HQ.out)
  clear hv
  replace Ht := Lib.hid (Ht.out.up hb)
  replace HQ := Lib.hid (Nat.le_trans HQ.out hb.size)
  replace HVV := Lib.hid (HVV.out.up hb)
  replace HVI := Lib.hid (HVI.out.up hb)
  replace HVM := Lib.hid (HVM.out.up hb)
  replace HVP := Lib.hid (HVP.out.up hb)
  replace HK := Lib.hid (HK.out.on hb)
  replace HB := Lib.hid (HB.out.trans (hb.mono HB.out.size))
  clear hb
  go_upto_region 8 with (fail)
  have HGgR := Lib.hid ((Blks.hd HK.out).lt)
  have hb : Below w11.heap.size w11 (w11.alloc (.cells #[.int .i64 uR.kind, .bool uR.is, .string uR.text, .slice AR nR cR, .slice BR mR dR] 25)) := made_end' w11 _
  replace Ht := Lib.hid (Ht.out.up hb)
  replace HQ := Lib.hid (Nat.le_trans HQ.out hb.size)
  replace HVV := Lib.hid (HVV.out.up hb)
  replace HVI := Lib.hid (HVI.out.up hb)
  replace HVM := Lib.hid (HVM.out.up hb)
  replace HVP := Lib.hid (HVP.out.up hb)
  replace HVR := Lib.hid (HVR.out.up hb)
  replace HK := Lib.hid (HK.out.on hb)
  replace HB := Lib.hid (HB.out.trans (hb.mono HB.out.size))
  have hX0 : BK (w11.alloc (.cells #[.int .i64 uR.kind, .bool uR.is, .string uR.text, .slice AR nR cR, .slice BR mR dR] 25)) (w11.heap.size) 25 #[.int .i64 uR.kind, .bool uR.is, .string uR.text, .slice AR nR cR, .slice BR mR dR] := BK.new w11 _ _
  replace HK := Lib.hid (Blks.cons hX0 HK.out)
  clear hb hX0
  generalize (w11.alloc (.cells #[.int .i64 uR.kind, .bool uR.is, .string uR.text, .slice AR nR cR, .slice BR mR dR] 25)) = w12 at *
  generalize w11.heap.size = gR at *
  have hg := Blks.hd (Blks.tl (Blks.tl (Blks.tl (Blks.tl (Blks.tl (Blks.tl HK.out))))))
  have y0 := hg.c 0 rfl
  have y1 := hg.c 1 rfl
  have y2 := hg.c 2 rfl
  have y3 := hg.c 3 rfl
  have y4 := hg.c 4 rfl
  clear hg
  go_wp2_with fail
  clear y0 y1 y2 y3 y4
  refine (GE w12 _ _ Ht.out).mono ?_
  rintro e w13 ⟨v', rfl, hv, hb⟩
  obtain ⟨AE, nE, cE, BE, mE, dE, rfl⟩ := VAL.parts hv
  have HVE : Hid (VLV (zNew (w.heap.size + 2)) _ _ _) := Lib.hid (VAL.z hv HQ.out)
  clear hv
  replace Ht := Lib.hid (Ht.out.up hb)
  replace HQ := Lib.hid (Nat.le_trans HQ.out hb.size)
  replace HVV := Lib.hid (HVV.out.up hb)
  replace HVI := Lib.hid (HVI.out.up hb)
  replace HVM := Lib.hid (HVM.out.up hb)
  replace HVP := Lib.hid (HVP.out.up hb)
  replace HVR := Lib.hid (HVR.out.up hb)
  replace HK := Lib.hid (HK.out.on hb)
  replace HB := Lib.hid (HB.out.trans (hb.mono HB.out.size))
  clear hb
  go_upto_region 9 with (fail)
  have HGgE := Lib.hid ((Blks.hd HK.out).lt)
  have hb : Below w13.heap.size w13 (w13.alloc (.cells #[.int .i64 uE.kind, .bool uE.is, .string uE.text, .slice AE nE cE, .slice BE mE dE] 25)) := made_end' w13 _
  replace Ht := Lib.hid (Ht.out.up hb)
  replace HQ := Lib.hid (Nat.le_trans HQ.out hb.size)
  replace HVV := Lib.hid (HVV.out.up hb)
  replace HVI := Lib.hid (HVI.out.up hb)
  replace HVM := Lib.hid (HVM.out.up hb)
  replace HVP := Lib.hid (HVP.out.up hb)
  replace HVR := Lib.hid (HVR.out.up hb)
  replace HVE := Lib.hid (HVE.out.up hb)
  replace HK := Lib.hid (HK.out.on hb)
  replace HB := Lib.hid (HB.out.trans (hb.mono HB.out.size))
  have hX0 : BK (w13.alloc (.cells #[.int .i64 uE.kind, .bool uE.is, .string uE.text, .slice AE nE cE, .slice BE mE dE] 25)) (w13.heap.size) 25 #[.int .i64 uE.kind, .bool uE.is, .string uE.text, .slice AE nE cE, .slice BE mE dE] := BK.new w13 _ _
  replace HK := Lib.hid (Blks.cons hX0 HK.out)
  clear hb hX0
  generalize (w13.alloc (.cells #[.int .i64 uE.kind, .bool uE.is, .string uE.text, .slice AE nE cE, .slice BE mE dE] 25)) = w14 at *
  generalize w13.heap.size = gE at *
  have HLF : uI ≠ .leaf := by
    obtain ⟨k_, i_, x_, n_, c_, m_, e_⟩ := VAL.root HVI.out
    rw [e_]; exact VT.noConfusion
  have HOK := Lib.hid (HRL2.out (by first | rfl | trivial) HLF)
  clear HRL2 HLF
  replace HVV := Lib.hid HVV.out.mid
  replace HVI := Lib.hid HVI.out.mid
  replace HVM := Lib.hid HVM.out.mid
  replace HVP := Lib.hid HVP.out.mid
  replace HVR := Lib.hid HVR.out.mid
  replace HVE := Lib.hid HVE.out.mid
  skip
  have HOK_ : Hid (okR = false) := Lib.hid HOK.out
  obtain ⟨hmr, her⟩ := HNO.out (by rw [HOK_.out])
  subst hmr
  subst her
  go_wp2_with (first
    | (refine isSt 46 16 (.tmp 55) rfl ?_
       refine store1 rfl rfl 46 (.tmp 16) (.tmp 55) rfl rfl #[.int .i64 0, .int .i64 0, .bool false, .string ⟨#[]⟩, .slice none 0 0, .slice none 0 0, .string ⟨#[]⟩, .bool false, .int .i64 0, .bool false, .string ⟨#[]⟩, .slice none 0 0, .slice none 0 0, .int .i64 0, .bool false, .string ⟨#[]⟩, .slice none 0 0, .slice none 0 0, .int .i64 0, .string ⟨#[]⟩] rfl (by kernel_rfl) rfl (by simp [Value.oneCell']) ?_
       intro w15 hX hb hz
       have HGgB : Hid (gE < w14.heap.size) := Lib.hid (Blks.hd HK.out).lt
       replace Ht := Lib.hid (Ht.out.up hb)
       replace HQ := Lib.hid (Nat.le_trans HQ.out hb.size)
       replace HVV := Lib.hid (HVV.out.up hb)
       replace HVI := Lib.hid (HVI.out.up hb)
       replace HVM := Lib.hid (HVM.out.up hb)
       replace HVP := Lib.hid (HVP.out.up hb)
       replace HVR := Lib.hid (HVR.out.up hb)
       replace HVE := Lib.hid (HVE.out.up hb)
       replace HK := Lib.hid (HK.out.on hb)
       replace HB := Lib.hid (HB.out.trans (hb.mono HB.out.size))
       replace HK := Lib.hid (Blks.cons hX HK.out)
       clear hX hb hz
       generalize w14.heap.size = gB at *
       have hg := Blks.hd (Blks.tl (Blks.tl (Blks.tl (Blks.tl (Blks.tl (Blks.tl HK.out))))))
       have y0 := hg.c 0 rfl
       have y2 := hg.c 2 rfl
       clear hg)
    | (refine isLd 46 16 rfl ?_; refine wpList_load_row rfl 46 (.tmp 16) rfl (gB) rfl 46 #[.int .i64 0, .int .i64 0, .bool false, .string ⟨#[]⟩, .slice none 0 0, .slice none 0 0, .string ⟨#[]⟩, .bool false, .int .i64 0, .bool false, .string ⟨#[]⟩, .slice none 0 0, .slice none 0 0, .int .i64 0, .bool false, .string ⟨#[]⟩, .slice none 0 0, .slice none 0 0, .int .i64 0, .string ⟨#[]⟩] (0, 0) _ (Blks.hd HK.out) Tryz.underlying46 rfl (by kernel_rfl) ?_)
    | (refine isSt 46 2 (.tmp 64) rfl ?_
       refine store_fld rfl rfl 46 (.tmp 2) (.tmp 64) rfl (w.heap.size + 1) 0 (.agg #[.int .i64 0, .int .i64 0, .bool false, .string ⟨#[]⟩, .slice none 0 0, .slice none 0 0, .string ⟨#[]⟩, .bool false, .int .i64 0, .bool false, .string ⟨#[]⟩, .slice none 0 0, .slice none 0 0, .int .i64 0, .bool false, .string ⟨#[]⟩, .slice none 0 0, .slice none 0 0, .int .i64 0, .string ⟨#[]⟩]) [.int .i64 0, .int .i64 0, .bool false, .string ⟨#[]⟩, .slice none 0 0, .slice none 0 0, .string ⟨#[]⟩, .bool false, .int .i64 0, .bool false, .string ⟨#[]⟩, .slice none 0 0, .slice none 0 0, .int .i64 0, .bool false, .string ⟨#[]⟩, .slice none 0 0, .slice none 0 0, .int .i64 0, .string ⟨#[]⟩] rfl rfl rfl #[.int .i64 0, .int .i64 0, .bool false, .string ⟨#[]⟩, .slice none 0 0, .slice none 0 0, .string ⟨#[]⟩, .bool false, .int .i64 0, .bool false, .string ⟨#[]⟩, .slice none 0 0, .slice none 0 0, .int .i64 0, .bool false, .string ⟨#[]⟩, .slice none 0 0, .slice none 0 0, .int .i64 0, .string ⟨#[]⟩] (Blks.hd (Blks.tl (Blks.tl (Blks.tl (Blks.tl (Blks.tl (Blks.tl (Blks.tl HK.out)))))))) (by kernel_rfl) (Nat.le_of_ble_eq_true rfl) (by simp [Value.oneCell']) rfl ?_
       intro w16 hS hbt hsz
       replace Ht := Lib.hid (Ht.out.butL hbt (by have := HGgV.out; have := HGgI.out; have := HGgM.out; have := HGgP.out; have := HGgR.out; have := HGgE.out; have := HGgB.out; omega))
       replace HQ := Lib.hid (Nat.le_trans HQ.out hbt.size)
       replace HVV := Lib.hid (HVV.out.butM hbt (by have := HGgV.out; have := HGgI.out; have := HGgM.out; have := HGgP.out; have := HGgR.out; have := HGgE.out; have := HGgB.out; omega))
       replace HVI := Lib.hid (HVI.out.butM hbt (by have := HGgV.out; have := HGgI.out; have := HGgM.out; have := HGgP.out; have := HGgR.out; have := HGgE.out; have := HGgB.out; omega))
       replace HVM := Lib.hid (HVM.out.butM hbt (by have := HGgV.out; have := HGgI.out; have := HGgM.out; have := HGgP.out; have := HGgR.out; have := HGgE.out; have := HGgB.out; omega))
       replace HVP := Lib.hid (HVP.out.butM hbt (by have := HGgV.out; have := HGgI.out; have := HGgM.out; have := HGgP.out; have := HGgR.out; have := HGgE.out; have := HGgB.out; omega))
       replace HVR := Lib.hid (HVR.out.butM hbt (by have := HGgV.out; have := HGgI.out; have := HGgM.out; have := HGgP.out; have := HGgR.out; have := HGgE.out; have := HGgB.out; omega))
       replace HVE := Lib.hid (HVE.out.butM hbt (by have := HGgV.out; have := HGgI.out; have := HGgM.out; have := HGgP.out; have := HGgR.out; have := HGgE.out; have := HGgB.out; omega))
       replace HK := Lib.hid (Blks.cons (BK.but (Blks.hd HK.out) hbt (by have := HGgV.out; have := HGgI.out; have := HGgM.out; have := HGgP.out; have := HGgR.out; have := HGgE.out; have := HGgB.out; omega)) (Blks.cons (BK.but (Blks.hd (Blks.tl HK.out)) hbt (by have := HGgV.out; have := HGgI.out; have := HGgM.out; have := HGgP.out; have := HGgR.out; have := HGgE.out; have := HGgB.out; omega)) (Blks.cons (BK.but (Blks.hd (Blks.tl (Blks.tl HK.out))) hbt (by have := HGgV.out; have := HGgI.out; have := HGgM.out; have := HGgP.out; have := HGgR.out; have := HGgE.out; have := HGgB.out; omega)) (Blks.cons (BK.but (Blks.hd (Blks.tl (Blks.tl (Blks.tl HK.out)))) hbt (by have := HGgV.out; have := HGgI.out; have := HGgM.out; have := HGgP.out; have := HGgR.out; have := HGgE.out; have := HGgB.out; omega)) (Blks.cons (BK.but (Blks.hd (Blks.tl (Blks.tl (Blks.tl (Blks.tl HK.out))))) hbt (by have := HGgV.out; have := HGgI.out; have := HGgM.out; have := HGgP.out; have := HGgR.out; have := HGgE.out; have := HGgB.out; omega)) (Blks.cons (BK.but (Blks.hd (Blks.tl (Blks.tl (Blks.tl (Blks.tl (Blks.tl HK.out)))))) hbt (by have := HGgV.out; have := HGgI.out; have := HGgM.out; have := HGgP.out; have := HGgR.out; have := HGgE.out; have := HGgB.out; omega)) (Blks.cons (BK.but (Blks.hd (Blks.tl (Blks.tl (Blks.tl (Blks.tl (Blks.tl (Blks.tl HK.out))))))) hbt (by have := HGgV.out; have := HGgI.out; have := HGgM.out; have := HGgP.out; have := HGgR.out; have := HGgE.out; have := HGgB.out; omega)) (Blks.cons hS (Blks.one (BK.but (Blks.hd (Blks.tl (Blks.tl (Blks.tl (Blks.tl (Blks.tl (Blks.tl (Blks.tl (Blks.tl HK.out))))))))) hbt (by have := HGgV.out; have := HGgI.out; have := HGgM.out; have := HGgP.out; have := HGgR.out; have := HGgE.out; have := HGgB.out; omega)))))))))))
       replace HB := Lib.hid (hbt.below HB.out (by have := HGgV.out; have := HGgI.out; have := HGgM.out; have := HGgP.out; have := HGgR.out; have := HGgE.out; have := HGgB.out; omega) HB.out.size)
       clear hbt hS hsz))
  go_wp2
  exact bodyPost_ret (results_row2 rfl _ _ (w.heap.size + 1) _ #[.int .i64 0, .int .i64 0, .bool false, .string ⟨#[]⟩, .slice none 0 0, .slice none 0 0, .string ⟨#[]⟩, .bool false, .int .i64 0, .bool false, .string ⟨#[]⟩, .slice none 0 0, .slice none 0 0, .int .i64 0, .bool false, .string ⟨#[]⟩, .slice none 0 0, .slice none 0 0, .int .i64 0, .string ⟨#[]⟩] _ rfl _ rfl (Blks.hd (Blks.tl (Blks.tl (Blks.tl (Blks.tl (Blks.tl (Blks.tl (Blks.tl HK.out)))))))) Tryz.underlying46 rfl (by kernel_rfl)) rfl ⟨_, rfl, ⟨_, _, _, _, _, _, _, _, _, _, _, _, _, _, _, rfl, (nul_VLV _ _), (nul_VLV _ _), (nul_VLV _ _)⟩, HB.out⟩
end Go.Proofs.YtfploakafbnigaaGreatDoor
