/-
  Layer 12, the walks: answers.
-/
import Derived.Test.YtfploakafbnigaaGreatDoorCRpcMake
namespace Go.Proofs.YtfploakafbnigaaGreatDoor
open Go.RowKit Val Num YtfploakafbnigaaGreatDoorW.PrintLast
set_option linter.unusedVariables false
set_option linter.unusedSimpArgs false
set_option maxRecDepth 100000 in
set_option maxHeartbeats 8000000 in
theorem answers_any (t : VT) (z : Zone) (v : Value) (w : World) (h : VLV z t w v) (hM : ML w) (hk : t.bulk ≤ 1073741800) : Calls Tryz.prog 97 #[v] w (MkM2 t.ansMs (.bool t.ansOk) w) := by
  obtain ⟨bI, uI, eI, fI, hkI, -, GI⟩ := got_let t VT.idN (by omega)
  obtain ⟨bR, uR, eR, fR, hkR, -, GR⟩ := got_let t VT.resultN (by omega)
  obtain ⟨bE, uE, eE, fE, hkE, -, GE⟩ := got_let t VT.errorN (by omega)
  obtain ⟨bC, uC, eC, fC, hkC, -, GC⟩ := got_let uE VT.codeN (by omega)
  obtain ⟨bT, uT, eT, fT, hkT, -, GT⟩ := got_let uE VT.messageN (by omega)
  unfold VT.ansOk VT.ansMs VT.ansM VT.errOk VT.err
  rw [eI, eR, eE, fI, fR, fE, fC, fT]
  obtain ⟨b2, hb2⟩ : ∃ b, (uC.kind == 2) = b := ⟨_, rfl⟩
  obtain ⟨b3, hb3⟩ : ∃ b, (uT.kind == 3) = b := ⟨_, rfl⟩
  rw [show decide (uC.kind = 2) = b2 from hb2, show decide (uT.kind = 3) = b3 from hb3]
  obtain ⟨nv, hnv⟩ : ∃ n, uC.numOf.1 = n := ⟨_, rfl⟩
  obtain ⟨nw, hnw⟩ : ∃ n, uC.numOf.2 = n := ⟨_, rfl⟩
  have HN : Hid (∀ W, ML W → Calls Tryz.prog 136 #[.string uC.text] W fun e w' => e = .returned (.tuple #[.int .i64 uC.numOf.1, .bool uC.numOf.2]) ∧ Below W.heap.size W w') := Lib.hid (fun W hW => Int_any uC.text _ rfl W hW (by have := VT.text_bulk uC; have : uC.text.data.toList.length = uC.text.size := Array.length_toList; omega))
  rw [hnv, hnw] at HN
  rw [hnv, hnw]
  generalize hmm : (if (bI && (bR != bE)) = true then (if bR = true then MT.mk 3 uI .empty false .nul uR 0 .empty else MT.mk 4 uI .empty false .nul .nul nv uT.text) else MT.nul) = mm
  generalize hbb : (bI && (bR != bE) && (if bR = true then uI.isId else (uI.isId || uI.isNull) && (b2 && nw && b3))) = bb
  have HMM := Lib.hid hmm
  have HBB := Lib.hid hbb
  clear hmm hbb hnv hnw
  obtain ⟨At, nt, ct, Bt, mt, dt, rfl⟩ := h.parts
  have HT : Hid (∀ W (v : Value) (z : Zone), VLV z uI W v → ML W → Calls Tryz.prog 102 #[v] W (Made (.bool uI.isId) W)) := Lib.hid (fun W v z hv hM => isId_any uI z v W hv hM (by omega))
  have HZ : Hid (∀ W (v : Value) (z : Zone), VLV z uI W v → Calls Tryz.prog 150 #[v] W (Made (.bool uI.isNull) W)) := Lib.hid (fun W v z hv => isNull_any uI z v W hv (by omega))
  have HR : Hid (∀ W (v v' : Value) (z z' : Zone), VLV z uI W v → VLV z' uR W v' → Calls Tryz.prog 36 #[v, v'] W (MkM ⟨3, uI, .empty, false, .nul, uR, 0, .empty⟩ W)) := Lib.hid (fun W v v' z z' hv hv' => Reply_any uI uR z z' v v' W hv hv' (by omega) (by omega))
  have HF : Hid (∀ W (v : Value) (z : Zone), VLV z uI W v → Calls Tryz.prog 37 #[v, .int .i64 nv, .string uT.text] W (MkM ⟨4, uI, .empty, false, .nul, .nul, nv, uT.text⟩ W)) := Lib.hid (fun W v z hv => Fault_any uI nv uT.text z v W hv (by omega))
  have Ht := Lib.hid h.old
  have HM := Lib.hid hM
  have HM0 := Lib.hid hM
  have HB := Lib.hid (Below.refl w.heap.size w)
  clear h hM hk hkI hkR hkE hkC hkT eI eR eE fI fR fE eC eT fC fT
  generalize uI.isId = q at *
  generalize uI.isNull = nz at *
  go_enter Tryz.func97, Tryz.ntmps97
  go_wp2_with fail
  refine at2 (fun w1 hX0 hX1 hb hz => ?_)
  replace Ht := Lib.hid (Ht.out.up hb)
  replace HM := Lib.hid (HM.out.on hb)
  replace HB := Lib.hid (HB.out.trans (hb.mono HB.out.size))
  have HK := Lib.hid (Blks.one hX0)
  replace HK := Lib.hid (Blks.cons hX1 HK.out)
  clear hX0 hX1 hb
  have HQ := Lib.hid hz
  clear hz
  refine (GI w1 _ _ Ht.out).mono ?_
  rintro e w2 ⟨v', rfl, hv, hb, hnf⟩
  obtain ⟨AI, nI, cI, BI, mI, dI, rfl⟩ := VAL.parts hv
  have HVI := Lib.hid (VAL.zf hv hnf HQ.out)
  clear hv hnf
  replace Ht := Lib.hid (Ht.out.up hb)
  replace HM := Lib.hid (HM.out.on hb)
  replace HQ := Lib.hid (Nat.le_trans HQ.out hb.size)
  replace HK := Lib.hid (HK.out.on hb)
  replace HB := Lib.hid (HB.out.trans (hb.mono HB.out.size))
  clear hb
  go_upto_region 2 with (fail)
  have HGgI := Lib.hid ((Blks.hd HK.out).lt)
  have hb : Below w2.heap.size w2 (w2.alloc (.cells #[.int .i64 uI.kind, .bool uI.is, .string uI.text, .slice AI nI cI, .slice BI mI dI] 25)) := made_end' w2 _
  replace Ht := Lib.hid (Ht.out.up hb)
  replace HM := Lib.hid (HM.out.on hb)
  replace HQ := Lib.hid (Nat.le_trans HQ.out hb.size)
  replace HVI := Lib.hid (HVI.out.up hb)
  replace HK := Lib.hid (HK.out.on hb)
  replace HB := Lib.hid (HB.out.trans (hb.mono HB.out.size))
  have hX0 : BK (w2.alloc (.cells #[.int .i64 uI.kind, .bool uI.is, .string uI.text, .slice AI nI cI, .slice BI mI dI] 25)) (w2.heap.size) 25 #[.int .i64 uI.kind, .bool uI.is, .string uI.text, .slice AI nI cI, .slice BI mI dI] := BK.new w2 _ _
  replace HK := Lib.hid (Blks.cons hX0 HK.out)
  clear hb hX0
  generalize (w2.alloc (.cells #[.int .i64 uI.kind, .bool uI.is, .string uI.text, .slice AI nI cI, .slice BI mI dI] 25)) = w3 at *
  generalize w2.heap.size = gI at *
  have hg := Blks.hd (Blks.tl (Blks.tl HK.out))
  have y0 := hg.c 0 rfl
  have y1 := hg.c 1 rfl
  have y2 := hg.c 2 rfl
  have y3 := hg.c 3 rfl
  have y4 := hg.c 4 rfl
  clear hg
  go_wp2_with fail
  clear y0 y1 y2 y3 y4
  refine (GR w3 _ _ Ht.out).mono ?_
  rintro e w4 ⟨v', rfl, hv, hb, hnf⟩
  obtain ⟨AR, nR, cR, BR, mR, dR, rfl⟩ := VAL.parts hv
  have HVR := Lib.hid (VAL.zf hv hnf HQ.out)
  clear hv hnf
  replace Ht := Lib.hid (Ht.out.up hb)
  replace HM := Lib.hid (HM.out.on hb)
  replace HQ := Lib.hid (Nat.le_trans HQ.out hb.size)
  replace HVI := Lib.hid (HVI.out.up hb)
  replace HK := Lib.hid (HK.out.on hb)
  replace HB := Lib.hid (HB.out.trans (hb.mono HB.out.size))
  clear hb
  go_upto_region 3 with (fail)
  have HGgR := Lib.hid ((Blks.hd HK.out).lt)
  have hb : Below w4.heap.size w4 (w4.alloc (.cells #[.int .i64 uR.kind, .bool uR.is, .string uR.text, .slice AR nR cR, .slice BR mR dR] 25)) := made_end' w4 _
  replace Ht := Lib.hid (Ht.out.up hb)
  replace HM := Lib.hid (HM.out.on hb)
  replace HQ := Lib.hid (Nat.le_trans HQ.out hb.size)
  replace HVI := Lib.hid (HVI.out.up hb)
  replace HVR := Lib.hid (HVR.out.up hb)
  replace HK := Lib.hid (HK.out.on hb)
  replace HB := Lib.hid (HB.out.trans (hb.mono HB.out.size))
  have hX0 : BK (w4.alloc (.cells #[.int .i64 uR.kind, .bool uR.is, .string uR.text, .slice AR nR cR, .slice BR mR dR] 25)) (w4.heap.size) 25 #[.int .i64 uR.kind, .bool uR.is, .string uR.text, .slice AR nR cR, .slice BR mR dR] := BK.new w4 _ _
  replace HK := Lib.hid (Blks.cons hX0 HK.out)
  clear hb hX0
  generalize (w4.alloc (.cells #[.int .i64 uR.kind, .bool uR.is, .string uR.text, .slice AR nR cR, .slice BR mR dR] 25)) = w5 at *
  generalize w4.heap.size = gR at *
  have hg := Blks.hd (Blks.tl (Blks.tl (Blks.tl HK.out)))
  have y0 := hg.c 0 rfl
  have y1 := hg.c 1 rfl
  have y2 := hg.c 2 rfl
  have y3 := hg.c 3 rfl
  have y4 := hg.c 4 rfl
  clear hg
  go_wp2_with fail
  clear y0 y1 y2 y3 y4
  refine (GE w5 _ _ Ht.out).mono ?_
  rintro e w6 ⟨v', rfl, hv, hb, hnf⟩
  obtain ⟨AE, nE, cE, BE, mE, dE, rfl⟩ := VAL.parts hv
  have HVE := Lib.hid (VAL.zf hv hnf HQ.out)
  clear hv hnf
  replace Ht := Lib.hid (Ht.out.up hb)
  replace HM := Lib.hid (HM.out.on hb)
  replace HQ := Lib.hid (Nat.le_trans HQ.out hb.size)
  replace HVI := Lib.hid (HVI.out.up hb)
  replace HVR := Lib.hid (HVR.out.up hb)
  replace HK := Lib.hid (HK.out.on hb)
  replace HB := Lib.hid (HB.out.trans (hb.mono HB.out.size))
  clear hb
  go_upto_region 4 with (fail)
  have HGgE := Lib.hid ((Blks.hd HK.out).lt)
  have hb : Below w6.heap.size w6 (w6.alloc (.cells #[.int .i64 uE.kind, .bool uE.is, .string uE.text, .slice AE nE cE, .slice BE mE dE] 25)) := made_end' w6 _
  replace Ht := Lib.hid (Ht.out.up hb)
  replace HM := Lib.hid (HM.out.on hb)
  replace HQ := Lib.hid (Nat.le_trans HQ.out hb.size)
  replace HVI := Lib.hid (HVI.out.up hb)
  replace HVR := Lib.hid (HVR.out.up hb)
  replace HVE := Lib.hid (HVE.out.up hb)
  replace HK := Lib.hid (HK.out.on hb)
  replace HB := Lib.hid (HB.out.trans (hb.mono HB.out.size))
  have hX0 : BK (w6.alloc (.cells #[.int .i64 uE.kind, .bool uE.is, .string uE.text, .slice AE nE cE, .slice BE mE dE] 25)) (w6.heap.size) 25 #[.int .i64 uE.kind, .bool uE.is, .string uE.text, .slice AE nE cE, .slice BE mE dE] := BK.new w6 _ _
  replace HK := Lib.hid (Blks.cons hX0 HK.out)
  clear hb hX0
  generalize (w6.alloc (.cells #[.int .i64 uE.kind, .bool uE.is, .string uE.text, .slice AE nE cE, .slice BE mE dE] 25)) = w7 at *
  generalize w6.heap.size = gE at *
  cases bI
  · skip
    go_wp2_with (
      refine store_fld rfl rfl 46 (.tmp 2) (.tmp 38) rfl (w.heap.size + 1) 0 (.agg #[.int .i64 0, .int .i64 0, .bool false, .string ⟨#[]⟩, .slice none 0 0, .slice none 0 0, .string ⟨#[]⟩, .bool false, .int .i64 0, .bool false, .string ⟨#[]⟩, .slice none 0 0, .slice none 0 0, .int .i64 0, .bool false, .string ⟨#[]⟩, .slice none 0 0, .slice none 0 0, .int .i64 0, .string ⟨#[]⟩]) [.int .i64 0, .int .i64 0, .bool false, .string ⟨#[]⟩, .slice none 0 0, .slice none 0 0, .string ⟨#[]⟩, .bool false, .int .i64 0, .bool false, .string ⟨#[]⟩, .slice none 0 0, .slice none 0 0, .int .i64 0, .bool false, .string ⟨#[]⟩, .slice none 0 0, .slice none 0 0, .int .i64 0, .string ⟨#[]⟩] rfl rfl rfl #[.int .i64 0, .int .i64 0, .bool false, .string ⟨#[]⟩, .slice none 0 0, .slice none 0 0, .string ⟨#[]⟩, .bool false, .int .i64 0, .bool false, .string ⟨#[]⟩, .slice none 0 0, .slice none 0 0, .int .i64 0, .bool false, .string ⟨#[]⟩, .slice none 0 0, .slice none 0 0, .int .i64 0, .string ⟨#[]⟩] (Blks.hd (Blks.tl (Blks.tl (Blks.tl HK.out)))) (by kernel_rfl) (Nat.le_of_ble_eq_true rfl) (by simp [Value.oneCell']) rfl ?_
      intro w8 hS hbt hsz
      replace Ht := Lib.hid (Ht.out.butL hbt (by have := HGgI.out; have := HGgR.out; have := HGgE.out; omega))
      replace HM := Lib.hid (ML.but2 HM0.out HM.out hbt (by have := HGgI.out; have := HGgR.out; have := HGgE.out; omega))
      replace HQ := Lib.hid (Nat.le_trans HQ.out hbt.size)
      replace HVI := Lib.hid (HVI.out.but hbt (by have := HGgI.out; have := HGgR.out; have := HGgE.out; omega))
      replace HVR := Lib.hid (HVR.out.but hbt (by have := HGgI.out; have := HGgR.out; have := HGgE.out; omega))
      replace HVE := Lib.hid (HVE.out.but hbt (by have := HGgI.out; have := HGgR.out; have := HGgE.out; omega))
      replace HK := Lib.hid (Blks.cons (BK.but (Blks.hd HK.out) hbt (by have := HGgI.out; have := HGgR.out; have := HGgE.out; omega)) (Blks.cons (BK.but (Blks.hd (Blks.tl HK.out)) hbt (by have := HGgI.out; have := HGgR.out; have := HGgE.out; omega)) (Blks.cons (BK.but (Blks.hd (Blks.tl (Blks.tl HK.out))) hbt (by have := HGgI.out; have := HGgR.out; have := HGgE.out; omega)) (Blks.cons hS (Blks.one (BK.but (Blks.hd (Blks.tl (Blks.tl (Blks.tl (Blks.tl HK.out))))) hbt (by have := HGgI.out; have := HGgR.out; have := HGgE.out; omega)))))))
      replace HB := Lib.hid (hbt.below HB.out (by have := HGgI.out; have := HGgR.out; have := HGgE.out; omega) HB.out.size)
      clear hbt hS hsz)
    go_wp2
    have hmm := HMM.out
    subst hmm
    have hbb := HBB.out
    subst hbb
    exact bodyPost_ret (results_row2 rfl _ _ (w.heap.size + 1) _ #[.int .i64 0, .int .i64 0, .bool false, .string ⟨#[]⟩, .slice none 0 0, .slice none 0 0, .string ⟨#[]⟩, .bool false, .int .i64 0, .bool false, .string ⟨#[]⟩, .slice none 0 0, .slice none 0 0, .int .i64 0, .bool false, .string ⟨#[]⟩, .slice none 0 0, .slice none 0 0, .int .i64 0, .string ⟨#[]⟩] _ rfl _ rfl (Blks.hd (Blks.tl (Blks.tl (Blks.tl HK.out)))) Tryz.underlying46 rfl (by kernel_rfl)) rfl ⟨_, rfl, ⟨_, _, _, _, _, _, _, _, _, _, _, _, _, _, _, rfl, (nul_VLF _ _), (nul_VLF _ _), (nul_VLF _ _)⟩, HB.out⟩
  cases bR <;> cases bE
  · skip
    go_wp2_with (
      refine store_fld rfl rfl 46 (.tmp 2) (.tmp 38) rfl (w.heap.size + 1) 0 (.agg #[.int .i64 0, .int .i64 0, .bool false, .string ⟨#[]⟩, .slice none 0 0, .slice none 0 0, .string ⟨#[]⟩, .bool false, .int .i64 0, .bool false, .string ⟨#[]⟩, .slice none 0 0, .slice none 0 0, .int .i64 0, .bool false, .string ⟨#[]⟩, .slice none 0 0, .slice none 0 0, .int .i64 0, .string ⟨#[]⟩]) [.int .i64 0, .int .i64 0, .bool false, .string ⟨#[]⟩, .slice none 0 0, .slice none 0 0, .string ⟨#[]⟩, .bool false, .int .i64 0, .bool false, .string ⟨#[]⟩, .slice none 0 0, .slice none 0 0, .int .i64 0, .bool false, .string ⟨#[]⟩, .slice none 0 0, .slice none 0 0, .int .i64 0, .string ⟨#[]⟩] rfl rfl rfl #[.int .i64 0, .int .i64 0, .bool false, .string ⟨#[]⟩, .slice none 0 0, .slice none 0 0, .string ⟨#[]⟩, .bool false, .int .i64 0, .bool false, .string ⟨#[]⟩, .slice none 0 0, .slice none 0 0, .int .i64 0, .bool false, .string ⟨#[]⟩, .slice none 0 0, .slice none 0 0, .int .i64 0, .string ⟨#[]⟩] (Blks.hd (Blks.tl (Blks.tl (Blks.tl HK.out)))) (by kernel_rfl) (Nat.le_of_ble_eq_true rfl) (by simp [Value.oneCell']) rfl ?_
      intro w8 hS hbt hsz
      replace Ht := Lib.hid (Ht.out.butL hbt (by have := HGgI.out; have := HGgR.out; have := HGgE.out; omega))
      replace HM := Lib.hid (ML.but2 HM0.out HM.out hbt (by have := HGgI.out; have := HGgR.out; have := HGgE.out; omega))
      replace HQ := Lib.hid (Nat.le_trans HQ.out hbt.size)
      replace HVI := Lib.hid (HVI.out.but hbt (by have := HGgI.out; have := HGgR.out; have := HGgE.out; omega))
      replace HVR := Lib.hid (HVR.out.but hbt (by have := HGgI.out; have := HGgR.out; have := HGgE.out; omega))
      replace HVE := Lib.hid (HVE.out.but hbt (by have := HGgI.out; have := HGgR.out; have := HGgE.out; omega))
      replace HK := Lib.hid (Blks.cons (BK.but (Blks.hd HK.out) hbt (by have := HGgI.out; have := HGgR.out; have := HGgE.out; omega)) (Blks.cons (BK.but (Blks.hd (Blks.tl HK.out)) hbt (by have := HGgI.out; have := HGgR.out; have := HGgE.out; omega)) (Blks.cons (BK.but (Blks.hd (Blks.tl (Blks.tl HK.out))) hbt (by have := HGgI.out; have := HGgR.out; have := HGgE.out; omega)) (Blks.cons hS (Blks.one (BK.but (Blks.hd (Blks.tl (Blks.tl (Blks.tl (Blks.tl HK.out))))) hbt (by have := HGgI.out; have := HGgR.out; have := HGgE.out; omega)))))))
      replace HB := Lib.hid (hbt.below HB.out (by have := HGgI.out; have := HGgR.out; have := HGgE.out; omega) HB.out.size)
      clear hbt hS hsz)
    go_wp2
    have hmm := HMM.out
    subst hmm
    have hbb := HBB.out
    subst hbb
    exact bodyPost_ret (results_row2 rfl _ _ (w.heap.size + 1) _ #[.int .i64 0, .int .i64 0, .bool false, .string ⟨#[]⟩, .slice none 0 0, .slice none 0 0, .string ⟨#[]⟩, .bool false, .int .i64 0, .bool false, .string ⟨#[]⟩, .slice none 0 0, .slice none 0 0, .int .i64 0, .bool false, .string ⟨#[]⟩, .slice none 0 0, .slice none 0 0, .int .i64 0, .string ⟨#[]⟩] _ rfl _ rfl (Blks.hd (Blks.tl (Blks.tl (Blks.tl HK.out)))) Tryz.underlying46 rfl (by kernel_rfl)) rfl ⟨_, rfl, ⟨_, _, _, _, _, _, _, _, _, _, _, _, _, _, _, rfl, (nul_VLF _ _), (nul_VLF _ _), (nul_VLF _ _)⟩, HB.out⟩
  · skip
    have hg := Blks.hd HK.out
    have y0 := hg.c 0 rfl
    have y1 := hg.c 1 rfl
    have y2 := hg.c 2 rfl
    have y3 := hg.c 3 rfl
    have y4 := hg.c 4 rfl
    clear hg
    go_wp2_with fail
    clear y0 y1 y2 y3 y4
    refine (GC w7 _ _ HVE.out.1).mono ?_
    rintro e w8 ⟨v', rfl, hv, hb, hnf⟩
    obtain ⟨AC, nC, cC, BC, mC, dC, rfl⟩ := VAL.parts hv
    have HVC := Lib.hid (VAL.zf hv hnf HQ.out)
    clear hv hnf
    replace Ht := Lib.hid (Ht.out.up hb)
    replace HM := Lib.hid (HM.out.on hb)
    replace HQ := Lib.hid (Nat.le_trans HQ.out hb.size)
    replace HVI := Lib.hid (HVI.out.up hb)
    replace HVR := Lib.hid (HVR.out.up hb)
    replace HVE := Lib.hid (HVE.out.up hb)
    replace HK := Lib.hid (HK.out.on hb)
    replace HB := Lib.hid (HB.out.trans (hb.mono HB.out.size))
    clear hb
    go_upto_region 9 with (fail)
    have HGgC := Lib.hid ((Blks.hd HK.out).lt)
    have hb : Below w8.heap.size w8 (w8.alloc (.cells #[.int .i64 uC.kind, .bool uC.is, .string uC.text, .slice AC nC cC, .slice BC mC dC] 25)) := made_end' w8 _
    replace Ht := Lib.hid (Ht.out.up hb)
    replace HM := Lib.hid (HM.out.on hb)
    replace HQ := Lib.hid (Nat.le_trans HQ.out hb.size)
    replace HVI := Lib.hid (HVI.out.up hb)
    replace HVR := Lib.hid (HVR.out.up hb)
    replace HVE := Lib.hid (HVE.out.up hb)
    replace HVC := Lib.hid (HVC.out.up hb)
    replace HK := Lib.hid (HK.out.on hb)
    replace HB := Lib.hid (HB.out.trans (hb.mono HB.out.size))
    have hX0 : BK (w8.alloc (.cells #[.int .i64 uC.kind, .bool uC.is, .string uC.text, .slice AC nC cC, .slice BC mC dC] 25)) (w8.heap.size) 25 #[.int .i64 uC.kind, .bool uC.is, .string uC.text, .slice AC nC cC, .slice BC mC dC] := BK.new w8 _ _
    replace HK := Lib.hid (Blks.cons hX0 HK.out)
    clear hb hX0
    generalize (w8.alloc (.cells #[.int .i64 uC.kind, .bool uC.is, .string uC.text, .slice AC nC cC, .slice BC mC dC] 25)) = w9 at *
    generalize w8.heap.size = gC at *
    have hg := Blks.hd (Blks.tl HK.out)
    have y0 := hg.c 0 rfl
    have y1 := hg.c 1 rfl
    have y2 := hg.c 2 rfl
    have y3 := hg.c 3 rfl
    have y4 := hg.c 4 rfl
    clear hg
    go_wp2_with fail
    clear y0 y1 y2 y3 y4
    refine (GT w9 _ _ HVE.out.1).mono ?_
    rintro e w10 ⟨v', rfl, hv, hb, hnf⟩
    obtain ⟨AT, nT, cT, BT, mT, dT, rfl⟩ := VAL.parts hv
    have HVT := Lib.hid (VAL.zf hv hnf HQ.out)
    clear hv hnf
    replace Ht := Lib.hid (Ht.out.up hb)
    replace HM := Lib.hid (HM.out.on hb)
    replace HQ := Lib.hid (Nat.le_trans HQ.out hb.size)
    replace HVI := Lib.hid (HVI.out.up hb)
    replace HVR := Lib.hid (HVR.out.up hb)
    replace HVE := Lib.hid (HVE.out.up hb)
    replace HVC := Lib.hid (HVC.out.up hb)
    replace HK := Lib.hid (HK.out.on hb)
    replace HB := Lib.hid (HB.out.trans (hb.mono HB.out.size))
    clear hb
    go_upto_region 10 with (fail)
    have HGgT := Lib.hid ((Blks.hd HK.out).lt)
    have hb : Below w10.heap.size w10 (w10.alloc (.cells #[.int .i64 uT.kind, .bool uT.is, .string uT.text, .slice AT nT cT, .slice BT mT dT] 25)) := made_end' w10 _
    replace Ht := Lib.hid (Ht.out.up hb)
    replace HM := Lib.hid (HM.out.on hb)
    replace HQ := Lib.hid (Nat.le_trans HQ.out hb.size)
    replace HVI := Lib.hid (HVI.out.up hb)
    replace HVR := Lib.hid (HVR.out.up hb)
    replace HVE := Lib.hid (HVE.out.up hb)
    replace HVC := Lib.hid (HVC.out.up hb)
    replace HVT := Lib.hid (HVT.out.up hb)
    replace HK := Lib.hid (HK.out.on hb)
    replace HB := Lib.hid (HB.out.trans (hb.mono HB.out.size))
    have hX0 : BK (w10.alloc (.cells #[.int .i64 uT.kind, .bool uT.is, .string uT.text, .slice AT nT cT, .slice BT mT dT] 25)) (w10.heap.size) 25 #[.int .i64 uT.kind, .bool uT.is, .string uT.text, .slice AT nT cT, .slice BT mT dT] := BK.new w10 _ _
    replace HK := Lib.hid (Blks.cons hX0 HK.out)
    clear hb hX0
    generalize (w10.alloc (.cells #[.int .i64 uT.kind, .bool uT.is, .string uT.text, .slice AT nT cT, .slice BT mT dT] 25)) = w11 at *
    generalize w10.heap.size = gT at *
    have hg := Blks.hd (Blks.tl HK.out)
    have y0 := hg.c 0 rfl
    have y1 := hg.c 1 rfl
    have y2 := hg.c 2 rfl
    have y3 := hg.c 3 rfl
    have y4 := hg.c 4 rfl
    clear hg
    go_wp2_with fail
    clear y0 y1 y2 y3 y4
    refine (HN.out w11 HM.out).mono ?_
    rintro e w12 ⟨rfl, hb⟩
    replace Ht := Lib.hid (Ht.out.up hb)
    replace HM := Lib.hid (HM.out.on hb)
    replace HQ := Lib.hid (Nat.le_trans HQ.out hb.size)
    replace HVI := Lib.hid (HVI.out.up hb)
    replace HVR := Lib.hid (HVR.out.up hb)
    replace HVE := Lib.hid (HVE.out.up hb)
    replace HVC := Lib.hid (HVC.out.up hb)
    replace HVT := Lib.hid (HVT.out.up hb)
    replace HK := Lib.hid (HK.out.on hb)
    replace HB := Lib.hid (HB.out.trans (hb.mono HB.out.size))
    clear hb
    go_wp2_with fail
    have hcs : (q = false ∧ nz = false) ∨ (q = false ∧ nz = true ∧ b2 = false) ∨ (q = false ∧ nz = true ∧ b2 = true ∧ nw = false) ∨ (q = false ∧ nz = true ∧ b2 = true ∧ nw = true) ∨ (q = true ∧ b2 = false) ∨ (q = true ∧ b2 = true ∧ nw = false) ∨ (q = true ∧ b2 = true ∧ nw = true) := by
      clear hb2 hb3
      cases q <;> cases nz <;> cases b2 <;> cases nw <;> simp
    rcases hcs with ⟨rfl, rfl⟩ | ⟨rfl, rfl, rfl⟩ | ⟨rfl, rfl, rfl, rfl⟩ | ⟨rfl, rfl, rfl, rfl⟩ | ⟨rfl, rfl⟩ | ⟨rfl, rfl, rfl⟩ | ⟨rfl, rfl, rfl⟩
    all_goals (
      have hb : Below w12.heap.size w12 w12.drew := (Below.refl _ _).drew
      refine start_ (n := 26) (S := Blks [⟨gT, 25, #[.int .i64 uT.kind, .bool uT.is, .string uT.text, .slice AT nT cT, .slice BT mT dT]⟩, ⟨gC, 25, #[.int .i64 uC.kind, .bool uC.is, .string uC.text, .slice AC nC cC, .slice BC mC dC]⟩, ⟨gI, 25, #[.int .i64 uI.kind, .bool uI.is, .string uI.text, .slice AI nI cI, .slice BI mI dI]⟩]) (ds := []) #[false, false, false, false, false, false, false, false, false, false, false, false, false, false, false, false, false, false, false, false, false, false, false, false, false, false] (by kernel_rfl) rfl rfl (Blks.on (Blks.cons (Blks.hd HK.out) (Blks.cons (Blks.hd (Blks.tl HK.out)) (Blks.one (Blks.hd (Blks.tl (Blks.tl (Blks.tl (Blks.tl HK.out)))))))) hb) (fun hHeld => ?_)
      replace Ht := Lib.hid (Ht.out.up hb)
      replace HM := Lib.hid (HM.out.on hb)
      replace HQ := Lib.hid (Nat.le_trans HQ.out hb.size)
      replace HVI := Lib.hid (HVI.out.up hb)
      replace HVR := Lib.hid (HVR.out.up hb)
      replace HVE := Lib.hid (HVE.out.up hb)
      replace HVC := Lib.hid (HVC.out.up hb)
      replace HVT := Lib.hid (HVT.out.up hb)
      replace HK := Lib.hid (HK.out.on hb)
      replace HB := Lib.hid (HB.out.trans (hb.mono HB.out.size))
      clear hb
      generalize w12.drew = w13 at *
      refine take_ (i := 0) (N := some 61) (v := ?_) (a' := ?_) #[true, false, false, false, false, false, false, false, false, false, false, false, false, false, false, false, false, false, false, false, false, false, false, false, false, false] rfl rfl (by kernel_rfl) (fun _ _ _ h => h) (Or.inl ⟨by rfl, ?_⟩) hHeld ?_ ?_
      rotate_left
      · intro w' hh; have hg := Blks.hd (Blks.tl (Blks.tl hh)); have t0 := hg.c 0 rfl; have t1 := hg.c 1 rfl; have t2 := hg.c 2 rfl; have t3 := hg.c 3 rfl; have t4 := hg.c 4 rfl; clear hh hg; go_simp; with_reducible rfl
      rotate_left
      · simp only [Act.put, List.setIfInBounds_toArray, List.set_cons_zero, List.set_cons_succ, i64_w, i32_w]; rfl
      refine pure_ (i := 1) (N := some 62) (v := ?_) (a' := ?_) #[true, true, false, false, false, false, false, false, false, false, false, false, false, false, false, false, false, false, false, false, false, false, false, false, false, false] rfl rfl (by kernel_rfl) (fun _ _ _ h => h) (Or.inl ⟨by rfl, ?_⟩) ?_ ?_
      rotate_left
      · intro w'; go_simp; with_reducible rfl
      rotate_left
      · simp only [Act.put, List.setIfInBounds_toArray, List.set_cons_zero, List.set_cons_succ, i64_w, i32_w]; rfl
      refine pure_ (i := 2) (N := some 63) (v := ?_) (a' := ?_) #[true, true, true, false, false, false, false, false, false, false, false, false, false, false, false, false, false, false, false, false, false, false, false, false, false, false] rfl rfl (by kernel_rfl) (fun _ _ _ h => h) (Or.inl ⟨by rfl, ?_⟩) ?_ ?_
      rotate_left
      · intro w'; go_simp; with_reducible rfl
      rotate_left
      · simp only [Act.put, List.setIfInBounds_toArray, List.set_cons_zero, List.set_cons_succ, i64_w, i32_w]; rfl
      refine take_ (i := 3) (N := some 64) (v := ?_) (a' := ?_) #[true, true, true, true, false, false, false, false, false, false, false, false, false, false, false, false, false, false, false, false, false, false, false, false, false, false] rfl rfl (by kernel_rfl) (fun _ _ _ h => h) (Or.inl ⟨by rfl, ?_⟩) hHeld ?_ ?_
      rotate_left
      · intro w' hh; have hg := Blks.hd hh; have t2 := hg.c 2 rfl; clear hh hg; go_simp; with_reducible rfl
      rotate_left
      · simp only [Act.put, List.setIfInBounds_toArray, List.set_cons_zero, List.set_cons_succ, i64_w, i32_w]; rfl
      refine take_ (i := 5) (N := some 66) (v := ?_) (a' := ?_) #[true, true, true, true, false, true, false, false, false, false, false, false, false, false, false, false, false, false, false, false, false, false, false, false, false, false] rfl rfl (by kernel_rfl) (fun _ _ _ h => h) (Or.inl ⟨by rfl, ?_⟩) hHeld ?_ ?_
      rotate_left
      · intro w' hh; have hg := Blks.hd (Blks.tl (Blks.tl hh)); have t0 := hg.c 0 rfl; have t1 := hg.c 1 rfl; have t2 := hg.c 2 rfl; have t3 := hg.c 3 rfl; have t4 := hg.c 4 rfl; clear hh hg; go_simp; with_reducible rfl
      rotate_left
      · simp only [Act.put, List.setIfInBounds_toArray, List.set_cons_zero, List.set_cons_succ, i64_w, i32_w]; rfl
      refine one_ (i := 4) (N := some 65) #[true, true, true, true, true, true, false, false, false, false, false, false, false, false, false, false, false, false, false, false, false, false, false, false, false, false] rfl rfl (by kernel_rfl) (by decide) (fun K hK => ?_)
      refine goes_ Tryz.func37 (by kernel_rfl) rfl #[.agg #[.int .i64 uI.kind, .bool uI.is, .string uI.text, .slice AI nI cI, .slice BI mI dI], .int .i64 nv, .string uT.text] (by rfl) rfl rfl (by (try simp only [List.map_toArray, List.map_cons, List.map_nil]); first | done | rfl) ?_
      refine (HF.out w13 _ _ HVI.out.1).mono ?_
      rintro e w14 ⟨v', rfl, hm, hb⟩
      refine ⟨_, rfl, ?_⟩
      refine hK.out _ _ (hHeld.on hb) (fun hHeld' => ?_)
      clear hK K hHeld
      have hHeld := hHeld'
      clear hHeld'
      obtain ⟨ix0, ix1, ix2, ix3, ix4, px0, px1, px2, px3, px4, rx0, rx1, rx2, rx3, rx4, he, h1, h2, h3⟩ := hm
      dsimp only at he h1 h2 h3
      subst he
      obtain ⟨kxi, bxi, xxi, Axi, nxi, cxi, Bxi, mxi, dxi, rfl, rfl, rfl, rfl, rfl⟩ := VAL.shape5 h1.1
      obtain ⟨kxp, bxp, xxp, Axp, nxp, cxp, Bxp, mxp, dxp, rfl, rfl, rfl, rfl, rfl⟩ := VAL.shape5 h2.1
      obtain ⟨kxr, bxr, xxr, Axr, nxr, cxr, Bxr, mxr, dxr, rfl, rfl, rfl, rfl, rfl⟩ := VAL.shape5 h3.1
      have HVix := Lib.hid (h1.le HQ.out)
      have HVpx := Lib.hid (h2.le HQ.out)
      have HVrx := Lib.hid (h3.le HQ.out)
      clear h1 h2 h3
      replace Ht := Lib.hid (Ht.out.up hb)
      replace HM := Lib.hid (HM.out.on hb)
      replace HQ := Lib.hid (Nat.le_trans HQ.out hb.size)
      replace HVI := Lib.hid (HVI.out.up hb)
      replace HVR := Lib.hid (HVR.out.up hb)
      replace HVE := Lib.hid (HVE.out.up hb)
      replace HVC := Lib.hid (HVC.out.up hb)
      replace HVT := Lib.hid (HVT.out.up hb)
      replace HK := Lib.hid (HK.out.on hb)
      replace HB := Lib.hid (HB.out.trans (hb.mono HB.out.size))
      clear hb
      refine norm_ (a' := ?_) ?_ ?_
      rotate_left
      · show Act.put _ (some 65) _ = _; simp only [Act.put, List.setIfInBounds_toArray, List.set_cons_zero, List.set_cons_succ, i64_w, i32_w]; rfl
      refine one_ (i := 6) (N := some 67) #[true, true, true, true, true, true, true, false, false, false, false, false, false, false, false, false, false, false, false, false, false, false, false, false, false, false] rfl rfl (by kernel_rfl) (by decide) (fun K hK => ?_)
      refine goes_ Tryz.func102 (by kernel_rfl) rfl #[.agg #[.int .i64 uI.kind, .bool uI.is, .string uI.text, .slice AI nI cI, .slice BI mI dI]] (by rfl) rfl rfl (by (try simp only [List.map_toArray, List.map_cons, List.map_nil]); first | done | rfl) ?_
      refine (HT.out w14 _ _ HVI.out.1 HM.out).mono ?_
      rintro e w15 ⟨rfl, hb⟩
      refine ⟨_, rfl, ?_⟩
      refine hK.out _ _ (hHeld.on hb) (fun hHeld' => ?_)
      clear hK K hHeld
      have hHeld := hHeld'
      clear hHeld'
      replace Ht := Lib.hid (Ht.out.up hb)
      replace HM := Lib.hid (HM.out.on hb)
      replace HQ := Lib.hid (Nat.le_trans HQ.out hb.size)
      replace HVI := Lib.hid (HVI.out.up hb)
      replace HVR := Lib.hid (HVR.out.up hb)
      replace HVE := Lib.hid (HVE.out.up hb)
      replace HVC := Lib.hid (HVC.out.up hb)
      replace HVT := Lib.hid (HVT.out.up hb)
      replace HVix := Lib.hid (HVix.out.up hb)
      replace HVpx := Lib.hid (HVpx.out.up hb)
      replace HVrx := Lib.hid (HVrx.out.up hb)
      replace HK := Lib.hid (HK.out.on hb)
      replace HB := Lib.hid (HB.out.trans (hb.mono HB.out.size))
      clear hb
      refine norm_ (a' := ?_) ?_ ?_
      rotate_left
      · show Act.put _ (some 67) _ = _; simp only [Act.put, List.setIfInBounds_toArray, List.set_cons_zero, List.set_cons_succ, i64_w, i32_w]; rfl
      refine pure_ (i := 7) (N := some 68) (v := ?_) (a' := ?_) #[true, true, true, true, true, true, true, true, false, false, false, false, false, false, false, false, false, false, false, false, false, false, false, false, false, false] rfl rfl (by kernel_rfl) (fun _ _ _ h => h) (Or.inl ⟨by rfl, ?_⟩) ?_ ?_
      rotate_left
      · intro w'; go_simp; with_reducible rfl
      rotate_left
      · simp only [Act.put, List.setIfInBounds_toArray, List.set_cons_zero, List.set_cons_succ, i64_w, i32_w]; rfl
      first
      | (refine pure_ (i := 8) (N := some 69) (v := undef) #[true, true, true, true, true, true, true, true, true, false, false, false, false, false, false, false, false, false, false, false, false, false, false, false, false, false] rfl rfl (by kernel_rfl) (fun _ _ _ h => h) (Or.inr ⟨by rfl, rfl⟩) (by simp only [Act.put, List.setIfInBounds_toArray, List.set_cons_zero, List.set_cons_succ, i64_w, i32_w]; rfl) ?_)
      | (refine take_ (i := 8) (N := some 69) (v := ?_) (a' := ?_) #[true, true, true, true, true, true, true, true, true, false, false, false, false, false, false, false, false, false, false, false, false, false, false, false, false, false] rfl rfl (by kernel_rfl) (fun _ _ _ h => h) (Or.inl ⟨by rfl, ?_⟩) hHeld ?_ ?_
         rotate_left
         · intro w' hh; have hg := Blks.hd (Blks.tl (Blks.tl hh)); have t0 := hg.c 0 rfl; have t1 := hg.c 1 rfl; have t2 := hg.c 2 rfl; have t3 := hg.c 3 rfl; have t4 := hg.c 4 rfl; clear hh hg; go_simp; with_reducible rfl
         rotate_left
         · simp only [Act.put, List.setIfInBounds_toArray, List.set_cons_zero, List.set_cons_succ, i64_w, i32_w]; rfl)
      first
      | (refine pure_ (i := 9) (N := some 70) (v := undef) #[true, true, true, true, true, true, true, true, true, true, false, false, false, false, false, false, false, false, false, false, false, false, false, false, false, false] rfl rfl (by kernel_rfl) (fun _ _ _ h => h) (Or.inr ⟨by rfl, rfl⟩) (by simp only [Act.put, List.setIfInBounds_toArray, List.set_cons_zero, List.set_cons_succ, i64_w, i32_w]; rfl) ?_
         obtain ⟨w16, hw⟩ : ∃ x, x = w15 := ⟨_, rfl⟩
         subst hw)
      | (refine one_ (i := 9) (N := some 70) #[true, true, true, true, true, true, true, true, true, true, false, false, false, false, false, false, false, false, false, false, false, false, false, false, false, false] rfl rfl (by kernel_rfl) (by decide) (fun K hK => ?_)
         refine goes_ Tryz.func150 (by kernel_rfl) rfl #[.agg #[.int .i64 uI.kind, .bool uI.is, .string uI.text, .slice AI nI cI, .slice BI mI dI]] (by rfl) rfl rfl (by (try simp only [List.map_toArray, List.map_cons, List.map_nil]); first | done | rfl) ?_
         refine (HZ.out w15 _ _ HVI.out.1).mono ?_
         rintro e w16 ⟨rfl, hb⟩
         refine ⟨_, rfl, ?_⟩
         refine hK.out _ _ (hHeld.on hb) (fun hHeld' => ?_)
         clear hK K hHeld
         have hHeld := hHeld'
         clear hHeld'
         replace Ht := Lib.hid (Ht.out.up hb)
         replace HM := Lib.hid (HM.out.on hb)
         replace HQ := Lib.hid (Nat.le_trans HQ.out hb.size)
         replace HVI := Lib.hid (HVI.out.up hb)
         replace HVR := Lib.hid (HVR.out.up hb)
         replace HVE := Lib.hid (HVE.out.up hb)
         replace HVC := Lib.hid (HVC.out.up hb)
         replace HVT := Lib.hid (HVT.out.up hb)
         replace HVix := Lib.hid (HVix.out.up hb)
         replace HVpx := Lib.hid (HVpx.out.up hb)
         replace HVrx := Lib.hid (HVrx.out.up hb)
         replace HK := Lib.hid (HK.out.on hb)
         replace HB := Lib.hid (HB.out.trans (hb.mono HB.out.size))
         clear hb
         refine norm_ (a' := ?_) ?_ ?_
         rotate_left
         · show Act.put _ (some 70) _ = _; simp only [Act.put, List.setIfInBounds_toArray, List.set_cons_zero, List.set_cons_succ, i64_w, i32_w]; rfl)
      refine pure_ (i := 10) (N := some 71) (v := ?_) (a' := ?_) #[true, true, true, true, true, true, true, true, true, true, true, false, false, false, false, false, false, false, false, false, false, false, false, false, false, false] rfl rfl (by kernel_rfl) (fun _ _ _ h => h) (Or.inl ⟨by rfl, ?_⟩) ?_ ?_
      rotate_left
      · intro w'; go_simp; with_reducible rfl
      rotate_left
      · simp only [Act.put, List.setIfInBounds_toArray, List.set_cons_zero, List.set_cons_succ, i64_w, i32_w]; rfl
      refine pure_ (i := 11) (N := some 72) (v := ?_) (a' := ?_) #[true, true, true, true, true, true, true, true, true, true, true, true, false, false, false, false, false, false, false, false, false, false, false, false, false, false] rfl rfl (by kernel_rfl) (fun _ _ _ h => h) (Or.inl ⟨by rfl, ?_⟩) ?_ ?_
      rotate_left
      · intro w'; go_simp; with_reducible rfl
      rotate_left
      · simp only [Act.put, List.setIfInBounds_toArray, List.set_cons_zero, List.set_cons_succ, i64_w, i32_w]; rfl
      first
      | (refine pure_ (i := 12) (N := some 73) (v := undef) #[true, true, true, true, true, true, true, true, true, true, true, true, true, false, false, false, false, false, false, false, false, false, false, false, false, false] rfl rfl (by kernel_rfl) (fun _ _ _ h => h) (Or.inr ⟨by rfl, rfl⟩) (by simp only [Act.put, List.setIfInBounds_toArray, List.set_cons_zero, List.set_cons_succ, i64_w, i32_w]; rfl) ?_)
      | (refine pure_ (i := 12) (N := some 73) (v := ?_) (a' := ?_) #[true, true, true, true, true, true, true, true, true, true, true, true, true, false, false, false, false, false, false, false, false, false, false, false, false, false] rfl rfl (by kernel_rfl) (fun _ _ _ h => h) (Or.inl ⟨by rfl, ?_⟩) ?_ ?_
         rotate_left
         · intro w'; go_simp; with_reducible rfl
         rotate_left
         · simp only [Act.put, List.setIfInBounds_toArray, List.set_cons_zero, List.set_cons_succ, i64_w, i32_w]; rfl)
      first
      | (refine pure_ (i := 13) (N := some 74) (v := undef) #[true, true, true, true, true, true, true, true, true, true, true, true, true, true, false, false, false, false, false, false, false, false, false, false, false, false] rfl rfl (by kernel_rfl) (fun _ _ _ h => h) (Or.inr ⟨by rfl, rfl⟩) (by simp only [Act.put, List.setIfInBounds_toArray, List.set_cons_zero, List.set_cons_succ, i64_w, i32_w]; rfl) ?_)
      | (refine take_ (i := 13) (N := some 74) (v := ?_) (a' := ?_) #[true, true, true, true, true, true, true, true, true, true, true, true, true, true, false, false, false, false, false, false, false, false, false, false, false, false] rfl rfl (by kernel_rfl) (fun _ _ _ h => h) (Or.inl ⟨by rfl, ?_⟩) hHeld ?_ ?_
         rotate_left
         · intro w' hh; have hg := Blks.hd (Blks.tl hh); have t0 := hg.c 0 rfl; clear hh hg; go_simp; with_reducible rfl
         rotate_left
         · simp only [Act.put, List.setIfInBounds_toArray, List.set_cons_zero, List.set_cons_succ, i64_w, i32_w]; rfl)
      first
      | (refine pure_ (i := 14) (N := some 75) (v := undef) #[true, true, true, true, true, true, true, true, true, true, true, true, true, true, true, false, false, false, false, false, false, false, false, false, false, false] rfl rfl (by kernel_rfl) (fun _ _ _ h => h) (Or.inr ⟨by rfl, rfl⟩) (by simp only [Act.put, List.setIfInBounds_toArray, List.set_cons_zero, List.set_cons_succ, i64_w, i32_w]; rfl) ?_)
      | (refine pure_ (i := 14) (N := some 75) (v := ?_) (a' := ?_) #[true, true, true, true, true, true, true, true, true, true, true, true, true, true, true, false, false, false, false, false, false, false, false, false, false, false] rfl rfl (by kernel_rfl) (fun _ _ _ h => h) (Or.inl ⟨by rfl, ?_⟩) ?_ ?_
         rotate_left
         · intro w'; go_simp; with_reducible rfl
         rotate_left
         · simp only [Act.put, List.setIfInBounds_toArray, List.set_cons_zero, List.set_cons_succ, i64_w, i32_w]; rfl)
      refine pure_ (i := 15) (N := some 76) (v := ?_) (a' := ?_) #[true, true, true, true, true, true, true, true, true, true, true, true, true, true, true, true, false, false, false, false, false, false, false, false, false, false] rfl rfl (by kernel_rfl) (fun _ _ _ h => h) (Or.inl ⟨by rfl, ?_⟩) ?_ ?_
      rotate_left
      · intro w'; go_simp; with_reducible rfl
      rotate_left
      · simp only [Act.put, List.setIfInBounds_toArray, List.set_cons_zero, List.set_cons_succ, i64_w, i32_w]; rfl
      refine pure_ (i := 16) (N := some 77) (v := ?_) (a' := ?_) #[true, true, true, true, true, true, true, true, true, true, true, true, true, true, true, true, true, false, false, false, false, false, false, false, false, false] rfl rfl (by kernel_rfl) (fun _ _ _ h => h) (Or.inl ⟨by rfl, ?_⟩) ?_ ?_
      rotate_left
      · intro w'; go_simp; with_reducible rfl
      rotate_left
      · simp only [Act.put, List.setIfInBounds_toArray, List.set_cons_zero, List.set_cons_succ, i64_w, i32_w]; rfl
      first
      | (refine pure_ (i := 17) (N := some 78) (v := undef) #[true, true, true, true, true, true, true, true, true, true, true, true, true, true, true, true, true, true, false, false, false, false, false, false, false, false] rfl rfl (by kernel_rfl) (fun _ _ _ h => h) (Or.inr ⟨by rfl, rfl⟩) (by simp only [Act.put, List.setIfInBounds_toArray, List.set_cons_zero, List.set_cons_succ, i64_w, i32_w]; rfl) ?_)
      | (refine pure_ (i := 17) (N := some 78) (v := ?_) (a' := ?_) #[true, true, true, true, true, true, true, true, true, true, true, true, true, true, true, true, true, true, false, false, false, false, false, false, false, false] rfl rfl (by kernel_rfl) (fun _ _ _ h => h) (Or.inl ⟨by rfl, ?_⟩) ?_ ?_
         rotate_left
         · intro w'; go_simp; with_reducible rfl
         rotate_left
         · simp only [Act.put, List.setIfInBounds_toArray, List.set_cons_zero, List.set_cons_succ, i64_w, i32_w]; rfl)
      refine pure_ (i := 18) (N := some 79) (v := ?_) (a' := ?_) #[true, true, true, true, true, true, true, true, true, true, true, true, true, true, true, true, true, true, true, false, false, false, false, false, false, false] rfl rfl (by kernel_rfl) (fun _ _ _ h => h) (Or.inl ⟨by rfl, ?_⟩) ?_ ?_
      rotate_left
      · intro w'; go_simp; with_reducible rfl
      rotate_left
      · simp only [Act.put, List.setIfInBounds_toArray, List.set_cons_zero, List.set_cons_succ, i64_w, i32_w]; rfl
      refine pure_ (i := 19) (N := some 80) (v := ?_) (a' := ?_) #[true, true, true, true, true, true, true, true, true, true, true, true, true, true, true, true, true, true, true, true, false, false, false, false, false, false] rfl rfl (by kernel_rfl) (fun _ _ _ h => h) (Or.inl ⟨by rfl, ?_⟩) ?_ ?_
      rotate_left
      · intro w'; go_simp; with_reducible rfl
      rotate_left
      · simp only [Act.put, List.setIfInBounds_toArray, List.set_cons_zero, List.set_cons_succ, i64_w, i32_w]; rfl
      first
      | (refine pure_ (i := 20) (N := some 81) (v := undef) #[true, true, true, true, true, true, true, true, true, true, true, true, true, true, true, true, true, true, true, true, true, false, false, false, false, false] rfl rfl (by kernel_rfl) (fun _ _ _ h => h) (Or.inr ⟨by rfl, rfl⟩) (by simp only [Act.put, List.setIfInBounds_toArray, List.set_cons_zero, List.set_cons_succ, i64_w, i32_w]; rfl) ?_)
      | (refine pure_ (i := 20) (N := some 81) (v := ?_) (a' := ?_) #[true, true, true, true, true, true, true, true, true, true, true, true, true, true, true, true, true, true, true, true, true, false, false, false, false, false] rfl rfl (by kernel_rfl) (fun _ _ _ h => h) (Or.inl ⟨by rfl, ?_⟩) ?_ ?_
         rotate_left
         · intro w'; go_simp; with_reducible rfl
         rotate_left
         · simp only [Act.put, List.setIfInBounds_toArray, List.set_cons_zero, List.set_cons_succ, i64_w, i32_w]; rfl)
      first
      | (refine pure_ (i := 21) (N := some 82) (v := undef) #[true, true, true, true, true, true, true, true, true, true, true, true, true, true, true, true, true, true, true, true, true, true, false, false, false, false] rfl rfl (by kernel_rfl) (fun _ _ _ h => h) (Or.inr ⟨by rfl, rfl⟩) (by simp only [Act.put, List.setIfInBounds_toArray, List.set_cons_zero, List.set_cons_succ, i64_w, i32_w]; rfl) ?_)
      | (refine take_ (i := 21) (N := some 82) (v := ?_) (a' := ?_) #[true, true, true, true, true, true, true, true, true, true, true, true, true, true, true, true, true, true, true, true, true, true, false, false, false, false] rfl rfl (by kernel_rfl) (fun _ _ _ h => h) (Or.inl ⟨by rfl, ?_⟩) hHeld ?_ ?_
         rotate_left
         · intro w' hh; have hg := Blks.hd hh; have t0 := hg.c 0 rfl; clear hh hg; go_simp; with_reducible rfl
         rotate_left
         · simp only [Act.put, List.setIfInBounds_toArray, List.set_cons_zero, List.set_cons_succ, i64_w, i32_w]; rfl)
      first
      | (refine pure_ (i := 22) (N := some 83) (v := undef) #[true, true, true, true, true, true, true, true, true, true, true, true, true, true, true, true, true, true, true, true, true, true, true, false, false, false] rfl rfl (by kernel_rfl) (fun _ _ _ h => h) (Or.inr ⟨by rfl, rfl⟩) (by simp only [Act.put, List.setIfInBounds_toArray, List.set_cons_zero, List.set_cons_succ, i64_w, i32_w]; rfl) ?_)
      | (refine pure_ (i := 22) (N := some 83) (v := ?_) (a' := ?_) #[true, true, true, true, true, true, true, true, true, true, true, true, true, true, true, true, true, true, true, true, true, true, true, false, false, false] rfl rfl (by kernel_rfl) (fun _ _ _ h => h) (Or.inl ⟨by rfl, ?_⟩) ?_ ?_
         rotate_left
         · intro w'; go_simp; with_reducible rfl
         rotate_left
         · simp only [Act.put, List.setIfInBounds_toArray, List.set_cons_zero, List.set_cons_succ, i64_w, i32_w]; rfl)
      refine pure_ (i := 23) (N := some 84) (v := ?_) (a' := ?_) #[true, true, true, true, true, true, true, true, true, true, true, true, true, true, true, true, true, true, true, true, true, true, true, true, false, false] rfl rfl (by kernel_rfl) (fun _ _ _ h => h) (Or.inl ⟨by rfl, ?_⟩) ?_ ?_
      rotate_left
      · intro w'; go_simp; with_reducible rfl
      rotate_left
      · simp only [Act.put, List.setIfInBounds_toArray, List.set_cons_zero, List.set_cons_succ, i64_w, i32_w]; rfl
      refine one_ (i := 24) (N := none) #[true, true, true, true, true, true, true, true, true, true, true, true, true, true, true, true, true, true, true, true, true, true, true, true, true, false] rfl rfl (by kernel_rfl) (by decide) (fun K hK => ?_)
      refine store_fldK (by rfl) rfl 46 (.tmp 2) (.tmp 65) rfl (w.heap.size + 1) 0 (.agg #[.int .i64 4, .int .i64 kxi, .bool bxi, .string xxi, .slice Axi nxi cxi, .slice Bxi mxi dxi, .string .empty, .bool false, .int .i64 kxp, .bool bxp, .string xxp, .slice Axp nxp cxp, .slice Bxp mxp dxp, .int .i64 kxr, .bool bxr, .string xxr, .slice Axr nxr cxr, .slice Bxr mxr dxr, .int .i64 nv, .string uT.text]) [.int .i64 4, .int .i64 kxi, .bool bxi, .string xxi, .slice Axi nxi cxi, .slice Bxi mxi dxi, .string .empty, .bool false, .int .i64 kxp, .bool bxp, .string xxp, .slice Axp nxp cxp, .slice Bxp mxp dxp, .int .i64 kxr, .bool bxr, .string xxr, .slice Axr nxr cxr, .slice Bxr mxr dxr, .int .i64 nv, .string uT.text] (by rfl) (by rfl) rfl #[.int .i64 4, .int .i64 kxi, .bool bxi, .string xxi, .slice Axi nxi cxi, .slice Bxi mxi dxi, .string .empty, .bool false, .int .i64 kxp, .bool bxp, .string xxp, .slice Axp nxp cxp, .slice Bxp mxp dxp, .int .i64 kxr, .bool bxr, .string xxr, .slice Axr nxr cxr, .slice Bxr mxr dxr, .int .i64 nv, .string uT.text] (Blks.hd (Blks.tl (Blks.tl (Blks.tl (Blks.tl (Blks.tl HK.out)))))) (by kernel_rfl) (Nat.le_of_ble_eq_true rfl) (by simp [Value.oneCell']) rfl (fun w17 hS hbt hsz => hK.out _ _ (Blks.cons (BK.but (Blks.hd hHeld) hbt (by have := HGgI.out; have := HGgR.out; have := HGgE.out; have := HGgC.out; have := HGgT.out; omega)) (Blks.cons (BK.but (Blks.hd (Blks.tl hHeld)) hbt (by have := HGgI.out; have := HGgR.out; have := HGgE.out; have := HGgC.out; have := HGgT.out; omega)) (Blks.one (BK.but (Blks.hd (Blks.tl (Blks.tl hHeld))) hbt (by have := HGgI.out; have := HGgR.out; have := HGgE.out; have := HGgC.out; have := HGgT.out; omega))))) (fun hHeld' => ?_))
      clear hK K
      clear hHeld
      have hHeld := hHeld'
      clear hHeld'
      replace Ht := Lib.hid (Ht.out.butL hbt (by have := HGgI.out; have := HGgR.out; have := HGgE.out; have := HGgC.out; have := HGgT.out; omega))
      replace HM := Lib.hid (ML.but2 HM0.out HM.out hbt (by have := HGgI.out; have := HGgR.out; have := HGgE.out; have := HGgC.out; have := HGgT.out; omega))
      replace HQ := Lib.hid (Nat.le_trans HQ.out hbt.size)
      replace HVI := Lib.hid (HVI.out.but hbt (by have := HGgI.out; have := HGgR.out; have := HGgE.out; have := HGgC.out; have := HGgT.out; omega))
      replace HVR := Lib.hid (HVR.out.but hbt (by have := HGgI.out; have := HGgR.out; have := HGgE.out; have := HGgC.out; have := HGgT.out; omega))
      replace HVE := Lib.hid (HVE.out.but hbt (by have := HGgI.out; have := HGgR.out; have := HGgE.out; have := HGgC.out; have := HGgT.out; omega))
      replace HVC := Lib.hid (HVC.out.but hbt (by have := HGgI.out; have := HGgR.out; have := HGgE.out; have := HGgC.out; have := HGgT.out; omega))
      replace HVT := Lib.hid (HVT.out.but hbt (by have := HGgI.out; have := HGgR.out; have := HGgE.out; have := HGgC.out; have := HGgT.out; omega))
      replace HVix := Lib.hid (HVix.out.but hbt (by have := HGgI.out; have := HGgR.out; have := HGgE.out; have := HGgC.out; have := HGgT.out; omega))
      replace HVpx := Lib.hid (HVpx.out.but hbt (by have := HGgI.out; have := HGgR.out; have := HGgE.out; have := HGgC.out; have := HGgT.out; omega))
      replace HVrx := Lib.hid (HVrx.out.but hbt (by have := HGgI.out; have := HGgR.out; have := HGgE.out; have := HGgC.out; have := HGgT.out; omega))
      replace HK := Lib.hid (Blks.cons (BK.but (Blks.hd HK.out) hbt (by have := HGgI.out; have := HGgR.out; have := HGgE.out; have := HGgC.out; have := HGgT.out; omega)) (Blks.cons (BK.but (Blks.hd (Blks.tl HK.out)) hbt (by have := HGgI.out; have := HGgR.out; have := HGgE.out; have := HGgC.out; have := HGgT.out; omega)) (Blks.cons (BK.but (Blks.hd (Blks.tl (Blks.tl HK.out))) hbt (by have := HGgI.out; have := HGgR.out; have := HGgE.out; have := HGgC.out; have := HGgT.out; omega)) (Blks.cons (BK.but (Blks.hd (Blks.tl (Blks.tl (Blks.tl HK.out)))) hbt (by have := HGgI.out; have := HGgR.out; have := HGgE.out; have := HGgC.out; have := HGgT.out; omega)) (Blks.cons (BK.but (Blks.hd (Blks.tl (Blks.tl (Blks.tl (Blks.tl HK.out))))) hbt (by have := HGgI.out; have := HGgR.out; have := HGgE.out; have := HGgC.out; have := HGgT.out; omega)) (Blks.cons hS (Blks.one (BK.but (Blks.hd (Blks.tl (Blks.tl (Blks.tl (Blks.tl (Blks.tl (Blks.tl HK.out))))))) hbt (by have := HGgI.out; have := HGgR.out; have := HGgE.out; have := HGgC.out; have := HGgT.out; omega)))))))))
      replace HB := Lib.hid (hbt.below HB.out (by have := HGgI.out; have := HGgR.out; have := HGgE.out; have := HGgC.out; have := HGgT.out; omega) HB.out.size)
      clear hbt hS hsz
      refine pure_ (i := 25) (N := some 3) (v := ?_) (a' := ?_) #[true, true, true, true, true, true, true, true, true, true, true, true, true, true, true, true, true, true, true, true, true, true, true, true, true, true] rfl rfl (by kernel_rfl) (fun _ _ _ h => h) (Or.inl ⟨by rfl, ?_⟩) ?_ ?_
      rotate_left
      · intro w'; go_simp; with_reducible rfl
      rotate_left
      · simp only [Act.put, List.setIfInBounds_toArray, List.set_cons_zero, List.set_cons_succ, i64_w, i32_w]; rfl
      refine done_ (by kernel_rfl) ?_
      go_wp2
      have hmm := HMM.out
      subst hmm
      have hbb := HBB.out
      subst hbb
      exact bodyPost_ret (results_row2 rfl _ _ (w.heap.size + 1) _ #[.int .i64 4, .int .i64 kxi, .bool bxi, .string xxi, .slice Axi nxi cxi, .slice Bxi mxi dxi, .string .empty, .bool false, .int .i64 kxp, .bool bxp, .string xxp, .slice Axp nxp cxp, .slice Bxp mxp dxp, .int .i64 kxr, .bool bxr, .string xxr, .slice Axr nxr cxr, .slice Bxr mxr dxr, .int .i64 nv, .string uT.text] _ rfl _ rfl (Blks.hd (Blks.tl (Blks.tl (Blks.tl (Blks.tl (Blks.tl HK.out)))))) Tryz.underlying46 rfl (by kernel_rfl)) rfl ⟨_, rfl, ⟨_, _, _, _, _, _, _, _, _, _, _, _, _, _, _, rfl, (VLF.le (B' := w.heap.size) HVix.out (by have := HGgI.out; have := HGgR.out; have := HGgE.out; have := HGgC.out; have := HGgT.out; omega)), (VLF.le (B' := w.heap.size) HVpx.out (by have := HGgI.out; have := HGgR.out; have := HGgE.out; have := HGgC.out; have := HGgT.out; omega)), (VLF.le (B' := w.heap.size) HVrx.out (by have := HGgI.out; have := HGgR.out; have := HGgE.out; have := HGgC.out; have := HGgT.out; omega))⟩, HB.out⟩)
  · skip
    go_wp2_with fail
    have hb : Below w7.heap.size w7 w7.drew := (Below.refl _ _).drew
    refine start_ (n := 7) (S := Blks [⟨gR, 25, #[.int .i64 uR.kind, .bool uR.is, .string uR.text, .slice AR nR cR, .slice BR mR dR]⟩, ⟨gI, 25, #[.int .i64 uI.kind, .bool uI.is, .string uI.text, .slice AI nI cI, .slice BI mI dI]⟩]) (ds := []) #[false, false, false, false, false, false, false] (by kernel_rfl) rfl rfl (Blks.on (Blks.cons (Blks.hd (Blks.tl HK.out)) (Blks.one (Blks.hd (Blks.tl (Blks.tl HK.out))))) hb) (fun hHeld => ?_)
    replace Ht := Lib.hid (Ht.out.up hb)
    replace HM := Lib.hid (HM.out.on hb)
    replace HQ := Lib.hid (Nat.le_trans HQ.out hb.size)
    replace HVI := Lib.hid (HVI.out.up hb)
    replace HVR := Lib.hid (HVR.out.up hb)
    replace HVE := Lib.hid (HVE.out.up hb)
    replace HK := Lib.hid (HK.out.on hb)
    replace HB := Lib.hid (HB.out.trans (hb.mono HB.out.size))
    clear hb
    generalize w7.drew = w8 at *
    refine take_ (i := 0) (N := some 40) (v := ?_) (a' := ?_) #[true, false, false, false, false, false, false] rfl rfl (by kernel_rfl) (fun _ _ _ h => h) (Or.inl ⟨by rfl, ?_⟩) hHeld ?_ ?_
    rotate_left
    · intro w' hh; have hg := Blks.hd (Blks.tl hh); have t0 := hg.c 0 rfl; have t1 := hg.c 1 rfl; have t2 := hg.c 2 rfl; have t3 := hg.c 3 rfl; have t4 := hg.c 4 rfl; clear hh hg; go_simp; with_reducible rfl
    rotate_left
    · simp only [Act.put, List.setIfInBounds_toArray, List.set_cons_zero, List.set_cons_succ, i64_w, i32_w]; rfl
    refine take_ (i := 1) (N := some 41) (v := ?_) (a' := ?_) #[true, true, false, false, false, false, false] rfl rfl (by kernel_rfl) (fun _ _ _ h => h) (Or.inl ⟨by rfl, ?_⟩) hHeld ?_ ?_
    rotate_left
    · intro w' hh; have hg := Blks.hd hh; have t0 := hg.c 0 rfl; have t1 := hg.c 1 rfl; have t2 := hg.c 2 rfl; have t3 := hg.c 3 rfl; have t4 := hg.c 4 rfl; clear hh hg; go_simp; with_reducible rfl
    rotate_left
    · simp only [Act.put, List.setIfInBounds_toArray, List.set_cons_zero, List.set_cons_succ, i64_w, i32_w]; rfl
    refine take_ (i := 3) (N := some 43) (v := ?_) (a' := ?_) #[true, true, false, true, false, false, false] rfl rfl (by kernel_rfl) (fun _ _ _ h => h) (Or.inl ⟨by rfl, ?_⟩) hHeld ?_ ?_
    rotate_left
    · intro w' hh; have hg := Blks.hd (Blks.tl hh); have t0 := hg.c 0 rfl; have t1 := hg.c 1 rfl; have t2 := hg.c 2 rfl; have t3 := hg.c 3 rfl; have t4 := hg.c 4 rfl; clear hh hg; go_simp; with_reducible rfl
    rotate_left
    · simp only [Act.put, List.setIfInBounds_toArray, List.set_cons_zero, List.set_cons_succ, i64_w, i32_w]; rfl
    refine one_ (i := 2) (N := some 42) #[true, true, true, true, false, false, false] rfl rfl (by kernel_rfl) (by decide) (fun K hK => ?_)
    refine goes_ Tryz.func36 (by kernel_rfl) rfl #[.agg #[.int .i64 uI.kind, .bool uI.is, .string uI.text, .slice AI nI cI, .slice BI mI dI], .agg #[.int .i64 uR.kind, .bool uR.is, .string uR.text, .slice AR nR cR, .slice BR mR dR]] (by rfl) rfl rfl (by (try simp only [List.map_toArray, List.map_cons, List.map_nil]); first | done | rfl) ?_
    refine (HR.out w8 _ _ _ _ HVI.out.1 HVR.out.1).mono ?_
    rintro e w9 ⟨v', rfl, hm, hb⟩
    refine ⟨_, rfl, ?_⟩
    refine hK.out _ _ (hHeld.on hb) (fun hHeld' => ?_)
    clear hK K hHeld
    have hHeld := hHeld'
    clear hHeld'
    obtain ⟨ix0, ix1, ix2, ix3, ix4, px0, px1, px2, px3, px4, rx0, rx1, rx2, rx3, rx4, he, h1, h2, h3⟩ := hm
    dsimp only at he h1 h2 h3
    subst he
    obtain ⟨kxi, bxi, xxi, Axi, nxi, cxi, Bxi, mxi, dxi, rfl, rfl, rfl, rfl, rfl⟩ := VAL.shape5 h1.1
    obtain ⟨kxp, bxp, xxp, Axp, nxp, cxp, Bxp, mxp, dxp, rfl, rfl, rfl, rfl, rfl⟩ := VAL.shape5 h2.1
    obtain ⟨kxr, bxr, xxr, Axr, nxr, cxr, Bxr, mxr, dxr, rfl, rfl, rfl, rfl, rfl⟩ := VAL.shape5 h3.1
    have HVix := Lib.hid (h1.le HQ.out)
    have HVpx := Lib.hid (h2.le HQ.out)
    have HVrx := Lib.hid (h3.le HQ.out)
    clear h1 h2 h3
    replace Ht := Lib.hid (Ht.out.up hb)
    replace HM := Lib.hid (HM.out.on hb)
    replace HQ := Lib.hid (Nat.le_trans HQ.out hb.size)
    replace HVI := Lib.hid (HVI.out.up hb)
    replace HVR := Lib.hid (HVR.out.up hb)
    replace HVE := Lib.hid (HVE.out.up hb)
    replace HK := Lib.hid (HK.out.on hb)
    replace HB := Lib.hid (HB.out.trans (hb.mono HB.out.size))
    clear hb
    refine norm_ (a' := ?_) ?_ ?_
    rotate_left
    · show Act.put _ (some 42) _ = _; simp only [Act.put, List.setIfInBounds_toArray, List.set_cons_zero, List.set_cons_succ, i64_w, i32_w]; rfl
    refine one_ (i := 4) (N := some 44) #[true, true, true, true, true, false, false] rfl rfl (by kernel_rfl) (by decide) (fun K hK => ?_)
    refine goes_ Tryz.func102 (by kernel_rfl) rfl #[.agg #[.int .i64 uI.kind, .bool uI.is, .string uI.text, .slice AI nI cI, .slice BI mI dI]] (by rfl) rfl rfl (by (try simp only [List.map_toArray, List.map_cons, List.map_nil]); first | done | rfl) ?_
    refine (HT.out w9 _ _ HVI.out.1 HM.out).mono ?_
    rintro e w10 ⟨rfl, hb⟩
    refine ⟨_, rfl, ?_⟩
    refine hK.out _ _ (hHeld.on hb) (fun hHeld' => ?_)
    clear hK K hHeld
    have hHeld := hHeld'
    clear hHeld'
    replace Ht := Lib.hid (Ht.out.up hb)
    replace HM := Lib.hid (HM.out.on hb)
    replace HQ := Lib.hid (Nat.le_trans HQ.out hb.size)
    replace HVI := Lib.hid (HVI.out.up hb)
    replace HVR := Lib.hid (HVR.out.up hb)
    replace HVE := Lib.hid (HVE.out.up hb)
    replace HVix := Lib.hid (HVix.out.up hb)
    replace HVpx := Lib.hid (HVpx.out.up hb)
    replace HVrx := Lib.hid (HVrx.out.up hb)
    replace HK := Lib.hid (HK.out.on hb)
    replace HB := Lib.hid (HB.out.trans (hb.mono HB.out.size))
    clear hb
    refine norm_ (a' := ?_) ?_ ?_
    rotate_left
    · show Act.put _ (some 44) _ = _; simp only [Act.put, List.setIfInBounds_toArray, List.set_cons_zero, List.set_cons_succ, i64_w, i32_w]; rfl
    refine one_ (i := 5) (N := none) #[true, true, true, true, true, true, false] rfl rfl (by kernel_rfl) (by decide) (fun K hK => ?_)
    refine store_fldK (by rfl) rfl 46 (.tmp 2) (.tmp 42) rfl (w.heap.size + 1) 0 (.agg #[.int .i64 3, .int .i64 kxi, .bool bxi, .string xxi, .slice Axi nxi cxi, .slice Bxi mxi dxi, .string .empty, .bool false, .int .i64 kxp, .bool bxp, .string xxp, .slice Axp nxp cxp, .slice Bxp mxp dxp, .int .i64 kxr, .bool bxr, .string xxr, .slice Axr nxr cxr, .slice Bxr mxr dxr, .int .i64 0, .string .empty]) [.int .i64 3, .int .i64 kxi, .bool bxi, .string xxi, .slice Axi nxi cxi, .slice Bxi mxi dxi, .string .empty, .bool false, .int .i64 kxp, .bool bxp, .string xxp, .slice Axp nxp cxp, .slice Bxp mxp dxp, .int .i64 kxr, .bool bxr, .string xxr, .slice Axr nxr cxr, .slice Bxr mxr dxr, .int .i64 0, .string .empty] (by rfl) (by rfl) rfl #[.int .i64 3, .int .i64 kxi, .bool bxi, .string xxi, .slice Axi nxi cxi, .slice Bxi mxi dxi, .string .empty, .bool false, .int .i64 kxp, .bool bxp, .string xxp, .slice Axp nxp cxp, .slice Bxp mxp dxp, .int .i64 kxr, .bool bxr, .string xxr, .slice Axr nxr cxr, .slice Bxr mxr dxr, .int .i64 0, .string .empty] (Blks.hd (Blks.tl (Blks.tl (Blks.tl HK.out)))) (by kernel_rfl) (Nat.le_of_ble_eq_true rfl) (by simp [Value.oneCell']) rfl (fun w11 hS hbt hsz => hK.out _ _ (Blks.cons (BK.but (Blks.hd hHeld) hbt (by have := HGgI.out; have := HGgR.out; have := HGgE.out; omega)) (Blks.one (BK.but (Blks.hd (Blks.tl hHeld)) hbt (by have := HGgI.out; have := HGgR.out; have := HGgE.out; omega)))) (fun hHeld' => ?_))
    clear hK K
    clear hHeld
    have hHeld := hHeld'
    clear hHeld'
    replace Ht := Lib.hid (Ht.out.butL hbt (by have := HGgI.out; have := HGgR.out; have := HGgE.out; omega))
    replace HM := Lib.hid (ML.but2 HM0.out HM.out hbt (by have := HGgI.out; have := HGgR.out; have := HGgE.out; omega))
    replace HQ := Lib.hid (Nat.le_trans HQ.out hbt.size)
    replace HVI := Lib.hid (HVI.out.but hbt (by have := HGgI.out; have := HGgR.out; have := HGgE.out; omega))
    replace HVR := Lib.hid (HVR.out.but hbt (by have := HGgI.out; have := HGgR.out; have := HGgE.out; omega))
    replace HVE := Lib.hid (HVE.out.but hbt (by have := HGgI.out; have := HGgR.out; have := HGgE.out; omega))
    replace HVix := Lib.hid (HVix.out.but hbt (by have := HGgI.out; have := HGgR.out; have := HGgE.out; omega))
    replace HVpx := Lib.hid (HVpx.out.but hbt (by have := HGgI.out; have := HGgR.out; have := HGgE.out; omega))
    replace HVrx := Lib.hid (HVrx.out.but hbt (by have := HGgI.out; have := HGgR.out; have := HGgE.out; omega))
    replace HK := Lib.hid (Blks.cons (BK.but (Blks.hd HK.out) hbt (by have := HGgI.out; have := HGgR.out; have := HGgE.out; omega)) (Blks.cons (BK.but (Blks.hd (Blks.tl HK.out)) hbt (by have := HGgI.out; have := HGgR.out; have := HGgE.out; omega)) (Blks.cons (BK.but (Blks.hd (Blks.tl (Blks.tl HK.out))) hbt (by have := HGgI.out; have := HGgR.out; have := HGgE.out; omega)) (Blks.cons hS (Blks.one (BK.but (Blks.hd (Blks.tl (Blks.tl (Blks.tl (Blks.tl HK.out))))) hbt (by have := HGgI.out; have := HGgR.out; have := HGgE.out; omega)))))))
    replace HB := Lib.hid (hbt.below HB.out (by have := HGgI.out; have := HGgR.out; have := HGgE.out; omega) HB.out.size)
    clear hbt hS hsz
    refine pure_ (i := 6) (N := some 3) (v := ?_) (a' := ?_) #[true, true, true, true, true, true, true] rfl rfl (by kernel_rfl) (fun _ _ _ h => h) (Or.inl ⟨by rfl, ?_⟩) ?_ ?_
    rotate_left
    · intro w'; go_simp; with_reducible rfl
    rotate_left
    · simp only [Act.put, List.setIfInBounds_toArray, List.set_cons_zero, List.set_cons_succ, i64_w, i32_w]; rfl
    refine done_ (by kernel_rfl) ?_
    go_wp2
    have hmm := HMM.out
    subst hmm
    have hbb := HBB.out
    subst hbb
    exact bodyPost_ret (results_row2 rfl _ _ (w.heap.size + 1) _ #[.int .i64 3, .int .i64 kxi, .bool bxi, .string xxi, .slice Axi nxi cxi, .slice Bxi mxi dxi, .string .empty, .bool false, .int .i64 kxp, .bool bxp, .string xxp, .slice Axp nxp cxp, .slice Bxp mxp dxp, .int .i64 kxr, .bool bxr, .string xxr, .slice Axr nxr cxr, .slice Bxr mxr dxr, .int .i64 0, .string .empty] _ rfl _ rfl (Blks.hd (Blks.tl (Blks.tl (Blks.tl HK.out)))) Tryz.underlying46 rfl (by kernel_rfl)) rfl ⟨_, rfl, ⟨_, _, _, _, _, _, _, _, _, _, _, _, _, _, _, rfl, (VLF.le (B' := w.heap.size) HVix.out (by have := HGgI.out; have := HGgR.out; have := HGgE.out; omega)), (VLF.le (B' := w.heap.size) HVpx.out (by have := HGgI.out; have := HGgR.out; have := HGgE.out; omega)), (VLF.le (B' := w.heap.size) HVrx.out (by have := HGgI.out; have := HGgR.out; have := HGgE.out; omega))⟩, HB.out⟩
  · skip
    go_wp2_with (
      refine store_fld rfl rfl 46 (.tmp 2) (.tmp 38) rfl (w.heap.size + 1) 0 (.agg #[.int .i64 0, .int .i64 0, .bool false, .string ⟨#[]⟩, .slice none 0 0, .slice none 0 0, .string ⟨#[]⟩, .bool false, .int .i64 0, .bool false, .string ⟨#[]⟩, .slice none 0 0, .slice none 0 0, .int .i64 0, .bool false, .string ⟨#[]⟩, .slice none 0 0, .slice none 0 0, .int .i64 0, .string ⟨#[]⟩]) [.int .i64 0, .int .i64 0, .bool false, .string ⟨#[]⟩, .slice none 0 0, .slice none 0 0, .string ⟨#[]⟩, .bool false, .int .i64 0, .bool false, .string ⟨#[]⟩, .slice none 0 0, .slice none 0 0, .int .i64 0, .bool false, .string ⟨#[]⟩, .slice none 0 0, .slice none 0 0, .int .i64 0, .string ⟨#[]⟩] rfl rfl rfl #[.int .i64 0, .int .i64 0, .bool false, .string ⟨#[]⟩, .slice none 0 0, .slice none 0 0, .string ⟨#[]⟩, .bool false, .int .i64 0, .bool false, .string ⟨#[]⟩, .slice none 0 0, .slice none 0 0, .int .i64 0, .bool false, .string ⟨#[]⟩, .slice none 0 0, .slice none 0 0, .int .i64 0, .string ⟨#[]⟩] (Blks.hd (Blks.tl (Blks.tl (Blks.tl HK.out)))) (by kernel_rfl) (Nat.le_of_ble_eq_true rfl) (by simp [Value.oneCell']) rfl ?_
      intro w8 hS hbt hsz
      replace Ht := Lib.hid (Ht.out.butL hbt (by have := HGgI.out; have := HGgR.out; have := HGgE.out; omega))
      replace HM := Lib.hid (ML.but2 HM0.out HM.out hbt (by have := HGgI.out; have := HGgR.out; have := HGgE.out; omega))
      replace HQ := Lib.hid (Nat.le_trans HQ.out hbt.size)
      replace HVI := Lib.hid (HVI.out.but hbt (by have := HGgI.out; have := HGgR.out; have := HGgE.out; omega))
      replace HVR := Lib.hid (HVR.out.but hbt (by have := HGgI.out; have := HGgR.out; have := HGgE.out; omega))
      replace HVE := Lib.hid (HVE.out.but hbt (by have := HGgI.out; have := HGgR.out; have := HGgE.out; omega))
      replace HK := Lib.hid (Blks.cons (BK.but (Blks.hd HK.out) hbt (by have := HGgI.out; have := HGgR.out; have := HGgE.out; omega)) (Blks.cons (BK.but (Blks.hd (Blks.tl HK.out)) hbt (by have := HGgI.out; have := HGgR.out; have := HGgE.out; omega)) (Blks.cons (BK.but (Blks.hd (Blks.tl (Blks.tl HK.out))) hbt (by have := HGgI.out; have := HGgR.out; have := HGgE.out; omega)) (Blks.cons hS (Blks.one (BK.but (Blks.hd (Blks.tl (Blks.tl (Blks.tl (Blks.tl HK.out))))) hbt (by have := HGgI.out; have := HGgR.out; have := HGgE.out; omega)))))))
      replace HB := Lib.hid (hbt.below HB.out (by have := HGgI.out; have := HGgR.out; have := HGgE.out; omega) HB.out.size)
      clear hbt hS hsz)
    go_wp2
    have hmm := HMM.out
    subst hmm
    have hbb := HBB.out
    subst hbb
    exact bodyPost_ret (results_row2 rfl _ _ (w.heap.size + 1) _ #[.int .i64 0, .int .i64 0, .bool false, .string ⟨#[]⟩, .slice none 0 0, .slice none 0 0, .string ⟨#[]⟩, .bool false, .int .i64 0, .bool false, .string ⟨#[]⟩, .slice none 0 0, .slice none 0 0, .int .i64 0, .bool false, .string ⟨#[]⟩, .slice none 0 0, .slice none 0 0, .int .i64 0, .string ⟨#[]⟩] _ rfl _ rfl (Blks.hd (Blks.tl (Blks.tl (Blks.tl HK.out)))) Tryz.underlying46 rfl (by kernel_rfl)) rfl ⟨_, rfl, ⟨_, _, _, _, _, _, _, _, _, _, _, _, _, _, _, rfl, (nul_VLF _ _), (nul_VLF _ _), (nul_VLF _ _)⟩, HB.out⟩
end Go.Proofs.YtfploakafbnigaaGreatDoor
