/-
  Layer 12, the walks: RpcMembers, of messages that may not be.
-/
import Derived.Test.YtfploakafbnigaaGreatDoorCRpcLawAnew
import Derived.Test.YtfploakafbnigaaGreatDoorCRpcMemPlain
import Derived.Test.YtfploakafbnigaaGreatDoorCRpcAdd
namespace Go.Proofs.YtfploakafbnigaaGreatDoor
open Go.RowKit Val Num YtfploakafbnigaaGreatDoorW.PrintLast
set_option linter.unusedVariables false
set_option linter.unusedSimpArgs false
theorem AdM.putN {w : World} {nv ov cn co : Value} {kn ko : Nat} {ln lo : List Value} {S : Nat → Prop} {W0 W : World} (h : AdM w nv ov cn co kn ko ln lo S W0 W) : AdM w cn ov cn co kn ko ln lo S W0 (W.setCell ⟨w.heap.size, 4, none⟩ cn) where
  out := h.out.set4 cn
  below := h.below.setCell (p := ⟨w.heap.size, 4, none⟩) (Nat.le_refl _) _
  nown := own_far h.nown _ (by show w.heap.size < _; omega)
  oown := own_far h.oown _ (by show w.heap.size < _; omega)
  apart := h.apart
  size := by simpa [World.setCell] using h.size
  same := fun b hs => ((set_but W w.heap.size 4 cn).block b (h.far b hs).1 (h.far b hs).2.1).trans (h.same b hs)
  far := fun b hs => ⟨by simpa [World.setCell] using (h.far b hs).1, (h.far b hs).2⟩
theorem AdM.putO {w : World} {nv ov cn co : Value} {kn ko : Nat} {ln lo : List Value} {S : Nat → Prop} {W0 W : World} (h : AdM w nv ov cn co kn ko ln lo S W0 W) : AdM w nv co cn co kn ko ln lo S W0 (W.setCell ⟨w.heap.size, 3, none⟩ co) where
  out := h.out.set3 co
  below := h.below.setCell (p := ⟨w.heap.size, 3, none⟩) (Nat.le_refl _) _
  nown := own_far h.nown _ (by show w.heap.size < _; omega)
  oown := own_far h.oown _ (by show w.heap.size < _; omega)
  apart := h.apart
  size := by simpa [World.setCell] using h.size
  same := fun b hs => ((set_but W w.heap.size 3 co).block b (h.far b hs).1 (h.far b hs).2.1).trans (h.same b hs)
  far := fun b hs => ⟨by simpa [World.setCell] using (h.far b hs).1, (h.far b hs).2⟩
theorem AdM.new (w : World) : AdM w (.slice none 0 0) (.slice none 0 0) (.slice none 0 0) (.slice none 0 0) 0 0 [] [] (fun _ => False) w (w.alloc (.cells #[.int .i64 5, .bool false, .string ⟨#[]⟩, .slice none 0 0, .slice none 0 0] 25)) :=
  ⟨BK.new w _ _, made_end' w _, World.ownsRow_nil _ _ _ _, World.ownsRow_nil _ _ _ _, (fun _ h => by cases h), by simp, (fun _ h => h.elim), (fun _ h => h.elim)⟩
/-- the box and all that was there ahead of it -/
def OB (wb : World) (nv ov : Value) (w : World) : Prop := BX w wb.heap.size (.int .i64 5) (.bool false) (.string ⟨#[]⟩) ov nv ∧ Below wb.heap.size wb w
theorem AdM.ob {w : World} {nv ov cn co : Value} {kn ko : Nat} {ln lo : List Value} {S : Nat → Prop} {W0 W : World} (h : AdM w nv ov cn co kn ko ln lo S W0 W) : OB w nv ov W := ⟨h.out, h.below⟩
/-- the operation that stands next is that load -/
theorem isLda {P : Program} {ops : Array Oper} {rest : List Oper} {o : Oper} {a : Act} {w : World} {Q : Exit → Act → World → Prop} (ty : TypeId) (x : Tmp) (ho : o.op = .load ty (.tmp x)) (h : wpList P ops Q (o :: rest) a w) : wpList P ops Q (o :: rest) a w := h
/-- the operation that stands next is that append -/
theorem isAp {P : Program} {ops : Array Oper} {rest : List Oper} {o : Oper} {a : Act} {w : World} {Q : Exit → Act → World → Prop} (s x : Operand) (t : TypeId) (ho : o.op = .call { callee := .builtin .append, args := #[s, x], argTypes := #[t, t] }) (h : wpList P ops Q (o :: rest) a w) : wpList P ops Q (o :: rest) a w := h
set_option maxRecDepth 100000 in
set_option maxHeartbeats 32000000 in
theorem RpcMembers_no (m : MT) (fr : Int) (t : VT) (v vt : Value) (w : World) (h : MSV (zLt w.heap.size) m w v) (ht : VAL w (fun x => x < w.heap.size) t vt) (hk : m.bulk ≤ 4000000) (hkt : t.bulk ≤ 1048576) (hfr : I64 fr) (hci : I64 m.code) (hM : ML w) (hP : PTab w) (ho : MTok m = false) :
    Calls Tryz.prog 13 #[v, .int .i64 fr, vt] w (Made (.bool true) w) := by
  have htb := MTtree_bulk' m hci
  have hfb := fault_bulk m.code m.text hci
  have htx : m.text.size ≤ m.bulk := by unfold MT.bulk; omega
  have hkk : m.id.bulk ≤ 4000000 ∧ m.params.bulk ≤ 4000000 ∧ m.result.bulk ≤ 4000000 := by unfold MT.bulk at hk; omega
  have HPR := Lib.hid (fun W z v (hv : MSV z m W v) (hM : ML W) (hP : PTab W) => Print_any m z v W hv hM hP (by omega) (by omega) (by omega))
  unfold PrM at HPR
  rw [ho] at HPR
  clear ho
  have HMS := Lib.hid h
  clear htb hfb htx
  obtain ⟨mk, mid, mme, mha, mpa, mre, mco, mte⟩ := m
  obtain ⟨im0, im1, im2, im3, im4, pm0, pm1, pm2, pm3, pm4, rm0, rm1, rm2, rm3, rm4, rfl, q1, q2, q3⟩ := h
  dsimp only at q1 q2 q3 hkk ⊢
  obtain ⟨kmi, bmi, xmi, Ami, nmi, cmi, Bmi, mmi, dmi, rfl, rfl, rfl, rfl, rfl⟩ := VAL.shape5 q1
  obtain ⟨kmp, bmp, xmp, Amp, nmp, cmp, Bmp, mmp, dmp, rfl, rfl, rfl, rfl, rfl⟩ := VAL.shape5 q2
  obtain ⟨kmr, bmr, xmr, Amr, nmr, cmr, Bmr, mmr, dmr, rfl, rfl, rfl, rfl, rfl⟩ := VAL.shape5 q3
  have HVi := Lib.hid q1.old
  have HVp := Lib.hid q2.old
  have HVr := Lib.hid q3.old
  have HKi := Lib.hid hkk.1
  have HKp := Lib.hid hkk.2.1
  have HKr := Lib.hid hkk.2.2
  have HKt := Lib.hid hkt
  obtain ⟨kt, bt, xt, At, nt, ct, Bt, mt, dt, rfl⟩ := VAL.shape ht
  have HVt : Hid (VLV (zLt w.heap.size) t w _) := Lib.hid (VAL.mono (fun _ hx => ⟨hx, hx⟩) ht)
  clear q1 q2 q3 hkk hkt ht hk hci
  have HM := Lib.hid hM
  have HPT := Lib.hid hP
  have HB := Lib.hid (Below.refl w.heap.size w)
  clear hM hP
  go_enter Tryz.func13, Tryz.ntmps13
  go_upto_region 1 with (fail)
  have hb : Below w.heap.size w (((w.alloc (.cells #[.int .i64 mk, .int .i64 kmi, .bool bmi, .string xmi, .slice Ami nmi cmi, .slice Bmi mmi dmi, .string mme, .bool mha, .int .i64 kmp, .bool bmp, .string xmp, .slice Amp nmp cmp, .slice Bmp mmp dmp, .int .i64 kmr, .bool bmr, .string xmr, .slice Amr nmr cmr, .slice Bmr mmr dmr, .int .i64 mco, .string mte] 46))).alloc (.cells #[.int .i64 kt, .bool bt, .string xt, .slice At nt ct, .slice Bt mt dt] 25)) := al2_below w _ _
  replace HVi := Lib.hid (HVi.out.up hb)
  replace HVp := Lib.hid (HVp.out.up hb)
  replace HVr := Lib.hid (HVr.out.up hb)
  replace HVt := Lib.hid (HVt.out.up hb)
  replace HM := Lib.hid (HM.out.on hb)
  replace HPT := Lib.hid (HPT.out.on hb)
  replace HMS := Lib.hid (HMS.out.up hb)
  replace HB := Lib.hid (HB.out.trans (hb.mono HB.out.size))
  have hX0 : BK (((w.alloc (.cells #[.int .i64 mk, .int .i64 kmi, .bool bmi, .string xmi, .slice Ami nmi cmi, .slice Bmi mmi dmi, .string mme, .bool mha, .int .i64 kmp, .bool bmp, .string xmp, .slice Amp nmp cmp, .slice Bmp mmp dmp, .int .i64 kmr, .bool bmr, .string xmr, .slice Amr nmr cmr, .slice Bmr mmr dmr, .int .i64 mco, .string mte] 46))).alloc (.cells #[.int .i64 kt, .bool bt, .string xt, .slice At nt ct, .slice Bt mt dt] 25)) (w.heap.size) 46 #[.int .i64 mk, .int .i64 kmi, .bool bmi, .string xmi, .slice Ami nmi cmi, .slice Bmi mmi dmi, .string mme, .bool mha, .int .i64 kmp, .bool bmp, .string xmp, .slice Amp nmp cmp, .slice Bmp mmp dmp, .int .i64 kmr, .bool bmr, .string xmr, .slice Amr nmr cmr, .slice Bmr mmr dmr, .int .i64 mco, .string mte] := al2_0 w _ _
  have HK := Lib.hid (Blks.one hX0)
  have hX1 : BK (((w.alloc (.cells #[.int .i64 mk, .int .i64 kmi, .bool bmi, .string xmi, .slice Ami nmi cmi, .slice Bmi mmi dmi, .string mme, .bool mha, .int .i64 kmp, .bool bmp, .string xmp, .slice Amp nmp cmp, .slice Bmp mmp dmp, .int .i64 kmr, .bool bmr, .string xmr, .slice Amr nmr cmr, .slice Bmr mmr dmr, .int .i64 mco, .string mte] 46))).alloc (.cells #[.int .i64 kt, .bool bt, .string xt, .slice At nt ct, .slice Bt mt dt] 25)) (w.heap.size + 1) 25 #[.int .i64 kt, .bool bt, .string xt, .slice At nt ct, .slice Bt mt dt] := al2_1 w _ _
  replace HK := Lib.hid (Blks.cons hX1 HK.out)
  clear hb hX0 hX1
  generalize (((w.alloc (.cells #[.int .i64 mk, .int .i64 kmi, .bool bmi, .string xmi, .slice Ami nmi cmi, .slice Bmi mmi dmi, .string mme, .bool mha, .int .i64 kmp, .bool bmp, .string xmp, .slice Amp nmp cmp, .slice Bmp mmp dmp, .int .i64 kmr, .bool bmr, .string xmr, .slice Amr nmr cmr, .slice Bmr mmr dmr, .int .i64 mco, .string mte] 46))).alloc (.cells #[.int .i64 kt, .bool bt, .string xt, .slice At nt ct, .slice Bt mt dt] 25)) = w1 at *
  have hg := Blks.hd (Blks.tl HK.out)
  have y1 := hg.c 1 rfl
  have y2 := hg.c 2 rfl
  have y3 := hg.c 3 rfl
  have y4 := hg.c 4 rfl
  have y5 := hg.c 5 rfl
  have y8 := hg.c 8 rfl
  have y9 := hg.c 9 rfl
  have y10 := hg.c 10 rfl
  have y11 := hg.c 11 rfl
  have y12 := hg.c 12 rfl
  have y13 := hg.c 13 rfl
  have y14 := hg.c 14 rfl
  have y15 := hg.c 15 rfl
  have y16 := hg.c 16 rfl
  have y17 := hg.c 17 rfl
  clear hg
  have hg := Blks.hd HK.out
  have u0 := hg.c 0 rfl
  have u1 := hg.c 1 rfl
  have u2 := hg.c 2 rfl
  have u3 := hg.c 3 rfl
  have u4 := hg.c 4 rfl
  clear hg
  go_wp2_with fail
  clear y1 y2 y3 y4 y5 y8 y9 y10 y11 y12 y13 y14 y15 y16 y17 u0 u1 u2 u3 u4
  refine at1 (fun w2 hX0 hb hz => ?_)
  replace HVi := Lib.hid (HVi.out.up hb)
  replace HVp := Lib.hid (HVp.out.up hb)
  replace HVr := Lib.hid (HVr.out.up hb)
  replace HVt := Lib.hid (HVt.out.up hb)
  replace HM := Lib.hid (HM.out.on hb)
  replace HPT := Lib.hid (HPT.out.on hb)
  replace HMS := Lib.hid (HMS.out.up hb)
  replace HK := Lib.hid (HK.out.on hb)
  replace HB := Lib.hid (HB.out.trans (hb.mono HB.out.size))
  replace HK := Lib.hid (Blks.cons hX0 HK.out)
  clear hX0 hb
  clear hz
  have hD := DeepList_any 4 _ w2 _ _ 4 (BL.VS (Blks.hd HK.out) [mid, mpa, mre, t] (VR.cons (VAL.mono (fun b hb => (Zone.lt _ _ b hb)) HVi.out) (VR.cons (VAL.mono (fun b hb => (Zone.lt _ _ b hb)) HVp.out) (VR.cons (VAL.mono (fun b hb => (Zone.lt _ _ b hb)) HVr.out) (VR.cons (VAL.mono (fun b hb => (Zone.lt _ _ b hb)) HVt.out) (VR.none _ _)))))) (fun b hb => hb) (by omega) (fun j hj => by
    match j, hj with
    | 0, _ => exact Nat.le_trans HKi.out (by omega)
    | 1, _ => exact Nat.le_trans HKp.out (by omega)
    | 2, _ => exact Nat.le_trans HKr.out (by omega)
    | 3, _ => exact Nat.le_trans HKt.out (by omega))
  refine hD.mono ?_
  clear hD
  rintro e w3 ⟨⟨bb, rfl⟩, hb⟩
  replace HVi := Lib.hid (HVi.out.up hb)
  replace HVp := Lib.hid (HVp.out.up hb)
  replace HVr := Lib.hid (HVr.out.up hb)
  replace HVt := Lib.hid (HVt.out.up hb)
  replace HM := Lib.hid (HM.out.on hb)
  replace HPT := Lib.hid (HPT.out.on hb)
  replace HMS := Lib.hid (HMS.out.up hb)
  replace HK := Lib.hid (HK.out.on hb)
  replace HB := Lib.hid (HB.out.trans (hb.mono HB.out.size))
  clear hb
  cases bb
  rotate_left
  · skip
    go_wp2_with fail
    refine (awake12_any w3 HM.out).mono ?_
    rintro e w4 ⟨rfl, hb⟩
    replace HVi := Lib.hid (HVi.out.up hb)
    replace HVp := Lib.hid (HVp.out.up hb)
    replace HVr := Lib.hid (HVr.out.up hb)
    replace HVt := Lib.hid (HVt.out.up hb)
    replace HM := Lib.hid (HM.out.on hb)
    replace HPT := Lib.hid (HPT.out.on hb)
    replace HMS := Lib.hid (HMS.out.up hb)
    replace HK := Lib.hid (HK.out.on hb)
    replace HB := Lib.hid (HB.out.trans (hb.mono HB.out.size))
    clear hb
    go_wp2
    go_ret
    exact ⟨rfl, HB.out⟩
  go_wp2_with ((refine wpList_load_row rfl 46 (.tmp 3) rfl (w.heap.size) rfl 46 #[.int .i64 mk, .int .i64 kmi, .bool bmi, .string xmi, .slice Ami nmi cmi, .slice Bmi mmi dmi, .string mme, .bool mha, .int .i64 kmp, .bool bmp, .string xmp, .slice Amp nmp cmp, .slice Bmp mmp dmp, .int .i64 kmr, .bool bmr, .string xmr, .slice Amr nmr cmr, .slice Bmr mmr dmr, .int .i64 mco, .string mte] (0, 0) _ (Blks.hd (Blks.tl (Blks.tl HK.out))) Tryz.underlying46 rfl (by kernel_rfl) ?_))
  refine (HPR.out w3 _ _ HMS.out HM.out HPT.out).mono ?_
  rintro e w4 ⟨v', rfl, hv, hb⟩
  obtain ⟨kp, bp, xp, Ap, np, cp, Bp, mp, dp, rfl⟩ := VAL.shape hv.1
  clear hv
  replace HVi := Lib.hid (HVi.out.up hb)
  replace HVp := Lib.hid (HVp.out.up hb)
  replace HVr := Lib.hid (HVr.out.up hb)
  replace HVt := Lib.hid (HVt.out.up hb)
  replace HM := Lib.hid (HM.out.on hb)
  replace HPT := Lib.hid (HPT.out.on hb)
  replace HMS := Lib.hid (HMS.out.up hb)
  replace HK := Lib.hid (HK.out.on hb)
  replace HB := Lib.hid (HB.out.trans (hb.mono HB.out.size))
  clear hb
  go_wp2_with fail
  refine at1 (fun w5 hX hb hz => ?_)
  clear hX hz
  replace HVi := Lib.hid (HVi.out.up hb)
  replace HVp := Lib.hid (HVp.out.up hb)
  replace HVr := Lib.hid (HVr.out.up hb)
  replace HVt := Lib.hid (HVt.out.up hb)
  replace HM := Lib.hid (HM.out.on hb)
  replace HPT := Lib.hid (HPT.out.on hb)
  replace HMS := Lib.hid (HMS.out.up hb)
  replace HK := Lib.hid (HK.out.on hb)
  replace HB := Lib.hid (HB.out.trans (hb.mono HB.out.size))
  clear hb
  refine (awake12_any w5 HM.out).mono ?_
  rintro e w6 ⟨rfl, hb⟩
  replace HVi := Lib.hid (HVi.out.up hb)
  replace HVp := Lib.hid (HVp.out.up hb)
  replace HVr := Lib.hid (HVr.out.up hb)
  replace HVt := Lib.hid (HVt.out.up hb)
  replace HM := Lib.hid (HM.out.on hb)
  replace HPT := Lib.hid (HPT.out.on hb)
  replace HMS := Lib.hid (HMS.out.up hb)
  replace HK := Lib.hid (HK.out.on hb)
  replace HB := Lib.hid (HB.out.trans (hb.mono HB.out.size))
  clear hb
  go_wp2
  go_ret
  exact ⟨rfl, HB.out⟩
end Go.Proofs.YtfploakafbnigaaGreatDoor
