/-
  Layer 12, the walks: RpcAnew, at every value.
-/
import Derived.Test.YtfploakafbnigaaGreatDoorCRpcPrint
import Derived.Test.YtfploakafbnigaaGreatDoorCRpcAnewPlain
import Derived.Test.YtfploakafbnigaaGreatDoorCRpcRow
namespace Go.Proofs.YtfploakafbnigaaGreatDoor
open Go.RowKit Val Num YtfploakafbnigaaGreatDoorW.PrintLast
set_option linter.unusedVariables false
set_option linter.unusedSimpArgs false
/-- the operation that stands next is that store -/
theorem isSa {P : Program} {ops : Array Oper} {rest : List Oper} {o : Oper} {a : Act} {w : World} {Q : Exit → Act → World → Prop} (ty : TypeId) (x : Tmp) (y : Operand) (ho : o.op = .store ty (.tmp x) y) (h : wpList P ops Q (o :: rest) a w) : wpList P ops Q (o :: rest) a w := h
theorem nul_MSV (z : Zone) (w : World) : MSV z .nul w (.agg #[.int .i64 0, .int .i64 0, .bool false, .string ⟨#[]⟩, .slice none 0 0, .slice none 0 0, .string ⟨#[]⟩, .bool false, .int .i64 0, .bool false, .string ⟨#[]⟩, .slice none 0 0, .slice none 0 0, .int .i64 0, .bool false, .string ⟨#[]⟩, .slice none 0 0, .slice none 0 0, .int .i64 0, .string ⟨#[]⟩]) := ⟨_, _, _, _, _, _, _, _, _, _, _, _, _, _, _, rfl, nul_VLV _ _, nul_VLV _ _, nul_VLV _ _⟩
theorem Print_ok (m : MT) (z : Zone) (v : Value) (w : World) (h : MSV z m w v) (hM : ML w) (hP : PTab w) (ho : MTok m = true) (hk : m.bulk ≤ 1073741000) (ht : (MTtree m).bulk ≤ 1073741824) (hf : (faultT m.code m.text).bulk ≤ 1073741824) : Calls Tryz.prog 55 #[v] w fun e w' => ∃ v', e = .returned (.tuple #[v', .int .i64 0]) ∧ VLF (zNew w.heap.size) (MTtree m) w' v' ∧ Below w.heap.size w w' := by
  have := Print_any m z v w h hM hP hk ht hf
  unfold PrM at this
  rw [ho] at this
  exact this
set_option maxRecDepth 100000 in
set_option maxHeartbeats 16000000 in
theorem RpcAnew_no (t : VT) (v : Value) (w : World) (ha : VAL w (fun x => x < w.heap.size) t v) (kt : t.bulk ≤ 1048576) (hM : ML w) (hP : PTab w) (ho : t.msgOk = false) :
    Calls Tryz.prog 12 #[v] w (Made (.bool true) w) := by
  obtain ⟨ka, ba, xa, Aa, na, ca, Ba, ma, da, rfl⟩ := VAL.shape ha
  have HVa : Hid (VLV (zLt w.heap.size) t w _) := Lib.hid (VAL.mono (fun _ hx => ⟨hx, hx⟩) ha)
  have HKt := Lib.hid kt
  have HM := Lib.hid hM
  have HPT := Lib.hid hP
  have HB := Lib.hid (Below.refl w.heap.size w)
  have HPA := Lib.hid (fun W z v (hv : VLV z t W v) (hM : ML W) => Parse_any t z v W hv hM (by omega))
  have HBK := Lib.hid (VT.readM_bulk kt)
  have HMA := Lib.hid (read_nothing ho).1
  have hee := (read_nothing ho).2
  rw [hee] at HPA
  clear hee ho
  generalize t.readM = mA at *
  clear ha kt hM hP
  go_enter Tryz.func12, Tryz.ntmps12
  go_wp2_with fail
  refine at2 (fun w1 hX0 hX1 hb hz => ?_)
  replace HVa := Lib.hid (HVa.out.up hb)
  replace HM := Lib.hid (HM.out.on hb)
  replace HPT := Lib.hid (HPT.out.on hb)
  replace HB := Lib.hid (HB.out.trans (hb.mono HB.out.size))
  have HK := Lib.hid (Blks.one hX0)
  replace HK := Lib.hid (Blks.cons hX1 HK.out)
  clear hX0 hX1 hb
  clear hz
  have hD := DeepList_any 1 _ w1 _ _ 1 (BL.VS (Blks.hd HK.out) [t] (VR.cons (VAL.mono (fun b hb => (Zone.lt _ _ b hb)) HVa.out) (VR.none _ _))) (fun b hb => hb) (by omega) (fun j hj => by
    match j, hj with
    | 0, _ => exact Nat.le_trans HKt.out (by omega))
  refine hD.mono ?_
  clear hD
  rintro e w2 ⟨⟨dd, rfl⟩, hb⟩
  replace HVa := Lib.hid (HVa.out.up hb)
  replace HM := Lib.hid (HM.out.on hb)
  replace HPT := Lib.hid (HPT.out.on hb)
  replace HK := Lib.hid (HK.out.on hb)
  replace HB := Lib.hid (HB.out.trans (hb.mono HB.out.size))
  clear hb
  cases dd
  rotate_left
  · skip
    go_wp2_with fail
    refine (awake12_any w2 HM.out).mono ?_
    rintro e w3 ⟨rfl, hb⟩
    replace HVa := Lib.hid (HVa.out.up hb)
    replace HM := Lib.hid (HM.out.on hb)
    replace HPT := Lib.hid (HPT.out.on hb)
    replace HK := Lib.hid (HK.out.on hb)
    replace HB := Lib.hid (HB.out.trans (hb.mono HB.out.size))
    clear hb
    go_wp2
    go_ret
    exact ⟨rfl, HB.out⟩
  have hg := Blks.hd (Blks.tl HK.out)
  have y0 := hg.c 0 rfl
  have y1 := hg.c 1 rfl
  have y2 := hg.c 2 rfl
  have y3 := hg.c 3 rfl
  have y4 := hg.c 4 rfl
  clear hg
  go_wp2_with fail
  clear y0 y1 y2 y3 y4
  refine (HPA.out w2 _ _ HVa.out HM.out).mono ?_
  rintro e w3 ⟨v', rfl, hm, hb⟩
  have HMX := Lib.hid hm
  obtain ⟨iX0, iX1, iX2, iX3, iX4, pX0, pX1, pX2, pX3, pX4, rX0, rX1, rX2, rX3, rX4, he, q1, q2, q3⟩ := hm
  subst he
  obtain ⟨kXi, bXi, xXi, AXi, nXi, cXi, BXi, mXi, dXi, rfl, rfl, rfl, rfl, rfl⟩ := VAL.shape5 q1.1
  obtain ⟨kXp, bXp, xXp, AXp, nXp, cXp, BXp, mXp, dXp, rfl, rfl, rfl, rfl, rfl⟩ := VAL.shape5 q2.1
  obtain ⟨kXr, bXr, xXr, AXr, nXr, cXr, BXr, mXr, dXr, rfl, rfl, rfl, rfl, rfl⟩ := VAL.shape5 q3.1
  clear q1 q2 q3
  replace HVa := Lib.hid (HVa.out.up hb)
  replace HM := Lib.hid (HM.out.on hb)
  replace HPT := Lib.hid (HPT.out.on hb)
  replace HK := Lib.hid (HK.out.on hb)
  replace HB := Lib.hid (HB.out.trans (hb.mono HB.out.size))
  clear hb
  go_wp2_with (first
    | (refine isSa 46 3 (.tmp 16) rfl ?_
       refine store1 rfl rfl 46 (.tmp 3) (.tmp 16) rfl rfl #[.int .i64 mA.kind, .int .i64 kXi, .bool bXi, .string xXi, .slice AXi nXi cXi, .slice BXi mXi dXi, .string mA.method, .bool mA.has, .int .i64 kXp, .bool bXp, .string xXp, .slice AXp nXp cXp, .slice BXp mXp dXp, .int .i64 kXr, .bool bXr, .string xXr, .slice AXr nXr cXr, .slice BXr mXr dXr, .int .i64 mA.code, .string mA.text] rfl (by kernel_rfl) rfl (by simp [Value.oneCell']) ?_
       intro w4 hX hb hz
       replace HVa := Lib.hid (HVa.out.up hb)
       replace HM := Lib.hid (HM.out.on hb)
       replace HPT := Lib.hid (HPT.out.on hb)
       replace HMX := Lib.hid (HMX.out.up hb)
       replace HK := Lib.hid (HK.out.on hb)
       replace HB := Lib.hid (HB.out.trans (hb.mono HB.out.size))
       replace HK := Lib.hid (Blks.cons hX HK.out)
       clear hX hb hz
       generalize w3.heap.size = g3 at *)
    | (refine wpList_load_row rfl 46 (.tmp 3) rfl (g3) rfl 46 #[.int .i64 mA.kind, .int .i64 kXi, .bool bXi, .string xXi, .slice AXi nXi cXi, .slice BXi mXi dXi, .string mA.method, .bool mA.has, .int .i64 kXp, .bool bXp, .string xXp, .slice AXp nXp cXp, .slice BXp mXp dXp, .int .i64 kXr, .bool bXr, .string xXr, .slice AXr nXr cXr, .slice BXr mXr dXr, .int .i64 mA.code, .string mA.text] (0, 0) _ (Blks.hd HK.out) Tryz.underlying46 rfl (by kernel_rfl) ?_))
  refine (SameM_same mA _ (zNew 0) _ _ w4 HMX.out.any (by rw [HMA.out]; exact nul_MSV _ _) HBK.out).mono ?_
  rintro e w5 ⟨rfl, hb⟩
  replace HVa := Lib.hid (HVa.out.up hb)
  replace HM := Lib.hid (HM.out.on hb)
  replace HPT := Lib.hid (HPT.out.on hb)
  replace HMX := Lib.hid (HMX.out.up hb)
  replace HK := Lib.hid (HK.out.on hb)
  replace HB := Lib.hid (HB.out.trans (hb.mono HB.out.size))
  clear hb HMX
  go_wp2_with fail
  refine (awake12_any w5 HM.out).mono ?_
  rintro e w6 ⟨rfl, hb⟩
  replace HVa := Lib.hid (HVa.out.up hb)
  replace HM := Lib.hid (HM.out.on hb)
  replace HPT := Lib.hid (HPT.out.on hb)
  replace HK := Lib.hid (HK.out.on hb)
  replace HB := Lib.hid (HB.out.trans (hb.mono HB.out.size))
  clear hb
  go_wp2
  go_ret
  exact ⟨rfl, HB.out⟩
set_option maxRecDepth 100000 in
set_option maxHeartbeats 16000000 in
theorem RpcAnew_yes (t : VT) (v : Value) (w : World) (ha : VAL w (fun x => x < w.heap.size) t v) (kt : t.bulk ≤ 1048576) (hM : ML w) (hP : PTab w) (ho : t.msgOk = true) :
    Calls Tryz.prog 12 #[v] w (Made (.bool true) w) := by
  obtain ⟨ka, ba, xa, Aa, na, ca, Ba, ma, da, rfl⟩ := VAL.shape ha
  have HVa : Hid (VLV (zLt w.heap.size) t w _) := Lib.hid (VAL.mono (fun _ hx => ⟨hx, hx⟩) ha)
  have HKt := Lib.hid kt
  have HM := Lib.hid hM
  have HPT := Lib.hid hP
  have HB := Lib.hid (Below.refl w.heap.size w)
  obtain ⟨h1, h2, h3, h4, h5, h6, h7⟩ := anew ho kt
  have HPA := Lib.hid (fun W z v (hv : VLV z t W v) (hM : ML W) => Parse_any t z v W hv hM (by omega))
  rw [(read_yes ho).2] at HPA
  have HPR := Lib.hid (fun W z v (hv : MSV z t.readM W v) (hM : ML W) (hP : PTab W) => Print_ok t.readM z v W hv hM hP h1 (by omega) (by omega) (by omega))
  have HPB := Lib.hid (fun W z v (hv : VLV z (MTtree t.readM) W v) (hM : ML W) => Parse_any (MTtree t.readM) z v W hv hM (by omega))
  rw [h2] at HPB
  have HSM := Lib.hid (fun W z z' v v' (hv : MSV z t.readM W v) (hv' : MSV z' (MTtree t.readM).readM W v') => SameM_any t.readM (MTtree t.readM).readM z z' v v' W hv hv' (by omega) (by omega))
  rw [h3] at HSM
  clear h1 h2 h3 h4 h5 h6 h7 ho
  generalize (MTtree t.readM).readM = mB at *
  generalize MTtree t.readM = tr at *
  generalize t.readM = mA at *
  clear ha kt hM hP
  go_enter Tryz.func12, Tryz.ntmps12
  go_wp2_with fail
  refine at2 (fun w1 hX0 hX1 hb hz => ?_)
  replace HVa := Lib.hid (HVa.out.up hb)
  replace HM := Lib.hid (HM.out.on hb)
  replace HPT := Lib.hid (HPT.out.on hb)
  replace HB := Lib.hid (HB.out.trans (hb.mono HB.out.size))
  have HK := Lib.hid (Blks.one hX0)
  replace HK := Lib.hid (Blks.cons hX1 HK.out)
  clear hX0 hX1 hb
  clear hz
  have hD := DeepList_any 1 _ w1 _ _ 1 (BL.VS (Blks.hd HK.out) [t] (VR.cons (VAL.mono (fun b hb => (Zone.lt _ _ b hb)) HVa.out) (VR.none _ _))) (fun b hb => hb) (by omega) (fun j hj => by
    match j, hj with
    | 0, _ => exact Nat.le_trans HKt.out (by omega))
  refine hD.mono ?_
  clear hD
  rintro e w2 ⟨⟨dd, rfl⟩, hb⟩
  replace HVa := Lib.hid (HVa.out.up hb)
  replace HM := Lib.hid (HM.out.on hb)
  replace HPT := Lib.hid (HPT.out.on hb)
  replace HK := Lib.hid (HK.out.on hb)
  replace HB := Lib.hid (HB.out.trans (hb.mono HB.out.size))
  clear hb
  cases dd
  rotate_left
  · skip
    go_wp2_with fail
    refine (awake12_any w2 HM.out).mono ?_
    rintro e w3 ⟨rfl, hb⟩
    replace HVa := Lib.hid (HVa.out.up hb)
    replace HM := Lib.hid (HM.out.on hb)
    replace HPT := Lib.hid (HPT.out.on hb)
    replace HK := Lib.hid (HK.out.on hb)
    replace HB := Lib.hid (HB.out.trans (hb.mono HB.out.size))
    clear hb
    go_wp2
    go_ret
    exact ⟨rfl, HB.out⟩
  have hg := Blks.hd (Blks.tl HK.out)
  have y0 := hg.c 0 rfl
  have y1 := hg.c 1 rfl
  have y2 := hg.c 2 rfl
  have y3 := hg.c 3 rfl
  have y4 := hg.c 4 rfl
  clear hg
  go_wp2_with fail
  clear y0 y1 y2 y3 y4
  refine (HPA.out w2 _ _ HVa.out HM.out).mono ?_
  rintro e w3 ⟨v', rfl, hm, hb⟩
  have HMX := Lib.hid hm
  obtain ⟨iX0, iX1, iX2, iX3, iX4, pX0, pX1, pX2, pX3, pX4, rX0, rX1, rX2, rX3, rX4, he, q1, q2, q3⟩ := hm
  subst he
  obtain ⟨kXi, bXi, xXi, AXi, nXi, cXi, BXi, mXi, dXi, rfl, rfl, rfl, rfl, rfl⟩ := VAL.shape5 q1.1
  obtain ⟨kXp, bXp, xXp, AXp, nXp, cXp, BXp, mXp, dXp, rfl, rfl, rfl, rfl, rfl⟩ := VAL.shape5 q2.1
  obtain ⟨kXr, bXr, xXr, AXr, nXr, cXr, BXr, mXr, dXr, rfl, rfl, rfl, rfl, rfl⟩ := VAL.shape5 q3.1
  clear q1 q2 q3
  replace HVa := Lib.hid (HVa.out.up hb)
  replace HM := Lib.hid (HM.out.on hb)
  replace HPT := Lib.hid (HPT.out.on hb)
  replace HK := Lib.hid (HK.out.on hb)
  replace HB := Lib.hid (HB.out.trans (hb.mono HB.out.size))
  clear hb
  go_wp2_with (first
    | (refine isSa 46 3 (.tmp 16) rfl ?_
       refine store1 rfl rfl 46 (.tmp 3) (.tmp 16) rfl rfl #[.int .i64 mA.kind, .int .i64 kXi, .bool bXi, .string xXi, .slice AXi nXi cXi, .slice BXi mXi dXi, .string mA.method, .bool mA.has, .int .i64 kXp, .bool bXp, .string xXp, .slice AXp nXp cXp, .slice BXp mXp dXp, .int .i64 kXr, .bool bXr, .string xXr, .slice AXr nXr cXr, .slice BXr mXr dXr, .int .i64 mA.code, .string mA.text] rfl (by kernel_rfl) rfl (by simp [Value.oneCell']) ?_
       intro w4 hX hb hz
       replace HVa := Lib.hid (HVa.out.up hb)
       replace HM := Lib.hid (HM.out.on hb)
       replace HPT := Lib.hid (HPT.out.on hb)
       replace HMX := Lib.hid (HMX.out.up hb)
       replace HK := Lib.hid (HK.out.on hb)
       replace HB := Lib.hid (HB.out.trans (hb.mono HB.out.size))
       replace HK := Lib.hid (Blks.cons hX HK.out)
       clear hX hb hz
       generalize w3.heap.size = g3 at *)
    | (refine wpList_load_row rfl 46 (.tmp 3) rfl (g3) rfl 46 #[.int .i64 mA.kind, .int .i64 kXi, .bool bXi, .string xXi, .slice AXi nXi cXi, .slice BXi mXi dXi, .string mA.method, .bool mA.has, .int .i64 kXp, .bool bXp, .string xXp, .slice AXp nXp cXp, .slice BXp mXp dXp, .int .i64 kXr, .bool bXr, .string xXr, .slice AXr nXr cXr, .slice BXr mXr dXr, .int .i64 mA.code, .string mA.text] (0, 0) _ (Blks.hd HK.out) Tryz.underlying46 rfl (by kernel_rfl) ?_))
  refine (HPR.out w4 _ _ HMX.out.any HM.out HPT.out).mono ?_
  rintro e w5 ⟨v', rfl, hv, hb⟩
  obtain ⟨kp, bp, xp, Ap, np, cp, Bp, mp, dp, rfl⟩ := VAL.shape hv.1
  have HVp := Lib.hid hv.1.old
  clear hv
  replace HVa := Lib.hid (HVa.out.up hb)
  replace HM := Lib.hid (HM.out.on hb)
  replace HPT := Lib.hid (HPT.out.on hb)
  replace HMX := Lib.hid (HMX.out.up hb)
  replace HK := Lib.hid (HK.out.on hb)
  replace HB := Lib.hid (HB.out.trans (hb.mono HB.out.size))
  clear hb
  go_upto_region 7 with (fail)
  have HGg5 := Lib.hid ((Blks.hd HK.out).lt)
  have hb : Below w5.heap.size w5 (w5.alloc (.cells #[.int .i64 kp, .bool bp, .string xp, .slice Ap np cp, .slice Bp mp dp] 25)) := made_end' w5 _
  replace HVa := Lib.hid (HVa.out.up hb)
  replace HM := Lib.hid (HM.out.on hb)
  replace HPT := Lib.hid (HPT.out.on hb)
  replace HMX := Lib.hid (HMX.out.up hb)
  replace HVp := Lib.hid (HVp.out.up hb)
  replace HK := Lib.hid (HK.out.on hb)
  replace HB := Lib.hid (HB.out.trans (hb.mono HB.out.size))
  have hX0 : BK (w5.alloc (.cells #[.int .i64 kp, .bool bp, .string xp, .slice Ap np cp, .slice Bp mp dp] 25)) (w5.heap.size) 25 #[.int .i64 kp, .bool bp, .string xp, .slice Ap np cp, .slice Bp mp dp] := BK.new w5 _ _
  replace HK := Lib.hid (Blks.cons hX0 HK.out)
  clear hb hX0
  generalize (w5.alloc (.cells #[.int .i64 kp, .bool bp, .string xp, .slice Ap np cp, .slice Bp mp dp] 25)) = w6 at *
  generalize w5.heap.size = g5 at *
  have hg := Blks.hd HK.out
  have y0 := hg.c 0 rfl
  have y1 := hg.c 1 rfl
  have y2 := hg.c 2 rfl
  have y3 := hg.c 3 rfl
  have y4 := hg.c 4 rfl
  clear hg
  go_wp2_with fail
  clear y0 y1 y2 y3 y4
  refine (HPB.out w6 _ _ HVp.out HM.out).mono ?_
  rintro e w7 ⟨v', rfl, hm, hb⟩
  have HMY := Lib.hid hm
  obtain ⟨iY0, iY1, iY2, iY3, iY4, pY0, pY1, pY2, pY3, pY4, rY0, rY1, rY2, rY3, rY4, he, q1, q2, q3⟩ := hm
  subst he
  obtain ⟨kYi, bYi, xYi, AYi, nYi, cYi, BYi, mYi, dYi, rfl, rfl, rfl, rfl, rfl⟩ := VAL.shape5 q1.1
  obtain ⟨kYp, bYp, xYp, AYp, nYp, cYp, BYp, mYp, dYp, rfl, rfl, rfl, rfl, rfl⟩ := VAL.shape5 q2.1
  obtain ⟨kYr, bYr, xYr, AYr, nYr, cYr, BYr, mYr, dYr, rfl, rfl, rfl, rfl, rfl⟩ := VAL.shape5 q3.1
  clear q1 q2 q3
  replace HVa := Lib.hid (HVa.out.up hb)
  replace HM := Lib.hid (HM.out.on hb)
  replace HPT := Lib.hid (HPT.out.on hb)
  replace HMX := Lib.hid (HMX.out.up hb)
  replace HVp := Lib.hid (HVp.out.up hb)
  replace HK := Lib.hid (HK.out.on hb)
  replace HB := Lib.hid (HB.out.trans (hb.mono HB.out.size))
  clear hb
  go_wp2_with (first
    | (refine isSa 46 7 (.tmp 34) rfl ?_
       refine store1 rfl rfl 46 (.tmp 7) (.tmp 34) rfl rfl #[.int .i64 mB.kind, .int .i64 kYi, .bool bYi, .string xYi, .slice AYi nYi cYi, .slice BYi mYi dYi, .string mB.method, .bool mB.has, .int .i64 kYp, .bool bYp, .string xYp, .slice AYp nYp cYp, .slice BYp mYp dYp, .int .i64 kYr, .bool bYr, .string xYr, .slice AYr nYr cYr, .slice BYr mYr dYr, .int .i64 mB.code, .string mB.text] rfl (by kernel_rfl) rfl (by simp [Value.oneCell']) ?_
       intro w8 hX hb hz
       replace HVa := Lib.hid (HVa.out.up hb)
       replace HM := Lib.hid (HM.out.on hb)
       replace HPT := Lib.hid (HPT.out.on hb)
       replace HMX := Lib.hid (HMX.out.up hb)
       replace HVp := Lib.hid (HVp.out.up hb)
       replace HMY := Lib.hid (HMY.out.up hb)
       replace HK := Lib.hid (HK.out.on hb)
       replace HB := Lib.hid (HB.out.trans (hb.mono HB.out.size))
       replace HK := Lib.hid (Blks.cons hX HK.out)
       clear hX hb hz
       generalize w7.heap.size = g7 at *)
    | (refine load_blk (by rfl) 46 (.tmp 3) rfl g3 rfl (Blks.hd (Blks.tl (Blks.tl HK.out))) _ Tryz.underlying46 rfl (by kernel_rfl) ?_)
    | (refine load_blk (by rfl) 46 (.tmp 7) rfl g7 rfl (Blks.hd HK.out) _ Tryz.underlying46 rfl (by kernel_rfl) ?_))
  refine (HSM.out w8 _ _ _ _ HMX.out.any HMY.out.any).mono ?_
  rintro e w9 ⟨rfl, hb⟩
  replace HVa := Lib.hid (HVa.out.up hb)
  replace HM := Lib.hid (HM.out.on hb)
  replace HPT := Lib.hid (HPT.out.on hb)
  replace HMX := Lib.hid (HMX.out.up hb)
  replace HVp := Lib.hid (HVp.out.up hb)
  replace HMY := Lib.hid (HMY.out.up hb)
  replace HK := Lib.hid (HK.out.on hb)
  replace HB := Lib.hid (HB.out.trans (hb.mono HB.out.size))
  clear hb HMX HMY
  go_wp2_with fail
  refine (awake12_any w9 HM.out).mono ?_
  rintro e w10 ⟨rfl, hb⟩
  replace HVa := Lib.hid (HVa.out.up hb)
  replace HM := Lib.hid (HM.out.on hb)
  replace HPT := Lib.hid (HPT.out.on hb)
  replace HVp := Lib.hid (HVp.out.up hb)
  replace HK := Lib.hid (HK.out.on hb)
  replace HB := Lib.hid (HB.out.trans (hb.mono HB.out.size))
  clear hb
  go_wp2
  go_ret
  exact ⟨rfl, HB.out⟩
theorem RpcAnew_walk (t : VT) (v : Value) (w : World) (ha : VAL w (fun x => x < w.heap.size) t v) (kt : t.bulk ≤ 1048576) (hM : ML w) (hP : PTab w) : Calls Tryz.prog 12 #[v] w (Made (.bool true) w) := by
  cases ho : t.msgOk
  · exact RpcAnew_no t v w ha kt hM hP ho
  · exact RpcAnew_yes t v w ha kt hM hP ho
end Go.Proofs.YtfploakafbnigaaGreatDoor
