/-
  Layer 12, the walks: RpcReads, at every value.
-/
import Derived.Test.YtfploakafbnigaaGreatDoorCRpcRefParse
import Derived.Test.YtfploakafbnigaaGreatDoorCRpcRow
namespace Go.Proofs.YtfploakafbnigaaGreatDoor
open Go.RowKit Val Num YtfploakafbnigaaGreatDoorW.PrintLast
set_option linter.unusedVariables false
set_option linter.unusedSimpArgs false
set_option maxRecDepth 100000 in
set_option maxHeartbeats 16000000 in
theorem RpcReads_walk (t : VT) (v : Value) (w : World) (ha : VAL w (fun x => x < w.heap.size) t v) (kt : t.bulk ≤ 1048576) (hM : ML w) :
    Calls Tryz.prog 4 #[v] w (Made (.bool true) w) := by
  obtain ⟨ka, ba, xa, Aa, na, ca, Ba, ma, da, rfl⟩ := VAL.shape ha
  have HVa : Hid (VLV (zLt w.heap.size) t w _) := Lib.hid (VAL.mono (fun _ hx => ⟨hx, hx⟩) ha)
  have HKt := Lib.hid kt
  have HM := Lib.hid hM
  have HM0 := Lib.hid hM
  have HB := Lib.hid (Below.refl w.heap.size w)
  have HPA := Lib.hid (fun W z v (hv : VLV z t W v) (hM : ML W) => Parse_any t z v W hv hM (by omega))
  have HPB := Lib.hid (fun W z v (hv : VLV z t W v) => refParse_any t z v W hv (by omega))
  have HBK := Lib.hid (VT.readM_bulk kt)
  clear ha kt hM
  generalize t.readM = mA at *
  generalize t.readE = ee at *
  go_enter Tryz.func4, Tryz.ntmps4
  go_wp2_with fail
  refine at2 (fun w1 hX0 hX1 hb hz => ?_)
  replace HVa := Lib.hid (HVa.out.up hb)
  replace HM := Lib.hid (HM.out.on hb)
  replace HB := Lib.hid (HB.out.trans (hb.mono HB.out.size))
  have HK := Lib.hid (Blks.one hX0)
  replace HK := Lib.hid (Blks.cons hX1 HK.out)
  clear hX0 hX1 hb
  clear hz
  have hD := DeepList_any 1 _ w1 _ _ 1 (BL.VS (Blks.hd HK.out) [t] (VR.cons (VAL.mono (fun b hb => (Zone.lt _ _ b hb)) HVa.out) (VR.none _ _))) (fun b hb => hb) (by omega) (fun j hj => by
    match j, hj with
    | 0, _ => exact Nat.le_trans HKt.out (by omega))
  refine hD.mono ?_
  clear hD
  rintro e w2 ⟨⟨dd, rfl⟩, hb⟩
  replace HVa := Lib.hid (HVa.out.up hb)
  replace HM := Lib.hid (HM.out.on hb)
  replace HK := Lib.hid (HK.out.on hb)
  replace HB := Lib.hid (HB.out.trans (hb.mono HB.out.size))
  clear hb
  cases dd
  rotate_left
  · skip
    go_wp2_with fail
    refine (awake12_any w2 HM.out).mono ?_
    rintro e w3 ⟨rfl, hb⟩
    replace HVa := Lib.hid (HVa.out.up hb)
    replace HM := Lib.hid (HM.out.on hb)
    replace HK := Lib.hid (HK.out.on hb)
    replace HB := Lib.hid (HB.out.trans (hb.mono HB.out.size))
    clear hb
    go_wp2
    go_ret
    exact ⟨rfl, HB.out⟩
  have hg := Blks.hd (Blks.tl HK.out)
  have y0 := hg.c 0 rfl
  have y1 := hg.c 1 rfl
  have y2 := hg.c 2 rfl
  have y3 := hg.c 3 rfl
  have y4 := hg.c 4 rfl
  clear hg
  go_wp2_with fail
  clear y0 y1 y2 y3 y4
  refine (refCopy_any t w2 _ _ HVa.out (Zone.lt _ _) (Nat.le_trans HKt.out (by omega))).mono ?_
  rintro e w3 ⟨v', rfl, hv, hb⟩
  obtain ⟨kp, bp, xp, Ap, np, cp, Bp, mp, dp, rfl⟩ := VAL.shape hv
  have HVp := Lib.hid (VLV.old (z := zNew 0) (VAL.mono (fun b hq => ⟨Nat.zero_le _, hq.2⟩) hv))
  clear hv
  replace HVa := Lib.hid (HVa.out.up hb)
  replace HM := Lib.hid (HM.out.on hb)
  replace HK := Lib.hid (HK.out.on hb)
  replace HB := Lib.hid (HB.out.trans (hb.mono HB.out.size))
  clear hb
  go_upto_region 4 with (fail)
  have HGg3 := Lib.hid ((Blks.hd HK.out).lt)
  have hb : Below w3.heap.size w3 (w3.alloc (.cells #[.int .i64 kp, .bool bp, .string xp, .slice Ap np cp, .slice Bp mp dp] 25)) := made_end' w3 _
  replace HVa := Lib.hid (HVa.out.up hb)
  replace HM := Lib.hid (HM.out.on hb)
  replace HVp := Lib.hid (HVp.out.up hb)
  replace HK := Lib.hid (HK.out.on hb)
  replace HB := Lib.hid (HB.out.trans (hb.mono HB.out.size))
  have hX0 : BK (w3.alloc (.cells #[.int .i64 kp, .bool bp, .string xp, .slice Ap np cp, .slice Bp mp dp] 25)) (w3.heap.size) 25 #[.int .i64 kp, .bool bp, .string xp, .slice Ap np cp, .slice Bp mp dp] := BK.new w3 _ _
  replace HK := Lib.hid (Blks.cons hX0 HK.out)
  clear hb hX0
  generalize (w3.alloc (.cells #[.int .i64 kp, .bool bp, .string xp, .slice Ap np cp, .slice Bp mp dp] 25)) = w4 at *
  generalize w3.heap.size = g3 at *
  replace HVp := Lib.hid HVp.out.old
  obtain ⟨N0, HN0⟩ : ∃ n, Hid (w4.heap.size = n) := ⟨_, Lib.hid rfl⟩
  have HNN := HN0.out
  rw [HNN] at HVp
  clear HNN
  have HL0 : Hid (∀ x ∈ ([⟨g3, 25, #[.int .i64 kp, .bool bp, .string xp, .slice Ap np cp, .slice Bp mp dp]⟩, ⟨w.heap.size + 1, 25, #[.int .i64 ka, .bool ba, .string xa, .slice Aa na ca, .slice Ba ma da]⟩, ⟨w.heap.size, 25, #[.int .i64 ka, .bool ba, .string xa, .slice Aa na ca, .slice Ba ma da]⟩] : List Blk), x.g < N0) := Lib.hid (by rw [← HN0.out]; exact Blks.lts HK.out)
  have HWN : Hid (w.heap.size ≤ N0) := Lib.hid (by rw [← HN0.out]; exact HB.out.size)
  have hg := Blks.hd HK.out
  have y0 := hg.c 0 rfl
  have y1 := hg.c 1 rfl
  have y2 := hg.c 2 rfl
  have y3 := hg.c 3 rfl
  have y4 := hg.c 4 rfl
  clear hg
  go_wp2_with fail
  clear y0 y1 y2 y3 y4
  refine (HPA.out w4 _ _ HVp.out HM.out).mono ?_
  rintro e w5 ⟨v', rfl, hm, hb⟩
  rw [HN0.out] at hm
  have HMX := Lib.hid hm
  obtain ⟨iX0, iX1, iX2, iX3, iX4, pX0, pX1, pX2, pX3, pX4, rX0, rX1, rX2, rX3, rX4, he, q1, q2, q3⟩ := hm
  subst he
  obtain ⟨kXi, bXi, xXi, AXi, nXi, cXi, BXi, mXi, dXi, rfl, rfl, rfl, rfl, rfl⟩ := VAL.shape5 q1.1
  obtain ⟨kXp, bXp, xXp, AXp, nXp, cXp, BXp, mXp, dXp, rfl, rfl, rfl, rfl, rfl⟩ := VAL.shape5 q2.1
  obtain ⟨kXr, bXr, xXr, AXr, nXr, cXr, BXr, mXr, dXr, rfl, rfl, rfl, rfl, rfl⟩ := VAL.shape5 q3.1
  have HR := Lib.hid q2.wrow
  have HRn : Hid (nXp ≤ 1073741824) := Lib.hid (by have h1 := q2.wlen; have h2 := HBK.out; unfold MT.bulk at h2; omega)
  have HS := Lib.hid q3.wrow
  have HSn : Hid (nXr ≤ 1073741824) := Lib.hid (by have h1 := q3.wlen; have h2 := HBK.out; unfold MT.bulk at h2; omega)
  clear q1 q2 q3
  replace HVa := Lib.hid (HVa.out.up hb)
  replace HM := Lib.hid (HM.out.on hb)
  replace HVp := Lib.hid (HVp.out.up hb)
  replace HK := Lib.hid (HK.out.on hb)
  replace HB := Lib.hid (HB.out.trans (hb.mono HB.out.size))
  have HO4 : Hid (N0 ≤ w5.heap.size) := Lib.hid (by have := HN0.out; have := hb.size; omega)
  clear hb
  go_wp2_with (
    refine store1 rfl rfl 46 (.tmp 4) (.tmp 19) rfl rfl #[.int .i64 mA.kind, .int .i64 kXi, .bool bXi, .string xXi, .slice AXi nXi cXi, .slice BXi mXi dXi, .string mA.method, .bool mA.has, .int .i64 kXp, .bool bXp, .string xXp, .slice AXp nXp cXp, .slice BXp mXp dXp, .int .i64 kXr, .bool bXr, .string xXr, .slice AXr nXr cXr, .slice BXr mXr dXr, .int .i64 mA.code, .string mA.text] rfl (by kernel_rfl) rfl (by simp [Value.oneCell']) ?_
    intro w6 hX hb hz
    replace HR := Lib.hid (HR.out.on hb (Nat.le_refl _))
    replace HS := Lib.hid (HS.out.on hb (Nat.le_refl _))
    replace HVa := Lib.hid (HVa.out.up hb)
    replace HM := Lib.hid (HM.out.on hb)
    replace HVp := Lib.hid (HVp.out.up hb)
    replace HMX := Lib.hid (HMX.out.up hb)
    replace HK := Lib.hid (HK.out.on hb)
    replace HB := Lib.hid (HB.out.trans (hb.mono HB.out.size))
    replace HK := Lib.hid (Blks.cons hX HK.out)
    have HG4 := Lib.hid (Nat.le_of_succ_le hz)
    clear hX hb hz
    generalize w5.heap.size = g4 at *
    have hg := Blks.hd (Blks.tl (Blks.tl (Blks.tl HK.out)))
    have y0 := hg.c 0 rfl
    have y1 := hg.c 1 rfl
    have y2 := hg.c 2 rfl
    have y3 := hg.c 3 rfl
    have y4 := hg.c 4 rfl
    clear hg)
  clear y0 y1 y2 y3 y4
  have HO46 : Hid (g4 < w6.heap.size) := Lib.hid (Blks.hd HK.out).lt
  refine (HPB.out w6 _ _ HVa.out).mono ?_
  rintro e w7 ⟨v', rfl, hm, hb⟩
  have HMY := Lib.hid hm
  obtain ⟨iY0, iY1, iY2, iY3, iY4, pY0, pY1, pY2, pY3, pY4, rY0, rY1, rY2, rY3, rY4, he, q1, q2, q3⟩ := hm
  subst he
  obtain ⟨kYi, bYi, xYi, AYi, nYi, cYi, BYi, mYi, dYi, rfl, rfl, rfl, rfl, rfl⟩ := VAL.shape5 q1
  obtain ⟨kYp, bYp, xYp, AYp, nYp, cYp, BYp, mYp, dYp, rfl, rfl, rfl, rfl, rfl⟩ := VAL.shape5 q2
  obtain ⟨kYr, bYr, xYr, AYr, nYr, cYr, BYr, mYr, dYr, rfl, rfl, rfl, rfl, rfl⟩ := VAL.shape5 q3
  clear q1 q2 q3
  replace HVa := Lib.hid (HVa.out.up hb)
  replace HM := Lib.hid (HM.out.on hb)
  replace HVp := Lib.hid (HVp.out.up hb)
  replace HMX := Lib.hid (HMX.out.up hb)
  replace HR := Lib.hid (HR.out.on hb HG4.out)
  replace HS := Lib.hid (HS.out.on hb HG4.out)
  replace HG4 := Lib.hid (Nat.le_trans HG4.out hb.size)
  replace HO46 := Lib.hid (Nat.lt_of_lt_of_le HO46.out hb.size)
  replace HK := Lib.hid (HK.out.on hb)
  replace HB := Lib.hid (HB.out.trans (hb.mono HB.out.size))
  clear hb
  have hee : (ee != ee) = false := by simp
  go_wp2_with (first
    | (refine store1 rfl rfl 46 (.tmp 6) (.tmp 24) rfl rfl #[.int .i64 mA.kind, .int .i64 kYi, .bool bYi, .string xYi, .slice AYi nYi cYi, .slice BYi mYi dYi, .string mA.method, .bool mA.has, .int .i64 kYp, .bool bYp, .string xYp, .slice AYp nYp cYp, .slice BYp mYp dYp, .int .i64 kYr, .bool bYr, .string xYr, .slice AYr nYr cYr, .slice BYr mYr dYr, .int .i64 mA.code, .string mA.text] rfl (by kernel_rfl) rfl (by simp [Value.oneCell']) ?_
       intro w8 hX hb hz
       have HG46 : Hid (g4 < _) := HO46
       replace HVa := Lib.hid (HVa.out.up hb)
       replace HM := Lib.hid (HM.out.on hb)
       replace HVp := Lib.hid (HVp.out.up hb)
       replace HMX := Lib.hid (HMX.out.up hb)
       replace HR := Lib.hid (HR.out.on hb HG4.out)
       replace HS := Lib.hid (HS.out.on hb HG4.out)
       replace HG4 := Lib.hid (Nat.le_trans HG4.out hb.size)
       replace HO46 := Lib.hid (Nat.lt_of_lt_of_le HO46.out hb.size)
       replace HMY := Lib.hid (HMY.out.up hb)
       replace HK := Lib.hid (HK.out.on hb)
       replace HB := Lib.hid (HB.out.trans (hb.mono HB.out.size))
       replace HK := Lib.hid (Blks.cons hX HK.out)
       clear hX hb hz
       generalize w7.heap.size = g6 at *)
    | (refine load_blk (by rfl) 46 (.tmp 4) rfl g4 rfl (Blks.hd (Blks.tl HK.out)) _ Tryz.underlying46 rfl (by kernel_rfl) ?_)
    | (refine load_blk (by rfl) 46 (.tmp 6) rfl g6 rfl (Blks.hd HK.out) _ Tryz.underlying46 rfl (by kernel_rfl) ?_))
  clear hee
  refine (SameM_same mA _ _ _ _ w8 HMX.out.any HMY.out HBK.out).mono ?_
  rintro e w9 ⟨rfl, hb⟩
  replace HVa := Lib.hid (HVa.out.up hb)
  replace HM := Lib.hid (HM.out.on hb)
  replace HVp := Lib.hid (HVp.out.up hb)
  replace HMX := Lib.hid (HMX.out.up hb)
  replace HR := Lib.hid (HR.out.on hb HG4.out)
  replace HS := Lib.hid (HS.out.on hb HG4.out)
  replace HG4 := Lib.hid (Nat.le_trans HG4.out hb.size)
  replace HMY := Lib.hid (HMY.out.up hb)
  replace HK := Lib.hid (HK.out.on hb)
  replace HB := Lib.hid (HB.out.trans (hb.mono HB.out.size))
  clear hb
  clear HMX HMY
  have hg := Blks.hd (Blks.tl (Blks.tl HK.out))
  have c0 := hg.c 0 rfl
  have c1 := hg.c 1 rfl
  have c2 := hg.c 2 rfl
  have c3 := hg.c 3 rfl
  have c4 := hg.c 4 rfl
  clear hg
  have hg := Blks.hd (Blks.tl (Blks.tl (Blks.tl (Blks.tl HK.out))))
  have u0 := hg.c 0 rfl
  have u1 := hg.c 1 rfl
  have u2 := hg.c 2 rfl
  have u3 := hg.c 3 rfl
  have u4 := hg.c 4 rfl
  clear hg
  go_wp2_with fail
  clear c0 c1 c2 c3 c4 u0 u1 u2 u3 u4
  have hE := refEqual_any t t w9 _ _ _ _ HVp.out HVa.out (Zone.lt _ _) (Zone.lt _ _) (by have := HKt.out; omega) (by have := HKt.out; omega)
  rw [VT.eqv_refl] at hE
  refine hE.mono ?_
  clear hE
  rintro e w10 ⟨rfl, hb⟩
  replace HVa := Lib.hid (HVa.out.up hb)
  replace HM := Lib.hid (HM.out.on hb)
  replace HVp := Lib.hid (HVp.out.up hb)
  replace HR := Lib.hid (HR.out.on hb HG4.out)
  replace HS := Lib.hid (HS.out.on hb HG4.out)
  replace HG4 := Lib.hid (Nat.le_trans HG4.out hb.size)
  replace HK := Lib.hid (HK.out.on hb)
  replace HB := Lib.hid (HB.out.trans (hb.mono HB.out.size))
  clear hb
  go_wp2_with fail
  have HLX : Hid (∀ b, N0 ≤ b → b < g4 → ∀ x ∈ ([⟨g6, 46, #[.int .i64 mA.kind, .int .i64 kYi, .bool bYi, .string xYi, .slice AYi nYi cYi, .slice BYi mYi dYi, .string mA.method, .bool mA.has, .int .i64 kYp, .bool bYp, .string xYp, .slice AYp nYp cYp, .slice BYp mYp dYp, .int .i64 kYr, .bool bYr, .string xYr, .slice AYr nYr cYr, .slice BYr mYr dYr, .int .i64 mA.code, .string mA.text]⟩, ⟨g4, 46, #[.int .i64 mA.kind, .int .i64 kXi, .bool bXi, .string xXi, .slice AXi nXi cXi, .slice BXi mXi dXi, .string mA.method, .bool mA.has, .int .i64 kXp, .bool bXp, .string xXp, .slice AXp nXp cXp, .slice BXp mXp dXp, .int .i64 kXr, .bool bXr, .string xXr, .slice AXr nXr cXr, .slice BXr mXr dXr, .int .i64 mA.code, .string mA.text]⟩, ⟨g3, 25, #[.int .i64 kp, .bool bp, .string xp, .slice Ap np cp, .slice Bp mp dp]⟩, ⟨w.heap.size + 1, 25, #[.int .i64 ka, .bool ba, .string xa, .slice Aa na ca, .slice Ba ma da]⟩, ⟨w.heap.size, 25, #[.int .i64 ka, .bool ba, .string xa, .slice Aa na ca, .slice Ba ma da]⟩] : List Blk), x.g ≠ b) := Lib.hid (fun b h1 h2 x hx => by
    have h3 := HG46.out
    rcases List.mem_cons.1 hx with rfl | hx
    · show g6 ≠ b; omega
    rcases List.mem_cons.1 hx with rfl | hx
    · show g4 ≠ b; omega
    have := HL0.out x hx; omega)
  have HRST : Hid (Rest w N0 t t (.agg #[.int .i64 ka, .bool ba, .string xa, .slice Aa na ca, .slice Ba ma da]) (.agg #[.int .i64 ka, .bool ba, .string xa, .slice Aa na ca, .slice Ba ma da]) (.agg #[.int .i64 kp, .bool bp, .string xp, .slice Ap np cp, .slice Bp mp dp]) (.agg #[.int .i64 kp, .bool bp, .string xp, .slice Ap np cp, .slice Bp mp dp]) ([⟨g6, 46, #[.int .i64 mA.kind, .int .i64 kYi, .bool bYi, .string xYi, .slice AYi nYi cYi, .slice BYi mYi dYi, .string mA.method, .bool mA.has, .int .i64 kYp, .bool bYp, .string xYp, .slice AYp nYp cYp, .slice BYp mYp dYp, .int .i64 kYr, .bool bYr, .string xYr, .slice AYr nYr cYr, .slice BYr mYr dYr, .int .i64 mA.code, .string mA.text]⟩, ⟨g4, 46, #[.int .i64 mA.kind, .int .i64 kXi, .bool bXi, .string xXi, .slice AXi nXi cXi, .slice BXi mXi dXi, .string mA.method, .bool mA.has, .int .i64 kXp, .bool bXp, .string xXp, .slice AXp nXp cXp, .slice BXp mXp dXp, .int .i64 kXr, .bool bXr, .string xXr, .slice AXr nXr cXr, .slice BXr mXr dXr, .int .i64 mA.code, .string mA.text]⟩, ⟨g3, 25, #[.int .i64 kp, .bool bp, .string xp, .slice Ap np cp, .slice Bp mp dp]⟩, ⟨w.heap.size + 1, 25, #[.int .i64 ka, .bool ba, .string xa, .slice Aa na ca, .slice Ba ma da]⟩, ⟨w.heap.size, 25, #[.int .i64 ka, .bool ba, .string xa, .slice Aa na ca, .slice Ba ma da]⟩] : List Blk) w10) := Lib.hid ⟨HB.out, HM.out, HVa.out, HVa.out, HVp.out, HVp.out, HK.out⟩
  clear HB HM HVa HVp HK
  have hn : nXp ≤ 1073741824 := HRn.out
  go_loopg [8] nXp (fun q v wr => ∃ p : Nat, p + q = nXp ∧ v = .int .i64 p ∧ Rest w N0 t t (.agg #[.int .i64 ka, .bool ba, .string xa, .slice Aa na ca, .slice Ba ma da]) (.agg #[.int .i64 ka, .bool ba, .string xa, .slice Aa na ca, .slice Ba ma da]) (.agg #[.int .i64 kp, .bool bp, .string xp, .slice Ap np cp, .slice Bp mp dp]) (.agg #[.int .i64 kp, .bool bp, .string xp, .slice Ap np cp, .slice Bp mp dp]) ([⟨g6, 46, #[.int .i64 mA.kind, .int .i64 kYi, .bool bYi, .string xYi, .slice AYi nYi cYi, .slice BYi mYi dYi, .string mA.method, .bool mA.has, .int .i64 kYp, .bool bYp, .string xYp, .slice AYp nYp cYp, .slice BYp mYp dYp, .int .i64 kYr, .bool bYr, .string xYr, .slice AYr nYr cYr, .slice BYr mYr dYr, .int .i64 mA.code, .string mA.text]⟩, ⟨g4, 46, #[.int .i64 mA.kind, .int .i64 kXi, .bool bXi, .string xXi, .slice AXi nXi cXi, .slice BXi mXi dXi, .string mA.method, .bool mA.has, .int .i64 kXp, .bool bXp, .string xXp, .slice AXp nXp cXp, .slice BXp mXp dXp, .int .i64 kXr, .bool bXr, .string xXr, .slice AXr nXr cXr, .slice BXr mXr dXr, .int .i64 mA.code, .string mA.text]⟩, ⟨g3, 25, #[.int .i64 kp, .bool bp, .string xp, .slice Ap np cp, .slice Bp mp dp]⟩, ⟨w.heap.size + 1, 25, #[.int .i64 ka, .bool ba, .string xa, .slice Aa na ca, .slice Ba ma da]⟩, ⟨w.heap.size, 25, #[.int .i64 ka, .bool ba, .string xa, .slice Aa na ca, .slice Ba ma da]⟩] : List Blk) wr ∧ WRow N0 g4 AXp nXp wr ∧ WRow N0 g4 AXr nXr wr)
  case atStart => exact ⟨0, by omega, rfl, HRST.out, HR.out, HS.out⟩
  case round =>
    clear HRST HR HS
    obtain ⟨p, hp, rfl, hR, hA, hC⟩ := hrel
    have HP := Lib.hid hp
    have HRST := Lib.hid hR
    have HR := Lib.hid hA
    have HS := Lib.hid hC
    clear hp hR hA hC
    have hg := Blks.hd (Blks.tl HRST.out.2.2.2.2.2.2)
    have y11 := hg.c 11 rfl
    clear hg
    by_cases hlt : p < nXp
    · rcases HR.out with h0 | ⟨b, off, rfl, h1, h2, h3, h4⟩
      · omega
      obtain ⟨x0, hc⟩ := h3 p hlt
      have hf := h4 (off + p * 5)
      have H1 := Lib.hid h1
      have H2 := Lib.hid h2
      clear h1 h2 h3 h4
      go_wp2
      go_roundg (gk - 1)
      case measure => have := HP.out; omega
      case rel => exact ⟨p + 1, by have := HP.out; omega, by go_num, (HRST.out.but HM0.out (set_but _ b _ _) HWN.out H1.out (HLX.out b H1.out H2.out)), HR.out.set _ _, HS.out.set _ _⟩
    · have h1 : decide (p < nXp) = false := by simp; omega
      go_wp2_with fail
      clear h1 hlt hn y11 HP
      have hn : nXr ≤ 1073741824 := HSn.out
      go_loopg [9] nXr (fun q v wr => ∃ p : Nat, p + q = nXr ∧ v = .int .i64 p ∧ Rest w N0 t t (.agg #[.int .i64 ka, .bool ba, .string xa, .slice Aa na ca, .slice Ba ma da]) (.agg #[.int .i64 ka, .bool ba, .string xa, .slice Aa na ca, .slice Ba ma da]) (.agg #[.int .i64 kp, .bool bp, .string xp, .slice Ap np cp, .slice Bp mp dp]) (.agg #[.int .i64 kp, .bool bp, .string xp, .slice Ap np cp, .slice Bp mp dp]) ([⟨g6, 46, #[.int .i64 mA.kind, .int .i64 kYi, .bool bYi, .string xYi, .slice AYi nYi cYi, .slice BYi mYi dYi, .string mA.method, .bool mA.has, .int .i64 kYp, .bool bYp, .string xYp, .slice AYp nYp cYp, .slice BYp mYp dYp, .int .i64 kYr, .bool bYr, .string xYr, .slice AYr nYr cYr, .slice BYr mYr dYr, .int .i64 mA.code, .string mA.text]⟩, ⟨g4, 46, #[.int .i64 mA.kind, .int .i64 kXi, .bool bXi, .string xXi, .slice AXi nXi cXi, .slice BXi mXi dXi, .string mA.method, .bool mA.has, .int .i64 kXp, .bool bXp, .string xXp, .slice AXp nXp cXp, .slice BXp mXp dXp, .int .i64 kXr, .bool bXr, .string xXr, .slice AXr nXr cXr, .slice BXr mXr dXr, .int .i64 mA.code, .string mA.text]⟩, ⟨g3, 25, #[.int .i64 kp, .bool bp, .string xp, .slice Ap np cp, .slice Bp mp dp]⟩, ⟨w.heap.size + 1, 25, #[.int .i64 ka, .bool ba, .string xa, .slice Aa na ca, .slice Ba ma da]⟩, ⟨w.heap.size, 25, #[.int .i64 ka, .bool ba, .string xa, .slice Aa na ca, .slice Ba ma da]⟩] : List Blk) wr ∧ WRow N0 g4 AXp nXp wr ∧ WRow N0 g4 AXr nXr wr)
      case atStart => exact ⟨0, by omega, rfl, HRST.out, HR.out, HS.out⟩
      case round =>
        clear HRST HR HS
        obtain ⟨p, hp, rfl, hR, hA, hC⟩ := hrel
        have HP := Lib.hid hp
        have HRST := Lib.hid hR
        have HR := Lib.hid hA
        have HS := Lib.hid hC
        clear hp hR hA hC
        have hg := Blks.hd (Blks.tl HRST.out.2.2.2.2.2.2)
        have y16 := hg.c 16 rfl
        clear hg
        by_cases hlt : p < nXr
        · rcases HS.out with h0 | ⟨b, off, rfl, h1, h2, h3, h4⟩
          · omega
          obtain ⟨x0, hc⟩ := h3 p hlt
          have hf := h4 (off + p * 5)
          have H1 := Lib.hid h1
          have H2 := Lib.hid h2
          clear h1 h2 h3 h4
          go_wp2
          go_roundg (gk - 1)
          case measure => have := HP.out; omega
          case rel => exact ⟨p + 1, by have := HP.out; omega, by go_num, (HRST.out.but HM0.out (set_but _ b _ _) HWN.out H1.out (HLX.out b H1.out H2.out)), HR.out.set _ _, HS.out.set _ _⟩
        · have h1 : decide (p < nXr) = false := by simp; omega
          obtain ⟨hB, hM, hVa, -, hVp, -, hK⟩ := HRST.out
          have HB := Lib.hid hB
          have HM := Lib.hid hM
          have HVa := Lib.hid hVa
          have HVp := Lib.hid hVp
          have HK := Lib.hid hK
          clear hB hM hVa hVp hK HRST HR HS
          have hg := Blks.hd (Blks.tl (Blks.tl HK.out))
          have c0 := hg.c 0 rfl
          have c1 := hg.c 1 rfl
          have c2 := hg.c 2 rfl
          have c3 := hg.c 3 rfl
          have c4 := hg.c 4 rfl
          clear hg
          have hg := Blks.hd (Blks.tl (Blks.tl (Blks.tl (Blks.tl HK.out))))
          have u0 := hg.c 0 rfl
          have u1 := hg.c 1 rfl
          have u2 := hg.c 2 rfl
          have u3 := hg.c 3 rfl
          have u4 := hg.c 4 rfl
          clear hg
          go_wp2_with fail
          clear h1 hlt hn y16 HP c0 c1 c2 c3 c4 u0 u1 u2 u3 u4
          have hE := refEqual_any t t wr _ _ _ _ HVp.out HVa.out (Zone.lt _ _) (Zone.lt _ _) (by have := HKt.out; omega) (by have := HKt.out; omega)
          rw [VT.eqv_refl] at hE
          refine hE.mono ?_
          clear hE
          rintro e w11 ⟨rfl, hb⟩
          replace HVa := Lib.hid (HVa.out.up hb)
          replace HVp := Lib.hid (HVp.out.up hb)
          replace HM := Lib.hid (HM.out.on hb)
          replace HK := Lib.hid (HK.out.on hb)
          replace HB := Lib.hid (HB.out.trans (hb.mono HB.out.size))
          clear hb
          go_wp2_with fail
          refine (awake12_any w11 HM.out).mono ?_
          rintro e w12 ⟨rfl, hb⟩
          replace HVa := Lib.hid (HVa.out.up hb)
          replace HVp := Lib.hid (HVp.out.up hb)
          replace HM := Lib.hid (HM.out.on hb)
          replace HK := Lib.hid (HK.out.on hb)
          replace HB := Lib.hid (HB.out.trans (hb.mono HB.out.size))
          clear hb
          go_wp2
          go_ret
          exact ⟨rfl, HB.out⟩
end Go.Proofs.YtfploakafbnigaaGreatDoor
