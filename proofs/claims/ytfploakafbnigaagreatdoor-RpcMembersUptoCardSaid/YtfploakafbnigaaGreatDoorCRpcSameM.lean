/-
  Layer 12, the walks: the document's SameMessages, the program's same.
-/
import Derived.Test.YtfploakafbnigaaGreatDoorCRpcMake
namespace Go.Proofs.YtfploakafbnigaaGreatDoor
open Go.RowKit Val Num YtfploakafbnigaaGreatDoorW.PrintLast
set_option linter.unusedVariables false
set_option linter.unusedSimpArgs false
theorem str_dec (x y : ByteArray) : decide (x = y) = (x.toList == y.toList) := by
  by_cases h : x = y
  · subst h; simp
  · rw [decide_eq_false h]
    obtain ⟨e1, e2⟩ := str_ne h
    rw [e1]
theorem bool_dec (x y : Bool) : decide (x = y) = (x == y) := by cases x <;> cases y <;> rfl
theorem bneB_t {a b : Bool} (h : ¬ a = b) : (a != b) = true := by rw [bne_iff_ne]; exact h
theorem beqB_f {a b : Bool} (h : ¬ a = b) : (a == b) = false := by rw [beq_eq_false_iff_ne]; exact h
theorem eqv_all (a b : MT) : a.eqv b = ((a.kind == b.kind) && a.id.eqv b.id && (a.method.toList == b.method.toList) && (a.has == b.has) && a.params.eqv b.params && a.result.eqv b.result && (a.code == b.code) && (a.text.toList == b.text.toList)) := by
  unfold MT.eqv
  rw [str_dec, str_dec, bool_dec]
  rfl
set_option maxRecDepth 100000 in
set_option maxHeartbeats 8000000 in
theorem SameM_any (a b : MT) (z z' : Zone) (v v' : Value) (w : World) (h : MSV z a w v) (h' : MSV z' b w v') (hk : a.bulk ≤ 1073741824) (hk' : b.bulk ≤ 1073741824) : Calls Tryz.prog 35 #[v, v'] w (Made (.bool (a.eqv b)) w) := by
  have HE := Lib.hid (eqv_all a b)
  generalize a.eqv b = R at *
  obtain ⟨ka, ia, ma, sa, pa, ra, ca, ta⟩ := a
  obtain ⟨kb, ib, mb, sb, pb, rb, cb, tb⟩ := b
  obtain ⟨ia0, ia1, ia2, ia3, ia4, pa0, pa1, pa2, pa3, pa4, ra0, ra1, ra2, ra3, ra4, rfl, a1, a2, a3⟩ := h
  obtain ⟨kai, bai, xai, Aai, nai, cai, Bai, mai, dai, rfl, rfl, rfl, rfl, rfl⟩ := VAL.shape5 a1
  obtain ⟨kap, bap, xap, Aap, nap, cap, Bap, map, dap, rfl, rfl, rfl, rfl, rfl⟩ := VAL.shape5 a2
  obtain ⟨kar, bar, xar, Aar, nar, car, Bar, mar, dar, rfl, rfl, rfl, rfl, rfl⟩ := VAL.shape5 a3
  obtain ⟨ib0, ib1, ib2, ib3, ib4, pb0, pb1, pb2, pb3, pb4, rb0, rb1, rb2, rb3, rb4, rfl, b1, b2, b3⟩ := h'
  obtain ⟨kbi, bbi, xbi, Abi, nbi, cbi, Bbi, mbi, dbi, rfl, rfl, rfl, rfl, rfl⟩ := VAL.shape5 b1
  obtain ⟨kbp, bbp, xbp, Abp, nbp, cbp, Bbp, mbp, dbp, rfl, rfl, rfl, rfl, rfl⟩ := VAL.shape5 b2
  obtain ⟨kbr, bbr, xbr, Abr, nbr, cbr, Bbr, mbr, dbr, rfl, rfl, rfl, rfl, rfl⟩ := VAL.shape5 b3
  unfold MT.bulk at hk hk'
  dsimp only at HE hk hk' a1 a2 a3 b1 b2 b3 ⊢
  have HI := Lib.hid (fun W (hb : Below w.heap.size w W) => refEqual_any ia ib W _ _ _ _ (VLV.up a1 hb) (VLV.up b1 hb) (Zone.lt _ _) (Zone.lt _ _) (by omega) (by omega))
  have HP := Lib.hid (fun W (hb : Below w.heap.size w W) => refEqual_any pa pb W _ _ _ _ (VLV.up a2 hb) (VLV.up b2 hb) (Zone.lt _ _) (Zone.lt _ _) (by omega) (by omega))
  have HR := Lib.hid (fun W (hb : Below w.heap.size w W) => refEqual_any ra rb W _ _ _ _ (VLV.up a3 hb) (VLV.up b3 hb) (Zone.lt _ _) (Zone.lt _ _) (by omega) (by omega))
  clear a1 a2 a3 b1 b2 b3 hk hk'
  have HB := Lib.hid (Below.refl w.heap.size w)
  generalize ia.eqv ib = qI at *
  generalize pa.eqv pb = qP at *
  generalize ra.eqv rb = qR at *
  go_enter Tryz.func35, Tryz.ntmps35
  go_upto_region 1 with (fail)
  have hb : Below w.heap.size w (((w.alloc (.cells #[.int .i64 ka, .int .i64 kai, .bool bai, .string xai, .slice Aai nai cai, .slice Bai mai dai, .string ma, .bool sa, .int .i64 kap, .bool bap, .string xap, .slice Aap nap cap, .slice Bap map dap, .int .i64 kar, .bool bar, .string xar, .slice Aar nar car, .slice Bar mar dar, .int .i64 ca, .string ta] 46))).alloc (.cells #[.int .i64 kb, .int .i64 kbi, .bool bbi, .string xbi, .slice Abi nbi cbi, .slice Bbi mbi dbi, .string mb, .bool sb, .int .i64 kbp, .bool bbp, .string xbp, .slice Abp nbp cbp, .slice Bbp mbp dbp, .int .i64 kbr, .bool bbr, .string xbr, .slice Abr nbr cbr, .slice Bbr mbr dbr, .int .i64 cb, .string tb] 46)) := al2_below w _ _
  replace HB := Lib.hid (HB.out.trans (hb.mono HB.out.size))
  have hX0 : BK (((w.alloc (.cells #[.int .i64 ka, .int .i64 kai, .bool bai, .string xai, .slice Aai nai cai, .slice Bai mai dai, .string ma, .bool sa, .int .i64 kap, .bool bap, .string xap, .slice Aap nap cap, .slice Bap map dap, .int .i64 kar, .bool bar, .string xar, .slice Aar nar car, .slice Bar mar dar, .int .i64 ca, .string ta] 46))).alloc (.cells #[.int .i64 kb, .int .i64 kbi, .bool bbi, .string xbi, .slice Abi nbi cbi, .slice Bbi mbi dbi, .string mb, .bool sb, .int .i64 kbp, .bool bbp, .string xbp, .slice Abp nbp cbp, .slice Bbp mbp dbp, .int .i64 kbr, .bool bbr, .string xbr, .slice Abr nbr cbr, .slice Bbr mbr dbr, .int .i64 cb, .string tb] 46)) (w.heap.size) 46 #[.int .i64 ka, .int .i64 kai, .bool bai, .string xai, .slice Aai nai cai, .slice Bai mai dai, .string ma, .bool sa, .int .i64 kap, .bool bap, .string xap, .slice Aap nap cap, .slice Bap map dap, .int .i64 kar, .bool bar, .string xar, .slice Aar nar car, .slice Bar mar dar, .int .i64 ca, .string ta] := al2_0 w _ _
  have HK := Lib.hid (Blks.one hX0)
  have hX1 : BK (((w.alloc (.cells #[.int .i64 ka, .int .i64 kai, .bool bai, .string xai, .slice Aai nai cai, .slice Bai mai dai, .string ma, .bool sa, .int .i64 kap, .bool bap, .string xap, .slice Aap nap cap, .slice Bap map dap, .int .i64 kar, .bool bar, .string xar, .slice Aar nar car, .slice Bar mar dar, .int .i64 ca, .string ta] 46))).alloc (.cells #[.int .i64 kb, .int .i64 kbi, .bool bbi, .string xbi, .slice Abi nbi cbi, .slice Bbi mbi dbi, .string mb, .bool sb, .int .i64 kbp, .bool bbp, .string xbp, .slice Abp nbp cbp, .slice Bbp mbp dbp, .int .i64 kbr, .bool bbr, .string xbr, .slice Abr nbr cbr, .slice Bbr mbr dbr, .int .i64 cb, .string tb] 46)) (w.heap.size + 1) 46 #[.int .i64 kb, .int .i64 kbi, .bool bbi, .string xbi, .slice Abi nbi cbi, .slice Bbi mbi dbi, .string mb, .bool sb, .int .i64 kbp, .bool bbp, .string xbp, .slice Abp nbp cbp, .slice Bbp mbp dbp, .int .i64 kbr, .bool bbr, .string xbr, .slice Abr nbr cbr, .slice Bbr mbr dbr, .int .i64 cb, .string tb] := al2_1 w _ _
  replace HK := Lib.hid (Blks.cons hX1 HK.out)
  clear hb hX0 hX1
  generalize (((w.alloc (.cells #[.int .i64 ka, .int .i64 kai, .bool bai, .string xai, .slice Aai nai cai, .slice Bai mai dai, .string ma, .bool sa, .int .i64 kap, .bool bap, .string xap, .slice Aap nap cap, .slice Bap map dap, .int .i64 kar, .bool bar, .string xar, .slice Aar nar car, .slice Bar mar dar, .int .i64 ca, .string ta] 46))).alloc (.cells #[.int .i64 kb, .int .i64 kbi, .bool bbi, .string xbi, .slice Abi nbi cbi, .slice Bbi mbi dbi, .string mb, .bool sb, .int .i64 kbp, .bool bbp, .string xbp, .slice Abp nbp cbp, .slice Bbp mbp dbp, .int .i64 kbr, .bool bbr, .string xbr, .slice Abr nbr cbr, .slice Bbr mbr dbr, .int .i64 cb, .string tb] 46)) = w1 at *
  have hg := Blks.hd (Blks.tl HK.out)
  have y0 := hg.c 0 rfl
  have y1 := hg.c 1 rfl
  have y2 := hg.c 2 rfl
  have y3 := hg.c 3 rfl
  have y4 := hg.c 4 rfl
  have y5 := hg.c 5 rfl
  have y6 := hg.c 6 rfl
  have y7 := hg.c 7 rfl
  have y8 := hg.c 8 rfl
  have y9 := hg.c 9 rfl
  have y10 := hg.c 10 rfl
  have y11 := hg.c 11 rfl
  have y12 := hg.c 12 rfl
  have y13 := hg.c 13 rfl
  have y14 := hg.c 14 rfl
  have y15 := hg.c 15 rfl
  have y16 := hg.c 16 rfl
  have y17 := hg.c 17 rfl
  have y18 := hg.c 18 rfl
  have y19 := hg.c 19 rfl
  clear hg
  have hg := Blks.hd HK.out
  have u0 := hg.c 0 rfl
  have u1 := hg.c 1 rfl
  have u2 := hg.c 2 rfl
  have u3 := hg.c 3 rfl
  have u4 := hg.c 4 rfl
  have u5 := hg.c 5 rfl
  have u6 := hg.c 6 rfl
  have u7 := hg.c 7 rfl
  have u8 := hg.c 8 rfl
  have u9 := hg.c 9 rfl
  have u10 := hg.c 10 rfl
  have u11 := hg.c 11 rfl
  have u12 := hg.c 12 rfl
  have u13 := hg.c 13 rfl
  have u14 := hg.c 14 rfl
  have u15 := hg.c 15 rfl
  have u16 := hg.c 16 rfl
  have u17 := hg.c 17 rfl
  have u18 := hg.c 18 rfl
  have u19 := hg.c 19 rfl
  clear hg
  by_cases qk : ¬ ka = kb
  · have e1 := bne_t qk
    have e2 := beq_f qk
    replace HE : Hid (R = false) := Lib.hid (by rw [HE.out, e2]; simp)
    clear qk
    go_wp2
    go_ret
    exact ⟨ret_bool' HE.out.symm, HB.out⟩
  replace qk := Classical.not_not.1 qk
  subst qk
  go_wp2_with fail
  clear y0 y1 y2 y3 y4 y5 y6 y7 y8 y9 y10 y11 y12 y13 y14 y15 y16 y17 y18 y19 u0 u1 u2 u3 u4 u5 u6 u7 u8 u9 u10 u11 u12 u13 u14 u15 u16 u17 u18 u19
  refine (HI.out w1 HB.out).mono ?_
  rintro e w2 ⟨rfl, hb⟩
  replace HK := Lib.hid (HK.out.on hb)
  replace HB := Lib.hid (HB.out.trans (hb.mono HB.out.size))
  clear hb
  have hg := Blks.hd (Blks.tl HK.out)
  have y0 := hg.c 0 rfl
  have y1 := hg.c 1 rfl
  have y2 := hg.c 2 rfl
  have y3 := hg.c 3 rfl
  have y4 := hg.c 4 rfl
  have y5 := hg.c 5 rfl
  have y6 := hg.c 6 rfl
  have y7 := hg.c 7 rfl
  have y8 := hg.c 8 rfl
  have y9 := hg.c 9 rfl
  have y10 := hg.c 10 rfl
  have y11 := hg.c 11 rfl
  have y12 := hg.c 12 rfl
  have y13 := hg.c 13 rfl
  have y14 := hg.c 14 rfl
  have y15 := hg.c 15 rfl
  have y16 := hg.c 16 rfl
  have y17 := hg.c 17 rfl
  have y18 := hg.c 18 rfl
  have y19 := hg.c 19 rfl
  clear hg
  have hg := Blks.hd HK.out
  have u0 := hg.c 0 rfl
  have u1 := hg.c 1 rfl
  have u2 := hg.c 2 rfl
  have u3 := hg.c 3 rfl
  have u4 := hg.c 4 rfl
  have u5 := hg.c 5 rfl
  have u6 := hg.c 6 rfl
  have u7 := hg.c 7 rfl
  have u8 := hg.c 8 rfl
  have u9 := hg.c 9 rfl
  have u10 := hg.c 10 rfl
  have u11 := hg.c 11 rfl
  have u12 := hg.c 12 rfl
  have u13 := hg.c 13 rfl
  have u14 := hg.c 14 rfl
  have u15 := hg.c 15 rfl
  have u16 := hg.c 16 rfl
  have u17 := hg.c 17 rfl
  have u18 := hg.c 18 rfl
  have u19 := hg.c 19 rfl
  clear hg
  cases qI
  · skip
    have HF : Hid (R = false) := Lib.hid (by rw [HE.out]; simp)
    go_wp2
    go_ret
    exact ⟨ret_bool' HF.out.symm, HB.out⟩
  by_cases qm : ¬ ma = mb
  · obtain ⟨e1, e2⟩ := str_ne qm
    replace HE : Hid (R = false) := Lib.hid (by rw [HE.out, e1]; simp)
    clear qm
    go_wp2
    go_ret
    exact ⟨ret_bool' HE.out.symm, HB.out⟩
  replace qm := Classical.not_not.1 qm
  subst qm
  by_cases qs : ¬ sa = sb
  · have e1 := bneB_t qs
    have e2 := beqB_f qs
    replace HE : Hid (R = false) := Lib.hid (by rw [HE.out, e2]; simp)
    clear qs
    go_wp2
    go_ret
    exact ⟨ret_bool' HE.out.symm, HB.out⟩
  replace qs := Classical.not_not.1 qs
  subst qs
  go_wp2_with fail
  clear y0 y1 y2 y3 y4 y5 y6 y7 y8 y9 y10 y11 y12 y13 y14 y15 y16 y17 y18 y19 u0 u1 u2 u3 u4 u5 u6 u7 u8 u9 u10 u11 u12 u13 u14 u15 u16 u17 u18 u19
  refine (HP.out w2 HB.out).mono ?_
  rintro e w3 ⟨rfl, hb⟩
  replace HK := Lib.hid (HK.out.on hb)
  replace HB := Lib.hid (HB.out.trans (hb.mono HB.out.size))
  clear hb
  have hg := Blks.hd (Blks.tl HK.out)
  have y0 := hg.c 0 rfl
  have y1 := hg.c 1 rfl
  have y2 := hg.c 2 rfl
  have y3 := hg.c 3 rfl
  have y4 := hg.c 4 rfl
  have y5 := hg.c 5 rfl
  have y6 := hg.c 6 rfl
  have y7 := hg.c 7 rfl
  have y8 := hg.c 8 rfl
  have y9 := hg.c 9 rfl
  have y10 := hg.c 10 rfl
  have y11 := hg.c 11 rfl
  have y12 := hg.c 12 rfl
  have y13 := hg.c 13 rfl
  have y14 := hg.c 14 rfl
  have y15 := hg.c 15 rfl
  have y16 := hg.c 16 rfl
  have y17 := hg.c 17 rfl
  have y18 := hg.c 18 rfl
  have y19 := hg.c 19 rfl
  clear hg
  have hg := Blks.hd HK.out
  have u0 := hg.c 0 rfl
  have u1 := hg.c 1 rfl
  have u2 := hg.c 2 rfl
  have u3 := hg.c 3 rfl
  have u4 := hg.c 4 rfl
  have u5 := hg.c 5 rfl
  have u6 := hg.c 6 rfl
  have u7 := hg.c 7 rfl
  have u8 := hg.c 8 rfl
  have u9 := hg.c 9 rfl
  have u10 := hg.c 10 rfl
  have u11 := hg.c 11 rfl
  have u12 := hg.c 12 rfl
  have u13 := hg.c 13 rfl
  have u14 := hg.c 14 rfl
  have u15 := hg.c 15 rfl
  have u16 := hg.c 16 rfl
  have u17 := hg.c 17 rfl
  have u18 := hg.c 18 rfl
  have u19 := hg.c 19 rfl
  clear hg
  cases qP
  · skip
    have HF : Hid (R = false) := Lib.hid (by rw [HE.out]; simp)
    go_wp2
    go_ret
    exact ⟨ret_bool' HF.out.symm, HB.out⟩
  go_wp2_with fail
  clear y0 y1 y2 y3 y4 y5 y6 y7 y8 y9 y10 y11 y12 y13 y14 y15 y16 y17 y18 y19 u0 u1 u2 u3 u4 u5 u6 u7 u8 u9 u10 u11 u12 u13 u14 u15 u16 u17 u18 u19
  refine (HR.out w3 HB.out).mono ?_
  rintro e w4 ⟨rfl, hb⟩
  replace HK := Lib.hid (HK.out.on hb)
  replace HB := Lib.hid (HB.out.trans (hb.mono HB.out.size))
  clear hb
  have hg := Blks.hd (Blks.tl HK.out)
  have y0 := hg.c 0 rfl
  have y1 := hg.c 1 rfl
  have y2 := hg.c 2 rfl
  have y3 := hg.c 3 rfl
  have y4 := hg.c 4 rfl
  have y5 := hg.c 5 rfl
  have y6 := hg.c 6 rfl
  have y7 := hg.c 7 rfl
  have y8 := hg.c 8 rfl
  have y9 := hg.c 9 rfl
  have y10 := hg.c 10 rfl
  have y11 := hg.c 11 rfl
  have y12 := hg.c 12 rfl
  have y13 := hg.c 13 rfl
  have y14 := hg.c 14 rfl
  have y15 := hg.c 15 rfl
  have y16 := hg.c 16 rfl
  have y17 := hg.c 17 rfl
  have y18 := hg.c 18 rfl
  have y19 := hg.c 19 rfl
  clear hg
  have hg := Blks.hd HK.out
  have u0 := hg.c 0 rfl
  have u1 := hg.c 1 rfl
  have u2 := hg.c 2 rfl
  have u3 := hg.c 3 rfl
  have u4 := hg.c 4 rfl
  have u5 := hg.c 5 rfl
  have u6 := hg.c 6 rfl
  have u7 := hg.c 7 rfl
  have u8 := hg.c 8 rfl
  have u9 := hg.c 9 rfl
  have u10 := hg.c 10 rfl
  have u11 := hg.c 11 rfl
  have u12 := hg.c 12 rfl
  have u13 := hg.c 13 rfl
  have u14 := hg.c 14 rfl
  have u15 := hg.c 15 rfl
  have u16 := hg.c 16 rfl
  have u17 := hg.c 17 rfl
  have u18 := hg.c 18 rfl
  have u19 := hg.c 19 rfl
  clear hg
  cases qR
  · skip
    have HF : Hid (R = false) := Lib.hid (by rw [HE.out]; simp)
    go_wp2
    go_ret
    exact ⟨ret_bool' HF.out.symm, HB.out⟩
  by_cases qc : ¬ ca = cb
  · have e1 := bne_t qc
    have e2 := beq_f qc
    replace HE : Hid (R = false) := Lib.hid (by rw [HE.out, e2]; simp)
    clear qc
    go_wp2
    go_ret
    exact ⟨ret_bool' HE.out.symm, HB.out⟩
  replace qc := Classical.not_not.1 qc
  subst qc
  by_cases qt : ¬ ta = tb
  · obtain ⟨e1, e2⟩ := str_ne qt
    replace HE : Hid (R = false) := Lib.hid (by rw [HE.out, e1]; simp)
    clear qt
    go_wp2
    go_ret
    exact ⟨ret_bool' HE.out.symm, HB.out⟩
  replace qt := Classical.not_not.1 qt
  subst qt
  have HF : Hid (R = true) := Lib.hid (by rw [HE.out]; simp)
  go_wp2
  go_ret
  exact ⟨ret_bool' HF.out.symm, HB.out⟩
set_option maxRecDepth 100000 in
set_option maxHeartbeats 8000000 in
theorem sameM_any (a b : MT) (z z' : Zone) (v v' : Value) (w : World) (h : MSV z a w v) (h' : MSV z' b w v') (hk : a.bulk ≤ 1073741824) (hk' : b.bulk ≤ 1073741824) : Calls Tryz.prog 179 #[v, v'] w (Made (.bool (a.eqv b)) w) := by
  have HE := Lib.hid (eqv_all a b)
  generalize a.eqv b = R at *
  obtain ⟨ka, ia, ma, sa, pa, ra, ca, ta⟩ := a
  obtain ⟨kb, ib, mb, sb, pb, rb, cb, tb⟩ := b
  obtain ⟨ia0, ia1, ia2, ia3, ia4, pa0, pa1, pa2, pa3, pa4, ra0, ra1, ra2, ra3, ra4, rfl, a1, a2, a3⟩ := h
  obtain ⟨kai, bai, xai, Aai, nai, cai, Bai, mai, dai, rfl, rfl, rfl, rfl, rfl⟩ := VAL.shape5 a1
  obtain ⟨kap, bap, xap, Aap, nap, cap, Bap, map, dap, rfl, rfl, rfl, rfl, rfl⟩ := VAL.shape5 a2
  obtain ⟨kar, bar, xar, Aar, nar, car, Bar, mar, dar, rfl, rfl, rfl, rfl, rfl⟩ := VAL.shape5 a3
  obtain ⟨ib0, ib1, ib2, ib3, ib4, pb0, pb1, pb2, pb3, pb4, rb0, rb1, rb2, rb3, rb4, rfl, b1, b2, b3⟩ := h'
  obtain ⟨kbi, bbi, xbi, Abi, nbi, cbi, Bbi, mbi, dbi, rfl, rfl, rfl, rfl, rfl⟩ := VAL.shape5 b1
  obtain ⟨kbp, bbp, xbp, Abp, nbp, cbp, Bbp, mbp, dbp, rfl, rfl, rfl, rfl, rfl⟩ := VAL.shape5 b2
  obtain ⟨kbr, bbr, xbr, Abr, nbr, cbr, Bbr, mbr, dbr, rfl, rfl, rfl, rfl, rfl⟩ := VAL.shape5 b3
  unfold MT.bulk at hk hk'
  dsimp only at HE hk hk' a1 a2 a3 b1 b2 b3 ⊢
  have HI := Lib.hid (fun W (hb : Below w.heap.size w W) => pEqual_any ia ib W _ _ _ _ (VLV.up a1 hb) (VLV.up b1 hb) (Zone.lt _ _) (Zone.lt _ _) (by omega) (by omega))
  have HP := Lib.hid (fun W (hb : Below w.heap.size w W) => pEqual_any pa pb W _ _ _ _ (VLV.up a2 hb) (VLV.up b2 hb) (Zone.lt _ _) (Zone.lt _ _) (by omega) (by omega))
  have HR := Lib.hid (fun W (hb : Below w.heap.size w W) => pEqual_any ra rb W _ _ _ _ (VLV.up a3 hb) (VLV.up b3 hb) (Zone.lt _ _) (Zone.lt _ _) (by omega) (by omega))
  clear a1 a2 a3 b1 b2 b3 hk hk'
  have HB := Lib.hid (Below.refl w.heap.size w)
  generalize ia.eqv ib = qI at *
  generalize pa.eqv pb = qP at *
  generalize ra.eqv rb = qR at *
  go_enter Tryz.func179, Tryz.ntmps179
  go_upto_region 1 with (fail)
  have hb : Below w.heap.size w (((w.alloc (.cells #[.int .i64 ka, .int .i64 kai, .bool bai, .string xai, .slice Aai nai cai, .slice Bai mai dai, .string ma, .bool sa, .int .i64 kap, .bool bap, .string xap, .slice Aap nap cap, .slice Bap map dap, .int .i64 kar, .bool bar, .string xar, .slice Aar nar car, .slice Bar mar dar, .int .i64 ca, .string ta] 46))).alloc (.cells #[.int .i64 kb, .int .i64 kbi, .bool bbi, .string xbi, .slice Abi nbi cbi, .slice Bbi mbi dbi, .string mb, .bool sb, .int .i64 kbp, .bool bbp, .string xbp, .slice Abp nbp cbp, .slice Bbp mbp dbp, .int .i64 kbr, .bool bbr, .string xbr, .slice Abr nbr cbr, .slice Bbr mbr dbr, .int .i64 cb, .string tb] 46)) := al2_below w _ _
  replace HB := Lib.hid (HB.out.trans (hb.mono HB.out.size))
  have hX0 : BK (((w.alloc (.cells #[.int .i64 ka, .int .i64 kai, .bool bai, .string xai, .slice Aai nai cai, .slice Bai mai dai, .string ma, .bool sa, .int .i64 kap, .bool bap, .string xap, .slice Aap nap cap, .slice Bap map dap, .int .i64 kar, .bool bar, .string xar, .slice Aar nar car, .slice Bar mar dar, .int .i64 ca, .string ta] 46))).alloc (.cells #[.int .i64 kb, .int .i64 kbi, .bool bbi, .string xbi, .slice Abi nbi cbi, .slice Bbi mbi dbi, .string mb, .bool sb, .int .i64 kbp, .bool bbp, .string xbp, .slice Abp nbp cbp, .slice Bbp mbp dbp, .int .i64 kbr, .bool bbr, .string xbr, .slice Abr nbr cbr, .slice Bbr mbr dbr, .int .i64 cb, .string tb] 46)) (w.heap.size) 46 #[.int .i64 ka, .int .i64 kai, .bool bai, .string xai, .slice Aai nai cai, .slice Bai mai dai, .string ma, .bool sa, .int .i64 kap, .bool bap, .string xap, .slice Aap nap cap, .slice Bap map dap, .int .i64 kar, .bool bar, .string xar, .slice Aar nar car, .slice Bar mar dar, .int .i64 ca, .string ta] := al2_0 w _ _
  have HK := Lib.hid (Blks.one hX0)
  have hX1 : BK (((w.alloc (.cells #[.int .i64 ka, .int .i64 kai, .bool bai, .string xai, .slice Aai nai cai, .slice Bai mai dai, .string ma, .bool sa, .int .i64 kap, .bool bap, .string xap, .slice Aap nap cap, .slice Bap map dap, .int .i64 kar, .bool bar, .string xar, .slice Aar nar car, .slice Bar mar dar, .int .i64 ca, .string ta] 46))).alloc (.cells #[.int .i64 kb, .int .i64 kbi, .bool bbi, .string xbi, .slice Abi nbi cbi, .slice Bbi mbi dbi, .string mb, .bool sb, .int .i64 kbp, .bool bbp, .string xbp, .slice Abp nbp cbp, .slice Bbp mbp dbp, .int .i64 kbr, .bool bbr, .string xbr, .slice Abr nbr cbr, .slice Bbr mbr dbr, .int .i64 cb, .string tb] 46)) (w.heap.size + 1) 46 #[.int .i64 kb, .int .i64 kbi, .bool bbi, .string xbi, .slice Abi nbi cbi, .slice Bbi mbi dbi, .string mb, .bool sb, .int .i64 kbp, .bool bbp, .string xbp, .slice Abp nbp cbp, .slice Bbp mbp dbp, .int .i64 kbr, .bool bbr, .string xbr, .slice Abr nbr cbr, .slice Bbr mbr dbr, .int .i64 cb, .string tb] := al2_1 w _ _
  replace HK := Lib.hid (Blks.cons hX1 HK.out)
  clear hb hX0 hX1
  generalize (((w.alloc (.cells #[.int .i64 ka, .int .i64 kai, .bool bai, .string xai, .slice Aai nai cai, .slice Bai mai dai, .string ma, .bool sa, .int .i64 kap, .bool bap, .string xap, .slice Aap nap cap, .slice Bap map dap, .int .i64 kar, .bool bar, .string xar, .slice Aar nar car, .slice Bar mar dar, .int .i64 ca, .string ta] 46))).alloc (.cells #[.int .i64 kb, .int .i64 kbi, .bool bbi, .string xbi, .slice Abi nbi cbi, .slice Bbi mbi dbi, .string mb, .bool sb, .int .i64 kbp, .bool bbp, .string xbp, .slice Abp nbp cbp, .slice Bbp mbp dbp, .int .i64 kbr, .bool bbr, .string xbr, .slice Abr nbr cbr, .slice Bbr mbr dbr, .int .i64 cb, .string tb] 46)) = w1 at *
  have hg := Blks.hd (Blks.tl HK.out)
  have y0 := hg.c 0 rfl
  have y1 := hg.c 1 rfl
  have y2 := hg.c 2 rfl
  have y3 := hg.c 3 rfl
  have y4 := hg.c 4 rfl
  have y5 := hg.c 5 rfl
  have y6 := hg.c 6 rfl
  have y7 := hg.c 7 rfl
  have y8 := hg.c 8 rfl
  have y9 := hg.c 9 rfl
  have y10 := hg.c 10 rfl
  have y11 := hg.c 11 rfl
  have y12 := hg.c 12 rfl
  have y13 := hg.c 13 rfl
  have y14 := hg.c 14 rfl
  have y15 := hg.c 15 rfl
  have y16 := hg.c 16 rfl
  have y17 := hg.c 17 rfl
  have y18 := hg.c 18 rfl
  have y19 := hg.c 19 rfl
  clear hg
  have hg := Blks.hd HK.out
  have u0 := hg.c 0 rfl
  have u1 := hg.c 1 rfl
  have u2 := hg.c 2 rfl
  have u3 := hg.c 3 rfl
  have u4 := hg.c 4 rfl
  have u5 := hg.c 5 rfl
  have u6 := hg.c 6 rfl
  have u7 := hg.c 7 rfl
  have u8 := hg.c 8 rfl
  have u9 := hg.c 9 rfl
  have u10 := hg.c 10 rfl
  have u11 := hg.c 11 rfl
  have u12 := hg.c 12 rfl
  have u13 := hg.c 13 rfl
  have u14 := hg.c 14 rfl
  have u15 := hg.c 15 rfl
  have u16 := hg.c 16 rfl
  have u17 := hg.c 17 rfl
  have u18 := hg.c 18 rfl
  have u19 := hg.c 19 rfl
  clear hg
  by_cases qk : ¬ ka = kb
  · have e1 := bne_t qk
    have e2 := beq_f qk
    replace HE : Hid (R = false) := Lib.hid (by rw [HE.out, e2]; simp)
    clear qk
    go_wp2
    go_ret
    exact ⟨ret_bool' HE.out.symm, HB.out⟩
  replace qk := Classical.not_not.1 qk
  subst qk
  by_cases qm : ¬ ma = mb
  · obtain ⟨e1, e2⟩ := str_ne qm
    replace HE : Hid (R = false) := Lib.hid (by rw [HE.out, e1]; simp)
    clear qm
    go_wp2
    go_ret
    exact ⟨ret_bool' HE.out.symm, HB.out⟩
  replace qm := Classical.not_not.1 qm
  subst qm
  by_cases qs : ¬ sa = sb
  · have e1 := bneB_t qs
    have e2 := beqB_f qs
    replace HE : Hid (R = false) := Lib.hid (by rw [HE.out, e2]; simp)
    clear qs
    go_wp2
    go_ret
    exact ⟨ret_bool' HE.out.symm, HB.out⟩
  replace qs := Classical.not_not.1 qs
  subst qs
  by_cases qc : ¬ ca = cb
  · have e1 := bne_t qc
    have e2 := beq_f qc
    replace HE : Hid (R = false) := Lib.hid (by rw [HE.out, e2]; simp)
    clear qc
    go_wp2
    go_ret
    exact ⟨ret_bool' HE.out.symm, HB.out⟩
  replace qc := Classical.not_not.1 qc
  subst qc
  by_cases qt : ¬ ta = tb
  · obtain ⟨e1, e2⟩ := str_ne qt
    replace HE : Hid (R = false) := Lib.hid (by rw [HE.out, e1]; simp)
    clear qt
    go_wp2
    go_ret
    exact ⟨ret_bool' HE.out.symm, HB.out⟩
  replace qt := Classical.not_not.1 qt
  subst qt
  go_wp2_with fail
  clear y0 y1 y2 y3 y4 y5 y6 y7 y8 y9 y10 y11 y12 y13 y14 y15 y16 y17 y18 y19 u0 u1 u2 u3 u4 u5 u6 u7 u8 u9 u10 u11 u12 u13 u14 u15 u16 u17 u18 u19
  refine (HI.out w1 HB.out).mono ?_
  rintro e w2 ⟨rfl, hb⟩
  replace HK := Lib.hid (HK.out.on hb)
  replace HB := Lib.hid (HB.out.trans (hb.mono HB.out.size))
  clear hb
  have hg := Blks.hd (Blks.tl HK.out)
  have y0 := hg.c 0 rfl
  have y1 := hg.c 1 rfl
  have y2 := hg.c 2 rfl
  have y3 := hg.c 3 rfl
  have y4 := hg.c 4 rfl
  have y5 := hg.c 5 rfl
  have y6 := hg.c 6 rfl
  have y7 := hg.c 7 rfl
  have y8 := hg.c 8 rfl
  have y9 := hg.c 9 rfl
  have y10 := hg.c 10 rfl
  have y11 := hg.c 11 rfl
  have y12 := hg.c 12 rfl
  have y13 := hg.c 13 rfl
  have y14 := hg.c 14 rfl
  have y15 := hg.c 15 rfl
  have y16 := hg.c 16 rfl
  have y17 := hg.c 17 rfl
  have y18 := hg.c 18 rfl
  have y19 := hg.c 19 rfl
  clear hg
  have hg := Blks.hd HK.out
  have u0 := hg.c 0 rfl
  have u1 := hg.c 1 rfl
  have u2 := hg.c 2 rfl
  have u3 := hg.c 3 rfl
  have u4 := hg.c 4 rfl
  have u5 := hg.c 5 rfl
  have u6 := hg.c 6 rfl
  have u7 := hg.c 7 rfl
  have u8 := hg.c 8 rfl
  have u9 := hg.c 9 rfl
  have u10 := hg.c 10 rfl
  have u11 := hg.c 11 rfl
  have u12 := hg.c 12 rfl
  have u13 := hg.c 13 rfl
  have u14 := hg.c 14 rfl
  have u15 := hg.c 15 rfl
  have u16 := hg.c 16 rfl
  have u17 := hg.c 17 rfl
  have u18 := hg.c 18 rfl
  have u19 := hg.c 19 rfl
  clear hg
  cases qI
  · skip
    have HF : Hid (R = false) := Lib.hid (by rw [HE.out]; simp)
    go_wp2
    go_ret
    exact ⟨ret_bool' HF.out.symm, HB.out⟩
  go_wp2_with fail
  clear y0 y1 y2 y3 y4 y5 y6 y7 y8 y9 y10 y11 y12 y13 y14 y15 y16 y17 y18 y19 u0 u1 u2 u3 u4 u5 u6 u7 u8 u9 u10 u11 u12 u13 u14 u15 u16 u17 u18 u19
  refine (HP.out w2 HB.out).mono ?_
  rintro e w3 ⟨rfl, hb⟩
  replace HK := Lib.hid (HK.out.on hb)
  replace HB := Lib.hid (HB.out.trans (hb.mono HB.out.size))
  clear hb
  have hg := Blks.hd (Blks.tl HK.out)
  have y0 := hg.c 0 rfl
  have y1 := hg.c 1 rfl
  have y2 := hg.c 2 rfl
  have y3 := hg.c 3 rfl
  have y4 := hg.c 4 rfl
  have y5 := hg.c 5 rfl
  have y6 := hg.c 6 rfl
  have y7 := hg.c 7 rfl
  have y8 := hg.c 8 rfl
  have y9 := hg.c 9 rfl
  have y10 := hg.c 10 rfl
  have y11 := hg.c 11 rfl
  have y12 := hg.c 12 rfl
  have y13 := hg.c 13 rfl
  have y14 := hg.c 14 rfl
  have y15 := hg.c 15 rfl
  have y16 := hg.c 16 rfl
  have y17 := hg.c 17 rfl
  have y18 := hg.c 18 rfl
  have y19 := hg.c 19 rfl
  clear hg
  have hg := Blks.hd HK.out
  have u0 := hg.c 0 rfl
  have u1 := hg.c 1 rfl
  have u2 := hg.c 2 rfl
  have u3 := hg.c 3 rfl
  have u4 := hg.c 4 rfl
  have u5 := hg.c 5 rfl
  have u6 := hg.c 6 rfl
  have u7 := hg.c 7 rfl
  have u8 := hg.c 8 rfl
  have u9 := hg.c 9 rfl
  have u10 := hg.c 10 rfl
  have u11 := hg.c 11 rfl
  have u12 := hg.c 12 rfl
  have u13 := hg.c 13 rfl
  have u14 := hg.c 14 rfl
  have u15 := hg.c 15 rfl
  have u16 := hg.c 16 rfl
  have u17 := hg.c 17 rfl
  have u18 := hg.c 18 rfl
  have u19 := hg.c 19 rfl
  clear hg
  cases qP
  · skip
    have HF : Hid (R = false) := Lib.hid (by rw [HE.out]; simp)
    go_wp2
    go_ret
    exact ⟨ret_bool' HF.out.symm, HB.out⟩
  go_wp2_with fail
  clear y0 y1 y2 y3 y4 y5 y6 y7 y8 y9 y10 y11 y12 y13 y14 y15 y16 y17 y18 y19 u0 u1 u2 u3 u4 u5 u6 u7 u8 u9 u10 u11 u12 u13 u14 u15 u16 u17 u18 u19
  refine (HR.out w3 HB.out).mono ?_
  rintro e w4 ⟨rfl, hb⟩
  replace HK := Lib.hid (HK.out.on hb)
  replace HB := Lib.hid (HB.out.trans (hb.mono HB.out.size))
  clear hb
  have hg := Blks.hd (Blks.tl HK.out)
  have y0 := hg.c 0 rfl
  have y1 := hg.c 1 rfl
  have y2 := hg.c 2 rfl
  have y3 := hg.c 3 rfl
  have y4 := hg.c 4 rfl
  have y5 := hg.c 5 rfl
  have y6 := hg.c 6 rfl
  have y7 := hg.c 7 rfl
  have y8 := hg.c 8 rfl
  have y9 := hg.c 9 rfl
  have y10 := hg.c 10 rfl
  have y11 := hg.c 11 rfl
  have y12 := hg.c 12 rfl
  have y13 := hg.c 13 rfl
  have y14 := hg.c 14 rfl
  have y15 := hg.c 15 rfl
  have y16 := hg.c 16 rfl
  have y17 := hg.c 17 rfl
  have y18 := hg.c 18 rfl
  have y19 := hg.c 19 rfl
  clear hg
  have hg := Blks.hd HK.out
  have u0 := hg.c 0 rfl
  have u1 := hg.c 1 rfl
  have u2 := hg.c 2 rfl
  have u3 := hg.c 3 rfl
  have u4 := hg.c 4 rfl
  have u5 := hg.c 5 rfl
  have u6 := hg.c 6 rfl
  have u7 := hg.c 7 rfl
  have u8 := hg.c 8 rfl
  have u9 := hg.c 9 rfl
  have u10 := hg.c 10 rfl
  have u11 := hg.c 11 rfl
  have u12 := hg.c 12 rfl
  have u13 := hg.c 13 rfl
  have u14 := hg.c 14 rfl
  have u15 := hg.c 15 rfl
  have u16 := hg.c 16 rfl
  have u17 := hg.c 17 rfl
  have u18 := hg.c 18 rfl
  have u19 := hg.c 19 rfl
  clear hg
  cases qR
  · skip
    have HF : Hid (R = false) := Lib.hid (by rw [HE.out]; simp)
    go_wp2
    go_ret
    exact ⟨ret_bool' HF.out.symm, HB.out⟩
  have HF : Hid (R = true) := Lib.hid (by rw [HE.out]; simp)
  go_wp2
  go_ret
  exact ⟨ret_bool' HF.out.symm, HB.out⟩
end Go.Proofs.YtfploakafbnigaaGreatDoor
