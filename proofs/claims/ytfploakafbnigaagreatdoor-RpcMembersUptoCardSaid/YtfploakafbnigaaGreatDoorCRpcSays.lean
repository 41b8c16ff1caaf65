/-
  Layer 12, the walks: what the law makes its values with; says.
-/
import Derived.Test.YtfploakafbnigaaGreatDoorCRpcParse
import Derived.Test.YtfploakafbnigaaGreatDoorCPkParC
namespace Go.Proofs.YtfploakafbnigaaGreatDoor
open Go.RowKit Val Num YtfploakafbnigaaGreatDoorW.PrintLast
set_option linter.unusedVariables false
set_option linter.unusedSimpArgs false
set_option maxRecDepth 100000 in
set_option maxHeartbeats 4000000 in
theorem kText_any (s : ByteArray) (w : World) : Calls Tryz.prog 90 #[.string s] w (Made (.agg #[.int .i64 3, .bool false, .string s, .slice none 0 0, .slice none 0 0]) w) := by
  go_enter Tryz.func90, Tryz.ntmps90
  have HY : BX (w.alloc (.cells #[.int .i64 0, .bool false, .string ⟨#[]⟩, .slice none 0 0, .slice none 0 0] 25)) w.heap.size (.int .i64 0) (.bool false) (.string ⟨#[]⟩) (.slice none 0 0) (.slice none 0 0) := BX.new _ _ _ _ _ _
  have y0 := HY.c0
  have y1 := HY.c1
  have y2 := HY.c2
  have y3 := HY.c3
  have y4 := HY.c4
  have f0 := HY.fr 0
  have f1 := HY.fr 1
  have f2 := HY.fr 2
  have f3 := HY.fr 3
  have f4 := HY.fr 4
  have hres := HY.put (.int .i64 3) (.bool false) (.string s) (.slice none 0 0) (.slice none 0 0)
  have r0 := hres.c0
  have r1 := hres.c1
  have r2 := hres.c2
  have r3 := hres.c3
  have r4 := hres.c4
  clear hres
  go_wp2
  exact bodyPost_ret (v := .agg #[.int .i64 3, .bool false, .string s, .slice none 0 0, .slice none 0 0]) (by simp [results, Tryz.results90, go_sem, r0, r1, r2, r3, r4]) rfl ⟨rfl, made_end _⟩
set_option maxRecDepth 100000 in
set_option maxHeartbeats 4000000 in
theorem kNumber_any (s : ByteArray) (w : World) : Calls Tryz.prog 91 #[.string s] w (Made (.agg #[.int .i64 2, .bool false, .string s, .slice none 0 0, .slice none 0 0]) w) := by
  go_enter Tryz.func91, Tryz.ntmps91
  have HY : BX (w.alloc (.cells #[.int .i64 0, .bool false, .string ⟨#[]⟩, .slice none 0 0, .slice none 0 0] 25)) w.heap.size (.int .i64 0) (.bool false) (.string ⟨#[]⟩) (.slice none 0 0) (.slice none 0 0) := BX.new _ _ _ _ _ _
  have y0 := HY.c0
  have y1 := HY.c1
  have y2 := HY.c2
  have y3 := HY.c3
  have y4 := HY.c4
  have f0 := HY.fr 0
  have f1 := HY.fr 1
  have f2 := HY.fr 2
  have f3 := HY.fr 3
  have f4 := HY.fr 4
  have hres := HY.put (.int .i64 2) (.bool false) (.string s) (.slice none 0 0) (.slice none 0 0)
  have r0 := hres.c0
  have r1 := hres.c1
  have r2 := hres.c2
  have r3 := hres.c3
  have r4 := hres.c4
  clear hres
  go_wp2
  exact bodyPost_ret (v := .agg #[.int .i64 2, .bool false, .string s, .slice none 0 0, .slice none 0 0]) (by simp [results, Tryz.results91, go_sem, r0, r1, r2, r3, r4]) rfl ⟨rfl, made_end _⟩
set_option maxRecDepth 100000 in
set_option maxHeartbeats 4000000 in
theorem kObject_any (A A' : Option Addr) (n cap n' cap' : Nat) (w : World) : Calls Tryz.prog 89 #[.slice A' n' cap', .slice A n cap] w (Made (.agg #[.int .i64 5, .bool false, .string ⟨#[]⟩, .slice A n cap, .slice A' n' cap']) w) := by
  go_enter Tryz.func89, Tryz.ntmps89
  have HY : BX (w.alloc (.cells #[.int .i64 0, .bool false, .string ⟨#[]⟩, .slice none 0 0, .slice none 0 0] 25)) w.heap.size (.int .i64 0) (.bool false) (.string ⟨#[]⟩) (.slice none 0 0) (.slice none 0 0) := BX.new _ _ _ _ _ _
  have y0 := HY.c0
  have y1 := HY.c1
  have y2 := HY.c2
  have y3 := HY.c3
  have y4 := HY.c4
  have f0 := HY.fr 0
  have f1 := HY.fr 1
  have f2 := HY.fr 2
  have f3 := HY.fr 3
  have f4 := HY.fr 4
  have hres := HY.put (.int .i64 5) (.bool false) (.string ⟨#[]⟩) (.slice A n cap) (.slice A' n' cap')
  have r0 := hres.c0
  have r1 := hres.c1
  have r2 := hres.c2
  have r3 := hres.c3
  have r4 := hres.c4
  clear hres
  go_wp2
  exact bodyPost_ret (v := .agg #[.int .i64 5, .bool false, .string ⟨#[]⟩, .slice A n cap, .slice A' n' cap']) (by simp [results, Tryz.results89, go_sem, r0, r1, r2, r3, r4]) rfl ⟨rfl, made_end _⟩
set_option maxRecDepth 100000 in
set_option maxHeartbeats 8000000 in
theorem says_yes (t : VT) (k : Int) (z : Zone) (v : Value) (w : World) (h : VLV z t w v) (hM : ML w) (hk : t.bulk ≤ 1073741800) (h1 : t.readM.kind = k) (h2 : (0 < k ∧ t.readE = 0) ∨ (k = 0 ∧ t.readE = 120)) : Calls Tryz.prog 93 #[v, .int .i64 k] w (Made (.bool true) w) := by
  obtain ⟨At, nt, ct, Bt, mt, dt, rfl⟩ := h.parts
  have HP := Lib.hid (fun W z v (hv : VLV z t W v) (hM : ML W) => Parse_any t z v W hv hM hk)
  generalize t.readM = mA at *
  generalize t.readE = ee at *
  have Ht := Lib.hid h.old
  have HM := Lib.hid hM
  have HB := Lib.hid (Below.refl w.heap.size w)
  clear h hM hk
  go_enter Tryz.func93, Tryz.ntmps93
  go_wp2_with fail
  refine at1 (fun w1 hX0 hb hz => ?_)
  replace Ht := Lib.hid (Ht.out.up hb)
  replace HM := Lib.hid (HM.out.on hb)
  replace HB := Lib.hid (HB.out.trans (hb.mono HB.out.size))
  have HK := Lib.hid (Blks.one hX0)
  clear hX0 hb
  have HQ := Lib.hid hz
  clear hz
  refine (HP.out w1 _ _ Ht.out HM.out).mono ?_
  rintro e w2 ⟨v', rfl, hm, hb⟩
  obtain ⟨ix0, ix1, ix2, ix3, ix4, px0, px1, px2, px3, px4, rx0, rx1, rx2, rx3, rx4, he, q1, q2, q3⟩ := hm
  subst he
  obtain ⟨kxi, bxi, xxi, Axi, nxi, cxi, Bxi, mxi, dxi, rfl, rfl, rfl, rfl, rfl⟩ := VAL.shape5 q1.1
  obtain ⟨kxp, bxp, xxp, Axp, nxp, cxp, Bxp, mxp, dxp, rfl, rfl, rfl, rfl, rfl⟩ := VAL.shape5 q2.1
  obtain ⟨kxr, bxr, xxr, Axr, nxr, cxr, Bxr, mxr, dxr, rfl, rfl, rfl, rfl, rfl⟩ := VAL.shape5 q3.1
  replace Ht := Lib.hid (Ht.out.up hb)
  replace HM := Lib.hid (HM.out.on hb)
  replace HQ := Lib.hid (Nat.le_trans HQ.out hb.size)
  replace HK := Lib.hid (HK.out.on hb)
  replace HB := Lib.hid (HB.out.trans (hb.mono HB.out.size))
  clear hb q1 q2 q3
  rcases h2 with ⟨hk0, rfl⟩ | ⟨rfl, rfl⟩
  · skip
    have d1 : decide (0 < k) = true := by simpa using hk0
    have d2 : (mA.kind == k) = true := beq_t h1
    clear hk0 h1
    go_wp2_with (refine store1 rfl rfl 46 (.tmp 5) (.tmp 10) rfl rfl #[.int .i64 mA.kind, .int .i64 kxi, .bool bxi, .string xxi, .slice Axi nxi cxi, .slice Bxi mxi dxi, .string mA.method, .bool mA.has, .int .i64 kxp, .bool bxp, .string xxp, .slice Axp nxp cxp, .slice Bxp mxp dxp, .int .i64 kxr, .bool bxr, .string xxr, .slice Axr nxr cxr, .slice Bxr mxr dxr, .int .i64 mA.code, .string mA.text] rfl (by kernel_rfl) rfl (by simp [Value.oneCell']) ?_; intro w3 hX hb hz; have y0 := hX.c 0 rfl)
    go_ret
    exact ⟨rfl, HB.out.trans (hb.mono HB.out.size)⟩
  · skip
    have d2 : (mA.kind == 0) = true := beq_t h1
    clear h1
    go_wp2_with (refine store1 rfl rfl 46 (.tmp 5) (.tmp 10) rfl rfl #[.int .i64 mA.kind, .int .i64 kxi, .bool bxi, .string xxi, .slice Axi nxi cxi, .slice Bxi mxi dxi, .string mA.method, .bool mA.has, .int .i64 kxp, .bool bxp, .string xxp, .slice Axp nxp cxp, .slice Bxp mxp dxp, .int .i64 kxr, .bool bxr, .string xxr, .slice Axr nxr cxr, .slice Bxr mxr dxr, .int .i64 mA.code, .string mA.text] rfl (by kernel_rfl) rfl (by simp [Value.oneCell']) ?_; intro w3 hX hb hz; have y0 := hX.c 0 rfl)
    go_ret
    exact ⟨rfl, HB.out.trans (hb.mono HB.out.size)⟩
end Go.Proofs.YtfploakafbnigaaGreatDoor
