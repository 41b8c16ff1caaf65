/-
  Layer 12, the walks: Parse.
-/
import Derived.Test.YtfploakafbnigaaGreatDoorCRpcAsk
import Derived.Test.YtfploakafbnigaaGreatDoorCRpcAns
namespace Go.Proofs.YtfploakafbnigaaGreatDoor
open Go.RowKit Val Num YtfploakafbnigaaGreatDoorW.PrintLast
set_option linter.unusedVariables false
set_option linter.unusedSimpArgs false
set_option maxRecDepth 100000 in
set_option maxHeartbeats 8000000 in
theorem Parse_no1 (t : VT) (z : Zone) (v : Value) (w : World) (h : VLV z t w v) (hM : ML w) (hk : t.bulk ≤ 1073741800) (hc : ¬ t.check = 0) : Calls Tryz.prog 33 #[v] w (MkM2 .nul (.int .i64 120) w) := by
  obtain ⟨bV, uV, e1, e2, hkV, -, GV⟩ := got_let t VT.rpcN (by omega)
  have HC := Lib.hid (fun W z v (hv : VLV z t W v) => pCheck_any t W _ v hv (z.lt W) (by omega))
  have q1 := bne_t hc
  generalize t.check = c at *
  clear hc e2
  obtain ⟨At, nt, ct, Bt, mt, dt, rfl⟩ := h.parts
  have Ht := Lib.hid h.old
  have HM := Lib.hid hM
  have HM0 := Lib.hid hM
  have HKt := Lib.hid hk
  have HB := Lib.hid (Below.refl w.heap.size w)
  clear h hM hk hkV e1
  go_enter Tryz.func33, Tryz.ntmps33
  go_wp2_with fail
  refine at2 (fun w1 hX0 hX1 hb hz => ?_)
  replace Ht := Lib.hid (Ht.out.up hb)
  replace HM := Lib.hid (HM.out.on hb)
  replace HB := Lib.hid (HB.out.trans (hb.mono HB.out.size))
  have HK := Lib.hid (Blks.one hX0)
  replace HK := Lib.hid (Blks.cons hX1 HK.out)
  clear hX0 hX1 hb
  have HQ := Lib.hid hz
  clear hz
  refine (GV w1 _ _ Ht.out).mono ?_
  rintro e w2 ⟨v', rfl, hv, hb, hnf⟩
  obtain ⟨AV, nV, cV, BV, mV, dV, rfl⟩ := VAL.parts hv
  have HVV := Lib.hid (VAL.zf hv hnf HQ.out)
  clear hv hnf
  replace Ht := Lib.hid (Ht.out.up hb)
  replace HM := Lib.hid (HM.out.on hb)
  replace HQ := Lib.hid (Nat.le_trans HQ.out hb.size)
  replace HK := Lib.hid (HK.out.on hb)
  replace HB := Lib.hid (HB.out.trans (hb.mono HB.out.size))
  clear hb
  go_upto_region 2 with (fail)
  have HGgV := Lib.hid ((Blks.hd HK.out).lt)
  have hb : Below w2.heap.size w2 (w2.alloc (.cells #[.int .i64 uV.kind, .bool uV.is, .string uV.text, .slice AV nV cV, .slice BV mV dV] 25)) := made_end' w2 _
  replace Ht := Lib.hid (Ht.out.up hb)
  replace HM := Lib.hid (HM.out.on hb)
  replace HQ := Lib.hid (Nat.le_trans HQ.out hb.size)
  replace HVV := Lib.hid (HVV.out.up hb)
  replace HK := Lib.hid (HK.out.on hb)
  replace HB := Lib.hid (HB.out.trans (hb.mono HB.out.size))
  have hX0 : BK (w2.alloc (.cells #[.int .i64 uV.kind, .bool uV.is, .string uV.text, .slice AV nV cV, .slice BV mV dV] 25)) (w2.heap.size) 25 #[.int .i64 uV.kind, .bool uV.is, .string uV.text, .slice AV nV cV, .slice BV mV dV] := BK.new w2 _ _
  replace HK := Lib.hid (Blks.cons hX0 HK.out)
  clear hb hX0
  generalize (w2.alloc (.cells #[.int .i64 uV.kind, .bool uV.is, .string uV.text, .slice AV nV cV, .slice BV mV dV] 25)) = w3 at *
  generalize w2.heap.size = gV at *
  have hg := Blks.hd (Blks.tl (Blks.tl HK.out))
  have y0 := hg.c 0 rfl
  have y1 := hg.c 1 rfl
  have y2 := hg.c 2 rfl
  have y3 := hg.c 3 rfl
  have y4 := hg.c 4 rfl
  clear hg
  go_wp2_with fail
  clear y0 y1 y2 y3 y4
  refine (HC.out w3 _ _ Ht.out).mono ?_
  rintro e w4 ⟨rfl, hb⟩
  replace Ht := Lib.hid (Ht.out.up hb)
  replace HM := Lib.hid (HM.out.on hb)
  replace HQ := Lib.hid (Nat.le_trans HQ.out hb.size)
  replace HVV := Lib.hid (HVV.out.up hb)
  replace HK := Lib.hid (HK.out.on hb)
  replace HB := Lib.hid (HB.out.trans (hb.mono HB.out.size))
  clear hb
  go_wp2_with (
    refine store_fld rfl rfl 46 (.tmp 2) (.tmp 27) rfl (w.heap.size + 1) 0 (.agg #[.int .i64 0, .int .i64 0, .bool false, .string ⟨#[]⟩, .slice none 0 0, .slice none 0 0, .string ⟨#[]⟩, .bool false, .int .i64 0, .bool false, .string ⟨#[]⟩, .slice none 0 0, .slice none 0 0, .int .i64 0, .bool false, .string ⟨#[]⟩, .slice none 0 0, .slice none 0 0, .int .i64 0, .string ⟨#[]⟩]) [.int .i64 0, .int .i64 0, .bool false, .string ⟨#[]⟩, .slice none 0 0, .slice none 0 0, .string ⟨#[]⟩, .bool false, .int .i64 0, .bool false, .string ⟨#[]⟩, .slice none 0 0, .slice none 0 0, .int .i64 0, .bool false, .string ⟨#[]⟩, .slice none 0 0, .slice none 0 0, .int .i64 0, .string ⟨#[]⟩] rfl rfl rfl #[.int .i64 0, .int .i64 0, .bool false, .string ⟨#[]⟩, .slice none 0 0, .slice none 0 0, .string ⟨#[]⟩, .bool false, .int .i64 0, .bool false, .string ⟨#[]⟩, .slice none 0 0, .slice none 0 0, .int .i64 0, .bool false, .string ⟨#[]⟩, .slice none 0 0, .slice none 0 0, .int .i64 0, .string ⟨#[]⟩] (Blks.hd (Blks.tl HK.out)) (by kernel_rfl) (Nat.le_of_ble_eq_true rfl) (by simp [Value.oneCell']) rfl ?_
    intro w5 hS hbt hsz
    replace Ht := Lib.hid (Ht.out.butL hbt (by have := HGgV.out; omega))
    replace HM := Lib.hid (ML.but2 HM0.out HM.out hbt (by have := HGgV.out; omega))
    replace HQ := Lib.hid (Nat.le_trans HQ.out hbt.size)
    replace HVV := Lib.hid (HVV.out.but hbt (by have := HGgV.out; omega))
    replace HK := Lib.hid (Blks.cons (BK.but (Blks.hd HK.out) hbt (by have := HGgV.out; omega)) (Blks.cons hS (Blks.one (BK.but (Blks.hd (Blks.tl (Blks.tl HK.out))) hbt (by have := HGgV.out; omega)))))
    replace HB := Lib.hid (hbt.below HB.out (by have := HGgV.out; omega) HB.out.size)
    clear hbt hS hsz)
  go_wp2
  exact bodyPost_ret (results_row2 rfl _ _ (w.heap.size + 1) _ #[.int .i64 0, .int .i64 0, .bool false, .string ⟨#[]⟩, .slice none 0 0, .slice none 0 0, .string ⟨#[]⟩, .bool false, .int .i64 0, .bool false, .string ⟨#[]⟩, .slice none 0 0, .slice none 0 0, .int .i64 0, .bool false, .string ⟨#[]⟩, .slice none 0 0, .slice none 0 0, .int .i64 0, .string ⟨#[]⟩] _ rfl _ rfl (Blks.hd (Blks.tl HK.out)) Tryz.underlying46 rfl (by kernel_rfl)) rfl ⟨_, rfl, ⟨_, _, _, _, _, _, _, _, _, _, _, _, _, _, _, rfl, (nul_VLF _ _), (nul_VLF _ _), (nul_VLF _ _)⟩, HB.out⟩
set_option maxRecDepth 100000 in
set_option maxHeartbeats 8000000 in
theorem Parse_no2 (t : VT) (z : Zone) (v : Value) (w : World) (h : VLV z t w v) (hM : ML w) (hk : t.bulk ≤ 1073741800) (hc : t.check = 0) (h3 : ¬ (t.getD VT.rpcN).kind = 3) : Calls Tryz.prog 33 #[v] w (MkM2 .nul (.int .i64 120) w) := by
  obtain ⟨bV, uV, e1, e2, hkV, -, GV⟩ := got_let t VT.rpcN (by omega)
  have HC := Lib.hid (fun W z v (hv : VLV z t W v) => pCheck_any t W _ v hv (z.lt W) (by omega))
  rw [e2] at h3
  have q1 := bne_f hc
  have q3 := bne_t h3
  have HQ3 := Lib.hid q3
  clear q3
  generalize t.check = c at *
  clear hc h3 e2
  obtain ⟨At, nt, ct, Bt, mt, dt, rfl⟩ := h.parts
  have Ht := Lib.hid h.old
  have HM := Lib.hid hM
  have HM0 := Lib.hid hM
  have HKt := Lib.hid hk
  have HB := Lib.hid (Below.refl w.heap.size w)
  clear h hM hk hkV e1
  go_enter Tryz.func33, Tryz.ntmps33
  go_wp2_with fail
  refine at2 (fun w1 hX0 hX1 hb hz => ?_)
  replace Ht := Lib.hid (Ht.out.up hb)
  replace HM := Lib.hid (HM.out.on hb)
  replace HB := Lib.hid (HB.out.trans (hb.mono HB.out.size))
  have HK := Lib.hid (Blks.one hX0)
  replace HK := Lib.hid (Blks.cons hX1 HK.out)
  clear hX0 hX1 hb
  have HQ := Lib.hid hz
  clear hz
  refine (GV w1 _ _ Ht.out).mono ?_
  rintro e w2 ⟨v', rfl, hv, hb, hnf⟩
  obtain ⟨AV, nV, cV, BV, mV, dV, rfl⟩ := VAL.parts hv
  have HVV := Lib.hid (VAL.zf hv hnf HQ.out)
  clear hv hnf
  replace Ht := Lib.hid (Ht.out.up hb)
  replace HM := Lib.hid (HM.out.on hb)
  replace HQ := Lib.hid (Nat.le_trans HQ.out hb.size)
  replace HK := Lib.hid (HK.out.on hb)
  replace HB := Lib.hid (HB.out.trans (hb.mono HB.out.size))
  clear hb
  go_upto_region 2 with (fail)
  have HGgV := Lib.hid ((Blks.hd HK.out).lt)
  have hb : Below w2.heap.size w2 (w2.alloc (.cells #[.int .i64 uV.kind, .bool uV.is, .string uV.text, .slice AV nV cV, .slice BV mV dV] 25)) := made_end' w2 _
  replace Ht := Lib.hid (Ht.out.up hb)
  replace HM := Lib.hid (HM.out.on hb)
  replace HQ := Lib.hid (Nat.le_trans HQ.out hb.size)
  replace HVV := Lib.hid (HVV.out.up hb)
  replace HK := Lib.hid (HK.out.on hb)
  replace HB := Lib.hid (HB.out.trans (hb.mono HB.out.size))
  have hX0 : BK (w2.alloc (.cells #[.int .i64 uV.kind, .bool uV.is, .string uV.text, .slice AV nV cV, .slice BV mV dV] 25)) (w2.heap.size) 25 #[.int .i64 uV.kind, .bool uV.is, .string uV.text, .slice AV nV cV, .slice BV mV dV] := BK.new w2 _ _
  replace HK := Lib.hid (Blks.cons hX0 HK.out)
  clear hb hX0
  generalize (w2.alloc (.cells #[.int .i64 uV.kind, .bool uV.is, .string uV.text, .slice AV nV cV, .slice BV mV dV] 25)) = w3 at *
  generalize w2.heap.size = gV at *
  have hg := Blks.hd (Blks.tl (Blks.tl HK.out))
  have y0 := hg.c 0 rfl
  have y1 := hg.c 1 rfl
  have y2 := hg.c 2 rfl
  have y3 := hg.c 3 rfl
  have y4 := hg.c 4 rfl
  clear hg
  go_wp2_with fail
  clear y0 y1 y2 y3 y4
  refine (HC.out w3 _ _ Ht.out).mono ?_
  rintro e w4 ⟨rfl, hb⟩
  replace Ht := Lib.hid (Ht.out.up hb)
  replace HM := Lib.hid (HM.out.on hb)
  replace HQ := Lib.hid (Nat.le_trans HQ.out hb.size)
  replace HVV := Lib.hid (HVV.out.up hb)
  replace HK := Lib.hid (HK.out.on hb)
  replace HB := Lib.hid (HB.out.trans (hb.mono HB.out.size))
  clear hb
  have hg := Blks.hd HK.out
  have y0 := hg.c 0 rfl
  have y2 := hg.c 2 rfl
  clear hg
  have q3 := HQ3.out
  go_wp2_with (
    refine store_fld rfl rfl 46 (.tmp 2) (.tmp 27) rfl (w.heap.size + 1) 0 (.agg #[.int .i64 0, .int .i64 0, .bool false, .string ⟨#[]⟩, .slice none 0 0, .slice none 0 0, .string ⟨#[]⟩, .bool false, .int .i64 0, .bool false, .string ⟨#[]⟩, .slice none 0 0, .slice none 0 0, .int .i64 0, .bool false, .string ⟨#[]⟩, .slice none 0 0, .slice none 0 0, .int .i64 0, .string ⟨#[]⟩]) [.int .i64 0, .int .i64 0, .bool false, .string ⟨#[]⟩, .slice none 0 0, .slice none 0 0, .string ⟨#[]⟩, .bool false, .int .i64 0, .bool false, .string ⟨#[]⟩, .slice none 0 0, .slice none 0 0, .int .i64 0, .bool false, .string ⟨#[]⟩, .slice none 0 0, .slice none 0 0, .int .i64 0, .string ⟨#[]⟩] rfl rfl rfl #[.int .i64 0, .int .i64 0, .bool false, .string ⟨#[]⟩, .slice none 0 0, .slice none 0 0, .string ⟨#[]⟩, .bool false, .int .i64 0, .bool false, .string ⟨#[]⟩, .slice none 0 0, .slice none 0 0, .int .i64 0, .bool false, .string ⟨#[]⟩, .slice none 0 0, .slice none 0 0, .int .i64 0, .string ⟨#[]⟩] (Blks.hd (Blks.tl HK.out)) (by kernel_rfl) (Nat.le_of_ble_eq_true rfl) (by simp [Value.oneCell']) rfl ?_
    intro w5 hS hbt hsz
    replace Ht := Lib.hid (Ht.out.butL hbt (by have := HGgV.out; omega))
    replace HM := Lib.hid (ML.but2 HM0.out HM.out hbt (by have := HGgV.out; omega))
    replace HQ := Lib.hid (Nat.le_trans HQ.out hbt.size)
    replace HVV := Lib.hid (HVV.out.but hbt (by have := HGgV.out; omega))
    replace HK := Lib.hid (Blks.cons (BK.but (Blks.hd HK.out) hbt (by have := HGgV.out; omega)) (Blks.cons hS (Blks.one (BK.but (Blks.hd (Blks.tl (Blks.tl HK.out))) hbt (by have := HGgV.out; omega)))))
    replace HB := Lib.hid (hbt.below HB.out (by have := HGgV.out; omega) HB.out.size)
    clear hbt hS hsz)
  go_wp2
  exact bodyPost_ret (results_row2 rfl _ _ (w.heap.size + 1) _ #[.int .i64 0, .int .i64 0, .bool false, .string ⟨#[]⟩, .slice none 0 0, .slice none 0 0, .string ⟨#[]⟩, .bool false, .int .i64 0, .bool false, .string ⟨#[]⟩, .slice none 0 0, .slice none 0 0, .int .i64 0, .bool false, .string ⟨#[]⟩, .slice none 0 0, .slice none 0 0, .int .i64 0, .string ⟨#[]⟩] _ rfl _ rfl (Blks.hd (Blks.tl HK.out)) Tryz.underlying46 rfl (by kernel_rfl)) rfl ⟨_, rfl, ⟨_, _, _, _, _, _, _, _, _, _, _, _, _, _, _, rfl, (nul_VLF _ _), (nul_VLF _ _), (nul_VLF _ _)⟩, HB.out⟩
set_option maxRecDepth 100000 in
set_option maxHeartbeats 8000000 in
theorem Parse_no3 (t : VT) (z : Zone) (v : Value) (w : World) (h : VLV z t w v) (hM : ML w) (hk : t.bulk ≤ 1073741800) (hc : t.check = 0) (h3 : (t.getD VT.rpcN).kind = 3) (hx : ¬ (t.getD VT.rpcN).text = VT.twoS) : Calls Tryz.prog 33 #[v] w (MkM2 .nul (.int .i64 120) w) := by
  obtain ⟨bV, uV, e1, e2, hkV, -, GV⟩ := got_let t VT.rpcN (by omega)
  have HC := Lib.hid (fun W z v (hv : VLV z t W v) => pCheck_any t W _ v hv (z.lt W) (by omega))
  rw [e2] at h3 hx
  have q1 := bne_f hc
  have HQ3 := Lib.hid h3
  have HQX := Lib.hid hx
  generalize t.check = c at *
  clear hc h3 hx e2
  obtain ⟨At, nt, ct, Bt, mt, dt, rfl⟩ := h.parts
  have Ht := Lib.hid h.old
  have HM := Lib.hid hM
  have HM0 := Lib.hid hM
  have HKt := Lib.hid hk
  have HB := Lib.hid (Below.refl w.heap.size w)
  clear h hM hk hkV e1
  go_enter Tryz.func33, Tryz.ntmps33
  go_wp2_with fail
  refine at2 (fun w1 hX0 hX1 hb hz => ?_)
  replace Ht := Lib.hid (Ht.out.up hb)
  replace HM := Lib.hid (HM.out.on hb)
  replace HB := Lib.hid (HB.out.trans (hb.mono HB.out.size))
  have HK := Lib.hid (Blks.one hX0)
  replace HK := Lib.hid (Blks.cons hX1 HK.out)
  clear hX0 hX1 hb
  have HQ := Lib.hid hz
  clear hz
  refine (GV w1 _ _ Ht.out).mono ?_
  rintro e w2 ⟨v', rfl, hv, hb, hnf⟩
  obtain ⟨AV, nV, cV, BV, mV, dV, rfl⟩ := VAL.parts hv
  have HVV := Lib.hid (VAL.zf hv hnf HQ.out)
  clear hv hnf
  replace Ht := Lib.hid (Ht.out.up hb)
  replace HM := Lib.hid (HM.out.on hb)
  replace HQ := Lib.hid (Nat.le_trans HQ.out hb.size)
  replace HK := Lib.hid (HK.out.on hb)
  replace HB := Lib.hid (HB.out.trans (hb.mono HB.out.size))
  clear hb
  go_upto_region 2 with (fail)
  have HGgV := Lib.hid ((Blks.hd HK.out).lt)
  have hb : Below w2.heap.size w2 (w2.alloc (.cells #[.int .i64 uV.kind, .bool uV.is, .string uV.text, .slice AV nV cV, .slice BV mV dV] 25)) := made_end' w2 _
  replace Ht := Lib.hid (Ht.out.up hb)
  replace HM := Lib.hid (HM.out.on hb)
  replace HQ := Lib.hid (Nat.le_trans HQ.out hb.size)
  replace HVV := Lib.hid (HVV.out.up hb)
  replace HK := Lib.hid (HK.out.on hb)
  replace HB := Lib.hid (HB.out.trans (hb.mono HB.out.size))
  have hX0 : BK (w2.alloc (.cells #[.int .i64 uV.kind, .bool uV.is, .string uV.text, .slice AV nV cV, .slice BV mV dV] 25)) (w2.heap.size) 25 #[.int .i64 uV.kind, .bool uV.is, .string uV.text, .slice AV nV cV, .slice BV mV dV] := BK.new w2 _ _
  replace HK := Lib.hid (Blks.cons hX0 HK.out)
  clear hb hX0
  generalize (w2.alloc (.cells #[.int .i64 uV.kind, .bool uV.is, .string uV.text, .slice AV nV cV, .slice BV mV dV] 25)) = w3 at *
  generalize w2.heap.size = gV at *
  have hg := Blks.hd (Blks.tl (Blks.tl HK.out))
  have y0 := hg.c 0 rfl
  have y1 := hg.c 1 rfl
  have y2 := hg.c 2 rfl
  have y3 := hg.c 3 rfl
  have y4 := hg.c 4 rfl
  clear hg
  go_wp2_with fail
  clear y0 y1 y2 y3 y4
  refine (HC.out w3 _ _ Ht.out).mono ?_
  rintro e w4 ⟨rfl, hb⟩
  replace Ht := Lib.hid (Ht.out.up hb)
  replace HM := Lib.hid (HM.out.on hb)
  replace HQ := Lib.hid (Nat.le_trans HQ.out hb.size)
  replace HVV := Lib.hid (HVV.out.up hb)
  replace HK := Lib.hid (HK.out.on hb)
  replace HB := Lib.hid (HB.out.trans (hb.mono HB.out.size))
  clear hb
  have hg := Blks.hd HK.out
  have y0 := hg.c 0 rfl
  have y2 := hg.c 2 rfl
  clear hg
  have q3 := HQ3.out
  rw [q3] at y0
  obtain ⟨x1, x2⟩ := str_ne HQX.out
  unfold VT.twoS at x1 x2
  have x3 : (uV.text.toList == [50, 46, 48]) = false := by
    have hh := x1
    simp only [Lib.toList_data] at hh ⊢
    exact hh
  clear q3 x1 x2
  go_wp2_with (
    refine store_fld rfl rfl 46 (.tmp 2) (.tmp 27) rfl (w.heap.size + 1) 0 (.agg #[.int .i64 0, .int .i64 0, .bool false, .string ⟨#[]⟩, .slice none 0 0, .slice none 0 0, .string ⟨#[]⟩, .bool false, .int .i64 0, .bool false, .string ⟨#[]⟩, .slice none 0 0, .slice none 0 0, .int .i64 0, .bool false, .string ⟨#[]⟩, .slice none 0 0, .slice none 0 0, .int .i64 0, .string ⟨#[]⟩]) [.int .i64 0, .int .i64 0, .bool false, .string ⟨#[]⟩, .slice none 0 0, .slice none 0 0, .string ⟨#[]⟩, .bool false, .int .i64 0, .bool false, .string ⟨#[]⟩, .slice none 0 0, .slice none 0 0, .int .i64 0, .bool false, .string ⟨#[]⟩, .slice none 0 0, .slice none 0 0, .int .i64 0, .string ⟨#[]⟩] rfl rfl rfl #[.int .i64 0, .int .i64 0, .bool false, .string ⟨#[]⟩, .slice none 0 0, .slice none 0 0, .string ⟨#[]⟩, .bool false, .int .i64 0, .bool false, .string ⟨#[]⟩, .slice none 0 0, .slice none 0 0, .int .i64 0, .bool false, .string ⟨#[]⟩, .slice none 0 0, .slice none 0 0, .int .i64 0, .string ⟨#[]⟩] (Blks.hd (Blks.tl HK.out)) (by kernel_rfl) (Nat.le_of_ble_eq_true rfl) (by simp [Value.oneCell']) rfl ?_
    intro w5 hS hbt hsz
    replace Ht := Lib.hid (Ht.out.butL hbt (by have := HGgV.out; omega))
    replace HM := Lib.hid (ML.but2 HM0.out HM.out hbt (by have := HGgV.out; omega))
    replace HQ := Lib.hid (Nat.le_trans HQ.out hbt.size)
    replace HVV := Lib.hid (HVV.out.but hbt (by have := HGgV.out; omega))
    replace HK := Lib.hid (Blks.cons (BK.but (Blks.hd HK.out) hbt (by have := HGgV.out; omega)) (Blks.cons hS (Blks.one (BK.but (Blks.hd (Blks.tl (Blks.tl HK.out))) hbt (by have := HGgV.out; omega)))))
    replace HB := Lib.hid (hbt.below HB.out (by have := HGgV.out; omega) HB.out.size)
    clear hbt hS hsz)
  go_wp2
  exact bodyPost_ret (results_row2 rfl _ _ (w.heap.size + 1) _ #[.int .i64 0, .int .i64 0, .bool false, .string ⟨#[]⟩, .slice none 0 0, .slice none 0 0, .string ⟨#[]⟩, .bool false, .int .i64 0, .bool false, .string ⟨#[]⟩, .slice none 0 0, .slice none 0 0, .int .i64 0, .bool false, .string ⟨#[]⟩, .slice none 0 0, .slice none 0 0, .int .i64 0, .string ⟨#[]⟩] _ rfl _ rfl (Blks.hd (Blks.tl HK.out)) Tryz.underlying46 rfl (by kernel_rfl)) rfl ⟨_, rfl, ⟨_, _, _, _, _, _, _, _, _, _, _, _, _, _, _, rfl, (nul_VLF _ _), (nul_VLF _ _), (nul_VLF _ _)⟩, HB.out⟩
set_option maxRecDepth 100000 in
set_option maxHeartbeats 8000000 in
theorem Parse_ask (t : VT) (z : Zone) (v : Value) (w : World) (h : VLV z t w v) (hM : ML w) (hk : t.bulk ≤ 1073741800) (hc : t.check = 0) (h3 : (t.getD VT.rpcN).kind = 3) (hx : (t.getD VT.rpcN).text = VT.twoS) (hm : t.has VT.methodN = true) : Calls Tryz.prog 33 #[v] w (MkM2 (if VT.askOku t (t.getD VT.methodN) = true then VT.askMu t (t.getD VT.methodN) else .nul) (.int .i64 (if VT.askOku t (t.getD VT.methodN) = true then 0 else 120)) w) := by
  obtain ⟨bV, uV, e1, e2, hkV, -, GV⟩ := got_let t VT.rpcN (by omega)
  have HC := Lib.hid (fun W z v (hv : VLV z t W v) => pCheck_any t W _ v hv (z.lt W) (by omega))
  obtain ⟨bM, uM, e3, e4, hkM, -, GM⟩ := got_let t VT.methodN (by omega)
  rw [e2] at h3 hx
  rw [e3] at hm
  subst hm
  rw [e4]
  have HA : Hid (∀ W (v v' : Value) (z z' : Zone), VLV z t W v → VLV z' uM W v' → ML W → Calls Tryz.prog 96 #[v, v'] W (MkM2 (VT.askMu t uM) (.bool (VT.askOku t uM)) W)) := Lib.hid (fun W v v' z z' hv hv' hM => asks_any t uM z z' v v' W hv hv' hM (by omega))
  generalize VT.askMu t uM = mA at *
  generalize VT.askOku t uM = ok at *
  generalize hmm : (if ok = true then mA else MT.nul) = mm
  generalize hbb : (if ok = true then (0 : Int) else 120) = bb
  have HMM := Lib.hid hmm
  have HBB := Lib.hid hbb
  have q1 := bne_f hc
  have HQ3 := Lib.hid h3
  have HQX := Lib.hid hx
  generalize t.check = c at *
  clear hc h3 hx e2 e3 e4 hmm hbb hkM
  obtain ⟨At, nt, ct, Bt, mt, dt, rfl⟩ := h.parts
  have Ht := Lib.hid h.old
  have HM := Lib.hid hM
  have HM0 := Lib.hid hM
  have HKt := Lib.hid hk
  have HB := Lib.hid (Below.refl w.heap.size w)
  clear h hM hk hkV e1
  go_enter Tryz.func33, Tryz.ntmps33
  go_wp2_with fail
  refine at2 (fun w1 hX0 hX1 hb hz => ?_)
  replace Ht := Lib.hid (Ht.out.up hb)
  replace HM := Lib.hid (HM.out.on hb)
  replace HB := Lib.hid (HB.out.trans (hb.mono HB.out.size))
  have HK := Lib.hid (Blks.one hX0)
  replace HK := Lib.hid (Blks.cons hX1 HK.out)
  clear hX0 hX1 hb
  have HQ := Lib.hid hz
  clear hz
  refine (GV w1 _ _ Ht.out).mono ?_
  rintro e w2 ⟨v', rfl, hv, hb, hnf⟩
  obtain ⟨AV, nV, cV, BV, mV, dV, rfl⟩ := VAL.parts hv
  have HVV := Lib.hid (VAL.zf hv hnf HQ.out)
  clear hv hnf
  replace Ht := Lib.hid (Ht.out.up hb)
  replace HM := Lib.hid (HM.out.on hb)
  replace HQ := Lib.hid (Nat.le_trans HQ.out hb.size)
  replace HK := Lib.hid (HK.out.on hb)
  replace HB := Lib.hid (HB.out.trans (hb.mono HB.out.size))
  clear hb
  go_upto_region 2 with (fail)
  have HGgV := Lib.hid ((Blks.hd HK.out).lt)
  have hb : Below w2.heap.size w2 (w2.alloc (.cells #[.int .i64 uV.kind, .bool uV.is, .string uV.text, .slice AV nV cV, .slice BV mV dV] 25)) := made_end' w2 _
  replace Ht := Lib.hid (Ht.out.up hb)
  replace HM := Lib.hid (HM.out.on hb)
  replace HQ := Lib.hid (Nat.le_trans HQ.out hb.size)
  replace HVV := Lib.hid (HVV.out.up hb)
  replace HK := Lib.hid (HK.out.on hb)
  replace HB := Lib.hid (HB.out.trans (hb.mono HB.out.size))
  have hX0 : BK (w2.alloc (.cells #[.int .i64 uV.kind, .bool uV.is, .string uV.text, .slice AV nV cV, .slice BV mV dV] 25)) (w2.heap.size) 25 #[.int .i64 uV.kind, .bool uV.is, .string uV.text, .slice AV nV cV, .slice BV mV dV] := BK.new w2 _ _
  replace HK := Lib.hid (Blks.cons hX0 HK.out)
  clear hb hX0
  generalize (w2.alloc (.cells #[.int .i64 uV.kind, .bool uV.is, .string uV.text, .slice AV nV cV, .slice BV mV dV] 25)) = w3 at *
  generalize w2.heap.size = gV at *
  have hg := Blks.hd (Blks.tl (Blks.tl HK.out))
  have y0 := hg.c 0 rfl
  have y1 := hg.c 1 rfl
  have y2 := hg.c 2 rfl
  have y3 := hg.c 3 rfl
  have y4 := hg.c 4 rfl
  clear hg
  go_wp2_with fail
  clear y0 y1 y2 y3 y4
  refine (HC.out w3 _ _ Ht.out).mono ?_
  rintro e w4 ⟨rfl, hb⟩
  replace Ht := Lib.hid (Ht.out.up hb)
  replace HM := Lib.hid (HM.out.on hb)
  replace HQ := Lib.hid (Nat.le_trans HQ.out hb.size)
  replace HVV := Lib.hid (HVV.out.up hb)
  replace HK := Lib.hid (HK.out.on hb)
  replace HB := Lib.hid (HB.out.trans (hb.mono HB.out.size))
  clear hb
  have hg := Blks.hd HK.out
  have y0 := hg.c 0 rfl
  have y2 := hg.c 2 rfl
  clear hg
  have q3 := HQ3.out
  rw [q3] at y0
  have x1 := HQX.out
  rw [x1] at y2
  unfold VT.twoS at y2
  clear q3 x1
  go_upto_region 5 with (fail)
  clear y0 y2
  have HGgM := Lib.hid ((Blks.hd HK.out).lt)
  have hb : Below w4.heap.size w4 (w4.alloc (.cells #[.int .i64 0, .int .i64 0, .bool false, .string ⟨#[]⟩, .slice none 0 0, .slice none 0 0, .string ⟨#[]⟩, .bool false, .int .i64 0, .bool false, .string ⟨#[]⟩, .slice none 0 0, .slice none 0 0, .int .i64 0, .bool false, .string ⟨#[]⟩, .slice none 0 0, .slice none 0 0, .int .i64 0, .string ⟨#[]⟩] 46)) := made_end' w4 _
  replace Ht := Lib.hid (Ht.out.up hb)
  replace HM := Lib.hid (HM.out.on hb)
  replace HQ := Lib.hid (Nat.le_trans HQ.out hb.size)
  replace HVV := Lib.hid (HVV.out.up hb)
  replace HK := Lib.hid (HK.out.on hb)
  replace HB := Lib.hid (HB.out.trans (hb.mono HB.out.size))
  have hX0 : BK (w4.alloc (.cells #[.int .i64 0, .int .i64 0, .bool false, .string ⟨#[]⟩, .slice none 0 0, .slice none 0 0, .string ⟨#[]⟩, .bool false, .int .i64 0, .bool false, .string ⟨#[]⟩, .slice none 0 0, .slice none 0 0, .int .i64 0, .bool false, .string ⟨#[]⟩, .slice none 0 0, .slice none 0 0, .int .i64 0, .string ⟨#[]⟩] 46)) (w4.heap.size) 46 #[.int .i64 0, .int .i64 0, .bool false, .string ⟨#[]⟩, .slice none 0 0, .slice none 0 0, .string ⟨#[]⟩, .bool false, .int .i64 0, .bool false, .string ⟨#[]⟩, .slice none 0 0, .slice none 0 0, .int .i64 0, .bool false, .string ⟨#[]⟩, .slice none 0 0, .slice none 0 0, .int .i64 0, .string ⟨#[]⟩] := BK.new w4 _ _
  replace HK := Lib.hid (Blks.cons hX0 HK.out)
  clear hb hX0
  generalize (w4.alloc (.cells #[.int .i64 0, .int .i64 0, .bool false, .string ⟨#[]⟩, .slice none 0 0, .slice none 0 0, .string ⟨#[]⟩, .bool false, .int .i64 0, .bool false, .string ⟨#[]⟩, .slice none 0 0, .slice none 0 0, .int .i64 0, .bool false, .string ⟨#[]⟩, .slice none 0 0, .slice none 0 0, .int .i64 0, .string ⟨#[]⟩] 46)) = w5 at *
  generalize w4.heap.size = gM at *
  have hg := Blks.hd (Blks.tl (Blks.tl (Blks.tl HK.out)))
  have y0 := hg.c 0 rfl
  have y1 := hg.c 1 rfl
  have y2 := hg.c 2 rfl
  have y3 := hg.c 3 rfl
  have y4 := hg.c 4 rfl
  clear hg
  go_wp2_with fail
  clear y0 y1 y2 y3 y4
  refine (GM w5 _ _ Ht.out).mono ?_
  rintro e w6 ⟨v', rfl, hv, hb, hnf⟩
  obtain ⟨AM, nM, cM, BM, mM, dM, rfl⟩ := VAL.parts hv
  have HVM := Lib.hid (VAL.zf hv hnf HQ.out)
  clear hv hnf
  replace Ht := Lib.hid (Ht.out.up hb)
  replace HM := Lib.hid (HM.out.on hb)
  replace HQ := Lib.hid (Nat.le_trans HQ.out hb.size)
  replace HVV := Lib.hid (HVV.out.up hb)
  replace HK := Lib.hid (HK.out.on hb)
  replace HB := Lib.hid (HB.out.trans (hb.mono HB.out.size))
  clear hb
  go_upto_region 6 with (fail)
  have HGgN := Lib.hid ((Blks.hd HK.out).lt)
  have hb : Below w6.heap.size w6 (w6.alloc (.cells #[.int .i64 uM.kind, .bool uM.is, .string uM.text, .slice AM nM cM, .slice BM mM dM] 25)) := made_end' w6 _
  replace Ht := Lib.hid (Ht.out.up hb)
  replace HM := Lib.hid (HM.out.on hb)
  replace HQ := Lib.hid (Nat.le_trans HQ.out hb.size)
  replace HVV := Lib.hid (HVV.out.up hb)
  replace HVM := Lib.hid (HVM.out.up hb)
  replace HK := Lib.hid (HK.out.on hb)
  replace HB := Lib.hid (HB.out.trans (hb.mono HB.out.size))
  have hX0 : BK (w6.alloc (.cells #[.int .i64 uM.kind, .bool uM.is, .string uM.text, .slice AM nM cM, .slice BM mM dM] 25)) (w6.heap.size) 25 #[.int .i64 uM.kind, .bool uM.is, .string uM.text, .slice AM nM cM, .slice BM mM dM] := BK.new w6 _ _
  replace HK := Lib.hid (Blks.cons hX0 HK.out)
  clear hb hX0
  generalize (w6.alloc (.cells #[.int .i64 uM.kind, .bool uM.is, .string uM.text, .slice AM nM cM, .slice BM mM dM] 25)) = w7 at *
  generalize w6.heap.size = gN at *
  have hg := Blks.hd (Blks.tl (Blks.tl (Blks.tl (Blks.tl HK.out))))
  have y0 := hg.c 0 rfl
  have y1 := hg.c 1 rfl
  have y2 := hg.c 2 rfl
  have y3 := hg.c 3 rfl
  have y4 := hg.c 4 rfl
  clear hg
  have hg := Blks.hd HK.out
  have u0 := hg.c 0 rfl
  have u1 := hg.c 1 rfl
  have u2 := hg.c 2 rfl
  have u3 := hg.c 3 rfl
  have u4 := hg.c 4 rfl
  clear hg
  go_wp2_with fail
  clear y0 y1 y2 y3 y4 u0 u1 u2 u3 u4
  have HNw := Lib.hid (Blks.hd HK.out).lt
  refine (HA.out w7 _ _ _ _ Ht.out HVM.out.1 HM.out).mono ?_
  rintro e w8 ⟨v', rfl, hm, hb⟩
  clear HVM HVV
  obtain ⟨ix0, ix1, ix2, ix3, ix4, px0, px1, px2, px3, px4, rx0, rx1, rx2, rx3, rx4, he, h1, h2, h3⟩ := hm
  subst he
  obtain ⟨kxi, bxi, xxi, Axi, nxi, cxi, Bxi, mxi, dxi, rfl, rfl, rfl, rfl, rfl⟩ := VAL.shape5 h1.1
  obtain ⟨kxp, bxp, xxp, Axp, nxp, cxp, Bxp, mxp, dxp, rfl, rfl, rfl, rfl, rfl⟩ := VAL.shape5 h2.1
  obtain ⟨kxr, bxr, xxr, Axr, nxr, cxr, Bxr, mxr, dxr, rfl, rfl, rfl, rfl, rfl⟩ := VAL.shape5 h3.1
  have HVix := Lib.hid h1
  have HVpx := Lib.hid h2
  have HVrx := Lib.hid h3
  clear h1 h2 h3
  replace Ht := Lib.hid (Ht.out.up hb)
  replace HM := Lib.hid (HM.out.on hb)
  replace HQ := Lib.hid (Nat.le_trans HQ.out hb.size)
  replace HK := Lib.hid (HK.out.on hb)
  replace HB := Lib.hid (HB.out.trans (hb.mono HB.out.size))
  clear hb
  cases ok
  · skip
    go_wp2_with (first
      | (refine store_fld rfl rfl 46 (.tmp 6) (.tmp 38) rfl (gM) 0 (.agg #[.int .i64 mA.kind, .int .i64 kxi, .bool bxi, .string xxi, .slice Axi nxi cxi, .slice Bxi mxi dxi, .string mA.method, .bool mA.has, .int .i64 kxp, .bool bxp, .string xxp, .slice Axp nxp cxp, .slice Bxp mxp dxp, .int .i64 kxr, .bool bxr, .string xxr, .slice Axr nxr cxr, .slice Bxr mxr dxr, .int .i64 mA.code, .string mA.text]) [.int .i64 mA.kind, .int .i64 kxi, .bool bxi, .string xxi, .slice Axi nxi cxi, .slice Bxi mxi dxi, .string mA.method, .bool mA.has, .int .i64 kxp, .bool bxp, .string xxp, .slice Axp nxp cxp, .slice Bxp mxp dxp, .int .i64 kxr, .bool bxr, .string xxr, .slice Axr nxr cxr, .slice Bxr mxr dxr, .int .i64 mA.code, .string mA.text] rfl rfl rfl #[.int .i64 mA.kind, .int .i64 kxi, .bool bxi, .string xxi, .slice Axi nxi cxi, .slice Bxi mxi dxi, .string mA.method, .bool mA.has, .int .i64 kxp, .bool bxp, .string xxp, .slice Axp nxp cxp, .slice Bxp mxp dxp, .int .i64 kxr, .bool bxr, .string xxr, .slice Axr nxr cxr, .slice Bxr mxr dxr, .int .i64 mA.code, .string mA.text] (Blks.hd (Blks.tl HK.out)) (by kernel_rfl) (Nat.le_of_ble_eq_true rfl) (by simp [Value.oneCell']) rfl ?_
         intro w9 hS hbt hsz
         replace Ht := Lib.hid (Ht.out.butL hbt (by have := HGgV.out; have := HGgM.out; have := HGgN.out; have := HNw.out; omega))
         replace HM := Lib.hid (ML.but2 HM0.out HM.out hbt (by have := HGgV.out; have := HGgM.out; have := HGgN.out; have := HNw.out; omega))
         replace HQ := Lib.hid (Nat.le_trans HQ.out hbt.size)
         replace HVix := Lib.hid (HVix.out.but hbt (by have := HGgV.out; have := HGgM.out; have := HGgN.out; have := HNw.out; omega))
         replace HVpx := Lib.hid (HVpx.out.but hbt (by have := HGgV.out; have := HGgM.out; have := HGgN.out; have := HNw.out; omega))
         replace HVrx := Lib.hid (HVrx.out.but hbt (by have := HGgV.out; have := HGgM.out; have := HGgN.out; have := HNw.out; omega))
         replace HK := Lib.hid (Blks.cons (BK.but (Blks.hd HK.out) hbt (by have := HGgV.out; have := HGgM.out; have := HGgN.out; have := HNw.out; omega)) (Blks.cons hS (Blks.cons (BK.but (Blks.hd (Blks.tl (Blks.tl HK.out))) hbt (by have := HGgV.out; have := HGgM.out; have := HGgN.out; have := HNw.out; omega)) (Blks.cons (BK.but (Blks.hd (Blks.tl (Blks.tl (Blks.tl HK.out)))) hbt (by have := HGgV.out; have := HGgM.out; have := HGgN.out; have := HNw.out; omega)) (Blks.one (BK.but (Blks.hd (Blks.tl (Blks.tl (Blks.tl (Blks.tl HK.out))))) hbt (by have := HGgV.out; have := HGgM.out; have := HGgN.out; have := HNw.out; omega)))))))
         replace HB := Lib.hid (hbt.below HB.out (by have := HGgV.out; have := HGgM.out; have := HGgN.out; have := HNw.out; omega) HB.out.size)
         clear hbt hS hsz)
      | (refine store_fld rfl rfl 46 (.tmp 2) (.tmp 47) rfl (w.heap.size + 1) 0 (.agg #[.int .i64 0, .int .i64 0, .bool false, .string ⟨#[]⟩, .slice none 0 0, .slice none 0 0, .string ⟨#[]⟩, .bool false, .int .i64 0, .bool false, .string ⟨#[]⟩, .slice none 0 0, .slice none 0 0, .int .i64 0, .bool false, .string ⟨#[]⟩, .slice none 0 0, .slice none 0 0, .int .i64 0, .string ⟨#[]⟩]) [.int .i64 0, .int .i64 0, .bool false, .string ⟨#[]⟩, .slice none 0 0, .slice none 0 0, .string ⟨#[]⟩, .bool false, .int .i64 0, .bool false, .string ⟨#[]⟩, .slice none 0 0, .slice none 0 0, .int .i64 0, .bool false, .string ⟨#[]⟩, .slice none 0 0, .slice none 0 0, .int .i64 0, .string ⟨#[]⟩] rfl rfl rfl #[.int .i64 0, .int .i64 0, .bool false, .string ⟨#[]⟩, .slice none 0 0, .slice none 0 0, .string ⟨#[]⟩, .bool false, .int .i64 0, .bool false, .string ⟨#[]⟩, .slice none 0 0, .slice none 0 0, .int .i64 0, .bool false, .string ⟨#[]⟩, .slice none 0 0, .slice none 0 0, .int .i64 0, .string ⟨#[]⟩] (Blks.hd (Blks.tl (Blks.tl (Blks.tl HK.out)))) (by kernel_rfl) (Nat.le_of_ble_eq_true rfl) (by simp [Value.oneCell']) rfl ?_
         intro w10 hS hbt hsz
         replace Ht := Lib.hid (Ht.out.butL hbt (by have := HGgV.out; have := HGgM.out; have := HGgN.out; have := HNw.out; omega))
         replace HM := Lib.hid (ML.but2 HM0.out HM.out hbt (by have := HGgV.out; have := HGgM.out; have := HGgN.out; have := HNw.out; omega))
         replace HQ := Lib.hid (Nat.le_trans HQ.out hbt.size)
         replace HVix := Lib.hid (HVix.out.but hbt (by have := HGgV.out; have := HGgM.out; have := HGgN.out; have := HNw.out; omega))
         replace HVpx := Lib.hid (HVpx.out.but hbt (by have := HGgV.out; have := HGgM.out; have := HGgN.out; have := HNw.out; omega))
         replace HVrx := Lib.hid (HVrx.out.but hbt (by have := HGgV.out; have := HGgM.out; have := HGgN.out; have := HNw.out; omega))
         replace HK := Lib.hid (Blks.cons (BK.but (Blks.hd HK.out) hbt (by have := HGgV.out; have := HGgM.out; have := HGgN.out; have := HNw.out; omega)) (Blks.cons (BK.but (Blks.hd (Blks.tl HK.out)) hbt (by have := HGgV.out; have := HGgM.out; have := HGgN.out; have := HNw.out; omega)) (Blks.cons (BK.but (Blks.hd (Blks.tl (Blks.tl HK.out))) hbt (by have := HGgV.out; have := HGgM.out; have := HGgN.out; have := HNw.out; omega)) (Blks.cons hS (Blks.one (BK.but (Blks.hd (Blks.tl (Blks.tl (Blks.tl (Blks.tl HK.out))))) hbt (by have := HGgV.out; have := HGgM.out; have := HGgN.out; have := HNw.out; omega)))))))
         replace HB := Lib.hid (hbt.below HB.out (by have := HGgV.out; have := HGgM.out; have := HGgN.out; have := HNw.out; omega) HB.out.size)
         clear hbt hS hsz))
    go_wp2
    have hmm := HMM.out
    subst hmm
    have hbb := HBB.out
    subst hbb
    exact bodyPost_ret (results_row2 rfl _ _ (w.heap.size + 1) _ #[.int .i64 0, .int .i64 0, .bool false, .string ⟨#[]⟩, .slice none 0 0, .slice none 0 0, .string ⟨#[]⟩, .bool false, .int .i64 0, .bool false, .string ⟨#[]⟩, .slice none 0 0, .slice none 0 0, .int .i64 0, .bool false, .string ⟨#[]⟩, .slice none 0 0, .slice none 0 0, .int .i64 0, .string ⟨#[]⟩] _ rfl _ rfl (Blks.hd (Blks.tl (Blks.tl (Blks.tl HK.out)))) Tryz.underlying46 rfl (by kernel_rfl)) rfl ⟨_, rfl, ⟨_, _, _, _, _, _, _, _, _, _, _, _, _, _, _, rfl, (nul_VLF _ _), (nul_VLF _ _), (nul_VLF _ _)⟩, HB.out⟩
  · skip
    go_wp2_with (first
      | (refine store_fld rfl rfl 46 (.tmp 6) (.tmp 38) rfl (gM) 0 (.agg #[.int .i64 mA.kind, .int .i64 kxi, .bool bxi, .string xxi, .slice Axi nxi cxi, .slice Bxi mxi dxi, .string mA.method, .bool mA.has, .int .i64 kxp, .bool bxp, .string xxp, .slice Axp nxp cxp, .slice Bxp mxp dxp, .int .i64 kxr, .bool bxr, .string xxr, .slice Axr nxr cxr, .slice Bxr mxr dxr, .int .i64 mA.code, .string mA.text]) [.int .i64 mA.kind, .int .i64 kxi, .bool bxi, .string xxi, .slice Axi nxi cxi, .slice Bxi mxi dxi, .string mA.method, .bool mA.has, .int .i64 kxp, .bool bxp, .string xxp, .slice Axp nxp cxp, .slice Bxp mxp dxp, .int .i64 kxr, .bool bxr, .string xxr, .slice Axr nxr cxr, .slice Bxr mxr dxr, .int .i64 mA.code, .string mA.text] rfl rfl rfl #[.int .i64 mA.kind, .int .i64 kxi, .bool bxi, .string xxi, .slice Axi nxi cxi, .slice Bxi mxi dxi, .string mA.method, .bool mA.has, .int .i64 kxp, .bool bxp, .string xxp, .slice Axp nxp cxp, .slice Bxp mxp dxp, .int .i64 kxr, .bool bxr, .string xxr, .slice Axr nxr cxr, .slice Bxr mxr dxr, .int .i64 mA.code, .string mA.text] (Blks.hd (Blks.tl HK.out)) (by kernel_rfl) (Nat.le_of_ble_eq_true rfl) (by simp [Value.oneCell']) rfl ?_
         intro w9 hS hbt hsz
         replace Ht := Lib.hid (Ht.out.butL hbt (by have := HGgV.out; have := HGgM.out; have := HGgN.out; have := HNw.out; omega))
         replace HM := Lib.hid (ML.but2 HM0.out HM.out hbt (by have := HGgV.out; have := HGgM.out; have := HGgN.out; have := HNw.out; omega))
         replace HQ := Lib.hid (Nat.le_trans HQ.out hbt.size)
         replace HVix := Lib.hid (HVix.out.but hbt (by have := HGgV.out; have := HGgM.out; have := HGgN.out; have := HNw.out; omega))
         replace HVpx := Lib.hid (HVpx.out.but hbt (by have := HGgV.out; have := HGgM.out; have := HGgN.out; have := HNw.out; omega))
         replace HVrx := Lib.hid (HVrx.out.but hbt (by have := HGgV.out; have := HGgM.out; have := HGgN.out; have := HNw.out; omega))
         replace HK := Lib.hid (Blks.cons (BK.but (Blks.hd HK.out) hbt (by have := HGgV.out; have := HGgM.out; have := HGgN.out; have := HNw.out; omega)) (Blks.cons hS (Blks.cons (BK.but (Blks.hd (Blks.tl (Blks.tl HK.out))) hbt (by have := HGgV.out; have := HGgM.out; have := HGgN.out; have := HNw.out; omega)) (Blks.cons (BK.but (Blks.hd (Blks.tl (Blks.tl (Blks.tl HK.out)))) hbt (by have := HGgV.out; have := HGgM.out; have := HGgN.out; have := HNw.out; omega)) (Blks.one (BK.but (Blks.hd (Blks.tl (Blks.tl (Blks.tl (Blks.tl HK.out))))) hbt (by have := HGgV.out; have := HGgM.out; have := HGgN.out; have := HNw.out; omega)))))))
         replace HB := Lib.hid (hbt.below HB.out (by have := HGgV.out; have := HGgM.out; have := HGgN.out; have := HNw.out; omega) HB.out.size)
         clear hbt hS hsz)
      | (refine wpList_load_row rfl 46 (.tmp 6) rfl (gM) rfl 46 #[.int .i64 mA.kind, .int .i64 kxi, .bool bxi, .string xxi, .slice Axi nxi cxi, .slice Bxi mxi dxi, .string mA.method, .bool mA.has, .int .i64 kxp, .bool bxp, .string xxp, .slice Axp nxp cxp, .slice Bxp mxp dxp, .int .i64 kxr, .bool bxr, .string xxr, .slice Axr nxr cxr, .slice Bxr mxr dxr, .int .i64 mA.code, .string mA.text] (0, 0) _ (Blks.hd (Blks.tl HK.out)) Tryz.underlying46 rfl (by kernel_rfl) ?_)
      | (refine store_fld rfl rfl 46 (.tmp 2) (.tmp 48) rfl (w.heap.size + 1) 0 (.agg #[.int .i64 mA.kind, .int .i64 kxi, .bool bxi, .string xxi, .slice Axi nxi cxi, .slice Bxi mxi dxi, .string mA.method, .bool mA.has, .int .i64 kxp, .bool bxp, .string xxp, .slice Axp nxp cxp, .slice Bxp mxp dxp, .int .i64 kxr, .bool bxr, .string xxr, .slice Axr nxr cxr, .slice Bxr mxr dxr, .int .i64 mA.code, .string mA.text]) [.int .i64 mA.kind, .int .i64 kxi, .bool bxi, .string xxi, .slice Axi nxi cxi, .slice Bxi mxi dxi, .string mA.method, .bool mA.has, .int .i64 kxp, .bool bxp, .string xxp, .slice Axp nxp cxp, .slice Bxp mxp dxp, .int .i64 kxr, .bool bxr, .string xxr, .slice Axr nxr cxr, .slice Bxr mxr dxr, .int .i64 mA.code, .string mA.text] rfl rfl rfl #[.int .i64 mA.kind, .int .i64 kxi, .bool bxi, .string xxi, .slice Axi nxi cxi, .slice Bxi mxi dxi, .string mA.method, .bool mA.has, .int .i64 kxp, .bool bxp, .string xxp, .slice Axp nxp cxp, .slice Bxp mxp dxp, .int .i64 kxr, .bool bxr, .string xxr, .slice Axr nxr cxr, .slice Bxr mxr dxr, .int .i64 mA.code, .string mA.text] (Blks.hd (Blks.tl (Blks.tl (Blks.tl HK.out)))) (by kernel_rfl) (Nat.le_of_ble_eq_true rfl) (by simp [Value.oneCell']) rfl ?_
         intro w10 hS hbt hsz
         replace Ht := Lib.hid (Ht.out.butL hbt (by have := HGgV.out; have := HGgM.out; have := HGgN.out; have := HNw.out; omega))
         replace HM := Lib.hid (ML.but2 HM0.out HM.out hbt (by have := HGgV.out; have := HGgM.out; have := HGgN.out; have := HNw.out; omega))
         replace HQ := Lib.hid (Nat.le_trans HQ.out hbt.size)
         replace HVix := Lib.hid (HVix.out.but hbt (by have := HGgV.out; have := HGgM.out; have := HGgN.out; have := HNw.out; omega))
         replace HVpx := Lib.hid (HVpx.out.but hbt (by have := HGgV.out; have := HGgM.out; have := HGgN.out; have := HNw.out; omega))
         replace HVrx := Lib.hid (HVrx.out.but hbt (by have := HGgV.out; have := HGgM.out; have := HGgN.out; have := HNw.out; omega))
         replace HK := Lib.hid (Blks.cons (BK.but (Blks.hd HK.out) hbt (by have := HGgV.out; have := HGgM.out; have := HGgN.out; have := HNw.out; omega)) (Blks.cons (BK.but (Blks.hd (Blks.tl HK.out)) hbt (by have := HGgV.out; have := HGgM.out; have := HGgN.out; have := HNw.out; omega)) (Blks.cons (BK.but (Blks.hd (Blks.tl (Blks.tl HK.out))) hbt (by have := HGgV.out; have := HGgM.out; have := HGgN.out; have := HNw.out; omega)) (Blks.cons hS (Blks.one (BK.but (Blks.hd (Blks.tl (Blks.tl (Blks.tl (Blks.tl HK.out))))) hbt (by have := HGgV.out; have := HGgM.out; have := HGgN.out; have := HNw.out; omega)))))))
         replace HB := Lib.hid (hbt.below HB.out (by have := HGgV.out; have := HGgM.out; have := HGgN.out; have := HNw.out; omega) HB.out.size)
         clear hbt hS hsz))
    go_wp2
    have hmm := HMM.out
    subst hmm
    have hbb := HBB.out
    subst hbb
    exact bodyPost_ret (results_row2 rfl _ _ (w.heap.size + 1) _ #[.int .i64 mA.kind, .int .i64 kxi, .bool bxi, .string xxi, .slice Axi nxi cxi, .slice Bxi mxi dxi, .string mA.method, .bool mA.has, .int .i64 kxp, .bool bxp, .string xxp, .slice Axp nxp cxp, .slice Bxp mxp dxp, .int .i64 kxr, .bool bxr, .string xxr, .slice Axr nxr cxr, .slice Bxr mxr dxr, .int .i64 mA.code, .string mA.text] _ rfl _ rfl (Blks.hd (Blks.tl (Blks.tl (Blks.tl HK.out)))) Tryz.underlying46 rfl (by kernel_rfl)) rfl ⟨_, rfl, ⟨_, _, _, _, _, _, _, _, _, _, _, _, _, _, _, rfl, (VLF.le (B' := w.heap.size) HVix.out (by have := HGgV.out; have := HGgM.out; have := HGgN.out; have := HNw.out; omega)), (VLF.le (B' := w.heap.size) HVpx.out (by have := HGgV.out; have := HGgM.out; have := HGgN.out; have := HNw.out; omega)), (VLF.le (B' := w.heap.size) HVrx.out (by have := HGgV.out; have := HGgM.out; have := HGgN.out; have := HNw.out; omega))⟩, HB.out⟩
set_option maxRecDepth 100000 in
set_option maxHeartbeats 8000000 in
theorem Parse_ans (t : VT) (z : Zone) (v : Value) (w : World) (h : VLV z t w v) (hM : ML w) (hk : t.bulk ≤ 1073741800) (hc : t.check = 0) (h3 : (t.getD VT.rpcN).kind = 3) (hx : (t.getD VT.rpcN).text = VT.twoS) (hm : t.has VT.methodN = false) : Calls Tryz.prog 33 #[v] w (MkM2 (if VT.ansOk t = true then VT.ansMs t else .nul) (.int .i64 (if VT.ansOk t = true then 0 else 120)) w) := by
  obtain ⟨bV, uV, e1, e2, hkV, -, GV⟩ := got_let t VT.rpcN (by omega)
  have HC := Lib.hid (fun W z v (hv : VLV z t W v) => pCheck_any t W _ v hv (z.lt W) (by omega))
  obtain ⟨bM, uM, e3, e4, hkM, -, GM⟩ := got_let t VT.methodN (by omega)
  rw [e2] at h3 hx
  rw [e3] at hm
  subst hm
  have HA : Hid (∀ W (v v' : Value) (z z' : Zone), VLV z t W v → VLV z' uM W v' → ML W → Calls Tryz.prog 97 #[v] W (MkM2 (VT.ansMs t) (.bool (VT.ansOk t)) W)) := Lib.hid (fun W v v' z z' hv hv' hM => answers_any t z v W hv hM (by omega))
  generalize VT.ansMs t = mA at *
  generalize VT.ansOk t = ok at *
  generalize hmm : (if ok = true then mA else MT.nul) = mm
  generalize hbb : (if ok = true then (0 : Int) else 120) = bb
  have HMM := Lib.hid hmm
  have HBB := Lib.hid hbb
  have q1 := bne_f hc
  have HQ3 := Lib.hid h3
  have HQX := Lib.hid hx
  generalize t.check = c at *
  clear hc h3 hx e2 e3 e4 hmm hbb hkM
  obtain ⟨At, nt, ct, Bt, mt, dt, rfl⟩ := h.parts
  have Ht := Lib.hid h.old
  have HM := Lib.hid hM
  have HM0 := Lib.hid hM
  have HKt := Lib.hid hk
  have HB := Lib.hid (Below.refl w.heap.size w)
  clear h hM hk hkV e1
  go_enter Tryz.func33, Tryz.ntmps33
  go_wp2_with fail
  refine at2 (fun w1 hX0 hX1 hb hz => ?_)
  replace Ht := Lib.hid (Ht.out.up hb)
  replace HM := Lib.hid (HM.out.on hb)
  replace HB := Lib.hid (HB.out.trans (hb.mono HB.out.size))
  have HK := Lib.hid (Blks.one hX0)
  replace HK := Lib.hid (Blks.cons hX1 HK.out)
  clear hX0 hX1 hb
  have HQ := Lib.hid hz
  clear hz
  refine (GV w1 _ _ Ht.out).mono ?_
  rintro e w2 ⟨v', rfl, hv, hb, hnf⟩
  obtain ⟨AV, nV, cV, BV, mV, dV, rfl⟩ := VAL.parts hv
  have HVV := Lib.hid (VAL.zf hv hnf HQ.out)
  clear hv hnf
  replace Ht := Lib.hid (Ht.out.up hb)
  replace HM := Lib.hid (HM.out.on hb)
  replace HQ := Lib.hid (Nat.le_trans HQ.out hb.size)
  replace HK := Lib.hid (HK.out.on hb)
  replace HB := Lib.hid (HB.out.trans (hb.mono HB.out.size))
  clear hb
  go_upto_region 2 with (fail)
  have HGgV := Lib.hid ((Blks.hd HK.out).lt)
  have hb : Below w2.heap.size w2 (w2.alloc (.cells #[.int .i64 uV.kind, .bool uV.is, .string uV.text, .slice AV nV cV, .slice BV mV dV] 25)) := made_end' w2 _
  replace Ht := Lib.hid (Ht.out.up hb)
  replace HM := Lib.hid (HM.out.on hb)
  replace HQ := Lib.hid (Nat.le_trans HQ.out hb.size)
  replace HVV := Lib.hid (HVV.out.up hb)
  replace HK := Lib.hid (HK.out.on hb)
  replace HB := Lib.hid (HB.out.trans (hb.mono HB.out.size))
  have hX0 : BK (w2.alloc (.cells #[.int .i64 uV.kind, .bool uV.is, .string uV.text, .slice AV nV cV, .slice BV mV dV] 25)) (w2.heap.size) 25 #[.int .i64 uV.kind, .bool uV.is, .string uV.text, .slice AV nV cV, .slice BV mV dV] := BK.new w2 _ _
  replace HK := Lib.hid (Blks.cons hX0 HK.out)
  clear hb hX0
  generalize (w2.alloc (.cells #[.int .i64 uV.kind, .bool uV.is, .string uV.text, .slice AV nV cV, .slice BV mV dV] 25)) = w3 at *
  generalize w2.heap.size = gV at *
  have hg := Blks.hd (Blks.tl (Blks.tl HK.out))
  have y0 := hg.c 0 rfl
  have y1 := hg.c 1 rfl
  have y2 := hg.c 2 rfl
  have y3 := hg.c 3 rfl
  have y4 := hg.c 4 rfl
  clear hg
  go_wp2_with fail
  clear y0 y1 y2 y3 y4
  refine (HC.out w3 _ _ Ht.out).mono ?_
  rintro e w4 ⟨rfl, hb⟩
  replace Ht := Lib.hid (Ht.out.up hb)
  replace HM := Lib.hid (HM.out.on hb)
  replace HQ := Lib.hid (Nat.le_trans HQ.out hb.size)
  replace HVV := Lib.hid (HVV.out.up hb)
  replace HK := Lib.hid (HK.out.on hb)
  replace HB := Lib.hid (HB.out.trans (hb.mono HB.out.size))
  clear hb
  have hg := Blks.hd HK.out
  have y0 := hg.c 0 rfl
  have y2 := hg.c 2 rfl
  clear hg
  have q3 := HQ3.out
  rw [q3] at y0
  have x1 := HQX.out
  rw [x1] at y2
  unfold VT.twoS at y2
  clear q3 x1
  go_upto_region 5 with (fail)
  clear y0 y2
  have HGgM := Lib.hid ((Blks.hd HK.out).lt)
  have hb : Below w4.heap.size w4 (w4.alloc (.cells #[.int .i64 0, .int .i64 0, .bool false, .string ⟨#[]⟩, .slice none 0 0, .slice none 0 0, .string ⟨#[]⟩, .bool false, .int .i64 0, .bool false, .string ⟨#[]⟩, .slice none 0 0, .slice none 0 0, .int .i64 0, .bool false, .string ⟨#[]⟩, .slice none 0 0, .slice none 0 0, .int .i64 0, .string ⟨#[]⟩] 46)) := made_end' w4 _
  replace Ht := Lib.hid (Ht.out.up hb)
  replace HM := Lib.hid (HM.out.on hb)
  replace HQ := Lib.hid (Nat.le_trans HQ.out hb.size)
  replace HVV := Lib.hid (HVV.out.up hb)
  replace HK := Lib.hid (HK.out.on hb)
  replace HB := Lib.hid (HB.out.trans (hb.mono HB.out.size))
  have hX0 : BK (w4.alloc (.cells #[.int .i64 0, .int .i64 0, .bool false, .string ⟨#[]⟩, .slice none 0 0, .slice none 0 0, .string ⟨#[]⟩, .bool false, .int .i64 0, .bool false, .string ⟨#[]⟩, .slice none 0 0, .slice none 0 0, .int .i64 0, .bool false, .string ⟨#[]⟩, .slice none 0 0, .slice none 0 0, .int .i64 0, .string ⟨#[]⟩] 46)) (w4.heap.size) 46 #[.int .i64 0, .int .i64 0, .bool false, .string ⟨#[]⟩, .slice none 0 0, .slice none 0 0, .string ⟨#[]⟩, .bool false, .int .i64 0, .bool false, .string ⟨#[]⟩, .slice none 0 0, .slice none 0 0, .int .i64 0, .bool false, .string ⟨#[]⟩, .slice none 0 0, .slice none 0 0, .int .i64 0, .string ⟨#[]⟩] := BK.new w4 _ _
  replace HK := Lib.hid (Blks.cons hX0 HK.out)
  clear hb hX0
  generalize (w4.alloc (.cells #[.int .i64 0, .int .i64 0, .bool false, .string ⟨#[]⟩, .slice none 0 0, .slice none 0 0, .string ⟨#[]⟩, .bool false, .int .i64 0, .bool false, .string ⟨#[]⟩, .slice none 0 0, .slice none 0 0, .int .i64 0, .bool false, .string ⟨#[]⟩, .slice none 0 0, .slice none 0 0, .int .i64 0, .string ⟨#[]⟩] 46)) = w5 at *
  generalize w4.heap.size = gM at *
  have hg := Blks.hd (Blks.tl (Blks.tl (Blks.tl HK.out)))
  have y0 := hg.c 0 rfl
  have y1 := hg.c 1 rfl
  have y2 := hg.c 2 rfl
  have y3 := hg.c 3 rfl
  have y4 := hg.c 4 rfl
  clear hg
  go_wp2_with fail
  clear y0 y1 y2 y3 y4
  refine (GM w5 _ _ Ht.out).mono ?_
  rintro e w6 ⟨v', rfl, hv, hb, hnf⟩
  obtain ⟨AM, nM, cM, BM, mM, dM, rfl⟩ := VAL.parts hv
  have HVM := Lib.hid (VAL.zf hv hnf HQ.out)
  clear hv hnf
  replace Ht := Lib.hid (Ht.out.up hb)
  replace HM := Lib.hid (HM.out.on hb)
  replace HQ := Lib.hid (Nat.le_trans HQ.out hb.size)
  replace HVV := Lib.hid (HVV.out.up hb)
  replace HK := Lib.hid (HK.out.on hb)
  replace HB := Lib.hid (HB.out.trans (hb.mono HB.out.size))
  clear hb
  go_upto_region 6 with (fail)
  have HGgN := Lib.hid ((Blks.hd HK.out).lt)
  have hb : Below w6.heap.size w6 (w6.alloc (.cells #[.int .i64 uM.kind, .bool uM.is, .string uM.text, .slice AM nM cM, .slice BM mM dM] 25)) := made_end' w6 _
  replace Ht := Lib.hid (Ht.out.up hb)
  replace HM := Lib.hid (HM.out.on hb)
  replace HQ := Lib.hid (Nat.le_trans HQ.out hb.size)
  replace HVV := Lib.hid (HVV.out.up hb)
  replace HVM := Lib.hid (HVM.out.up hb)
  replace HK := Lib.hid (HK.out.on hb)
  replace HB := Lib.hid (HB.out.trans (hb.mono HB.out.size))
  have hX0 : BK (w6.alloc (.cells #[.int .i64 uM.kind, .bool uM.is, .string uM.text, .slice AM nM cM, .slice BM mM dM] 25)) (w6.heap.size) 25 #[.int .i64 uM.kind, .bool uM.is, .string uM.text, .slice AM nM cM, .slice BM mM dM] := BK.new w6 _ _
  replace HK := Lib.hid (Blks.cons hX0 HK.out)
  clear hb hX0
  generalize (w6.alloc (.cells #[.int .i64 uM.kind, .bool uM.is, .string uM.text, .slice AM nM cM, .slice BM mM dM] 25)) = w7 at *
  generalize w6.heap.size = gN at *
  have hg := Blks.hd (Blks.tl (Blks.tl (Blks.tl (Blks.tl HK.out))))
  have y0 := hg.c 0 rfl
  have y1 := hg.c 1 rfl
  have y2 := hg.c 2 rfl
  have y3 := hg.c 3 rfl
  have y4 := hg.c 4 rfl
  clear hg
  go_wp2_with fail
  clear y0 y1 y2 y3 y4
  have HNw := Lib.hid (Blks.hd HK.out).lt
  refine (HA.out w7 _ _ _ _ Ht.out HVM.out.1 HM.out).mono ?_
  rintro e w8 ⟨v', rfl, hm, hb⟩
  clear HVM HVV
  obtain ⟨ix0, ix1, ix2, ix3, ix4, px0, px1, px2, px3, px4, rx0, rx1, rx2, rx3, rx4, he, h1, h2, h3⟩ := hm
  subst he
  obtain ⟨kxi, bxi, xxi, Axi, nxi, cxi, Bxi, mxi, dxi, rfl, rfl, rfl, rfl, rfl⟩ := VAL.shape5 h1.1
  obtain ⟨kxp, bxp, xxp, Axp, nxp, cxp, Bxp, mxp, dxp, rfl, rfl, rfl, rfl, rfl⟩ := VAL.shape5 h2.1
  obtain ⟨kxr, bxr, xxr, Axr, nxr, cxr, Bxr, mxr, dxr, rfl, rfl, rfl, rfl, rfl⟩ := VAL.shape5 h3.1
  have HVix := Lib.hid h1
  have HVpx := Lib.hid h2
  have HVrx := Lib.hid h3
  clear h1 h2 h3
  replace Ht := Lib.hid (Ht.out.up hb)
  replace HM := Lib.hid (HM.out.on hb)
  replace HQ := Lib.hid (Nat.le_trans HQ.out hb.size)
  replace HK := Lib.hid (HK.out.on hb)
  replace HB := Lib.hid (HB.out.trans (hb.mono HB.out.size))
  clear hb
  cases ok
  · skip
    go_wp2_with (first
      | (refine store_fld rfl rfl 46 (.tmp 6) (.tmp 43) rfl (gM) 0 (.agg #[.int .i64 mA.kind, .int .i64 kxi, .bool bxi, .string xxi, .slice Axi nxi cxi, .slice Bxi mxi dxi, .string mA.method, .bool mA.has, .int .i64 kxp, .bool bxp, .string xxp, .slice Axp nxp cxp, .slice Bxp mxp dxp, .int .i64 kxr, .bool bxr, .string xxr, .slice Axr nxr cxr, .slice Bxr mxr dxr, .int .i64 mA.code, .string mA.text]) [.int .i64 mA.kind, .int .i64 kxi, .bool bxi, .string xxi, .slice Axi nxi cxi, .slice Bxi mxi dxi, .string mA.method, .bool mA.has, .int .i64 kxp, .bool bxp, .string xxp, .slice Axp nxp cxp, .slice Bxp mxp dxp, .int .i64 kxr, .bool bxr, .string xxr, .slice Axr nxr cxr, .slice Bxr mxr dxr, .int .i64 mA.code, .string mA.text] rfl rfl rfl #[.int .i64 mA.kind, .int .i64 kxi, .bool bxi, .string xxi, .slice Axi nxi cxi, .slice Bxi mxi dxi, .string mA.method, .bool mA.has, .int .i64 kxp, .bool bxp, .string xxp, .slice Axp nxp cxp, .slice Bxp mxp dxp, .int .i64 kxr, .bool bxr, .string xxr, .slice Axr nxr cxr, .slice Bxr mxr dxr, .int .i64 mA.code, .string mA.text] (Blks.hd (Blks.tl HK.out)) (by kernel_rfl) (Nat.le_of_ble_eq_true rfl) (by simp [Value.oneCell']) rfl ?_
         intro w9 hS hbt hsz
         replace Ht := Lib.hid (Ht.out.butL hbt (by have := HGgV.out; have := HGgM.out; have := HGgN.out; have := HNw.out; omega))
         replace HM := Lib.hid (ML.but2 HM0.out HM.out hbt (by have := HGgV.out; have := HGgM.out; have := HGgN.out; have := HNw.out; omega))
         replace HQ := Lib.hid (Nat.le_trans HQ.out hbt.size)
         replace HVix := Lib.hid (HVix.out.but hbt (by have := HGgV.out; have := HGgM.out; have := HGgN.out; have := HNw.out; omega))
         replace HVpx := Lib.hid (HVpx.out.but hbt (by have := HGgV.out; have := HGgM.out; have := HGgN.out; have := HNw.out; omega))
         replace HVrx := Lib.hid (HVrx.out.but hbt (by have := HGgV.out; have := HGgM.out; have := HGgN.out; have := HNw.out; omega))
         replace HK := Lib.hid (Blks.cons (BK.but (Blks.hd HK.out) hbt (by have := HGgV.out; have := HGgM.out; have := HGgN.out; have := HNw.out; omega)) (Blks.cons hS (Blks.cons (BK.but (Blks.hd (Blks.tl (Blks.tl HK.out))) hbt (by have := HGgV.out; have := HGgM.out; have := HGgN.out; have := HNw.out; omega)) (Blks.cons (BK.but (Blks.hd (Blks.tl (Blks.tl (Blks.tl HK.out)))) hbt (by have := HGgV.out; have := HGgM.out; have := HGgN.out; have := HNw.out; omega)) (Blks.one (BK.but (Blks.hd (Blks.tl (Blks.tl (Blks.tl (Blks.tl HK.out))))) hbt (by have := HGgV.out; have := HGgM.out; have := HGgN.out; have := HNw.out; omega)))))))
         replace HB := Lib.hid (hbt.below HB.out (by have := HGgV.out; have := HGgM.out; have := HGgN.out; have := HNw.out; omega) HB.out.size)
         clear hbt hS hsz)
      | (refine store_fld rfl rfl 46 (.tmp 2) (.tmp 47) rfl (w.heap.size + 1) 0 (.agg #[.int .i64 0, .int .i64 0, .bool false, .string ⟨#[]⟩, .slice none 0 0, .slice none 0 0, .string ⟨#[]⟩, .bool false, .int .i64 0, .bool false, .string ⟨#[]⟩, .slice none 0 0, .slice none 0 0, .int .i64 0, .bool false, .string ⟨#[]⟩, .slice none 0 0, .slice none 0 0, .int .i64 0, .string ⟨#[]⟩]) [.int .i64 0, .int .i64 0, .bool false, .string ⟨#[]⟩, .slice none 0 0, .slice none 0 0, .string ⟨#[]⟩, .bool false, .int .i64 0, .bool false, .string ⟨#[]⟩, .slice none 0 0, .slice none 0 0, .int .i64 0, .bool false, .string ⟨#[]⟩, .slice none 0 0, .slice none 0 0, .int .i64 0, .string ⟨#[]⟩] rfl rfl rfl #[.int .i64 0, .int .i64 0, .bool false, .string ⟨#[]⟩, .slice none 0 0, .slice none 0 0, .string ⟨#[]⟩, .bool false, .int .i64 0, .bool false, .string ⟨#[]⟩, .slice none 0 0, .slice none 0 0, .int .i64 0, .bool false, .string ⟨#[]⟩, .slice none 0 0, .slice none 0 0, .int .i64 0, .string ⟨#[]⟩] (Blks.hd (Blks.tl (Blks.tl (Blks.tl HK.out)))) (by kernel_rfl) (Nat.le_of_ble_eq_true rfl) (by simp [Value.oneCell']) rfl ?_
         intro w10 hS hbt hsz
         replace Ht := Lib.hid (Ht.out.butL hbt (by have := HGgV.out; have := HGgM.out; have := HGgN.out; have := HNw.out; omega))
         replace HM := Lib.hid (ML.but2 HM0.out HM.out hbt (by have := HGgV.out; have := HGgM.out; have := HGgN.out; have := HNw.out; omega))
         replace HQ := Lib.hid (Nat.le_trans HQ.out hbt.size)
         replace HVix := Lib.hid (HVix.out.but hbt (by have := HGgV.out; have := HGgM.out; have := HGgN.out; have := HNw.out; omega))
         replace HVpx := Lib.hid (HVpx.out.but hbt (by have := HGgV.out; have := HGgM.out; have := HGgN.out; have := HNw.out; omega))
         replace HVrx := Lib.hid (HVrx.out.but hbt (by have := HGgV.out; have := HGgM.out; have := HGgN.out; have := HNw.out; omega))
         replace HK := Lib.hid (Blks.cons (BK.but (Blks.hd HK.out) hbt (by have := HGgV.out; have := HGgM.out; have := HGgN.out; have := HNw.out; omega)) (Blks.cons (BK.but (Blks.hd (Blks.tl HK.out)) hbt (by have := HGgV.out; have := HGgM.out; have := HGgN.out; have := HNw.out; omega)) (Blks.cons (BK.but (Blks.hd (Blks.tl (Blks.tl HK.out))) hbt (by have := HGgV.out; have := HGgM.out; have := HGgN.out; have := HNw.out; omega)) (Blks.cons hS (Blks.one (BK.but (Blks.hd (Blks.tl (Blks.tl (Blks.tl (Blks.tl HK.out))))) hbt (by have := HGgV.out; have := HGgM.out; have := HGgN.out; have := HNw.out; omega)))))))
         replace HB := Lib.hid (hbt.below HB.out (by have := HGgV.out; have := HGgM.out; have := HGgN.out; have := HNw.out; omega) HB.out.size)
         clear hbt hS hsz))
    go_wp2
    have hmm := HMM.out
    subst hmm
    have hbb := HBB.out
    subst hbb
    exact bodyPost_ret (results_row2 rfl _ _ (w.heap.size + 1) _ #[.int .i64 0, .int .i64 0, .bool false, .string ⟨#[]⟩, .slice none 0 0, .slice none 0 0, .string ⟨#[]⟩, .bool false, .int .i64 0, .bool false, .string ⟨#[]⟩, .slice none 0 0, .slice none 0 0, .int .i64 0, .bool false, .string ⟨#[]⟩, .slice none 0 0, .slice none 0 0, .int .i64 0, .string ⟨#[]⟩] _ rfl _ rfl (Blks.hd (Blks.tl (Blks.tl (Blks.tl HK.out)))) Tryz.underlying46 rfl (by kernel_rfl)) rfl ⟨_, rfl, ⟨_, _, _, _, _, _, _, _, _, _, _, _, _, _, _, rfl, (nul_VLF _ _), (nul_VLF _ _), (nul_VLF _ _)⟩, HB.out⟩
  · skip
    go_wp2_with (first
      | (refine store_fld rfl rfl 46 (.tmp 6) (.tmp 43) rfl (gM) 0 (.agg #[.int .i64 mA.kind, .int .i64 kxi, .bool bxi, .string xxi, .slice Axi nxi cxi, .slice Bxi mxi dxi, .string mA.method, .bool mA.has, .int .i64 kxp, .bool bxp, .string xxp, .slice Axp nxp cxp, .slice Bxp mxp dxp, .int .i64 kxr, .bool bxr, .string xxr, .slice Axr nxr cxr, .slice Bxr mxr dxr, .int .i64 mA.code, .string mA.text]) [.int .i64 mA.kind, .int .i64 kxi, .bool bxi, .string xxi, .slice Axi nxi cxi, .slice Bxi mxi dxi, .string mA.method, .bool mA.has, .int .i64 kxp, .bool bxp, .string xxp, .slice Axp nxp cxp, .slice Bxp mxp dxp, .int .i64 kxr, .bool bxr, .string xxr, .slice Axr nxr cxr, .slice Bxr mxr dxr, .int .i64 mA.code, .string mA.text] rfl rfl rfl #[.int .i64 mA.kind, .int .i64 kxi, .bool bxi, .string xxi, .slice Axi nxi cxi, .slice Bxi mxi dxi, .string mA.method, .bool mA.has, .int .i64 kxp, .bool bxp, .string xxp, .slice Axp nxp cxp, .slice Bxp mxp dxp, .int .i64 kxr, .bool bxr, .string xxr, .slice Axr nxr cxr, .slice Bxr mxr dxr, .int .i64 mA.code, .string mA.text] (Blks.hd (Blks.tl HK.out)) (by kernel_rfl) (Nat.le_of_ble_eq_true rfl) (by simp [Value.oneCell']) rfl ?_
         intro w9 hS hbt hsz
         replace Ht := Lib.hid (Ht.out.butL hbt (by have := HGgV.out; have := HGgM.out; have := HGgN.out; have := HNw.out; omega))
         replace HM := Lib.hid (ML.but2 HM0.out HM.out hbt (by have := HGgV.out; have := HGgM.out; have := HGgN.out; have := HNw.out; omega))
         replace HQ := Lib.hid (Nat.le_trans HQ.out hbt.size)
         replace HVix := Lib.hid (HVix.out.but hbt (by have := HGgV.out; have := HGgM.out; have := HGgN.out; have := HNw.out; omega))
         replace HVpx := Lib.hid (HVpx.out.but hbt (by have := HGgV.out; have := HGgM.out; have := HGgN.out; have := HNw.out; omega))
         replace HVrx := Lib.hid (HVrx.out.but hbt (by have := HGgV.out; have := HGgM.out; have := HGgN.out; have := HNw.out; omega))
         replace HK := Lib.hid (Blks.cons (BK.but (Blks.hd HK.out) hbt (by have := HGgV.out; have := HGgM.out; have := HGgN.out; have := HNw.out; omega)) (Blks.cons hS (Blks.cons (BK.but (Blks.hd (Blks.tl (Blks.tl HK.out))) hbt (by have := HGgV.out; have := HGgM.out; have := HGgN.out; have := HNw.out; omega)) (Blks.cons (BK.but (Blks.hd (Blks.tl (Blks.tl (Blks.tl HK.out)))) hbt (by have := HGgV.out; have := HGgM.out; have := HGgN.out; have := HNw.out; omega)) (Blks.one (BK.but (Blks.hd (Blks.tl (Blks.tl (Blks.tl (Blks.tl HK.out))))) hbt (by have := HGgV.out; have := HGgM.out; have := HGgN.out; have := HNw.out; omega)))))))
         replace HB := Lib.hid (hbt.below HB.out (by have := HGgV.out; have := HGgM.out; have := HGgN.out; have := HNw.out; omega) HB.out.size)
         clear hbt hS hsz)
      | (refine wpList_load_row rfl 46 (.tmp 6) rfl (gM) rfl 46 #[.int .i64 mA.kind, .int .i64 kxi, .bool bxi, .string xxi, .slice Axi nxi cxi, .slice Bxi mxi dxi, .string mA.method, .bool mA.has, .int .i64 kxp, .bool bxp, .string xxp, .slice Axp nxp cxp, .slice Bxp mxp dxp, .int .i64 kxr, .bool bxr, .string xxr, .slice Axr nxr cxr, .slice Bxr mxr dxr, .int .i64 mA.code, .string mA.text] (0, 0) _ (Blks.hd (Blks.tl HK.out)) Tryz.underlying46 rfl (by kernel_rfl) ?_)
      | (refine store_fld rfl rfl 46 (.tmp 2) (.tmp 48) rfl (w.heap.size + 1) 0 (.agg #[.int .i64 mA.kind, .int .i64 kxi, .bool bxi, .string xxi, .slice Axi nxi cxi, .slice Bxi mxi dxi, .string mA.method, .bool mA.has, .int .i64 kxp, .bool bxp, .string xxp, .slice Axp nxp cxp, .slice Bxp mxp dxp, .int .i64 kxr, .bool bxr, .string xxr, .slice Axr nxr cxr, .slice Bxr mxr dxr, .int .i64 mA.code, .string mA.text]) [.int .i64 mA.kind, .int .i64 kxi, .bool bxi, .string xxi, .slice Axi nxi cxi, .slice Bxi mxi dxi, .string mA.method, .bool mA.has, .int .i64 kxp, .bool bxp, .string xxp, .slice Axp nxp cxp, .slice Bxp mxp dxp, .int .i64 kxr, .bool bxr, .string xxr, .slice Axr nxr cxr, .slice Bxr mxr dxr, .int .i64 mA.code, .string mA.text] rfl rfl rfl #[.int .i64 mA.kind, .int .i64 kxi, .bool bxi, .string xxi, .slice Axi nxi cxi, .slice Bxi mxi dxi, .string mA.method, .bool mA.has, .int .i64 kxp, .bool bxp, .string xxp, .slice Axp nxp cxp, .slice Bxp mxp dxp, .int .i64 kxr, .bool bxr, .string xxr, .slice Axr nxr cxr, .slice Bxr mxr dxr, .int .i64 mA.code, .string mA.text] (Blks.hd (Blks.tl (Blks.tl (Blks.tl HK.out)))) (by kernel_rfl) (Nat.le_of_ble_eq_true rfl) (by simp [Value.oneCell']) rfl ?_
         intro w10 hS hbt hsz
         replace Ht := Lib.hid (Ht.out.butL hbt (by have := HGgV.out; have := HGgM.out; have := HGgN.out; have := HNw.out; omega))
         replace HM := Lib.hid (ML.but2 HM0.out HM.out hbt (by have := HGgV.out; have := HGgM.out; have := HGgN.out; have := HNw.out; omega))
         replace HQ := Lib.hid (Nat.le_trans HQ.out hbt.size)
         replace HVix := Lib.hid (HVix.out.but hbt (by have := HGgV.out; have := HGgM.out; have := HGgN.out; have := HNw.out; omega))
         replace HVpx := Lib.hid (HVpx.out.but hbt (by have := HGgV.out; have := HGgM.out; have := HGgN.out; have := HNw.out; omega))
         replace HVrx := Lib.hid (HVrx.out.but hbt (by have := HGgV.out; have := HGgM.out; have := HGgN.out; have := HNw.out; omega))
         replace HK := Lib.hid (Blks.cons (BK.but (Blks.hd HK.out) hbt (by have := HGgV.out; have := HGgM.out; have := HGgN.out; have := HNw.out; omega)) (Blks.cons (BK.but (Blks.hd (Blks.tl HK.out)) hbt (by have := HGgV.out; have := HGgM.out; have := HGgN.out; have := HNw.out; omega)) (Blks.cons (BK.but (Blks.hd (Blks.tl (Blks.tl HK.out))) hbt (by have := HGgV.out; have := HGgM.out; have := HGgN.out; have := HNw.out; omega)) (Blks.cons hS (Blks.one (BK.but (Blks.hd (Blks.tl (Blks.tl (Blks.tl (Blks.tl HK.out))))) hbt (by have := HGgV.out; have := HGgM.out; have := HGgN.out; have := HNw.out; omega)))))))
         replace HB := Lib.hid (hbt.below HB.out (by have := HGgV.out; have := HGgM.out; have := HGgN.out; have := HNw.out; omega) HB.out.size)
         clear hbt hS hsz))
    go_wp2
    have hmm := HMM.out
    subst hmm
    have hbb := HBB.out
    subst hbb
    exact bodyPost_ret (results_row2 rfl _ _ (w.heap.size + 1) _ #[.int .i64 mA.kind, .int .i64 kxi, .bool bxi, .string xxi, .slice Axi nxi cxi, .slice Bxi mxi dxi, .string mA.method, .bool mA.has, .int .i64 kxp, .bool bxp, .string xxp, .slice Axp nxp cxp, .slice Bxp mxp dxp, .int .i64 kxr, .bool bxr, .string xxr, .slice Axr nxr cxr, .slice Bxr mxr dxr, .int .i64 mA.code, .string mA.text] _ rfl _ rfl (Blks.hd (Blks.tl (Blks.tl (Blks.tl HK.out)))) Tryz.underlying46 rfl (by kernel_rfl)) rfl ⟨_, rfl, ⟨_, _, _, _, _, _, _, _, _, _, _, _, _, _, _, rfl, (VLF.le (B' := w.heap.size) HVix.out (by have := HGgV.out; have := HGgM.out; have := HGgN.out; have := HNw.out; omega)), (VLF.le (B' := w.heap.size) HVpx.out (by have := HGgV.out; have := HGgM.out; have := HGgN.out; have := HNw.out; omega)), (VLF.le (B' := w.heap.size) HVrx.out (by have := HGgV.out; have := HGgM.out; have := HGgN.out; have := HNw.out; omega))⟩, HB.out⟩
set_option maxRecDepth 100000 in
set_option maxHeartbeats 8000000 in
theorem Parse_any (t : VT) (z : Zone) (v : Value) (w : World) (h : VLV z t w v) (hM : ML w) (hk : t.bulk ≤ 1073741800) : Calls Tryz.prog 33 #[v] w (MkM2 t.readM (.int .i64 t.readE) w) := by
  have no (hh : t.headOk = false) : MkM2 t.readM (.int .i64 t.readE) w = MkM2 .nul (.int .i64 120) w := by rw [(VT.read_no hh).1, (VT.read_no hh).2]
  by_cases hc : t.check = 0
  · by_cases h3 : (t.getD VT.rpcN).kind = 3
    · by_cases hx : (t.getD VT.rpcN).text = VT.twoS
      · have hh : t.headOk = true := by unfold VT.headOk; simp [hc, h3, hx]
        cases hm : t.has VT.methodN
        · rw [(VT.read_ans hh hm).1, (VT.read_ans hh hm).2]; exact Parse_ans t z v w h hM hk hc h3 hx hm
        · rw [(VT.read_ask hh hm).1, (VT.read_ask hh hm).2]; exact Parse_ask t z v w h hM hk hc h3 hx hm
      · rw [no (by unfold VT.headOk; simp [hx])]; exact Parse_no3 t z v w h hM hk hc h3 hx
    · rw [no (by unfold VT.headOk; simp [h3])]; exact Parse_no2 t z v w h hM hk hc h3
  · rw [no (by unfold VT.headOk; simp [hc])]; exact Parse_no1 t z v w h hM hk hc
end Go.Proofs.YtfploakafbnigaaGreatDoor
