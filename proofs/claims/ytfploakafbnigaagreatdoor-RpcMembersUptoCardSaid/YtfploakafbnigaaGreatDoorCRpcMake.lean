/-
  Layer 12, the walks: Reply, Fault.
-/
import Derived.Test.YtfploakafbnigaaGreatDoorCRpcId
import Derived.Test.YtfploakafbnigaaGreatDoorCRegKit
namespace Go.Proofs.YtfploakafbnigaaGreatDoor
open Go.RowKit Val Num YtfploakafbnigaaGreatDoorW.PrintLast
set_option linter.unusedVariables false
set_option linter.unusedSimpArgs false
set_option maxRecDepth 100000 in
set_option maxHeartbeats 8000000 in
theorem Reply_any (t u : VT) (z z' : Zone) (v v' : Value) (w : World) (h : VLV z t w v) (h' : VLV z' u w v') (hk : t.bulk ≤ 1073741824) (hk' : u.bulk ≤ 1073741824) : Calls Tryz.prog 36 #[v, v'] w (MkM ⟨3, t, .empty, false, .nul, u, 0, .empty⟩ w) := by
  obtain ⟨At, nt, ct, Bt, mt, dt, rfl⟩ := h.parts
  obtain ⟨Au, nu, cu, Bu, mu, du, rfl⟩ := h'.parts
  have Ht := Lib.hid h.old
  have Hu := Lib.hid h'.old
  have HB := Lib.hid (Below.refl w.heap.size w)
  have HKt := Lib.hid hk
  have HKu := Lib.hid hk'
  clear h h' hk hk'
  go_enter Tryz.func36, Tryz.ntmps36
  go_wp2_with fail
  have hb : Below w.heap.size w (((((w.alloc (.cells #[.int .i64 t.kind, .bool t.is, .string t.text, .slice At nt ct, .slice Bt mt dt] 25))).alloc (.cells #[.int .i64 u.kind, .bool u.is, .string u.text, .slice Au nu cu, .slice Bu mu du] 25))).alloc (.cells #[.int .i64 0, .int .i64 0, .bool false, .string ⟨#[]⟩, .slice none 0 0, .slice none 0 0, .string ⟨#[]⟩, .bool false, .int .i64 0, .bool false, .string ⟨#[]⟩, .slice none 0 0, .slice none 0 0, .int .i64 0, .bool false, .string ⟨#[]⟩, .slice none 0 0, .slice none 0 0, .int .i64 0, .string ⟨#[]⟩] 46)) := al3_below w _ _ _
  replace Ht := Lib.hid (Ht.out.up hb)
  replace Hu := Lib.hid (Hu.out.up hb)
  replace HB := Lib.hid (HB.out.trans (hb.mono HB.out.size))
  have hX0 : BK (((((w.alloc (.cells #[.int .i64 t.kind, .bool t.is, .string t.text, .slice At nt ct, .slice Bt mt dt] 25))).alloc (.cells #[.int .i64 u.kind, .bool u.is, .string u.text, .slice Au nu cu, .slice Bu mu du] 25))).alloc (.cells #[.int .i64 0, .int .i64 0, .bool false, .string ⟨#[]⟩, .slice none 0 0, .slice none 0 0, .string ⟨#[]⟩, .bool false, .int .i64 0, .bool false, .string ⟨#[]⟩, .slice none 0 0, .slice none 0 0, .int .i64 0, .bool false, .string ⟨#[]⟩, .slice none 0 0, .slice none 0 0, .int .i64 0, .string ⟨#[]⟩] 46)) (w.heap.size) 25 #[.int .i64 t.kind, .bool t.is, .string t.text, .slice At nt ct, .slice Bt mt dt] := al3_0 w _ _ _
  have HK := Lib.hid (Blks.one hX0)
  have hX1 : BK (((((w.alloc (.cells #[.int .i64 t.kind, .bool t.is, .string t.text, .slice At nt ct, .slice Bt mt dt] 25))).alloc (.cells #[.int .i64 u.kind, .bool u.is, .string u.text, .slice Au nu cu, .slice Bu mu du] 25))).alloc (.cells #[.int .i64 0, .int .i64 0, .bool false, .string ⟨#[]⟩, .slice none 0 0, .slice none 0 0, .string ⟨#[]⟩, .bool false, .int .i64 0, .bool false, .string ⟨#[]⟩, .slice none 0 0, .slice none 0 0, .int .i64 0, .bool false, .string ⟨#[]⟩, .slice none 0 0, .slice none 0 0, .int .i64 0, .string ⟨#[]⟩] 46)) (w.heap.size + 1) 25 #[.int .i64 u.kind, .bool u.is, .string u.text, .slice Au nu cu, .slice Bu mu du] := al3_1 w _ _ _
  replace HK := Lib.hid (Blks.cons hX1 HK.out)
  have hX2 : BK (((((w.alloc (.cells #[.int .i64 t.kind, .bool t.is, .string t.text, .slice At nt ct, .slice Bt mt dt] 25))).alloc (.cells #[.int .i64 u.kind, .bool u.is, .string u.text, .slice Au nu cu, .slice Bu mu du] 25))).alloc (.cells #[.int .i64 0, .int .i64 0, .bool false, .string ⟨#[]⟩, .slice none 0 0, .slice none 0 0, .string ⟨#[]⟩, .bool false, .int .i64 0, .bool false, .string ⟨#[]⟩, .slice none 0 0, .slice none 0 0, .int .i64 0, .bool false, .string ⟨#[]⟩, .slice none 0 0, .slice none 0 0, .int .i64 0, .string ⟨#[]⟩] 46)) (w.heap.size + 1 + 1) 46 #[.int .i64 0, .int .i64 0, .bool false, .string ⟨#[]⟩, .slice none 0 0, .slice none 0 0, .string ⟨#[]⟩, .bool false, .int .i64 0, .bool false, .string ⟨#[]⟩, .slice none 0 0, .slice none 0 0, .int .i64 0, .bool false, .string ⟨#[]⟩, .slice none 0 0, .slice none 0 0, .int .i64 0, .string ⟨#[]⟩] := al3_2 w _ _ _
  replace HK := Lib.hid (Blks.cons hX2 HK.out)
  clear hb hX0 hX1 hX2
  generalize (((((w.alloc (.cells #[.int .i64 t.kind, .bool t.is, .string t.text, .slice At nt ct, .slice Bt mt dt] 25))).alloc (.cells #[.int .i64 u.kind, .bool u.is, .string u.text, .slice Au nu cu, .slice Bu mu du] 25))).alloc (.cells #[.int .i64 0, .int .i64 0, .bool false, .string ⟨#[]⟩, .slice none 0 0, .slice none 0 0, .string ⟨#[]⟩, .bool false, .int .i64 0, .bool false, .string ⟨#[]⟩, .slice none 0 0, .slice none 0 0, .int .i64 0, .bool false, .string ⟨#[]⟩, .slice none 0 0, .slice none 0 0, .int .i64 0, .string ⟨#[]⟩] 46)) = w1 at *
  have HQ : Hid (w.heap.size + 3 ≤ w1.heap.size) := Lib.hid (Blks.hd HK.out).lt
  have hb : Below w1.heap.size w1 w1.drew := (Below.refl _ _).drew
  refine start_ (n := 6) (S := Blks [⟨w.heap.size + 1, 25, #[.int .i64 u.kind, .bool u.is, .string u.text, .slice Au nu cu, .slice Bu mu du]⟩, ⟨w.heap.size, 25, #[.int .i64 t.kind, .bool t.is, .string t.text, .slice At nt ct, .slice Bt mt dt]⟩]) (ds := []) #[false, false, false, false, false, false] (by kernel_rfl) rfl rfl (Blks.on (Blks.cons (Blks.hd (Blks.tl HK.out)) (Blks.one (Blks.hd (Blks.tl (Blks.tl HK.out))))) hb) (fun hHeld => ?_)
  replace Ht := Lib.hid (Ht.out.up hb)
  replace Hu := Lib.hid (Hu.out.up hb)
  replace HQ := Lib.hid (Nat.le_trans HQ.out hb.size)
  replace HK := Lib.hid (HK.out.on hb)
  replace HB := Lib.hid (HB.out.trans (hb.mono HB.out.size))
  clear hb
  generalize w1.drew = w2 at *
  refine take_ (i := 0) (N := some 5) (v := ?_) (a' := ?_) #[true, false, false, false, false, false] rfl rfl (by kernel_rfl) (fun _ _ _ h => h) (Or.inl ⟨by rfl, ?_⟩) hHeld ?_ ?_
  rotate_left
  · intro w' hh; have hg := Blks.hd (Blks.tl hh); have t0 := hg.c 0 rfl; have t1 := hg.c 1 rfl; have t2 := hg.c 2 rfl; have t3 := hg.c 3 rfl; have t4 := hg.c 4 rfl; clear hh hg; go_simp; with_reducible rfl
  rotate_left
  · simp only [Act.put, List.setIfInBounds_toArray, List.set_cons_zero, List.set_cons_succ, i64_w, i32_w]; rfl
  refine take_ (i := 2) (N := some 7) (v := ?_) (a' := ?_) #[true, false, true, false, false, false] rfl rfl (by kernel_rfl) (fun _ _ _ h => h) (Or.inl ⟨by rfl, ?_⟩) hHeld ?_ ?_
  rotate_left
  · intro w' hh; have hg := Blks.hd hh; have t0 := hg.c 0 rfl; have t1 := hg.c 1 rfl; have t2 := hg.c 2 rfl; have t3 := hg.c 3 rfl; have t4 := hg.c 4 rfl; clear hh hg; go_simp; with_reducible rfl
  rotate_left
  · simp only [Act.put, List.setIfInBounds_toArray, List.set_cons_zero, List.set_cons_succ, i64_w, i32_w]; rfl
  refine one_ (i := 1) (N := some 6) #[true, true, true, false, false, false] rfl rfl (by kernel_rfl) (by decide) (fun K hK => ?_)
  refine goes_ Tryz.func101 (by kernel_rfl) rfl #[.agg #[.int .i64 t.kind, .bool t.is, .string t.text, .slice At nt ct, .slice Bt mt dt]] (by rfl) rfl rfl (by (try simp only [List.map_toArray, List.map_cons, List.map_nil]); first | done | rfl) ?_
  refine (Copy_nf t w2 _ _ Ht.out (Zone.lt _ _) HKt.out).mono ?_
  rintro e w3 ⟨v', rfl, hv, hb, hnf⟩
  refine ⟨_, rfl, ?_⟩
  refine hK.out _ _ (hHeld.on hb) (fun hHeld' => ?_)
  clear hK K hHeld
  have hHeld := hHeld'
  clear hHeld'
  obtain ⟨Ax, nx, cx, Bx, mx, dx, rfl⟩ := VAL.parts hv
  have HVx := Lib.hid (VAL.zf hv hnf HQ.out)
  clear hv hnf
  replace Ht := Lib.hid (Ht.out.up hb)
  replace Hu := Lib.hid (Hu.out.up hb)
  replace HQ := Lib.hid (Nat.le_trans HQ.out hb.size)
  replace HK := Lib.hid (HK.out.on hb)
  replace HB := Lib.hid (HB.out.trans (hb.mono HB.out.size))
  clear hb
  refine norm_ (a' := ?_) ?_ ?_
  rotate_left
  · show Act.put _ (some 6) _ = _; simp only [Act.put, List.setIfInBounds_toArray, List.set_cons_zero, List.set_cons_succ, i64_w, i32_w]; rfl
  refine one_ (i := 3) (N := some 8) #[true, true, true, true, false, false] rfl rfl (by kernel_rfl) (by decide) (fun K hK => ?_)
  refine goes_ Tryz.func101 (by kernel_rfl) rfl #[.agg #[.int .i64 u.kind, .bool u.is, .string u.text, .slice Au nu cu, .slice Bu mu du]] (by rfl) rfl rfl (by (try simp only [List.map_toArray, List.map_cons, List.map_nil]); first | done | rfl) ?_
  refine (Copy_nf u w3 _ _ Hu.out (Zone.lt _ _) HKu.out).mono ?_
  rintro e w4 ⟨v', rfl, hv, hb, hnf⟩
  refine ⟨_, rfl, ?_⟩
  refine hK.out _ _ (hHeld.on hb) (fun hHeld' => ?_)
  clear hK K hHeld
  have hHeld := hHeld'
  clear hHeld'
  obtain ⟨Ay, ny, cy, By, my, dy, rfl⟩ := VAL.parts hv
  have HVy := Lib.hid (VAL.zf hv hnf HQ.out)
  clear hv hnf
  replace Ht := Lib.hid (Ht.out.up hb)
  replace Hu := Lib.hid (Hu.out.up hb)
  replace HQ := Lib.hid (Nat.le_trans HQ.out hb.size)
  replace HVx := Lib.hid (HVx.out.up hb)
  replace HK := Lib.hid (HK.out.on hb)
  replace HB := Lib.hid (HB.out.trans (hb.mono HB.out.size))
  clear hb
  refine norm_ (a' := ?_) ?_ ?_
  rotate_left
  · show Act.put _ (some 8) _ = _; simp only [Act.put, List.setIfInBounds_toArray, List.set_cons_zero, List.set_cons_succ, i64_w, i32_w]; rfl
  refine pure_ (i := 4) (N := some 9) (v := ?_) (a' := ?_) #[true, true, true, true, true, false] rfl rfl (by kernel_rfl) (fun _ _ _ h => h) (Or.inl ⟨by rfl, ?_⟩) ?_ ?_
  rotate_left
  · intro w'; go_simp; with_reducible rfl
  rotate_left
  · simp only [Act.put, List.setIfInBounds_toArray, List.set_cons_zero, List.set_cons_succ, i64_w, i32_w]; rfl
  refine one_ (i := 5) (N := none) #[true, true, true, true, true, true] rfl rfl (by kernel_rfl) (by decide) (fun K hK => ?_)
  refine store_fldK (by rfl) rfl 46 (.tmp 4) (.tmp 9) rfl (w.heap.size + 1 + 1) 0 (.agg #[.int .i64 3, .int .i64 t.kind, .bool t.is, .string t.text, .slice Ax nx cx, .slice Bx mx dx, .string ⟨#[]⟩, .bool false, .int .i64 0, .bool false, .string ⟨#[]⟩, .slice none 0 0, .slice none 0 0, .int .i64 u.kind, .bool u.is, .string u.text, .slice Ay ny cy, .slice By my dy, .int .i64 0, .string ⟨#[]⟩]) [.int .i64 3, .int .i64 t.kind, .bool t.is, .string t.text, .slice Ax nx cx, .slice Bx mx dx, .string ⟨#[]⟩, .bool false, .int .i64 0, .bool false, .string ⟨#[]⟩, .slice none 0 0, .slice none 0 0, .int .i64 u.kind, .bool u.is, .string u.text, .slice Ay ny cy, .slice By my dy, .int .i64 0, .string ⟨#[]⟩] (by rfl) (by rfl) rfl #[.int .i64 3, .int .i64 t.kind, .bool t.is, .string t.text, .slice Ax nx cx, .slice Bx mx dx, .string ⟨#[]⟩, .bool false, .int .i64 0, .bool false, .string ⟨#[]⟩, .slice none 0 0, .slice none 0 0, .int .i64 u.kind, .bool u.is, .string u.text, .slice Ay ny cy, .slice By my dy, .int .i64 0, .string ⟨#[]⟩] (Blks.hd HK.out) (by kernel_rfl) (Nat.le_of_ble_eq_true rfl) (by simp [Value.oneCell']) rfl (fun w5 hS hbt hsz => hK.out _ _ (Blks.cons (BK.but (Blks.hd hHeld) hbt (by omega)) (Blks.one (BK.but (Blks.hd (Blks.tl hHeld)) hbt (by omega)))) (fun hHeld' => ?_))
  clear hK K
  clear hHeld
  have hHeld := hHeld'
  clear hHeld'
  replace Ht := Lib.hid (Ht.out.butL hbt (by omega))
  replace Hu := Lib.hid (Hu.out.butL hbt (by omega))
  replace HQ := Lib.hid (Nat.le_trans HQ.out hbt.size)
  replace HVx := Lib.hid (HVx.out.but hbt (by omega))
  replace HVy := Lib.hid (HVy.out.but hbt (by omega))
  replace HK := Lib.hid (Blks.cons hS (Blks.cons (BK.but (Blks.hd (Blks.tl HK.out)) hbt (by omega)) (Blks.one (BK.but (Blks.hd (Blks.tl (Blks.tl HK.out))) hbt (by omega)))))
  replace HB := Lib.hid (hbt.below HB.out (by omega) HB.out.size)
  clear hbt hS hsz
  refine done_ (by kernel_rfl) ?_
  go_wp2
  exact bodyPost_ret (results_row1 rfl _ _ (w.heap.size + 1 + 1) _ #[.int .i64 3, .int .i64 t.kind, .bool t.is, .string t.text, .slice Ax nx cx, .slice Bx mx dx, .string ⟨#[]⟩, .bool false, .int .i64 0, .bool false, .string ⟨#[]⟩, .slice none 0 0, .slice none 0 0, .int .i64 u.kind, .bool u.is, .string u.text, .slice Ay ny cy, .slice By my dy, .int .i64 0, .string ⟨#[]⟩] _ rfl (Blks.hd HK.out) Tryz.underlying46 rfl (by kernel_rfl)) rfl ⟨_, rfl, ⟨_, _, _, _, _, _, _, _, _, _, _, _, _, _, _, rfl, (VLF.le (B' := w.heap.size) HVx.out (by omega)), (nul_VLF _ _), (VLF.le (B' := w.heap.size) HVy.out (by omega))⟩, HB.out⟩
set_option maxRecDepth 100000 in
set_option maxHeartbeats 8000000 in
theorem Fault_any (t : VT) (k : Int) (x : ByteArray) (z : Zone) (v : Value) (w : World) (h : VLV z t w v) (hk : t.bulk ≤ 1073741824) : Calls Tryz.prog 37 #[v, .int .i64 k, .string x] w (MkM ⟨4, t, .empty, false, .nul, .nul, k, x⟩ w) := by
  obtain ⟨At, nt, ct, Bt, mt, dt, rfl⟩ := h.parts
  have Ht := Lib.hid h.old
  have HB := Lib.hid (Below.refl w.heap.size w)
  have HKt := Lib.hid hk
  clear h hk
  go_enter Tryz.func37, Tryz.ntmps37
  go_wp2_with fail
  refine at2 (fun w1 hX0 hX1 hb hz => ?_)
  replace Ht := Lib.hid (Ht.out.up hb)
  replace HB := Lib.hid (HB.out.trans (hb.mono HB.out.size))
  have HK := Lib.hid (Blks.one hX0)
  replace HK := Lib.hid (Blks.cons hX1 HK.out)
  clear hX0 hX1 hb
  have HQ := Lib.hid hz
  clear hz
  refine (Copy_nf t w1 _ _ Ht.out (Zone.lt _ _) HKt.out).mono ?_
  rintro e w2 ⟨v', rfl, hv, hb, hnf⟩
  obtain ⟨Ax, nx, cx, Bx, mx, dx, rfl⟩ := VAL.parts hv
  have HVx := Lib.hid (VAL.zf hv hnf HQ.out)
  clear hv hnf
  replace Ht := Lib.hid (Ht.out.up hb)
  replace HQ := Lib.hid (Nat.le_trans HQ.out hb.size)
  replace HK := Lib.hid (HK.out.on hb)
  replace HB := Lib.hid (HB.out.trans (hb.mono HB.out.size))
  clear hb
  go_wp2_with (
    refine store_fld rfl rfl 46 (.tmp 6) (.tmp 11) rfl (w.heap.size + 1) 0 (.agg #[.int .i64 4, .int .i64 t.kind, .bool t.is, .string t.text, .slice Ax nx cx, .slice Bx mx dx, .string ⟨#[]⟩, .bool false, .int .i64 0, .bool false, .string ⟨#[]⟩, .slice none 0 0, .slice none 0 0, .int .i64 0, .bool false, .string ⟨#[]⟩, .slice none 0 0, .slice none 0 0, .int .i64 k, .string x]) [.int .i64 4, .int .i64 t.kind, .bool t.is, .string t.text, .slice Ax nx cx, .slice Bx mx dx, .string ⟨#[]⟩, .bool false, .int .i64 0, .bool false, .string ⟨#[]⟩, .slice none 0 0, .slice none 0 0, .int .i64 0, .bool false, .string ⟨#[]⟩, .slice none 0 0, .slice none 0 0, .int .i64 k, .string x] rfl rfl rfl #[.int .i64 4, .int .i64 t.kind, .bool t.is, .string t.text, .slice Ax nx cx, .slice Bx mx dx, .string ⟨#[]⟩, .bool false, .int .i64 0, .bool false, .string ⟨#[]⟩, .slice none 0 0, .slice none 0 0, .int .i64 0, .bool false, .string ⟨#[]⟩, .slice none 0 0, .slice none 0 0, .int .i64 k, .string x] (Blks.hd HK.out) (by kernel_rfl) (Nat.le_of_ble_eq_true rfl) (by simp [Value.oneCell']) rfl ?_
    intro w3 hS hbt hsz
    replace Ht := Lib.hid (Ht.out.butL hbt (by omega))
    replace HQ := Lib.hid (Nat.le_trans HQ.out hbt.size)
    replace HVx := Lib.hid (HVx.out.but hbt (by omega))
    replace HK := Lib.hid (Blks.cons hS (Blks.one (BK.but (Blks.hd (Blks.tl HK.out)) hbt (by omega))))
    replace HB := Lib.hid (hbt.below HB.out (by omega) HB.out.size)
    clear hbt hS hsz)
  go_wp2
  exact bodyPost_ret (results_row1 rfl _ _ (w.heap.size + 1) _ #[.int .i64 4, .int .i64 t.kind, .bool t.is, .string t.text, .slice Ax nx cx, .slice Bx mx dx, .string ⟨#[]⟩, .bool false, .int .i64 0, .bool false, .string ⟨#[]⟩, .slice none 0 0, .slice none 0 0, .int .i64 0, .bool false, .string ⟨#[]⟩, .slice none 0 0, .slice none 0 0, .int .i64 k, .string x] _ rfl (Blks.hd HK.out) Tryz.underlying46 rfl (by kernel_rfl)) rfl ⟨_, rfl, ⟨_, _, _, _, _, _, _, _, _, _, _, _, _, _, _, rfl, (VLF.le (B' := w.heap.size) HVx.out (by omega)), (nul_VLF _ _), (nul_VLF _ _)⟩, HB.out⟩
end Go.Proofs.YtfploakafbnigaaGreatDoor
