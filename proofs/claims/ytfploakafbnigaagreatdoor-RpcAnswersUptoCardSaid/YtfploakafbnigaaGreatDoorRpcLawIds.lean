/-
  Layer 12, the walks: RpcIds, at every three values.
-/
import Derived.Test.YtfploakafbnigaaGreatDoorRpcAwake
namespace Go.Proofs.YtfploakafbnigaaGreatDoor
open Go.RowKit Val Num YtfploakafbnigaaGreatDoorW.PrintLast
set_option linter.unusedVariables false
set_option linter.unusedSimpArgs false
theorem at4 {P : Program} {f : FuncId} {args : Array Value} {w : World} {x1 x2 x3 x4 : Array Value} {T1 T2 T3 T4 : TypeId} {Q : Ending → World → Prop}
    (h : ∀ W, BK W w.heap.size T1 x1 → BK W (w.heap.size + 1) T2 x2 → BK W (w.heap.size + 1 + 1) T3 x3 → BK W (w.heap.size + 1 + 1 + 1) T4 x4 → Below w.heap.size w W → w.heap.size + 4 ≤ W.heap.size → Calls P f args W Q) : Calls P f args ((((w.alloc (.cells x1 T1)).alloc (.cells x2 T2)).alloc (.cells x3 T3)).alloc (.cells x4 T4)) Q := by
  have e : (((w.alloc (.cells x1 T1)).alloc (.cells x2 T2)).alloc (.cells x3 T3)).heap.size = w.heap.size + 1 + 1 + 1 := by simp
  have hb := made_end' (((w.alloc (.cells x1 T1)).alloc (.cells x2 T2)).alloc (.cells x3 T3)) (.cells x4 T4)
  have h4 := BK.new (((w.alloc (.cells x1 T1)).alloc (.cells x2 T2)).alloc (.cells x3 T3)) T4 x4
  rw [e] at h4
  exact h _ (BK.on (al3_0 w _ _ _) hb) (BK.on (al3_1 w _ _ _) hb) (BK.on (al3_2 w _ _ _) hb) h4 ((al3_below w _ _ _).trans (hb.mono (al3_below w _ _ _).size)) (by simp)
set_option maxRecDepth 100000 in
set_option maxHeartbeats 8000000 in
theorem RpcIds_walk (a b c : VT) (va vb vc : Value) (w : World) (ha : VAL w (fun x => x < w.heap.size) a va) (hb : VAL w (fun x => x < w.heap.size) b vb) (hc : VAL w (fun x => x < w.heap.size) c vc) (ka : a.bulk ≤ 1073741800) (kb : b.bulk ≤ 1073741800) (kc : c.bulk ≤ 1073741800) (hM : ML w) :
    Calls Tryz.prog 6 #[va, vb, vc] w (Made (.bool true) w) := by
  obtain ⟨Aa, na, ca, Ba, ma, da, rfl⟩ := VAL.parts ha
  have HVa : Hid (VLV (zLt w.heap.size) a w _) := Lib.hid (VAL.mono (fun _ hx => ⟨hx, hx⟩) ha)
  have HKa := Lib.hid ka
  obtain ⟨Ab, nb, cb, Bb, mb, db, rfl⟩ := VAL.parts hb
  have HVb : Hid (VLV (zLt w.heap.size) b w _) := Lib.hid (VAL.mono (fun _ hx => ⟨hx, hx⟩) hb)
  have HKb := Lib.hid kb
  obtain ⟨Ac, nc, cc, Bc, mc, dc, rfl⟩ := VAL.parts hc
  have HVc : Hid (VLV (zLt w.heap.size) c w _) := Lib.hid (VAL.mono (fun _ hx => ⟨hx, hx⟩) hc)
  have HKc := Lib.hid kc
  have HAB : Hid (∀ W (v v' : Value) (z z' : Zone), VLV z a W v → VLV z' b W v' → ML W → Calls Tryz.prog 38 #[v, v'] W (Made (.bool (a.sameId b)) W)) := Lib.hid (fun W v v' z z' hv hv' hM => (sameId_any a b z z' v v' W hv hv' hM (by omega) (by omega)))
  have HBC : Hid (∀ W (v v' : Value) (z z' : Zone), VLV z b W v → VLV z' c W v' → ML W → Calls Tryz.prog 38 #[v, v'] W (Made (.bool (b.sameId c)) W)) := Lib.hid (fun W v v' z z' hv hv' hM => (sameId_any b c z z' v v' W hv hv' hM (by omega) (by omega)))
  have HAC : Hid (∀ W (v v' : Value) (z z' : Zone), VLV z a W v → VLV z' c W v' → ML W → Calls Tryz.prog 38 #[v, v'] W (Made (.bool (a.sameId c)) W)) := Lib.hid (fun W v v' z z' hv hv' hM => (sameId_any a c z z' v v' W hv hv' hM (by omega) (by omega)))
  have hba : b.sameId a = a.sameId b := VT.sameId_comm b a
  have HBA : Hid (∀ W (v v' : Value) (z z' : Zone), VLV z b W v → VLV z' a W v' → ML W → Calls Tryz.prog 38 #[v, v'] W (Made (.bool (a.sameId b)) W)) := Lib.hid (fun W v v' z z' hv hv' hM => by rw [← hba]; exact (sameId_any b a z z' v v' W hv hv' hM (by omega) (by omega)))
  have HAA : Hid (a.sameId b = true → ∀ W (v v' : Value) (z z' : Zone), VLV z a W v → VLV z' a W v' → ML W → Calls Tryz.prog 38 #[v, v'] W (Made (.bool true) W)) := Lib.hid (fun he W v v' z z' hv hv' hM => by rw [← VT.sameId_left he]; exact (sameId_any a a z z' v v' W hv hv' hM (by omega) (by omega)))
  have HLW := Lib.hid (fun he : a.sameId b = true => VT.sameId_law (c := c) he)
  have HM := Lib.hid hM
  have HB := Lib.hid (Below.refl w.heap.size w)
  clear ha hb hc hM hba
  generalize a.sameId b = ab at *
  generalize b.sameId c = bc at *
  generalize a.sameId c = ac at *
  clear ka kb kc
  go_enter Tryz.func6, Tryz.ntmps6
  go_wp2_with fail
  refine at4 (fun w1 hX0 hX1 hX2 hX3 hb hz => ?_)
  replace HVa := Lib.hid (HVa.out.up hb)
  replace HVb := Lib.hid (HVb.out.up hb)
  replace HVc := Lib.hid (HVc.out.up hb)
  replace HM := Lib.hid (HM.out.on hb)
  replace HB := Lib.hid (HB.out.trans (hb.mono HB.out.size))
  have HK := Lib.hid (Blks.one hX0)
  replace HK := Lib.hid (Blks.cons hX1 HK.out)
  replace HK := Lib.hid (Blks.cons hX2 HK.out)
  replace HK := Lib.hid (Blks.cons hX3 HK.out)
  clear hX0 hX1 hX2 hX3 hb
  clear hz
  have hD := DeepList_any 3 _ w1 _ _ 3 (BL.VS (Blks.hd HK.out) [a, b, c] (VR.cons (VAL.mono (fun b hb => (Zone.lt _ _ b hb)) HVa.out) (VR.cons (VAL.mono (fun b hb => (Zone.lt _ _ b hb)) HVb.out) (VR.cons (VAL.mono (fun b hb => (Zone.lt _ _ b hb)) HVc.out) (VR.none _ _))))) (fun b hb => hb) (by omega) (fun j hj => by
    match j, hj with
    | 0, _ => exact Nat.le_trans HKa.out (by omega)
    | 1, _ => exact Nat.le_trans HKb.out (by omega)
    | 2, _ => exact Nat.le_trans HKc.out (by omega))
  refine hD.mono ?_
  clear hD
  rintro e w2 ⟨⟨bb, rfl⟩, hb⟩
  replace HVa := Lib.hid (HVa.out.up hb)
  replace HVb := Lib.hid (HVb.out.up hb)
  replace HVc := Lib.hid (HVc.out.up hb)
  replace HM := Lib.hid (HM.out.on hb)
  replace HK := Lib.hid (HK.out.on hb)
  replace HB := Lib.hid (HB.out.trans (hb.mono HB.out.size))
  clear hb
  cases bb
  rotate_left
  · skip
    go_wp2_with fail
    refine (awake12_any w2 HM.out).mono ?_
    rintro e w3 ⟨rfl, hb⟩
    replace HVa := Lib.hid (HVa.out.up hb)
    replace HVb := Lib.hid (HVb.out.up hb)
    replace HVc := Lib.hid (HVc.out.up hb)
    replace HM := Lib.hid (HM.out.on hb)
    replace HK := Lib.hid (HK.out.on hb)
    replace HB := Lib.hid (HB.out.trans (hb.mono HB.out.size))
    clear hb
    go_wp2
    go_ret
    exact ⟨rfl, HB.out⟩
  go_wp2_with fail
  have hb : Below w2.heap.size w2 w2.drew := (Below.refl _ _).drew
  refine start_ (n := 12) (S := Blks [⟨w.heap.size + 1 + 1, 25, #[.int .i64 c.kind, .bool c.is, .string c.text, .slice Ac nc cc, .slice Bc mc dc]⟩, ⟨w.heap.size + 1, 25, #[.int .i64 b.kind, .bool b.is, .string b.text, .slice Ab nb cb, .slice Bb mb db]⟩, ⟨w.heap.size, 25, #[.int .i64 a.kind, .bool a.is, .string a.text, .slice Aa na ca, .slice Ba ma da]⟩]) (ds := []) #[false, false, false, false, false, false, false, false, false, false, false, false] (by kernel_rfl) rfl rfl (Blks.on (Blks.cons (Blks.hd (Blks.tl HK.out)) (Blks.cons (Blks.hd (Blks.tl (Blks.tl HK.out))) (Blks.one (Blks.hd (Blks.tl (Blks.tl (Blks.tl HK.out))))))) hb) (fun hHeld => ?_)
  replace HVa := Lib.hid (HVa.out.up hb)
  replace HVb := Lib.hid (HVb.out.up hb)
  replace HVc := Lib.hid (HVc.out.up hb)
  replace HM := Lib.hid (HM.out.on hb)
  replace HK := Lib.hid (HK.out.on hb)
  replace HB := Lib.hid (HB.out.trans (hb.mono HB.out.size))
  clear hb
  generalize w2.drew = w3 at *
  refine take_ (i := 0) (N := some 16) (v := ?_) (a' := ?_) #[true, false, false, false, false, false, false, false, false, false, false, false] rfl rfl (by kernel_rfl) (fun _ _ _ h => h) (Or.inl ⟨by rfl, ?_⟩) hHeld ?_ ?_
  rotate_left
  · intro w' hh; have hg := Blks.hd (Blks.tl (Blks.tl hh)); have t0 := hg.c 0 rfl; have t1 := hg.c 1 rfl; have t2 := hg.c 2 rfl; have t3 := hg.c 3 rfl; have t4 := hg.c 4 rfl; clear hh hg; go_simp; with_reducible rfl
  rotate_left
  · simp only [Act.put, List.setIfInBounds_toArray, List.set_cons_zero, List.set_cons_succ, i64_w, i32_w]; rfl
  refine take_ (i := 1) (N := some 17) (v := ?_) (a' := ?_) #[true, true, false, false, false, false, false, false, false, false, false, false] rfl rfl (by kernel_rfl) (fun _ _ _ h => h) (Or.inl ⟨by rfl, ?_⟩) hHeld ?_ ?_
  rotate_left
  · intro w' hh; have hg := Blks.hd (Blks.tl hh); have t0 := hg.c 0 rfl; have t1 := hg.c 1 rfl; have t2 := hg.c 2 rfl; have t3 := hg.c 3 rfl; have t4 := hg.c 4 rfl; clear hh hg; go_simp; with_reducible rfl
  rotate_left
  · simp only [Act.put, List.setIfInBounds_toArray, List.set_cons_zero, List.set_cons_succ, i64_w, i32_w]; rfl
  refine take_ (i := 3) (N := some 19) (v := ?_) (a' := ?_) #[true, true, false, true, false, false, false, false, false, false, false, false] rfl rfl (by kernel_rfl) (fun _ _ _ h => h) (Or.inl ⟨by rfl, ?_⟩) hHeld ?_ ?_
  rotate_left
  · intro w' hh; have hg := Blks.hd (Blks.tl hh); have t0 := hg.c 0 rfl; have t1 := hg.c 1 rfl; have t2 := hg.c 2 rfl; have t3 := hg.c 3 rfl; have t4 := hg.c 4 rfl; clear hh hg; go_simp; with_reducible rfl
  rotate_left
  · simp only [Act.put, List.setIfInBounds_toArray, List.set_cons_zero, List.set_cons_succ, i64_w, i32_w]; rfl
  refine take_ (i := 4) (N := some 20) (v := ?_) (a' := ?_) #[true, true, false, true, true, false, false, false, false, false, false, false] rfl rfl (by kernel_rfl) (fun _ _ _ h => h) (Or.inl ⟨by rfl, ?_⟩) hHeld ?_ ?_
  rotate_left
  · intro w' hh; have hg := Blks.hd hh; have t0 := hg.c 0 rfl; have t1 := hg.c 1 rfl; have t2 := hg.c 2 rfl; have t3 := hg.c 3 rfl; have t4 := hg.c 4 rfl; clear hh hg; go_simp; with_reducible rfl
  rotate_left
  · simp only [Act.put, List.setIfInBounds_toArray, List.set_cons_zero, List.set_cons_succ, i64_w, i32_w]; rfl
  refine take_ (i := 6) (N := some 22) (v := ?_) (a' := ?_) #[true, true, false, true, true, false, true, false, false, false, false, false] rfl rfl (by kernel_rfl) (fun _ _ _ h => h) (Or.inl ⟨by rfl, ?_⟩) hHeld ?_ ?_
  rotate_left
  · intro w' hh; have hg := Blks.hd (Blks.tl (Blks.tl hh)); have t0 := hg.c 0 rfl; have t1 := hg.c 1 rfl; have t2 := hg.c 2 rfl; have t3 := hg.c 3 rfl; have t4 := hg.c 4 rfl; clear hh hg; go_simp; with_reducible rfl
  rotate_left
  · simp only [Act.put, List.setIfInBounds_toArray, List.set_cons_zero, List.set_cons_succ, i64_w, i32_w]; rfl
  refine take_ (i := 7) (N := some 23) (v := ?_) (a' := ?_) #[true, true, false, true, true, false, true, true, false, false, false, false] rfl rfl (by kernel_rfl) (fun _ _ _ h => h) (Or.inl ⟨by rfl, ?_⟩) hHeld ?_ ?_
  rotate_left
  · intro w' hh; have hg := Blks.hd hh; have t0 := hg.c 0 rfl; have t1 := hg.c 1 rfl; have t2 := hg.c 2 rfl; have t3 := hg.c 3 rfl; have t4 := hg.c 4 rfl; clear hh hg; go_simp; with_reducible rfl
  rotate_left
  · simp only [Act.put, List.setIfInBounds_toArray, List.set_cons_zero, List.set_cons_succ, i64_w, i32_w]; rfl
  refine one_ (i := 2) (N := some 18) #[true, true, true, true, true, false, true, true, false, false, false, false] rfl rfl (by kernel_rfl) (by decide) (fun K hK => ?_)
  refine goes_ Tryz.func38 (by kernel_rfl) rfl #[.agg #[.int .i64 a.kind, .bool a.is, .string a.text, .slice Aa na ca, .slice Ba ma da], .agg #[.int .i64 b.kind, .bool b.is, .string b.text, .slice Ab nb cb, .slice Bb mb db]] (by rfl) rfl rfl (by (try simp only [List.map_toArray, List.map_cons, List.map_nil]); first | done | rfl) ?_
  refine (HAB.out w3 _ _ _ _ HVa.out HVb.out HM.out).mono ?_
  rintro e w4 ⟨rfl, hb⟩
  refine ⟨_, rfl, ?_⟩
  refine hK.out _ _ (hHeld.on hb) (fun hHeld' => ?_)
  clear hK K hHeld
  have hHeld := hHeld'
  clear hHeld'
  replace HVa := Lib.hid (HVa.out.up hb)
  replace HVb := Lib.hid (HVb.out.up hb)
  replace HVc := Lib.hid (HVc.out.up hb)
  replace HM := Lib.hid (HM.out.on hb)
  replace HK := Lib.hid (HK.out.on hb)
  replace HB := Lib.hid (HB.out.trans (hb.mono HB.out.size))
  clear hb
  refine norm_ (a' := ?_) ?_ ?_
  rotate_left
  · show Act.put _ (some 18) _ = _; simp only [Act.put, List.setIfInBounds_toArray, List.set_cons_zero, List.set_cons_succ, i64_w, i32_w]; rfl
  refine one_ (i := 5) (N := some 21) #[true, true, true, true, true, true, true, true, false, false, false, false] rfl rfl (by kernel_rfl) (by decide) (fun K hK => ?_)
  refine goes_ Tryz.func38 (by kernel_rfl) rfl #[.agg #[.int .i64 b.kind, .bool b.is, .string b.text, .slice Ab nb cb, .slice Bb mb db], .agg #[.int .i64 c.kind, .bool c.is, .string c.text, .slice Ac nc cc, .slice Bc mc dc]] (by rfl) rfl rfl (by (try simp only [List.map_toArray, List.map_cons, List.map_nil]); first | done | rfl) ?_
  refine (HBC.out w4 _ _ _ _ HVb.out HVc.out HM.out).mono ?_
  rintro e w5 ⟨rfl, hb⟩
  refine ⟨_, rfl, ?_⟩
  refine hK.out _ _ (hHeld.on hb) (fun hHeld' => ?_)
  clear hK K hHeld
  have hHeld := hHeld'
  clear hHeld'
  replace HVa := Lib.hid (HVa.out.up hb)
  replace HVb := Lib.hid (HVb.out.up hb)
  replace HVc := Lib.hid (HVc.out.up hb)
  replace HM := Lib.hid (HM.out.on hb)
  replace HK := Lib.hid (HK.out.on hb)
  replace HB := Lib.hid (HB.out.trans (hb.mono HB.out.size))
  clear hb
  refine norm_ (a' := ?_) ?_ ?_
  rotate_left
  · show Act.put _ (some 21) _ = _; simp only [Act.put, List.setIfInBounds_toArray, List.set_cons_zero, List.set_cons_succ, i64_w, i32_w]; rfl
  refine one_ (i := 8) (N := some 24) #[true, true, true, true, true, true, true, true, true, false, false, false] rfl rfl (by kernel_rfl) (by decide) (fun K hK => ?_)
  refine goes_ Tryz.func38 (by kernel_rfl) rfl #[.agg #[.int .i64 a.kind, .bool a.is, .string a.text, .slice Aa na ca, .slice Ba ma da], .agg #[.int .i64 c.kind, .bool c.is, .string c.text, .slice Ac nc cc, .slice Bc mc dc]] (by rfl) rfl rfl (by (try simp only [List.map_toArray, List.map_cons, List.map_nil]); first | done | rfl) ?_
  refine (HAC.out w5 _ _ _ _ HVa.out HVc.out HM.out).mono ?_
  rintro e w6 ⟨rfl, hb⟩
  refine ⟨_, rfl, ?_⟩
  refine hK.out _ _ (hHeld.on hb) (fun hHeld' => ?_)
  clear hK K hHeld
  have hHeld := hHeld'
  clear hHeld'
  replace HVa := Lib.hid (HVa.out.up hb)
  replace HVb := Lib.hid (HVb.out.up hb)
  replace HVc := Lib.hid (HVc.out.up hb)
  replace HM := Lib.hid (HM.out.on hb)
  replace HK := Lib.hid (HK.out.on hb)
  replace HB := Lib.hid (HB.out.trans (hb.mono HB.out.size))
  clear hb
  refine norm_ (a' := ?_) ?_ ?_
  rotate_left
  · show Act.put _ (some 24) _ = _; simp only [Act.put, List.setIfInBounds_toArray, List.set_cons_zero, List.set_cons_succ, i64_w, i32_w]; rfl
  refine pure_ (i := 9) (N := some 7) (v := ?_) (a' := ?_) #[true, true, true, true, true, true, true, true, true, true, false, false] rfl rfl (by kernel_rfl) (fun _ _ _ h => h) (Or.inl ⟨by rfl, ?_⟩) ?_ ?_
  rotate_left
  · intro w'; go_simp; with_reducible rfl
  rotate_left
  · simp only [Act.put, List.setIfInBounds_toArray, List.set_cons_zero, List.set_cons_succ, i64_w, i32_w]; rfl
  refine pure_ (i := 10) (N := some 8) (v := ?_) (a' := ?_) #[true, true, true, true, true, true, true, true, true, true, true, false] rfl rfl (by kernel_rfl) (fun _ _ _ h => h) (Or.inl ⟨by rfl, ?_⟩) ?_ ?_
  rotate_left
  · intro w'; go_simp; with_reducible rfl
  rotate_left
  · simp only [Act.put, List.setIfInBounds_toArray, List.set_cons_zero, List.set_cons_succ, i64_w, i32_w]; rfl
  refine pure_ (i := 11) (N := some 9) (v := ?_) (a' := ?_) #[true, true, true, true, true, true, true, true, true, true, true, true] rfl rfl (by kernel_rfl) (fun _ _ _ h => h) (Or.inl ⟨by rfl, ?_⟩) ?_ ?_
  rotate_left
  · intro w'; go_simp; with_reducible rfl
  rotate_left
  · simp only [Act.put, List.setIfInBounds_toArray, List.set_cons_zero, List.set_cons_succ, i64_w, i32_w]; rfl
  refine done_ (by kernel_rfl) ?_
  cases ab
  · skip
    clear HLW HAB HBC HAC
    have hg := Blks.hd (Blks.tl (Blks.tl (Blks.tl HK.out)))
    have y0 := hg.c 0 rfl
    have y1 := hg.c 1 rfl
    have y2 := hg.c 2 rfl
    have y3 := hg.c 3 rfl
    have y4 := hg.c 4 rfl
    clear hg
    have hg := Blks.hd (Blks.tl (Blks.tl HK.out))
    have u0 := hg.c 0 rfl
    have u1 := hg.c 1 rfl
    have u2 := hg.c 2 rfl
    have u3 := hg.c 3 rfl
    have u4 := hg.c 4 rfl
    clear hg
    go_wp2_with fail
    clear y0 y1 y2 y3 y4 u0 u1 u2 u3 u4
    refine (HBA.out w6 _ _ _ _ HVb.out HVa.out HM.out).mono ?_
    rintro e w7 ⟨rfl, hb⟩
    replace HVa := Lib.hid (HVa.out.up hb)
    replace HVb := Lib.hid (HVb.out.up hb)
    replace HVc := Lib.hid (HVc.out.up hb)
    replace HM := Lib.hid (HM.out.on hb)
    replace HK := Lib.hid (HK.out.on hb)
    replace HB := Lib.hid (HB.out.trans (hb.mono HB.out.size))
    clear hb
    go_wp2_with fail
    refine (awake12_any w7 HM.out).mono ?_
    rintro e w8 ⟨rfl, hb⟩
    replace HVa := Lib.hid (HVa.out.up hb)
    replace HVb := Lib.hid (HVb.out.up hb)
    replace HVc := Lib.hid (HVc.out.up hb)
    replace HM := Lib.hid (HM.out.on hb)
    replace HK := Lib.hid (HK.out.on hb)
    replace HB := Lib.hid (HB.out.trans (hb.mono HB.out.size))
    clear hb
    go_wp2
    go_ret
    exact ⟨rfl, HB.out⟩
  · skip
    obtain rfl := HLW.out rfl
    have HA2 := Lib.hid (HAA.out rfl)
    clear HAA
    clear HLW HAB HBC HAC
    have hg := Blks.hd (Blks.tl (Blks.tl (Blks.tl HK.out)))
    have y0 := hg.c 0 rfl
    have y1 := hg.c 1 rfl
    have y2 := hg.c 2 rfl
    have y3 := hg.c 3 rfl
    have y4 := hg.c 4 rfl
    clear hg
    have hg := Blks.hd (Blks.tl (Blks.tl HK.out))
    have u0 := hg.c 0 rfl
    have u1 := hg.c 1 rfl
    have u2 := hg.c 2 rfl
    have u3 := hg.c 3 rfl
    have u4 := hg.c 4 rfl
    clear hg
    go_wp2_with fail
    clear y0 y1 y2 y3 y4 u0 u1 u2 u3 u4
    refine (HBA.out w6 _ _ _ _ HVb.out HVa.out HM.out).mono ?_
    rintro e w7 ⟨rfl, hb⟩
    replace HVa := Lib.hid (HVa.out.up hb)
    replace HVb := Lib.hid (HVb.out.up hb)
    replace HVc := Lib.hid (HVc.out.up hb)
    replace HM := Lib.hid (HM.out.on hb)
    replace HK := Lib.hid (HK.out.on hb)
    replace HB := Lib.hid (HB.out.trans (hb.mono HB.out.size))
    clear hb
    cases bc
    · skip
      have hg := Blks.hd (Blks.tl (Blks.tl (Blks.tl HK.out)))
      have y0 := hg.c 0 rfl
      have y1 := hg.c 1 rfl
      have y2 := hg.c 2 rfl
      have y3 := hg.c 3 rfl
      have y4 := hg.c 4 rfl
      clear hg
      go_wp2_with fail
      clear y0 y1 y2 y3 y4
      refine (HA2.out w7 _ _ _ _ HVa.out HVa.out HM.out).mono ?_
      rintro e w8 ⟨rfl, hb⟩
      replace HVa := Lib.hid (HVa.out.up hb)
      replace HVb := Lib.hid (HVb.out.up hb)
      replace HVc := Lib.hid (HVc.out.up hb)
      replace HM := Lib.hid (HM.out.on hb)
      replace HK := Lib.hid (HK.out.on hb)
      replace HB := Lib.hid (HB.out.trans (hb.mono HB.out.size))
      clear hb
      go_wp2_with fail
      refine (awake12_any w8 HM.out).mono ?_
      rintro e w9 ⟨rfl, hb⟩
      replace HVa := Lib.hid (HVa.out.up hb)
      replace HVb := Lib.hid (HVb.out.up hb)
      replace HVc := Lib.hid (HVc.out.up hb)
      replace HM := Lib.hid (HM.out.on hb)
      replace HK := Lib.hid (HK.out.on hb)
      replace HB := Lib.hid (HB.out.trans (hb.mono HB.out.size))
      clear hb
      go_wp2
      go_ret
      exact ⟨rfl, HB.out⟩
    · skip
      have hg := Blks.hd (Blks.tl (Blks.tl (Blks.tl HK.out)))
      have y0 := hg.c 0 rfl
      have y1 := hg.c 1 rfl
      have y2 := hg.c 2 rfl
      have y3 := hg.c 3 rfl
      have y4 := hg.c 4 rfl
      clear hg
      go_wp2_with fail
      clear y0 y1 y2 y3 y4
      refine (HA2.out w7 _ _ _ _ HVa.out HVa.out HM.out).mono ?_
      rintro e w8 ⟨rfl, hb⟩
      replace HVa := Lib.hid (HVa.out.up hb)
      replace HVb := Lib.hid (HVb.out.up hb)
      replace HVc := Lib.hid (HVc.out.up hb)
      replace HM := Lib.hid (HM.out.on hb)
      replace HK := Lib.hid (HK.out.on hb)
      replace HB := Lib.hid (HB.out.trans (hb.mono HB.out.size))
      clear hb
      go_wp2_with fail
      refine (awake12_any w8 HM.out).mono ?_
      rintro e w9 ⟨rfl, hb⟩
      replace HVa := Lib.hid (HVa.out.up hb)
      replace HVb := Lib.hid (HVb.out.up hb)
      replace HVc := Lib.hid (HVc.out.up hb)
      replace HM := Lib.hid (HM.out.on hb)
      replace HK := Lib.hid (HK.out.on hb)
      replace HB := Lib.hid (HB.out.trans (hb.mono HB.out.size))
      clear hb
      go_wp2
      go_ret
      exact ⟨rfl, HB.out⟩
end Go.Proofs.YtfploakafbnigaaGreatDoor
