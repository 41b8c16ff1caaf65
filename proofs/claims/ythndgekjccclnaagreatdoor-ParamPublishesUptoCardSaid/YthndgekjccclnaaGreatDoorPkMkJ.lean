/-
  Joined texts: MkLawPub.
-/
import Derived.Test.YthndgekjccclnaaGreatDoorPkMkI
import Derived.Test.YthndgekjccclnaaGreatDoorPkParC
import Derived.Test.YthndgekjccclnaaGreatDoorPkValB
namespace Go.Proofs.YthndgekjccclnaaGreatDoor
open Go.RowKit Val Num Go.Proofs.YthndgekjccclnaaGreatDoorW.PrintLast
set_option linter.unusedVariables false
set_option linter.unusedSimpArgs false
/-- what the last region reads -/
structure PbS (g5 g8 : Nat) (T : TypeId) (cs : Array Value) (v0 v1 v2 v3 v4 : Value) (w : World) : Prop where
  h : BK w g5 T cs
  v : BX w g8 v0 v1 v2 v3 v4
theorem PbS.on {g5 g8 : Nat} {T : TypeId} {cs : Array Value} {v0 v1 v2 v3 v4 : Value} {w w' : World} (h : PbS g5 g8 T cs v0 v1 v2 v3 v4 w) (hb : Below w.heap.size w w') : PbS g5 g8 T cs v0 v1 v2 v3 v4 w' := ⟨h.h.on hb, h.v.on hb⟩
set_option maxRecDepth 100000 in
set_option maxHeartbeats 8000000 in
theorem ParamPublishes_walk (uri : ByteArray) (l : List Dg) (x1 x2 : Int) (w : World) (A : Option Addr) (cap : Nat) (hl : l.length ≤ 1048576) (he : ER 6 Dg.enc w (fun b => b < w.heap.size) A l) (j1 : I64 x1) (j2 : I64 x2) (ho : ∀ x ∈ l, Dg.ok x) (hsz : ∀ x ∈ l, x.s.size ≤ 1048576)
    (hbk : ∀ has, (pubT uri x1 has (l.map Dg.tree)).bulk ≤ 1073741824) (hP : PTab w) (hM : ML w) :
    Calls Tryz.prog 10 #[.string uri, .slice A l.length cap, .agg #[.int .i64 x1, .int .i64 x2]] w fun e w' => e = .returned (.bool true) ∧ Below w.heap.size w w' := by
  have HC1 := Lib.hid (fun (W : World) (has : Bool) (hb : Below w.heap.size w W) => pPublish uri x1 has l W A cap hl (he.ea.on hb).er j1 (hP.on hb) ho)
  have HC2 := Lib.hid (fun (W : World) (has : Bool) (hb : Below w.heap.size w W) => rPublish uri x1 has l W A cap hl (he.ea.on hb).er j1 ho hsz (hbk has))
  have HBK := Lib.hid hbk
  have HM := Lib.hid hM
  clear hl he j1 ho hsz hbk hP hM
  generalize l.length = n at *
  go_enter Tryz.func10, Tryz.ntmps10
  have HX : Hid (BK (w.alloc (.cells #[.int .i64 x1, .int .i64 x2] 70)) w.heap.size 70 #[.int .i64 x1, .int .i64 x2]) := Lib.hid (BK.new w _ _)
  have HB : Hid (Below w.heap.size w (w.alloc (.cells #[.int .i64 x1, .int .i64 x2] 70))) := Lib.hid (made_end _)
  go_upto_region 1 with (fail)
  generalize (w.alloc (.cells #[.int .i64 x1, .int .i64 x2] 70)) = w1 at *
  have a0 := HX.out.c 0 rfl
  have a1 := HX.out.c 1 rfl
  go_wp2_with fail
  clear a0 a1
  generalize (bits BinOp.and IntKind.i64 x2 1 == 1) = has at *
  refine (HC1.out w1 has HB.out).mono ?_
  rintro e w2 ⟨v, rfl, hv, hb⟩
  obtain ⟨kv, iv, xv, Av, nv, cv, Bv, mv, dv, rfl⟩ := VAL.shape hv
  have HV1 : Hid (VLV (zNew 0) (pubT uri x1 has (l.map Dg.tree)) w2 _) := Lib.hid (VAL.mono (fun b hb => ⟨Nat.zero_le _, hb.2⟩) hv)
  replace HX := Lib.hid (HX.out.on hb)
  replace HB := Lib.hid (HB.out.trans (hb.mono HB.out.size))
  clear hb hv HC1
  go_upto_region 3 with (fail)
  have hba := made_end (w := w2) (.cells #[.int .i64 kv, .bool iv, .string xv, .slice Av nv cv, .slice Bv mv dv] 30)
  have HN := Lib.hid (BX.new w2 (.int .i64 kv) (.bool iv) (.string xv) (.slice Av nv cv) (.slice Bv mv dv))
  replace HX := Lib.hid (HX.out.on hba)
  replace HV1 := Lib.hid (HV1.out.up hba)
  replace HB := Lib.hid (HB.out.trans (hba.mono HB.out.size))
  clear hba
  generalize (w2.alloc (.cells #[.int .i64 kv, .bool iv, .string xv, .slice Av nv cv, .slice Bv mv dv] 30)) = w3 at *
  generalize w2.heap.size = g8 at *
  refine start_ (n := 12) (S := PbS w.heap.size g8 70 #[.int .i64 x1, .int .i64 x2] (.int .i64 kv) (.bool iv) (.string xv) (.slice Av nv cv) (.slice Bv mv dv)) (ds := []) #[false, false, false, false, false, false, false, false, false, false, false, false] (by kernel_rfl) rfl rfl ⟨HX.out, HN.out⟩ (fun hHeld => ?_)
  have hbd : Below w3.heap.size w3 w3.drew := (Below.refl _ _).drew
  replace HV1 := Lib.hid (HV1.out.up hbd)
  replace HB := Lib.hid (HB.out.trans (hbd.mono HB.out.size))
  clear hbd HX HN
  generalize w3.drew = c at *
  refine pure_ (i := 1) (N := some 20) (v := ?_) (a' := ?_) #[false, true, false, false, false, false, false, false, false, false, false, false] rfl rfl (by kernel_rfl) (fun _ _ _ h => h) (Or.inl ⟨by rfl, ?_⟩) ?_ ?_
  rotate_left
  · intro w'; go_simp; with_reducible rfl
  rotate_left
  · simp only [Act.put, List.setIfInBounds_toArray, List.set_cons_zero, List.set_cons_succ, i64_w, i32_w]; rfl
  refine pure_ (i := 2) (N := some 21) (v := ?_) (a' := ?_) #[false, true, true, false, false, false, false, false, false, false, false, false] rfl rfl (by kernel_rfl) (fun _ _ _ h => h) (Or.inl ⟨by rfl, ?_⟩) ?_ ?_
  rotate_left
  · intro w'; go_simp; with_reducible rfl
  rotate_left
  · simp only [Act.put, List.setIfInBounds_toArray, List.set_cons_zero, List.set_cons_succ, i64_w, i32_w]; rfl
  refine pure_ (i := 4) (N := some 23) (v := ?_) (a' := ?_) #[false, true, true, false, true, false, false, false, false, false, false, false] rfl rfl (by kernel_rfl) (fun _ _ _ h => h) (Or.inl ⟨by rfl, ?_⟩) ?_ ?_
  rotate_left
  · intro w'; go_simp; with_reducible rfl
  rotate_left
  · simp only [Act.put, List.setIfInBounds_toArray, List.set_cons_zero, List.set_cons_succ, i64_w, i32_w]; rfl
  refine pure_ (i := 5) (N := some 24) (v := ?_) (a' := ?_) #[false, true, true, false, true, true, false, false, false, false, false, false] rfl rfl (by kernel_rfl) (fun _ _ _ h => h) (Or.inl ⟨by rfl, ?_⟩) ?_ ?_
  rotate_left
  · intro w'; go_simp; with_reducible rfl
  rotate_left
  · simp only [Act.put, List.setIfInBounds_toArray, List.set_cons_zero, List.set_cons_succ, i64_w, i32_w]; rfl
  refine take_ (i := 0) (N := some 19) (v := ?_) (a' := ?_) #[true, true, true, false, true, true, false, false, false, false, false, false] rfl rfl (by kernel_rfl) (fun _ _ _ h => h) (Or.inl ⟨by rfl, ?_⟩) hHeld ?_ ?_
  rotate_left
  · intro w' hh; have t0 := hh.h.c 0 rfl; have s0 := hh.v.c0; have s1 := hh.v.c1; have s2 := hh.v.c2; have s3 := hh.v.c3; have s4 := hh.v.c4; clear hh; go_simp; with_reducible rfl
  rotate_left
  · simp only [Act.put, List.setIfInBounds_toArray, List.set_cons_zero, List.set_cons_succ, i64_w, i32_w]; rfl
  refine take_ (i := 3) (N := some 22) (v := ?_) (a' := ?_) #[true, true, true, true, true, true, false, false, false, false, false, false] rfl rfl (by kernel_rfl) (fun _ _ _ h => h) (Or.inl ⟨by rfl, ?_⟩) hHeld ?_ ?_
  rotate_left
  · intro w' hh; have t0 := hh.h.c 0 rfl; have s0 := hh.v.c0; have s1 := hh.v.c1; have s2 := hh.v.c2; have s3 := hh.v.c3; have s4 := hh.v.c4; clear hh; go_simp; with_reducible rfl
  rotate_left
  · simp only [Act.put, List.setIfInBounds_toArray, List.set_cons_zero, List.set_cons_succ, i64_w, i32_w]; rfl
  refine one_ (i := 6) (N := some 25) #[true, true, true, true, true, true, true, false, false, false, false, false] rfl rfl (by kernel_rfl) (by decide) (fun K hK => ?_)
  refine goes_ Tryz.func48 (by kernel_rfl) rfl #[.string uri, .int .i64 x1, .bool has, .slice A n cap] (by rfl) rfl rfl (by (try simp only [List.map_toArray, List.map_cons, List.map_nil]); first | done | rfl) ?_
  refine (HC2.out c has HB.out).mono ?_
  rintro e w4 ⟨v, rfl, hv, hb⟩
  refine ⟨_, rfl, ?_⟩
  refine hK.out _ _ (hHeld.on hb) (fun hHeld2 => ?_)
  clear hK K hHeld HC2
  have HV2 : Hid (VLV (zNew 0) (pubT uri x1 has (l.map Dg.tree)) w4 _) := Lib.hid (VAL.mono (fun b hb => ⟨Nat.zero_le _, hb.2⟩) hv)
  replace HV1 := Lib.hid (HV1.out.up hb)
  replace HB := Lib.hid (HB.out.trans (hb.mono HB.out.size))
  clear hb hv
  refine norm_ (a' := ?_) ?_ ?_
  rotate_left
  · show Act.put _ (some 25) _ = _; simp only [Act.put, List.setIfInBounds_toArray, List.set_cons_zero, List.set_cons_succ, i64_w, i32_w]; rfl
  refine one_ (i := 7) (N := some 26) #[true, true, true, true, true, true, true, true, false, false, false, false] rfl rfl (by kernel_rfl) (by decide) (fun K hK => ?_)
  refine goes_ Tryz.func25 (by kernel_rfl) rfl #[.agg #[.int .i64 kv, .bool iv, .string xv, .slice Av nv cv, .slice Bv mv dv], v] (by rfl) rfl rfl (by (try simp only [List.map_toArray, List.map_cons, List.map_nil]); first | done | rfl) ?_
  have hE := refEqual_any (pubT uri x1 has (l.map Dg.tree)) (pubT uri x1 has (l.map Dg.tree)) w4 _ _ _ _ HV1.out HV2.out (Zone.lt _ _) (Zone.lt _ _) (HBK.out has) (HBK.out has)
  rw [VT.eqv_refl] at hE
  refine hE.mono ?_
  clear hE
  rintro e w5 ⟨rfl, hb⟩
  refine ⟨_, rfl, ?_⟩
  refine hK.out _ _ (hHeld2.on hb) (fun hHeld => ?_)
  clear hK K hHeld2 HV1 HV2
  replace HB := Lib.hid (HB.out.trans (hb.mono HB.out.size))
  clear hb
  refine norm_ (a' := ?_) ?_ ?_
  rotate_left
  · show Act.put _ (some 26) _ = _; simp only [Act.put, List.setIfInBounds_toArray, List.set_cons_zero, List.set_cons_succ, i64_w, i32_w]; rfl
  refine pure_ (i := 8) (N := some 27) (v := ?_) (a' := ?_) #[true, true, true, true, true, true, true, true, true, false, false, false] rfl rfl (by kernel_rfl) (fun _ _ _ h => h) (Or.inl ⟨by rfl, ?_⟩) ?_ ?_
  rotate_left
  · intro w'; go_simp; with_reducible rfl
  rotate_left
  · simp only [Act.put, List.setIfInBounds_toArray, List.set_cons_zero, List.set_cons_succ, i64_w, i32_w]; rfl
  refine one_ (i := 9) (N := some 28) #[true, true, true, true, true, true, true, true, true, true, false, false] rfl rfl (by kernel_rfl) (by decide) (fun K hK => ?_)
  refine goes_ Tryz.func18 (by kernel_rfl) rfl #[] (by rfl) rfl rfl (by simp) ?_
  refine (awake_any w5 (HM.out.on HB.out)).mono ?_
  rintro e w6 ⟨rfl, hb⟩
  refine ⟨_, rfl, ?_⟩
  refine hK.out _ _ (hHeld.on hb) (fun hHeld2 => ?_)
  clear hK K hHeld
  replace HB := Lib.hid (HB.out.trans (hb.mono HB.out.size))
  clear hb
  refine norm_ (a' := ?_) ?_ ?_
  rotate_left
  · show Act.put _ (some 28) _ = _; simp only [Act.put, List.setIfInBounds_toArray, List.set_cons_zero, List.set_cons_succ, i64_w, i32_w]; rfl
  refine pure_ (i := 10) (N := some 29) (v := ?_) (a' := ?_) #[true, true, true, true, true, true, true, true, true, true, true, false] rfl rfl (by kernel_rfl) (fun _ _ _ h => h) (Or.inl ⟨by rfl, ?_⟩) ?_ ?_
  rotate_left
  · intro w'; go_simp; with_reducible rfl
  rotate_left
  · simp only [Act.put, List.setIfInBounds_toArray, List.set_cons_zero, List.set_cons_succ, i64_w, i32_w]; rfl
  refine pure_ (i := 11) (N := some 6) (v := ?_) (a' := ?_) #[true, true, true, true, true, true, true, true, true, true, true, true] rfl rfl (by kernel_rfl) (fun _ _ _ h => h) (Or.inl ⟨by rfl, ?_⟩) ?_ ?_
  rotate_left
  · intro w'; go_simp; with_reducible rfl
  rotate_left
  · simp only [Act.put, List.setIfInBounds_toArray, List.set_cons_zero, List.set_cons_succ, i64_w, i32_w]; rfl
  refine done_ (by kernel_rfl) ?_
  go_wp2
  go_ret
  exact ⟨rfl, HB.out⟩
end Go.Proofs.YthndgekjccclnaaGreatDoor
