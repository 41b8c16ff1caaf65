/-
  Joined texts: MkLawTells.
-/
import Derived.Test.YthndgekjccclnaaGreatDoorPkMkL
import Derived.Test.YthndgekjccclnaaGreatDoorPkMkM
import Derived.Test.YthndgekjccclnaaGreatDoorPkParC
import Derived.Test.YthndgekjccclnaaGreatDoorPkValB
namespace Go.Proofs.YthndgekjccclnaaGreatDoor
open Go.RowKit Val Num Go.Proofs.YthndgekjccclnaaGreatDoorW.PrintLast
set_option linter.unusedVariables false
set_option linter.unusedSimpArgs false
set_option maxRecDepth 100000 in
set_option maxHeartbeats 8000000 in
theorem ParamTells_walk (n : Nat) (kids : Nat → SY) (A : Option Addr) (cap : Nat) (fl : List Fd) (A2 : Option Addr) (cap2 : Nat) (x1 x2 x3 x4 : Int) (w : World) (hr : SYA w.heap.size A n kids w) (hbk : (lsF n fun j => (kids j).tree).bulk ≤ 1073741824) (hsm : ∀ j, j < n → (kids j).small ∧ (kids j).n ≤ 1073741824)
    (hfl : fl.length ≤ 1048576) (he : ER 2 Fd.enc w (fun b => b < w.heap.size) A2 fl) (ho : ∀ x ∈ fl, Fd.ok x) (hfb : (lsT (fl.map Fd.tree)).bulk ≤ 1073741824) (q1 : I64 x1) (q2 : I64 x2) (q3 : I64 x3) (q4 : I64 x4) (hP : PTab w) (hM : ML w) :
    Calls Tryz.prog 9 #[.slice A n cap, .slice A2 fl.length cap2, .agg #[.int .i64 x1, .int .i64 x2, .int .i64 x3, .int .i64 x4]] w fun e w' => e = .returned (.bool true) ∧ Below w.heap.size w w' := by
  have HD := Lib.hid (fun (W : World) (hb : Below w.heap.size w W) => deep_of w.heap.size n kids W A cap 990 (by have := lsF_n n (fun j => (kids j).tree); omega) (by unfold I64; omega) (hr.on hb) (fun j hj => (hsm j hj).2) (fun j hj => deepS _ (hsm j hj).1))
  have HC1 := Lib.hid (fun (W : World) (hb : Below w.heap.size w W) => pSymbols w.heap.size n kids W A cap (hr.on hb) (hP.on hb) hbk)
  have HC2 := Lib.hid (fun (W : World) (hb : Below w.heap.size w W) => rSymbols w.heap.size n kids W A cap (hr.on hb) hbk)
  have HC3 := Lib.hid (fun (W : World) (hb : Below w.heap.size w W) => pFolds fl W A2 cap2 hfl (he.ea.on hb).er (hP.on hb) ho)
  have HC4 := Lib.hid (fun (W : World) (hb : Below w.heap.size w W) => rFolds fl W A2 cap2 hfl (he.ea.on hb).er ho)
  have HC5 := Lib.hid (fun (W : World) (hb : Below w.heap.size w W) => pRange x1 x2 x3 x4 W q1 q2 q3 q4 (hP.on hb))
  have HC6 := Lib.hid (fun (W : World) => rRange x1 x2 x3 x4 W q1 q2 q3 q4)
  have HC7 := Lib.hid (fun (W : World) (hb : Below w.heap.size w W) => pPos x3 x4 W q3 q4 (hP.on hb))
  have HC8 := Lib.hid (fun (W : World) => rPos x3 x4 W q3 q4)
  have HB1 := Lib.hid hbk
  have HB2 := Lib.hid hfb
  have HB3 := Lib.hid (Nat.le_trans (rangeT_bulk x1 x2 x3 x4 q1 q2 q3 q4) (show 300 ≤ 1073741824 by omega))
  have HB4 := Lib.hid (Nat.le_trans (posT_bulk x3 x4 q3 q4) (show 100 ≤ 1073741824 by omega))
  have HM := Lib.hid hM
  clear hr hbk hsm hfl he ho hfb q1 q2 q3 q4 hP hM
  generalize fl.length = m at *
  generalize lsT (fl.map Fd.tree) = tf at *
  generalize (lsF n fun j => (kids j).tree) = ts at *
  go_enter Tryz.func9, Tryz.ntmps9
  have HX : Hid (BK (w.alloc (.cells #[.int .i64 x1, .int .i64 x2, .int .i64 x3, .int .i64 x4] 55)) w.heap.size 55 #[.int .i64 x1, .int .i64 x2, .int .i64 x3, .int .i64 x4]) := Lib.hid (BK.new w _ _)
  have HB : Hid (Below w.heap.size w (w.alloc (.cells #[.int .i64 x1, .int .i64 x2, .int .i64 x3, .int .i64 x4] 55))) := Lib.hid (made_end _)
  go_wp2_with fail
  generalize (w.alloc (.cells #[.int .i64 x1, .int .i64 x2, .int .i64 x3, .int .i64 x4] 55)) = w1 at *
  refine (HD.out w1 HB.out).mono ?_
  rintro e w2 ⟨⟨bb, rfl⟩, hb⟩
  replace HX := Lib.hid (HX.out.on hb)
  replace HB := Lib.hid (HB.out.trans (hb.mono HB.out.size))
  clear hb HD
  cases bb
  rotate_left
  · skip
    go_wp2_with fail
    refine (awake_any w2 (HM.out.on HB.out)).mono ?_
    rintro e w3 ⟨rfl, hb⟩
    replace HB := Lib.hid (HB.out.trans (hb.mono HB.out.size))
    clear hb
    go_wp2
    go_ret
    exact ⟨rfl, HB.out⟩
  go_wp2_with fail
  refine (HC1.out w2 HB.out).mono ?_
  rintro e w3 ⟨v, rfl, hv, hb⟩
  obtain ⟨k_a, i_a, x_a, A_a, n_a, c_a, B_a, m_a, d_a, rfl⟩ := VAL.shape hv
  have HVa : Hid (VLV (zNew 0) ts w3 _) := Lib.hid (VAL.mono (fun b hb => ⟨Nat.zero_le _, hb.2⟩) hv)
  replace HX := Lib.hid (HX.out.on hb)
  replace HB := Lib.hid (HB.out.trans (hb.mono HB.out.size))
  clear hb hv
  go_wp2_with fail
  refine (HC2.out w3 HB.out).mono ?_
  rintro e w4 ⟨v, rfl, hv, hb⟩
  obtain ⟨k_b, i_b, x_b, A_b, n_b, c_b, B_b, m_b, d_b, rfl⟩ := VAL.shape hv
  have HVb : Hid (VLV (zNew 0) ts w4 _) := Lib.hid (VAL.mono (fun b hb => ⟨Nat.zero_le _, hb.2⟩) hv)
  replace HVa := Lib.hid (HVa.out.up hb)
  replace HX := Lib.hid (HX.out.on hb)
  replace HB := Lib.hid (HB.out.trans (hb.mono HB.out.size))
  clear hb hv
  go_wp2_with fail
  have hE := refEqual_any ts ts w4 _ _ _ _ HVa.out HVb.out (Zone.lt _ _) (Zone.lt _ _) HB1.out HB1.out
  rw [VT.eqv_refl] at hE
  refine hE.mono ?_
  clear hE HVa HVb
  rintro e w5 ⟨rfl, hb⟩
  replace HX := Lib.hid (HX.out.on hb)
  replace HB := Lib.hid (HB.out.trans (hb.mono HB.out.size))
  clear hb
  go_wp2_with fail
  refine (HC3.out w5 HB.out).mono ?_
  rintro e w6 ⟨v, rfl, hv, hb⟩
  obtain ⟨k_e, i_e, x_e, A_e, n_e, c_e, B_e, m_e, d_e, rfl⟩ := VAL.shape hv
  have HVe : Hid (VLV (zNew 0) tf w6 _) := Lib.hid (VAL.mono (fun b hb => ⟨Nat.zero_le _, hb.2⟩) hv)
  replace HX := Lib.hid (HX.out.on hb)
  replace HB := Lib.hid (HB.out.trans (hb.mono HB.out.size))
  clear hb hv
  go_wp2_with fail
  refine (HC4.out w6 HB.out).mono ?_
  rintro e w7 ⟨v, rfl, hv, hb⟩
  obtain ⟨k_f, i_f, x_f, A_f, n_f, c_f, B_f, m_f, d_f, rfl⟩ := VAL.shape hv
  have HVf : Hid (VLV (zNew 0) tf w7 _) := Lib.hid (VAL.mono (fun b hb => ⟨Nat.zero_le _, hb.2⟩) hv)
  replace HVe := Lib.hid (HVe.out.up hb)
  replace HX := Lib.hid (HX.out.on hb)
  replace HB := Lib.hid (HB.out.trans (hb.mono HB.out.size))
  clear hb hv
  go_wp2_with fail
  have hE := refEqual_any tf tf w7 _ _ _ _ HVe.out HVf.out (Zone.lt _ _) (Zone.lt _ _) HB2.out HB2.out
  rw [VT.eqv_refl] at hE
  refine hE.mono ?_
  clear hE HVe HVf
  rintro e w8 ⟨rfl, hb⟩
  replace HX := Lib.hid (HX.out.on hb)
  replace HB := Lib.hid (HB.out.trans (hb.mono HB.out.size))
  clear hb
  clear HC1 HC2 HC3 HC4 HB1 HB2
  go_upto_region 4 with (fail)
  refine start_ (n := 21) (S := fun w' => BK w' w.heap.size 55 #[.int .i64 x1, .int .i64 x2, .int .i64 x3, .int .i64 x4]) (ds := []) #[false, false, false, false, false, false, false, false, false, false, false, false, false, false, false, false, false, false, false, false, false] (by kernel_rfl) rfl rfl HX.out (fun hHeld => ?_)
  have hbd : Below w8.heap.size w8 w8.drew := (Below.refl _ _).drew
  replace HB := Lib.hid (HB.out.trans (hbd.mono HB.out.size))
  clear hbd HX
  generalize w8.drew = c at *
  refine pure_ (i := 0) (N := some 23) (v := ?_) (a' := ?_) #[true, false, false, false, false, false, false, false, false, false, false, false, false, false, false, false, false, false, false, false, false] rfl rfl (by kernel_rfl) (fun _ _ _ h => h) (Or.inl ⟨by rfl, ?_⟩) ?_ ?_
  rotate_left
  · intro w'; go_simp; with_reducible rfl
  rotate_left
  · simp only [Act.put, List.setIfInBounds_toArray, List.set_cons_zero, List.set_cons_succ, i64_w, i32_w]; rfl
  refine pure_ (i := 1) (N := some 24) (v := ?_) (a' := ?_) #[true, true, false, false, false, false, false, false, false, false, false, false, false, false, false, false, false, false, false, false, false] rfl rfl (by kernel_rfl) (fun _ _ _ h => h) (Or.inl ⟨by rfl, ?_⟩) ?_ ?_
  rotate_left
  · intro w'; go_simp; with_reducible rfl
  rotate_left
  · simp only [Act.put, List.setIfInBounds_toArray, List.set_cons_zero, List.set_cons_succ, i64_w, i32_w]; rfl
  refine take_ (i := 2) (N := some 25) (v := ?_) (a' := ?_) #[true, true, true, false, false, false, false, false, false, false, false, false, false, false, false, false, false, false, false, false, false] rfl rfl (by kernel_rfl) (fun _ _ _ h => h) (Or.inl ⟨by rfl, ?_⟩) hHeld ?_ ?_
  rotate_left
  · intro w' hh; have t0 := hh.c 0 rfl; have t1 := hh.c 1 rfl; have t2 := hh.c 2 rfl; have t3 := hh.c 3 rfl; clear hh; go_simp; with_reducible rfl
  rotate_left
  · simp only [Act.put, List.setIfInBounds_toArray, List.set_cons_zero, List.set_cons_succ, i64_w, i32_w]; rfl
  refine take_ (i := 4) (N := some 27) (v := ?_) (a' := ?_) #[true, true, true, false, true, false, false, false, false, false, false, false, false, false, false, false, false, false, false, false, false] rfl rfl (by kernel_rfl) (fun _ _ _ h => h) (Or.inl ⟨by rfl, ?_⟩) hHeld ?_ ?_
  rotate_left
  · intro w' hh; have t0 := hh.c 0 rfl; have t1 := hh.c 1 rfl; have t2 := hh.c 2 rfl; have t3 := hh.c 3 rfl; clear hh; go_simp; with_reducible rfl
  rotate_left
  · simp only [Act.put, List.setIfInBounds_toArray, List.set_cons_zero, List.set_cons_succ, i64_w, i32_w]; rfl
  refine one_ (i := 3) (N := some 26) #[true, true, true, true, true, false, false, false, false, false, false, false, false, false, false, false, false, false, false, false, false] rfl rfl (by kernel_rfl) (by decide) (fun K hK => ?_)
  refine goes_ Tryz.func37 (by kernel_rfl) rfl #[.agg #[.int .i64 x1, .int .i64 x2, .int .i64 x3, .int .i64 x4]] (by rfl) rfl rfl (by (try simp only [List.map_toArray, List.map_cons, List.map_nil]); first | done | rfl) ?_
  refine (HC5.out c HB.out).mono ?_
  rintro e w9 ⟨v, rfl, hv, hb⟩
  refine ⟨_, rfl, ?_⟩
  refine hK.out _ _ (hHeld.on hb) (fun hHeld9 => ?_)
  clear hK K hHeld
  obtain ⟨k_g, i_g, x_g, A_g, n_g, c_g, B_g, m_g, d_g, rfl⟩ := VAL.shape hv
  have HVg : Hid (VLV (zNew 0) (rangeT x1 x2 x3 x4) w9 _) := Lib.hid (VAL.mono (fun b hb => ⟨Nat.zero_le _, hb.2⟩) hv)
  replace HB := Lib.hid (HB.out.trans (hb.mono HB.out.size))
  clear hb hv
  refine norm_ (a' := ?_) ?_ ?_
  rotate_left
  · show Act.put _ (some 26) _ = _; simp only [Act.put, List.setIfInBounds_toArray, List.set_cons_zero, List.set_cons_succ, i64_w, i32_w]; rfl
  refine one_ (i := 5) (N := some 28) #[true, true, true, true, true, true, false, false, false, false, false, false, false, false, false, false, false, false, false, false, false] rfl rfl (by kernel_rfl) (by decide) (fun K hK => ?_)
  refine goes_ Tryz.func44 (by kernel_rfl) rfl #[.agg #[.int .i64 x1, .int .i64 x2, .int .i64 x3, .int .i64 x4]] (by rfl) rfl rfl (by (try simp only [List.map_toArray, List.map_cons, List.map_nil]); first | done | rfl) ?_
  refine (HC6.out w9).mono ?_
  rintro e w10 ⟨v, rfl, hv, hb⟩
  refine ⟨_, rfl, ?_⟩
  refine hK.out _ _ (hHeld9.on hb) (fun hHeld10 => ?_)
  clear hK K hHeld9
  obtain ⟨k_h, i_h, x_h, A_h, n_h, c_h, B_h, m_h, d_h, rfl⟩ := VAL.shape hv
  have HVh : Hid (VLV (zNew 0) (rangeT x1 x2 x3 x4) w10 _) := Lib.hid (VAL.mono (fun b hb => ⟨Nat.zero_le _, hb.2⟩) hv)
  replace HVg := Lib.hid (HVg.out.up hb)
  replace HB := Lib.hid (HB.out.trans (hb.mono HB.out.size))
  clear hb hv
  refine norm_ (a' := ?_) ?_ ?_
  rotate_left
  · show Act.put _ (some 28) _ = _; simp only [Act.put, List.setIfInBounds_toArray, List.set_cons_zero, List.set_cons_succ, i64_w, i32_w]; rfl
  refine one_ (i := 6) (N := some 29) #[true, true, true, true, true, true, true, false, false, false, false, false, false, false, false, false, false, false, false, false, false] rfl rfl (by kernel_rfl) (by decide) (fun K hK => ?_)
  refine goes_ Tryz.func25 (by kernel_rfl) rfl #[.agg #[.int .i64 k_g, .bool i_g, .string x_g, .slice A_g n_g c_g, .slice B_g m_g d_g], .agg #[.int .i64 k_h, .bool i_h, .string x_h, .slice A_h n_h c_h, .slice B_h m_h d_h]] (by rfl) rfl rfl (by (try simp only [List.map_toArray, List.map_cons, List.map_nil]); first | done | rfl | simp) ?_
  have hE := refEqual_any (rangeT x1 x2 x3 x4) (rangeT x1 x2 x3 x4) w10 _ _ _ _ HVg.out HVh.out (Zone.lt _ _) (Zone.lt _ _) HB3.out HB3.out
  rw [VT.eqv_refl] at hE
  refine (hE).mono ?_
  clear hE HVg HVh
  rintro e w11 ⟨rfl, hb⟩
  refine ⟨_, rfl, ?_⟩
  refine hK.out _ _ (hHeld10.on hb) (fun hHeld11 => ?_)
  clear hK K hHeld10
  replace HB := Lib.hid (HB.out.trans (hb.mono HB.out.size))
  clear hb
  refine norm_ (a' := ?_) ?_ ?_
  rotate_left
  · show Act.put _ (some 29) _ = _; simp only [Act.put, List.setIfInBounds_toArray, List.set_cons_zero, List.set_cons_succ, i64_w, i32_w]; rfl
  refine pure_ (i := 7) (N := some 30) (v := ?_) (a' := ?_) #[true, true, true, true, true, true, true, true, false, false, false, false, false, false, false, false, false, false, false, false, false] rfl rfl (by kernel_rfl) (fun _ _ _ h => h) (Or.inl ⟨by rfl, ?_⟩) ?_ ?_
  rotate_left
  · intro w'; go_simp; with_reducible rfl
  rotate_left
  · simp only [Act.put, List.setIfInBounds_toArray, List.set_cons_zero, List.set_cons_succ, i64_w, i32_w]; rfl
  refine pure_ (i := 8) (N := some 31) (v := ?_) (a' := ?_) #[true, true, true, true, true, true, true, true, true, false, false, false, false, false, false, false, false, false, false, false, false] rfl rfl (by kernel_rfl) (fun _ _ _ h => h) (Or.inl ⟨by rfl, ?_⟩) ?_ ?_
  rotate_left
  · intro w'; go_simp; with_reducible rfl
  rotate_left
  · simp only [Act.put, List.setIfInBounds_toArray, List.set_cons_zero, List.set_cons_succ, i64_w, i32_w]; rfl
  refine pure_ (i := 9) (N := some 32) (v := ?_) (a' := ?_) #[true, true, true, true, true, true, true, true, true, true, false, false, false, false, false, false, false, false, false, false, false] rfl rfl (by kernel_rfl) (fun _ _ _ h => h) (Or.inl ⟨by rfl, ?_⟩) ?_ ?_
  rotate_left
  · intro w'; go_simp; with_reducible rfl
  rotate_left
  · simp only [Act.put, List.setIfInBounds_toArray, List.set_cons_zero, List.set_cons_succ, i64_w, i32_w]; rfl
  refine take_ (i := 10) (N := some 33) (v := ?_) (a' := ?_) #[true, true, true, true, true, true, true, true, true, true, true, false, false, false, false, false, false, false, false, false, false] rfl rfl (by kernel_rfl) (fun _ _ _ h => h) (Or.inl ⟨by rfl, ?_⟩) hHeld11 ?_ ?_
  rotate_left
  · intro w' hh; have t0 := hh.c 0 rfl; have t1 := hh.c 1 rfl; have t2 := hh.c 2 rfl; have t3 := hh.c 3 rfl; clear hh; go_simp; with_reducible rfl
  rotate_left
  · simp only [Act.put, List.setIfInBounds_toArray, List.set_cons_zero, List.set_cons_succ, i64_w, i32_w]; rfl
  refine pure_ (i := 12) (N := some 35) (v := ?_) (a' := ?_) #[true, true, true, true, true, true, true, true, true, true, true, false, true, false, false, false, false, false, false, false, false] rfl rfl (by kernel_rfl) (fun _ _ _ h => h) (Or.inl ⟨by rfl, ?_⟩) ?_ ?_
  rotate_left
  · intro w'; go_simp; with_reducible rfl
  rotate_left
  · simp only [Act.put, List.setIfInBounds_toArray, List.set_cons_zero, List.set_cons_succ, i64_w, i32_w]; rfl
  refine take_ (i := 13) (N := some 36) (v := ?_) (a' := ?_) #[true, true, true, true, true, true, true, true, true, true, true, false, true, true, false, false, false, false, false, false, false] rfl rfl (by kernel_rfl) (fun _ _ _ h => h) (Or.inl ⟨by rfl, ?_⟩) hHeld11 ?_ ?_
  rotate_left
  · intro w' hh; have t0 := hh.c 0 rfl; have t1 := hh.c 1 rfl; have t2 := hh.c 2 rfl; have t3 := hh.c 3 rfl; clear hh; go_simp; with_reducible rfl
  rotate_left
  · simp only [Act.put, List.setIfInBounds_toArray, List.set_cons_zero, List.set_cons_succ, i64_w, i32_w]; rfl
  refine one_ (i := 11) (N := some 34) #[true, true, true, true, true, true, true, true, true, true, true, true, true, true, false, false, false, false, false, false, false] rfl rfl (by kernel_rfl) (by decide) (fun K hK => ?_)
  refine goes_ Tryz.func45 (by kernel_rfl) rfl #[.agg #[.int .i64 x3, .int .i64 x4]] (by rfl) rfl rfl (by (try simp only [List.map_toArray, List.map_cons, List.map_nil]); first | done | rfl) ?_
  refine (HC7.out w11 HB.out).mono ?_
  rintro e w12 ⟨v, rfl, hv, hb⟩
  refine ⟨_, rfl, ?_⟩
  refine hK.out _ _ (hHeld11.on hb) (fun hHeld12 => ?_)
  clear hK K hHeld11
  obtain ⟨k_p, i_p, x_p, A_p, n_p, c_p, B_p, m_p, d_p, rfl⟩ := VAL.shape hv
  have HVp : Hid (VLV (zNew 0) (posT x3 x4) w12 _) := Lib.hid (VAL.mono (fun b hb => ⟨Nat.zero_le _, hb.2⟩) hv)
  replace HB := Lib.hid (HB.out.trans (hb.mono HB.out.size))
  clear hb hv
  refine norm_ (a' := ?_) ?_ ?_
  rotate_left
  · show Act.put _ (some 34) _ = _; simp only [Act.put, List.setIfInBounds_toArray, List.set_cons_zero, List.set_cons_succ, i64_w, i32_w]; rfl
  refine one_ (i := 14) (N := some 37) #[true, true, true, true, true, true, true, true, true, true, true, true, true, true, true, false, false, false, false, false, false] rfl rfl (by kernel_rfl) (by decide) (fun K hK => ?_)
  refine goes_ Tryz.func46 (by kernel_rfl) rfl #[.agg #[.int .i64 x3, .int .i64 x4]] (by rfl) rfl rfl (by (try simp only [List.map_toArray, List.map_cons, List.map_nil]); first | done | rfl) ?_
  refine (HC8.out w12).mono ?_
  rintro e w13 ⟨v, rfl, hv, hb⟩
  refine ⟨_, rfl, ?_⟩
  refine hK.out _ _ (hHeld12.on hb) (fun hHeld13 => ?_)
  clear hK K hHeld12
  obtain ⟨k_q, i_q, x_q, A_q, n_q, c_q, B_q, m_q, d_q, rfl⟩ := VAL.shape hv
  have HVq : Hid (VLV (zNew 0) (posT x3 x4) w13 _) := Lib.hid (VAL.mono (fun b hb => ⟨Nat.zero_le _, hb.2⟩) hv)
  replace HVp := Lib.hid (HVp.out.up hb)
  replace HB := Lib.hid (HB.out.trans (hb.mono HB.out.size))
  clear hb hv
  refine norm_ (a' := ?_) ?_ ?_
  rotate_left
  · show Act.put _ (some 37) _ = _; simp only [Act.put, List.setIfInBounds_toArray, List.set_cons_zero, List.set_cons_succ, i64_w, i32_w]; rfl
  refine one_ (i := 15) (N := some 38) #[true, true, true, true, true, true, true, true, true, true, true, true, true, true, true, true, false, false, false, false, false] rfl rfl (by kernel_rfl) (by decide) (fun K hK => ?_)
  refine goes_ Tryz.func25 (by kernel_rfl) rfl #[.agg #[.int .i64 k_p, .bool i_p, .string x_p, .slice A_p n_p c_p, .slice B_p m_p d_p], .agg #[.int .i64 k_q, .bool i_q, .string x_q, .slice A_q n_q c_q, .slice B_q m_q d_q]] (by rfl) rfl rfl (by (try simp only [List.map_toArray, List.map_cons, List.map_nil]); first | done | rfl | simp) ?_
  have hE := refEqual_any (posT x3 x4) (posT x3 x4) w13 _ _ _ _ HVp.out HVq.out (Zone.lt _ _) (Zone.lt _ _) HB4.out HB4.out
  rw [VT.eqv_refl] at hE
  refine (hE).mono ?_
  clear hE HVp HVq
  rintro e w14 ⟨rfl, hb⟩
  refine ⟨_, rfl, ?_⟩
  refine hK.out _ _ (hHeld13.on hb) (fun hHeld14 => ?_)
  clear hK K hHeld13
  replace HB := Lib.hid (HB.out.trans (hb.mono HB.out.size))
  clear hb
  refine norm_ (a' := ?_) ?_ ?_
  rotate_left
  · show Act.put _ (some 38) _ = _; simp only [Act.put, List.setIfInBounds_toArray, List.set_cons_zero, List.set_cons_succ, i64_w, i32_w]; rfl
  refine pure_ (i := 16) (N := some 39) (v := ?_) (a' := ?_) #[true, true, true, true, true, true, true, true, true, true, true, true, true, true, true, true, true, false, false, false, false] rfl rfl (by kernel_rfl) (fun _ _ _ h => h) (Or.inl ⟨by rfl, ?_⟩) ?_ ?_
  rotate_left
  · intro w'; go_simp; with_reducible rfl
  rotate_left
  · simp only [Act.put, List.setIfInBounds_toArray, List.set_cons_zero, List.set_cons_succ, i64_w, i32_w]; rfl
  refine pure_ (i := 17) (N := some 40) (v := ?_) (a' := ?_) #[true, true, true, true, true, true, true, true, true, true, true, true, true, true, true, true, true, true, false, false, false] rfl rfl (by kernel_rfl) (fun _ _ _ h => h) (Or.inl ⟨by rfl, ?_⟩) ?_ ?_
  rotate_left
  · intro w'; go_simp; with_reducible rfl
  rotate_left
  · simp only [Act.put, List.setIfInBounds_toArray, List.set_cons_zero, List.set_cons_succ, i64_w, i32_w]; rfl
  refine one_ (i := 18) (N := some 41) #[true, true, true, true, true, true, true, true, true, true, true, true, true, true, true, true, true, true, true, false, false] rfl rfl (by kernel_rfl) (by decide) (fun K hK => ?_)
  refine goes_ Tryz.func18 (by kernel_rfl) rfl #[] (by rfl) rfl rfl (by (try simp only [List.map_toArray, List.map_cons, List.map_nil]); first | done | rfl | simp) ?_
  refine (awake_any w14 (HM.out.on HB.out)).mono ?_
  rintro e w15 ⟨rfl, hb⟩
  refine ⟨_, rfl, ?_⟩
  refine hK.out _ _ (hHeld14.on hb) (fun hHeld15 => ?_)
  clear hK K hHeld14
  replace HB := Lib.hid (HB.out.trans (hb.mono HB.out.size))
  clear hb
  refine norm_ (a' := ?_) ?_ ?_
  rotate_left
  · show Act.put _ (some 41) _ = _; simp only [Act.put, List.setIfInBounds_toArray, List.set_cons_zero, List.set_cons_succ, i64_w, i32_w]; rfl
  refine pure_ (i := 19) (N := some 42) (v := ?_) (a' := ?_) #[true, true, true, true, true, true, true, true, true, true, true, true, true, true, true, true, true, true, true, true, false] rfl rfl (by kernel_rfl) (fun _ _ _ h => h) (Or.inl ⟨by rfl, ?_⟩) ?_ ?_
  rotate_left
  · intro w'; go_simp; with_reducible rfl
  rotate_left
  · simp only [Act.put, List.setIfInBounds_toArray, List.set_cons_zero, List.set_cons_succ, i64_w, i32_w]; rfl
  refine pure_ (i := 20) (N := some 6) (v := ?_) (a' := ?_) #[true, true, true, true, true, true, true, true, true, true, true, true, true, true, true, true, true, true, true, true, true] rfl rfl (by kernel_rfl) (fun _ _ _ h => h) (Or.inl ⟨by rfl, ?_⟩) ?_ ?_
  rotate_left
  · intro w'; go_simp; with_reducible rfl
  rotate_left
  · simp only [Act.put, List.setIfInBounds_toArray, List.set_cons_zero, List.set_cons_succ, i64_w, i32_w]; rfl
  refine done_ (by kernel_rfl) ?_
  go_wp2
  go_ret
  exact ⟨rfl, HB.out⟩
end Go.Proofs.YthndgekjccclnaaGreatDoor
