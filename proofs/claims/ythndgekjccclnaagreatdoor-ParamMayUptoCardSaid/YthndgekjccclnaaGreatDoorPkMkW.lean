/-
  Joined texts: MkLawMay.
-/
import Derived.Test.YthndgekjccclnaaGreatDoorPkMkV
import Derived.Test.YthndgekjccclnaaGreatDoorPkMkL
import Derived.Test.YthndgekjccclnaaGreatDoorPkParC
namespace Go.Proofs.YthndgekjccclnaaGreatDoor
open Go.RowKit Val Num Go.Proofs.YthndgekjccclnaaGreatDoorW.PrintLast
set_option linter.unusedVariables false
set_option linter.unusedSimpArgs false

set_option maxRecDepth 100000 in
set_option maxHeartbeats 8000000 in
theorem ParamMay_walk (uri : ByteArray) (l : List Dg) (A : Option Addr) (cap : Nat) (n : Nat) (kids : Nat → SY) (A2 : Option Addr) (cap2 : Nat) (w : World) (hl : l.length ≤ 1048576) (he : ER 6 Dg.enc w (fun b => b < w.heap.size) A l) (ho : ∀ x ∈ l, Dg.ok x)
    (hbk : (pubT uri l.length true (l.map Dg.tree)).bulk ≤ 1073741824) (hr : SYA w.heap.size A2 n kids w) (hsb : (lsF n fun j => (kids j).tree).bulk ≤ 1073741824) (hsm : ∀ j, j < n → (kids j).small ∧ (kids j).n ≤ 1073741824) (hP : PTab w) (hM : ML w) :
    Calls Tryz.prog 11 #[.string uri, .slice A l.length cap, .slice A2 n cap2] w fun e w' => e = .returned (.bool true) ∧ Below w.heap.size w w' := by
  have HD := Lib.hid (fun (W : World) (hb : Below w.heap.size w W) => deep_of w.heap.size n kids W A2 cap2 990 (by have := lsF_n n (fun j => (kids j).tree); omega) (by unfold I64; omega) (hr.on hb) (fun j hj => (hsm j hj).2) (fun j hj => deepS _ (hsm j hj).1))
  have HC1 := Lib.hid (fun (W : World) (hb : Below w.heap.size w W) => pPublish uri l.length true l W A cap hl (he.ea.on hb).er (by unfold I64; omega) (hP.on hb) ho)
  have HC2 := Lib.hid (fun (W : World) (hb : Below w.heap.size w W) => pAble W (hP.on hb))
  have HC3 := Lib.hid (fun (W : World) (hb : Below w.heap.size w W) => pRange 0 0 0 0 W (by unfold I64; omega) (by unfold I64; omega) (by unfold I64; omega) (by unfold I64; omega) (hP.on hb))
  have HC4 := Lib.hid (fun (W : World) (hb : Below w.heap.size w W) (A3 : Option Addr) (he3 : ER 2 Fd.enc W (fun b => b < W.heap.size) A3 [⟨1, 2⟩]) => pFolds [⟨1, 2⟩] W A3 1 (Nat.le_of_ble_eq_true rfl) he3 (hP.on hb) (by intro x hx; simp only [List.mem_singleton] at hx; subst hx; exact ⟨by show I64 1; unfold I64; omega, by show I64 2; unfold I64; omega⟩))
  have HC5 := Lib.hid (fun (W : World) (hb : Below w.heap.size w W) => pSymbols w.heap.size n kids W A2 cap2 (hr.on hb) (hP.on hb) hsb)
  have K1 := Lib.hid ((ok_pub uri l.length true l).check (by omega))
  have K2 := Lib.hid (ok_able.check (by omega))
  have K3 := Lib.hid ((ok_range 0 0 0 0).check (by omega))
  have K4 := Lib.hid ((ok_folds [⟨1, 2⟩]).check (by omega))
  have K5 := Lib.hid (lsF_may n (fun j => (kids j).tree) (fun j => sym_may (kids j)))
  have B1 := Lib.hid hbk
  have B2 : Hid (ableT.bulk ≤ 1073741824) := Lib.hid (by
    have h := nbT_bulk 2 (by unfold I64; omega)
    show 1 + 0 + 2 + 2 + (12 + (10 + 0)) + (0 + (1 + 0 + 3 + 3 + (16 + (22 + (20 + 0))) + (0 + (nbT 2).bulk + (1 + 0 + 0 + 0 + 0 + 0) + (1 + 0 + 0 + 0 + 0 + 0))) + (1 + 0 + 1 + 1 + (4 + 0) + (0 + (1 + 8 + 0 + 0 + 0 + 0)))) ≤ _
    omega)
  have B3 : Hid ((rangeT 0 0 0 0).bulk ≤ 1073741824) := Lib.hid (Nat.le_trans (rangeT_bulk 0 0 0 0 (by unfold I64; omega) (by unfold I64; omega) (by unfold I64; omega) (by unfold I64; omega)) (by omega))
  have B4 : Hid ((lsT ([⟨1, 2⟩].map Fd.tree)).bulk ≤ 1073741824) := Lib.hid (by
    have h1 := foldT_bulk 1 2 (by unfold I64; omega) (by unfold I64; omega)
    show 1 + 0 + 1 + 0 + 0 + (0 + (foldT 1 2).bulk) ≤ _
    omega)
  have B5 := Lib.hid hsb
  have HM := Lib.hid hM
  clear hl he ho hbk hr hsm hsb hP hM
  generalize pubT uri l.length true (l.map Dg.tree) = tp at *
  generalize l.length = m at *
  generalize (lsF n fun j => (kids j).tree) = ts at *
  generalize ableT = ta at *
  generalize rangeT 0 0 0 0 = tr at *
  generalize lsT ([⟨1, 2⟩].map Fd.tree) = tf at *
  go_enter Tryz.func11, Tryz.ntmps11
  have HB := Lib.hid (Below.refl w.heap.size w)
  go_wp2_with fail
  refine (HD.out w HB.out).mono ?_
  rintro e w2 ⟨⟨bb, rfl⟩, hb⟩
  replace HB := Lib.hid (HB.out.trans (hb.mono HB.out.size))
  clear hb HD
  cases bb
  rotate_left
  · skip
    go_wp2_with fail
    refine (awake_any w2 (HM.out.on HB.out)).mono ?_
    rintro e w3 ⟨rfl, hb⟩
    replace HB := Lib.hid (HB.out.trans (hb.mono HB.out.size))
    clear hb
    go_wp2
    go_ret
    exact ⟨rfl, HB.out⟩
  go_wp2_with fail
  refine (HC1.out w2 HB.out).mono ?_
  rintro e w3 ⟨v, rfl, hv, hb⟩
  obtain ⟨k_p, i_p, x_p, A_p, n_p, c_p, B_p, m_p, d_p, rfl⟩ := VAL.shape hv
  have HVp : Hid (VLV (zNew 0) tp w3 _) := Lib.hid (VAL.mono (fun b hb => ⟨Nat.zero_le _, hb.2⟩) hv)
  clear hv
  replace HB := Lib.hid (HB.out.trans (hb.mono HB.out.size))
  clear hb
  go_wp2_with fail
  refine (HC2.out w3 HB.out).mono ?_
  rintro e w4 ⟨v, rfl, hv, hb⟩
  obtain ⟨k_a, i_a, x_a, A_a, n_a, c_a, B_a, m_a, d_a, rfl⟩ := VAL.shape hv
  have HVa : Hid (VLV (zNew 0) ta w4 _) := Lib.hid (VAL.mono (fun b hb => ⟨Nat.zero_le _, hb.2⟩) hv)
  clear hv
  replace HVp := Lib.hid (HVp.out.up hb)
  replace HB := Lib.hid (HB.out.trans (hb.mono HB.out.size))
  clear hb
  clear HC1 HC2
  go_upto_region 4 with (fail)
  have hb := al2_below w4 (.cells #[.int .i64 k_p, .bool i_p, .string x_p, .slice A_p n_p c_p, .slice B_p m_p d_p] 30) (.cells #[.int .i64 k_a, .bool i_a, .string x_a, .slice A_a n_a c_a, .slice B_a m_a d_a] 30)
  have HX7 : Hid (BX ((w4.alloc (.cells #[.int .i64 k_p, .bool i_p, .string x_p, .slice A_p n_p c_p, .slice B_p m_p d_p] 30)).alloc (.cells #[.int .i64 k_a, .bool i_a, .string x_a, .slice A_a n_a c_a, .slice B_a m_a d_a] 30)) w4.heap.size (.int .i64 k_p) (.bool i_p) (.string x_p) (.slice A_p n_p c_p) (.slice B_p m_p d_p)) := Lib.hid (al2_0 _ _ _)
  have HX8 : Hid (BX ((w4.alloc (.cells #[.int .i64 k_p, .bool i_p, .string x_p, .slice A_p n_p c_p, .slice B_p m_p d_p] 30)).alloc (.cells #[.int .i64 k_a, .bool i_a, .string x_a, .slice A_a n_a c_a, .slice B_a m_a d_a] 30)) (w4.heap.size + 1) (.int .i64 k_a) (.bool i_a) (.string x_a) (.slice A_a n_a c_a) (.slice B_a m_a d_a)) := Lib.hid (al2_1 _ _ _)
  replace HVp := Lib.hid (HVp.out.up hb)
  replace HVa := Lib.hid (HVa.out.up hb)
  replace HB := Lib.hid (HB.out.trans (hb.mono HB.out.size))
  clear hb
  generalize ((w4.alloc (.cells #[.int .i64 k_p, .bool i_p, .string x_p, .slice A_p n_p c_p, .slice B_p m_p d_p] 30)).alloc (.cells #[.int .i64 k_a, .bool i_a, .string x_a, .slice A_a n_a c_a, .slice B_a m_a d_a] 30)) = w5 at *
  generalize w4.heap.size = g7 at *
  have hg := HX7.out
  have y0 := hg.c0
  have y1 := hg.c1
  have y2 := hg.c2
  have y3 := hg.c3
  have y4 := hg.c4
  clear hg
  go_wp2_with fail
  clear y0 y1 y2 y3 y4
  have hE := vCheck_any tp w5 _ _ HVp.out (Zone.lt _ _) B1.out
  rw [K1.out] at hE
  refine hE.mono ?_
  clear hE
  rintro e w6 ⟨rfl, hb⟩
  replace HX7 := Lib.hid (HX7.out.on hb)
  replace HX8 := Lib.hid (HX8.out.on hb)
  replace HVp := Lib.hid (HVp.out.up hb)
  replace HVa := Lib.hid (HVa.out.up hb)
  replace HB := Lib.hid (HB.out.trans (hb.mono HB.out.size))
  clear hb
  have hg := HX8.out
  have y0 := hg.c0
  have y1 := hg.c1
  have y2 := hg.c2
  have y3 := hg.c3
  have y4 := hg.c4
  clear hg
  go_wp2_with fail
  clear y0 y1 y2 y3 y4
  have hE := vCheck_any ta w6 _ _ HVa.out (Zone.lt _ _) B2.out
  rw [K2.out] at hE
  refine hE.mono ?_
  clear hE
  rintro e w7 ⟨rfl, hb⟩
  replace HX7 := Lib.hid (HX7.out.on hb)
  replace HX8 := Lib.hid (HX8.out.on hb)
  replace HVp := Lib.hid (HVp.out.up hb)
  replace HVa := Lib.hid (HVa.out.up hb)
  replace HB := Lib.hid (HB.out.trans (hb.mono HB.out.size))
  clear hb
  go_wp2_with fail
  refine (HC3.out w7 HB.out).mono ?_
  rintro e w8 ⟨v, rfl, hv, hb⟩
  obtain ⟨k_r, i_r, x_r, A_r, n_r, c_r, B_r, m_r, d_r, rfl⟩ := VAL.shape hv
  have HVr : Hid (VLV (zNew 0) tr w8 _) := Lib.hid (VAL.mono (fun b hb => ⟨Nat.zero_le _, hb.2⟩) hv)
  clear hv
  replace HX7 := Lib.hid (HX7.out.on hb)
  replace HX8 := Lib.hid (HX8.out.on hb)
  replace HVp := Lib.hid (HVp.out.up hb)
  replace HVa := Lib.hid (HVa.out.up hb)
  replace HB := Lib.hid (HB.out.trans (hb.mono HB.out.size))
  clear hb
  go_wp2_with fail
  have hE := vCheck_any tr w8 _ _ HVr.out (Zone.lt _ _) B3.out
  rw [K3.out] at hE
  refine hE.mono ?_
  clear hE
  rintro e w9 ⟨rfl, hb⟩
  replace HX7 := Lib.hid (HX7.out.on hb)
  replace HX8 := Lib.hid (HX8.out.on hb)
  replace HVp := Lib.hid (HVp.out.up hb)
  replace HVa := Lib.hid (HVa.out.up hb)
  replace HVr := Lib.hid (HVr.out.up hb)
  replace HB := Lib.hid (HB.out.trans (hb.mono HB.out.size))
  clear hb
  go_wp2_with fail
  have hb := made_end (w := w9) (.cells #[.int .i64 1, .int .i64 2] 76)
  have HF : Hid (ER 2 Fd.enc (w9.alloc (.cells #[.int .i64 1, .int .i64 2] 76)) (fun b => b < (w9.alloc (.cells #[.int .i64 1, .int .i64 2] 76)).heap.size) (some ⟨w9.heap.size, 0, none⟩) [⟨1, 2⟩]) := Lib.hid (.inr ⟨_, 0, rfl, by simp, fun j hj i v hv => by
    obtain rfl : j = 0 := by simpa using hj
    simp only [Nat.zero_mul, Nat.zero_add]
    rw [cell_of_row _ _ i _ _ _ (heap_alloc_new w9 (.cells #[.int .i64 1, .int .i64 2] 76)), ← Array.getElem?_toList]
    exact hv⟩)
  replace HX7 := Lib.hid (HX7.out.on hb)
  replace HX8 := Lib.hid (HX8.out.on hb)
  replace HVp := Lib.hid (HVp.out.up hb)
  replace HVa := Lib.hid (HVa.out.up hb)
  replace HVr := Lib.hid (HVr.out.up hb)
  replace HB := Lib.hid (HB.out.trans (hb.mono HB.out.size))
  clear hb
  generalize (w9.alloc (.cells #[.int .i64 1, .int .i64 2] 76)) = w10 at *
  generalize w9.heap.size = g9 at *
  refine (HC4.out w10 HB.out _ HF.out).mono ?_
  rintro e w11 ⟨v, rfl, hv, hb⟩
  obtain ⟨k_f, i_f, x_f, A_f, n_f, c_f, B_f, m_f, d_f, rfl⟩ := VAL.shape hv
  have HVf : Hid (VLV (zNew 0) tf w11 _) := Lib.hid (VAL.mono (fun b hb => ⟨Nat.zero_le _, hb.2⟩) hv)
  clear hv
  replace HX7 := Lib.hid (HX7.out.on hb)
  replace HX8 := Lib.hid (HX8.out.on hb)
  replace HVp := Lib.hid (HVp.out.up hb)
  replace HVa := Lib.hid (HVa.out.up hb)
  replace HVr := Lib.hid (HVr.out.up hb)
  replace HB := Lib.hid (HB.out.trans (hb.mono HB.out.size))
  clear hb
  clear HF
  go_wp2_with fail
  have hE := vCheck_any tf w11 _ _ HVf.out (Zone.lt _ _) B4.out
  rw [K4.out] at hE
  refine hE.mono ?_
  clear hE
  rintro e w12 ⟨rfl, hb⟩
  replace HX7 := Lib.hid (HX7.out.on hb)
  replace HX8 := Lib.hid (HX8.out.on hb)
  replace HVp := Lib.hid (HVp.out.up hb)
  replace HVa := Lib.hid (HVa.out.up hb)
  replace HVr := Lib.hid (HVr.out.up hb)
  replace HVf := Lib.hid (HVf.out.up hb)
  replace HB := Lib.hid (HB.out.trans (hb.mono HB.out.size))
  clear hb
  clear HC3 HC4 K1 K2 K3 K4 B1 B2 B3 B4 HVp HVa HVr HVf HX7 HX8
  go_wp2_with fail
  refine (HC5.out w12 HB.out).mono ?_
  rintro e w13 ⟨v, rfl, hv, hb⟩
  obtain ⟨k_s, i_s, x_s, A_s, n_s, c_s, B_s, m_s, d_s, rfl⟩ := VAL.shape hv
  have HVs : Hid (VLV (zNew 0) ts w13 _) := Lib.hid (VAL.mono (fun b hb => ⟨Nat.zero_le _, hb.2⟩) hv)
  clear hv
  replace HB := Lib.hid (HB.out.trans (hb.mono HB.out.size))
  clear hb
  go_upto_region 7 with (fail)
  have hb := made_end (w := w13) (.cells #[.int .i64 k_s, .bool i_s, .string x_s, .slice A_s n_s c_s, .slice B_s m_s d_s] 30)
  have HX9 := Lib.hid (BX.new w13 (.int .i64 k_s) (.bool i_s) (.string x_s) (.slice A_s n_s c_s) (.slice B_s m_s d_s))
  replace HVs := Lib.hid (HVs.out.up hb)
  replace HB := Lib.hid (HB.out.trans (hb.mono HB.out.size))
  clear hb
  generalize (w13.alloc (.cells #[.int .i64 k_s, .bool i_s, .string x_s, .slice A_s n_s c_s, .slice B_s m_s d_s] 30)) = w14 at *
  generalize w13.heap.size = g8 at *
  have hg := HX9.out
  have y0 := hg.c0
  have y1 := hg.c1
  have y2 := hg.c2
  have y3 := hg.c3
  have y4 := hg.c4
  clear hg
  go_wp2_with fail
  clear y0 y1 y2 y3 y4
  have hE := refDepth_any ts w14 _ _ HVs.out (Zone.lt _ _) B5.out
  refine hE.mono ?_
  clear hE
  rintro e w15 ⟨rfl, hb⟩
  replace HX9 := Lib.hid (HX9.out.on hb)
  replace HVs := Lib.hid (HVs.out.up hb)
  replace HB := Lib.hid (HB.out.trans (hb.mono HB.out.size))
  clear hb
  have hdl : ts.depth ≤ 1073741824 := Nat.le_trans (VT.depth_le ts) B5.out
  have HDE : Hid (ts.check = if 128 < ts.depth then 111 else 0) := Lib.hid (by unfold VT.check; rw [if_pos K5.out])
  generalize ts.depth = q at *
  by_cases hq : 123 < q
  · skip
    have h0 : decide ((123 : Int) < (q : Int)) = true := by simp; omega
    clear hq hdl
    go_wp2_with fail
    refine (awake_any w15 (HM.out.on HB.out)).mono ?_
    rintro e w16 ⟨rfl, hb⟩
    replace HX9 := Lib.hid (HX9.out.on hb)
    replace HVs := Lib.hid (HVs.out.up hb)
    replace HB := Lib.hid (HB.out.trans (hb.mono HB.out.size))
    clear hb
    go_wp2
    go_ret
    exact ⟨rfl, HB.out⟩
  · skip
    have h0 : decide ((123 : Int) < (q : Int)) = false := by simp; omega
    have HK : Hid (ts.check = 0) := Lib.hid (by rw [HDE.out, if_neg (by omega)])
    clear hq hdl
    have hg := HX9.out
    have y0 := hg.c0
    have y1 := hg.c1
    have y2 := hg.c2
    have y3 := hg.c3
    have y4 := hg.c4
    clear hg
    go_wp2_with fail
    clear y0 y1 y2 y3 y4
    have hE := vCheck_any ts w15 _ _ HVs.out (Zone.lt _ _) B5.out
    rw [HK.out] at hE
    refine hE.mono ?_
    clear hE
    rintro e w16 ⟨rfl, hb⟩
    replace HX9 := Lib.hid (HX9.out.on hb)
    replace HVs := Lib.hid (HVs.out.up hb)
    replace HB := Lib.hid (HB.out.trans (hb.mono HB.out.size))
    clear hb
    go_wp2_with fail
    refine (awake_any w16 (HM.out.on HB.out)).mono ?_
    rintro e w17 ⟨rfl, hb⟩
    replace HX9 := Lib.hid (HX9.out.on hb)
    replace HVs := Lib.hid (HVs.out.up hb)
    replace HB := Lib.hid (HB.out.trans (hb.mono HB.out.size))
    clear hb
    go_wp2
    go_ret
    exact ⟨rfl, HB.out⟩
end Go.Proofs.YthndgekjccclnaaGreatDoor
