/-
  Joined texts: MkAble.
-/
import Derived.Test.YthndgekjccclnaaGreatDoorPkMkE
import Derived.Test.YthndgekjccclnaaGreatDoorPkMkF
namespace Go.Proofs.YthndgekjccclnaaGreatDoor
open Go.RowKit Val Num Go.Proofs.YthndgekjccclnaaGreatDoorW.PrintLast
set_option linter.unusedVariables false
set_option linter.unusedSimpArgs false

def ableT : VT := obT [⟨#[99, 97, 112, 97, 98, 105, 108, 105, 116, 105, 101, 115]⟩, ⟨#[115, 101, 114, 118, 101, 114, 73, 110, 102, 111]⟩] [obT [⟨#[116, 101, 120, 116, 68, 111, 99, 117, 109, 101, 110, 116, 83, 121, 110, 99]⟩, ⟨#[100, 111, 99, 117, 109, 101, 110, 116, 83, 121, 109, 98, 111, 108, 80, 114, 111, 118, 105, 100, 101, 114]⟩, ⟨#[102, 111, 108, 100, 105, 110, 103, 82, 97, 110, 103, 101, 80, 114, 111, 118, 105, 100, 101, 114]⟩] [nbT 2, boT true, boT true], obT [⟨#[110, 97, 109, 101]⟩] [txT ⟨#[99, 111, 108, 111, 112, 104, 111, 110]⟩]]
def tl_pAble (z : Zone) (w : World) (g1 : Nat) : Tolds := [(0, 10, VLV z (obT [⟨#[116, 101, 120, 116, 68, 111, 99, 117, 109, 101, 110, 116, 83, 121, 110, 99]⟩, ⟨#[100, 111, 99, 117, 109, 101, 110, 116, 83, 121, 109, 98, 111, 108, 80, 114, 111, 118, 105, 100, 101, 114]⟩, ⟨#[102, 111, 108, 100, 105, 110, 103, 82, 97, 110, 103, 101, 80, 114, 111, 118, 105, 100, 101, 114]⟩] [nbT 2, boT true, boT true])), (1, 11, PRV z (⟨#[99, 97, 112, 97, 98, 105, 108, 105, 116, 105, 101, 115]⟩, (obT [⟨#[116, 101, 120, 116, 68, 111, 99, 117, 109, 101, 110, 116, 83, 121, 110, 99]⟩, ⟨#[100, 111, 99, 117, 109, 101, 110, 116, 83, 121, 109, 98, 111, 108, 80, 114, 111, 118, 105, 100, 101, 114]⟩, ⟨#[102, 111, 108, 100, 105, 110, 103, 82, 97, 110, 103, 101, 80, 114, 111, 118, 105, 100, 101, 114]⟩] [nbT 2, boT true, boT true]))), (2, 12, VLV z (txT ⟨#[99, 111, 108, 111, 112, 104, 111, 110]⟩)), (3, 13, PRV z (⟨#[110, 97, 109, 101]⟩, (txT ⟨#[99, 111, 108, 111, 112, 104, 111, 110]⟩))), (4, 14, PSV z [(⟨#[110, 97, 109, 101]⟩, (txT ⟨#[99, 111, 108, 111, 112, 104, 111, 110]⟩))]), (5, 15, VLV z (obT [⟨#[110, 97, 109, 101]⟩] [(txT ⟨#[99, 111, 108, 111, 112, 104, 111, 110]⟩)])), (6, 16, PRV z (⟨#[115, 101, 114, 118, 101, 114, 73, 110, 102, 111]⟩, (obT [⟨#[110, 97, 109, 101]⟩] [(txT ⟨#[99, 111, 108, 111, 112, 104, 111, 110]⟩)]))), (7, 17, PSV z [(⟨#[99, 97, 112, 97, 98, 105, 108, 105, 116, 105, 101, 115]⟩, (obT [⟨#[116, 101, 120, 116, 68, 111, 99, 117, 109, 101, 110, 116, 83, 121, 110, 99]⟩, ⟨#[100, 111, 99, 117, 109, 101, 110, 116, 83, 121, 109, 98, 111, 108, 80, 114, 111, 118, 105, 100, 101, 114]⟩, ⟨#[102, 111, 108, 100, 105, 110, 103, 82, 97, 110, 103, 101, 80, 114, 111, 118, 105, 100, 101, 114]⟩] [nbT 2, boT true, boT true])), (⟨#[115, 101, 114, 118, 101, 114, 73, 110, 102, 111]⟩, (obT [⟨#[110, 97, 109, 101]⟩] [(txT ⟨#[99, 111, 108, 111, 112, 104, 111, 110]⟩)]))]), (8, 18, VLV z (obT [⟨#[99, 97, 112, 97, 98, 105, 108, 105, 116, 105, 101, 115]⟩, ⟨#[115, 101, 114, 118, 101, 114, 73, 110, 102, 111]⟩] [(obT [⟨#[116, 101, 120, 116, 68, 111, 99, 117, 109, 101, 110, 116, 83, 121, 110, 99]⟩, ⟨#[100, 111, 99, 117, 109, 101, 110, 116, 83, 121, 109, 98, 111, 108, 80, 114, 111, 118, 105, 100, 101, 114]⟩, ⟨#[102, 111, 108, 100, 105, 110, 103, 82, 97, 110, 103, 101, 80, 114, 111, 118, 105, 100, 101, 114]⟩] [nbT 2, boT true, boT true]), (obT [⟨#[110, 97, 109, 101]⟩] [(txT ⟨#[99, 111, 108, 111, 112, 104, 111, 110]⟩)])]))]
theorem tl_pAble_ok (z : Zone) (w : World) (g1 : Nat) : (tl_pAble z w g1).ok 9 = true := by kernel_rfl
theorem tl_pAble_up (z : Zone) (w : World) (g1 : Nat) : (tl_pAble z w g1).up := (tup_cons (fun _ _ _ h hb => VLV.up h hb) (tup_cons (fun _ _ _ h hb => PRV.up h hb) (tup_cons (fun _ _ _ h hb => VLV.up h hb) (tup_cons (fun _ _ _ h hb => PRV.up h hb) (tup_cons (fun _ _ _ h hb => PSV.up h hb) (tup_cons (fun _ _ _ h hb => VLV.up h hb) (tup_cons (fun _ _ _ h hb => PRV.up h hb) (tup_cons (fun _ _ _ h hb => PSV.up h hb) (tup_cons (fun _ _ _ h hb => VLV.up h hb) tup_nil)))))))))

set_option maxRecDepth 100000 in
set_option maxHeartbeats 4000000 in
theorem pAble (w : World) (hP : PTab w) : Calls Tryz.prog 49 #[] w (Copied ableT w) := by
  have HhP := Lib.hid hP
  have HB : Hid (Below w.heap.size w (w.alloc (.cells #[.int .i64 0, .bool false, .string ⟨#[]⟩, .slice none 0 0, .slice none 0 0] 30))) := Lib.hid (made_end _)
  have HR : Hid (BX (w.alloc (.cells #[.int .i64 0, .bool false, .string ⟨#[]⟩, .slice none 0 0, .slice none 0 0] 30)) w.heap.size (.int .i64 0) (.bool false) (.string ⟨#[]⟩) (.slice none 0 0) (.slice none 0 0)) := Lib.hid (BX.new w _ _ _ _ _)
  have HQ : Hid (w.heap.size + 1 ≤ (w.alloc (.cells #[.int .i64 0, .bool false, .string ⟨#[]⟩, .slice none 0 0, .slice none 0 0] 30)).heap.size) := Lib.hid (by simp)
  clear hP
  go_enter Tryz.func49, Tryz.ntmps49
  go_wp2_with fail
  generalize (w.alloc (.cells #[.int .i64 0, .bool false, .string ⟨#[]⟩, .slice none 0 0, .slice none 0 0] 30)) = w1 at *
  refine (vNumber_any 2 w1 (by unfold I64; omega) (HhP.out.on HB.out)).mono ?_
  rintro e w2 ⟨rfl, hb⟩
  replace HR := Lib.hid (HR.out.on hb)
  replace HQ := Lib.hid (Nat.le_trans HQ.out hb.size)
  replace HB := Lib.hid (HB.out.trans (hb.mono HB.out.size))
  clear hb
  go_wp2_with fail
  refine (vBool_any true w2).mono ?_
  rintro e w3 ⟨rfl, hb⟩
  replace HR := Lib.hid (HR.out.on hb)
  replace HQ := Lib.hid (Nat.le_trans HQ.out hb.size)
  replace HB := Lib.hid (HB.out.trans (hb.mono HB.out.size))
  clear hb
  go_wp2_with fail
  refine (vBool_any true w3).mono ?_
  rintro e w4 ⟨rfl, hb⟩
  replace HR := Lib.hid (HR.out.on hb)
  replace HQ := Lib.hid (Nat.le_trans HQ.out hb.size)
  replace HB := Lib.hid (HB.out.trans (hb.mono HB.out.size))
  clear hb
  go_wp2_with fail
  have hb := made_end (w := w4) (.cells #[.string ⟨#[116, 101, 120, 116, 68, 111, 99, 117, 109, 101, 110, 116, 83, 121, 110, 99]⟩, .int .i64 2, .bool false, .string (bs (numS 2)), .slice none 0 0, .slice none 0 0, .string ⟨#[100, 111, 99, 117, 109, 101, 110, 116, 83, 121, 109, 98, 111, 108, 80, 114, 111, 118, 105, 100, 101, 114]⟩, .int .i64 1, .bool true, .string ⟨#[]⟩, .slice none 0 0, .slice none 0 0, .string ⟨#[102, 111, 108, 100, 105, 110, 103, 82, 97, 110, 103, 101, 80, 114, 111, 118, 105, 100, 101, 114]⟩, .int .i64 1, .bool true, .string ⟨#[]⟩, .slice none 0 0, .slice none 0 0] 112)
  have HPS : Hid (PSV (zNew (w.heap.size + 1)) [(⟨#[116, 101, 120, 116, 68, 111, 99, 117, 109, 101, 110, 116, 83, 121, 110, 99]⟩, nbT 2), (⟨#[100, 111, 99, 117, 109, 101, 110, 116, 83, 121, 109, 98, 111, 108, 80, 114, 111, 118, 105, 100, 101, 114]⟩, boT true), (⟨#[102, 111, 108, 100, 105, 110, 103, 82, 97, 110, 103, 101, 80, 114, 111, 118, 105, 100, 101, 114]⟩, boT true)] (w4.alloc (.cells #[.string ⟨#[116, 101, 120, 116, 68, 111, 99, 117, 109, 101, 110, 116, 83, 121, 110, 99]⟩, .int .i64 2, .bool false, .string (bs (numS 2)), .slice none 0 0, .slice none 0 0, .string ⟨#[100, 111, 99, 117, 109, 101, 110, 116, 83, 121, 109, 98, 111, 108, 80, 114, 111, 118, 105, 100, 101, 114]⟩, .int .i64 1, .bool true, .string ⟨#[]⟩, .slice none 0 0, .slice none 0 0, .string ⟨#[102, 111, 108, 100, 105, 110, 103, 82, 97, 110, 103, 101, 80, 114, 111, 118, 105, 100, 101, 114]⟩, .int .i64 1, .bool true, .string ⟨#[]⟩, .slice none 0 0, .slice none 0 0] 112)) (.slice (some ⟨w4.heap.size, 0, none⟩) 3 3)) := Lib.hid (PSV_new _ w4 _ _ _ (PRC.cons (p := (⟨#[116, 101, 120, 116, 68, 111, 99, 117, 109, 101, 110, 116, 83, 121, 110, 99]⟩, nbT 2)) (VAL.shut (by decide) (.inl rfl) (.inl rfl)) (PRC.cons (p := (⟨#[100, 111, 99, 117, 109, 101, 110, 116, 83, 121, 109, 98, 111, 108, 80, 114, 111, 118, 105, 100, 101, 114]⟩, boT true)) (VAL.shut (by decide) (.inl rfl) (.inl rfl)) (PRC.cons (p := (⟨#[102, 111, 108, 100, 105, 110, 103, 82, 97, 110, 103, 101, 80, 114, 111, 118, 105, 100, 101, 114]⟩, boT true)) (VAL.shut (by decide) (.inl rfl) (.inl rfl)) (PRC.nil _ _)))) (zNew_alloc HQ.out))
  replace HR := Lib.hid (HR.out.on hb)
  replace HQ := Lib.hid (Nat.le_trans HQ.out hb.size)
  replace HB := Lib.hid (HB.out.trans (hb.mono HB.out.size))
  clear hb
  generalize (w4.alloc (.cells #[.string ⟨#[116, 101, 120, 116, 68, 111, 99, 117, 109, 101, 110, 116, 83, 121, 110, 99]⟩, .int .i64 2, .bool false, .string (bs (numS 2)), .slice none 0 0, .slice none 0 0, .string ⟨#[100, 111, 99, 117, 109, 101, 110, 116, 83, 121, 109, 98, 111, 108, 80, 114, 111, 118, 105, 100, 101, 114]⟩, .int .i64 1, .bool true, .string ⟨#[]⟩, .slice none 0 0, .slice none 0 0, .string ⟨#[102, 111, 108, 100, 105, 110, 103, 82, 97, 110, 103, 101, 80, 114, 111, 118, 105, 100, 101, 114]⟩, .int .i64 1, .bool true, .string ⟨#[]⟩, .slice none 0 0, .slice none 0 0] 112)) = w5 at *
  generalize w4.heap.size = q5 at *
  refine (pObject_any _ w5 _ HQ.out HPS.out (Nat.le_of_ble_eq_true rfl)).mono ?_
  rintro e w6 ⟨v, rfl, hv, hb⟩
  clear HPS
  obtain ⟨ka, ia, xa, Aa, na, ca, Ba, ma, da, rfl⟩ := VAL.shape hv
  have HVA := Lib.hid hv
  replace HR := Lib.hid (HR.out.on hb)
  replace HQ := Lib.hid (Nat.le_trans HQ.out hb.size)
  replace HB := Lib.hid (HB.out.trans (hb.mono HB.out.size))
  clear hb hv
  go_upto_region 2 with (fail)
  have hb := made_end (w := w6) (.cells #[.int .i64 ka, .bool ia, .string xa, .slice Aa na ca, .slice Ba ma da] 30)
  have HX : Hid (BX (w6.alloc (.cells #[.int .i64 ka, .bool ia, .string xa, .slice Aa na ca, .slice Ba ma da] 30)) w6.heap.size (.int .i64 ka) (.bool ia) (.string xa) (.slice Aa na ca) (.slice Ba ma da)) := Lib.hid (BX.new w6 _ _ _ _ _)
  replace HVA := Lib.hid (VLV.up HVA.out hb)
  replace HR := Lib.hid (HR.out.on hb)
  replace HQ := Lib.hid (Nat.le_trans HQ.out hb.size)
  replace HB := Lib.hid (HB.out.trans (hb.mono HB.out.size))
  clear hb
  generalize (w6.alloc (.cells #[.int .i64 ka, .bool ia, .string xa, .slice Aa na ca, .slice Ba ma da] 30)) = w7 at *
  generalize w6.heap.size = g1 at *
  refine start_ (n := 10) (S := fun w' => True) (ds := []) #[false, false, false, false, false, false, false, false, false, false] (by kernel_rfl) rfl rfl trivial (fun hHeld => ?_)
  clear hHeld
  have hb : Below w7.heap.size w7 w7.drew := (Below.refl _ _).drew
  replace HR := Lib.hid (HR.out.on hb)
  replace HQ := Lib.hid (Nat.le_trans HQ.out hb.size)
  replace HB := Lib.hid (HB.out.trans (hb.mono HB.out.size))
  replace HX := Lib.hid (HX.out.on hb)
  replace HVA : Hid (VLV (zNew (w.heap.size + 1)) (obT [⟨#[116, 101, 120, 116, 68, 111, 99, 117, 109, 101, 110, 116, 83, 121, 110, 99]⟩, ⟨#[100, 111, 99, 117, 109, 101, 110, 116, 83, 121, 109, 98, 111, 108, 80, 114, 111, 118, 105, 100, 101, 114]⟩, ⟨#[102, 111, 108, 100, 105, 110, 103, 82, 97, 110, 103, 101, 80, 114, 111, 118, 105, 100, 101, 114]⟩] [nbT 2, boT true, boT true]) w7.drew (.agg #[.int .i64 ka, .bool ia, .string xa, .slice Aa na ca, .slice Ba ma da])) := Lib.hid (VLV.up HVA.out hb)
  clear hb
  generalize w7.drew = c at *
  refine inv_ (B := [0, 1, 0, 4, 12, 28, 60, 127, 255, 511]) [0, 1, 2, 3, 4, 5, 6, 7, 8, 9] (ToldI _ (tl_pAble (zNew (w.heap.size + 1)) w g1) 9 c _) rfl (by kernel_rfl) (by kernel_rfl) (by kernel_rfl) told_begin ?_ (told_end (by kernel_rfl))
  refine steps_cons (told_step 0 (tl_pAble_ok (zNew (w.heap.size + 1)) w g1) (tl_pAble_up (zNew (w.heap.size + 1)) w g1) rfl (by kernel_rfl) ?_) ?_
  · intro b V a w' ha hB hF hon
    refine ⟨_, rfl, rfl, fun K hK => ?_⟩
    have e1 : a.tmps[1]? = some (.pointer (some ⟨g1, 0, none⟩)) := by rw [ha]; exact (putSel_off (by rfl)).trans rfl
    have hg := HX.out.on hB
    have y0 := hg.c0
    have y1 := hg.c1
    have y2 := hg.c2
    have y3 := hg.c3
    have y4 := hg.c4
    clear hg
    refine value_ (w1 := w') (v := .agg #[.int .i64 ka, .bool ia, .string xa, .slice Aa na ca, .slice Ba ma da]) rfl rfl ?_ (hK _ _ (Below.refl _ _) (VLV.up (z := (zNew (w.heap.size + 1))) HVA.out hB))
    clear ha hF hon hK K
    go_simp
    all_goals first | rfl | (constructor <;> rfl)
  refine steps_cons (told_step 1 (tl_pAble_ok (zNew (w.heap.size + 1)) w g1) (tl_pAble_up (zNew (w.heap.size + 1)) w g1) rfl (by kernel_rfl) ?_) ?_
  · intro b V a w' ha hB hF hon
    refine ⟨_, rfl, rfl, fun K hK => ?_⟩
    have e10 := told_get 0 (tl_pAble_ok (zNew (w.heap.size + 1)) w g1) rfl ha (hon 0 (by kernel_rfl)) (by kernel_rfl)
    have F10 := told_fact 0 hF rfl (hon 0 (by kernel_rfl))
    obtain ⟨k_10, i_10, x_10, A_10, n_10, c_10, B_10, m_10, d_10, hv10⟩ := VAL.shape F10
    rw [hv10] at e10 F10
    refine value_ (w1 := w') (v := .agg #[.string ⟨#[99, 97, 112, 97, 98, 105, 108, 105, 116, 105, 101, 115]⟩, .int .i64 k_10, .bool i_10, .string x_10, .slice A_10 n_10 c_10, .slice B_10 m_10 d_10]) rfl rfl ?_ (hK _ _ (Below.refl _ _) ⟨_, _, _, _, _, rfl, F10⟩)
    clear ha hF hon hK K
    go_simp
    all_goals first | rfl | (constructor <;> rfl)
  refine steps_cons (told_step 2 (tl_pAble_ok (zNew (w.heap.size + 1)) w g1) (tl_pAble_up (zNew (w.heap.size + 1)) w g1) rfl (by kernel_rfl) ?_) ?_
  · intro b V a w' ha hB hF hon
    refine ⟨_, rfl, rfl, fun K hK => ?_⟩
    refine goes_ Tryz.func90 (by kernel_rfl) rfl #[.string ⟨#[99, 111, 108, 111, 112, 104, 111, 110]⟩] rfl rfl rfl (by simp only [List.map_toArray, List.map_cons, List.map_nil, Act.eval, Array.getD_eq_getD_getElem?, Option.getD_some]) ?_
    refine ((vText ⟨#[99, 111, 108, 111, 112, 104, 111, 110]⟩ w').mono (fun _ _ h => h.mk (Nat.le_trans HQ.out hB.size))).mono ?_
    rintro e w'' ⟨v, rfl, hv, hb⟩
    exact ⟨v, rfl, hK v w'' hb hv⟩
  refine steps_cons (told_step 3 (tl_pAble_ok (zNew (w.heap.size + 1)) w g1) (tl_pAble_up (zNew (w.heap.size + 1)) w g1) rfl (by kernel_rfl) ?_) ?_
  · intro b V a w' ha hB hF hon
    refine ⟨_, rfl, rfl, fun K hK => ?_⟩
    have e12 := told_get 2 (tl_pAble_ok (zNew (w.heap.size + 1)) w g1) rfl ha (hon 2 (by kernel_rfl)) (by kernel_rfl)
    have F12 := told_fact 2 hF rfl (hon 2 (by kernel_rfl))
    obtain ⟨k_12, i_12, x_12, A_12, n_12, c_12, B_12, m_12, d_12, hv12⟩ := VAL.shape F12
    rw [hv12] at e12 F12
    refine value_ (w1 := w') (v := .agg #[.string ⟨#[110, 97, 109, 101]⟩, .int .i64 k_12, .bool i_12, .string x_12, .slice A_12 n_12 c_12, .slice B_12 m_12 d_12]) rfl rfl ?_ (hK _ _ (Below.refl _ _) ⟨_, _, _, _, _, rfl, F12⟩)
    clear ha hF hon hK K
    go_simp
    all_goals first | rfl | (constructor <;> rfl)
  refine steps_cons (told_step 4 (tl_pAble_ok (zNew (w.heap.size + 1)) w g1) (tl_pAble_up (zNew (w.heap.size + 1)) w g1) rfl (by kernel_rfl) ?_) ?_
  · intro b V a w' ha hB hF hon
    refine ⟨_, rfl, rfl, fun K hK => ?_⟩
    have e13 := told_get 3 (tl_pAble_ok (zNew (w.heap.size + 1)) w g1) rfl ha (hon 3 (by kernel_rfl)) (by kernel_rfl)
    have F13 := told_fact 3 hF rfl (hon 3 (by kernel_rfl))
    obtain ⟨p0, p1, p2, p3, p4, hv13, G13⟩ := F13
    obtain ⟨k_13, i_13, x_13, A_13, n_13, c_13, B_13, m_13, d_13, hw13⟩ := VAL.shape G13
    injection hw13 with hw13
    injection hw13 with hw13
    injection hw13 with z0 hw13; injection hw13 with z1 hw13; injection hw13 with z2 hw13; injection hw13 with z3 hw13; injection hw13 with z4 hw13
    subst z0; subst z1; subst z2; subst z3; subst z4
    rw [hv13] at e13
    refine value_ (w1 := w'.alloc (.cells #[.string ⟨#[110, 97, 109, 101]⟩, .int .i64 k_13, .bool i_13, .string x_13, .slice A_13 n_13 c_13, .slice B_13 m_13 d_13] 112)) (v := .slice (some ⟨w'.heap.size, 0, none⟩) 1 1) rfl rfl ?_ (hK _ _ ((Below.refl _ _).alloc (Nat.le_refl _) _) (PSV_new _ _ _ _ _ (PRC.cons G13 (PRC.nil _ _)) (zNew_alloc (Nat.le_trans HQ.out hB.size))))
    clear ha hF hon hK K
    go_simp
    all_goals first | rfl | (constructor <;> rfl)
  refine steps_cons (told_step 5 (tl_pAble_ok (zNew (w.heap.size + 1)) w g1) (tl_pAble_up (zNew (w.heap.size + 1)) w g1) rfl (by kernel_rfl) ?_) ?_
  · intro b V a w' ha hB hF hon
    refine ⟨_, rfl, rfl, fun K hK => ?_⟩
    have e14 := told_get 4 (tl_pAble_ok (zNew (w.heap.size + 1)) w g1) rfl ha (hon 4 (by kernel_rfl)) (by kernel_rfl)
    have F14 := told_fact 4 hF rfl (hon 4 (by kernel_rfl))
    refine goes_ Tryz.func81 (by kernel_rfl) rfl #[V 4] rfl rfl rfl (by simp only [List.map_toArray, List.map_cons, List.map_nil, Act.eval, Array.getD_eq_getD_getElem?, e14, Option.getD_some]) ?_
    refine (pObject_any [(⟨#[110, 97, 109, 101]⟩, (txT ⟨#[99, 111, 108, 111, 112, 104, 111, 110]⟩))] w' _ (Nat.le_trans HQ.out hB.size) F14 (Nat.le_of_ble_eq_true rfl)).mono ?_
    rintro e w'' ⟨v, rfl, hv, hb⟩
    exact ⟨v, rfl, hK v w'' hb hv⟩
  refine steps_cons (told_step 6 (tl_pAble_ok (zNew (w.heap.size + 1)) w g1) (tl_pAble_up (zNew (w.heap.size + 1)) w g1) rfl (by kernel_rfl) ?_) ?_
  · intro b V a w' ha hB hF hon
    refine ⟨_, rfl, rfl, fun K hK => ?_⟩
    have e15 := told_get 5 (tl_pAble_ok (zNew (w.heap.size + 1)) w g1) rfl ha (hon 5 (by kernel_rfl)) (by kernel_rfl)
    have F15 := told_fact 5 hF rfl (hon 5 (by kernel_rfl))
    obtain ⟨k_15, i_15, x_15, A_15, n_15, c_15, B_15, m_15, d_15, hv15⟩ := VAL.shape F15
    rw [hv15] at e15 F15
    refine value_ (w1 := w') (v := .agg #[.string ⟨#[115, 101, 114, 118, 101, 114, 73, 110, 102, 111]⟩, .int .i64 k_15, .bool i_15, .string x_15, .slice A_15 n_15 c_15, .slice B_15 m_15 d_15]) rfl rfl ?_ (hK _ _ (Below.refl _ _) ⟨_, _, _, _, _, rfl, F15⟩)
    clear ha hF hon hK K
    go_simp
    all_goals first | rfl | (constructor <;> rfl)
  refine steps_cons (told_step 7 (tl_pAble_ok (zNew (w.heap.size + 1)) w g1) (tl_pAble_up (zNew (w.heap.size + 1)) w g1) rfl (by kernel_rfl) ?_) ?_
  · intro b V a w' ha hB hF hon
    refine ⟨_, rfl, rfl, fun K hK => ?_⟩
    have e11 := told_get 1 (tl_pAble_ok (zNew (w.heap.size + 1)) w g1) rfl ha (hon 1 (by kernel_rfl)) (by kernel_rfl)
    have F11 := told_fact 1 hF rfl (hon 1 (by kernel_rfl))
    obtain ⟨p0, p1, p2, p3, p4, hv11, G11⟩ := F11
    obtain ⟨k_11, i_11, x_11, A_11, n_11, c_11, B_11, m_11, d_11, hw11⟩ := VAL.shape G11
    injection hw11 with hw11
    injection hw11 with hw11
    injection hw11 with z0 hw11; injection hw11 with z1 hw11; injection hw11 with z2 hw11; injection hw11 with z3 hw11; injection hw11 with z4 hw11
    subst z0; subst z1; subst z2; subst z3; subst z4
    rw [hv11] at e11
    have e16 := told_get 6 (tl_pAble_ok (zNew (w.heap.size + 1)) w g1) rfl ha (hon 6 (by kernel_rfl)) (by kernel_rfl)
    have F16 := told_fact 6 hF rfl (hon 6 (by kernel_rfl))
    obtain ⟨p0, p1, p2, p3, p4, hv16, G16⟩ := F16
    obtain ⟨k_16, i_16, x_16, A_16, n_16, c_16, B_16, m_16, d_16, hw16⟩ := VAL.shape G16
    injection hw16 with hw16
    injection hw16 with hw16
    injection hw16 with z0 hw16; injection hw16 with z1 hw16; injection hw16 with z2 hw16; injection hw16 with z3 hw16; injection hw16 with z4 hw16
    subst z0; subst z1; subst z2; subst z3; subst z4
    rw [hv16] at e16
    refine value_ (w1 := w'.alloc (.cells #[.string ⟨#[99, 97, 112, 97, 98, 105, 108, 105, 116, 105, 101, 115]⟩, .int .i64 k_11, .bool i_11, .string x_11, .slice A_11 n_11 c_11, .slice B_11 m_11 d_11, .string ⟨#[115, 101, 114, 118, 101, 114, 73, 110, 102, 111]⟩, .int .i64 k_16, .bool i_16, .string x_16, .slice A_16 n_16 c_16, .slice B_16 m_16 d_16] 112)) (v := .slice (some ⟨w'.heap.size, 0, none⟩) 2 2) rfl rfl ?_ (hK _ _ ((Below.refl _ _).alloc (Nat.le_refl _) _) (PSV_new _ _ _ _ _ (PRC.cons G11 (PRC.cons G16 (PRC.nil _ _))) (zNew_alloc (Nat.le_trans HQ.out hB.size))))
    clear ha hF hon hK K
    go_simp
    all_goals first | rfl | (constructor <;> rfl)
  refine steps_cons (told_step 8 (tl_pAble_ok (zNew (w.heap.size + 1)) w g1) (tl_pAble_up (zNew (w.heap.size + 1)) w g1) rfl (by kernel_rfl) ?_) ?_
  · intro b V a w' ha hB hF hon
    refine ⟨_, rfl, rfl, fun K hK => ?_⟩
    have e17 := told_get 7 (tl_pAble_ok (zNew (w.heap.size + 1)) w g1) rfl ha (hon 7 (by kernel_rfl)) (by kernel_rfl)
    have F17 := told_fact 7 hF rfl (hon 7 (by kernel_rfl))
    refine goes_ Tryz.func81 (by kernel_rfl) rfl #[V 7] rfl rfl rfl (by simp only [List.map_toArray, List.map_cons, List.map_nil, Act.eval, Array.getD_eq_getD_getElem?, e17, Option.getD_some]) ?_
    refine (pObject_any [(⟨#[99, 97, 112, 97, 98, 105, 108, 105, 116, 105, 101, 115]⟩, (obT [⟨#[116, 101, 120, 116, 68, 111, 99, 117, 109, 101, 110, 116, 83, 121, 110, 99]⟩, ⟨#[100, 111, 99, 117, 109, 101, 110, 116, 83, 121, 109, 98, 111, 108, 80, 114, 111, 118, 105, 100, 101, 114]⟩, ⟨#[102, 111, 108, 100, 105, 110, 103, 82, 97, 110, 103, 101, 80, 114, 111, 118, 105, 100, 101, 114]⟩] [nbT 2, boT true, boT true])), (⟨#[115, 101, 114, 118, 101, 114, 73, 110, 102, 111]⟩, (obT [⟨#[110, 97, 109, 101]⟩] [(txT ⟨#[99, 111, 108, 111, 112, 104, 111, 110]⟩)]))] w' _ (Nat.le_trans HQ.out hB.size) F17 (Nat.le_of_ble_eq_true rfl)).mono ?_
    rintro e w'' ⟨v, rfl, hv, hb⟩
    exact ⟨v, rfl, hK v w'' hb hv⟩
  refine steps_cons (told_last ?_ ?_) steps_nil
  · intro e he; simp only [tl_pAble, List.mem_cons, List.mem_nil_iff, or_false] at he; rcases he with rfl | rfl | rfl | rfl | rfl | rfl | rfl | rfl | rfl <;> kernel_rfl
  intro V a w' ha hB hF
  refine ⟨_, rfl, rfl, fun K hK => ?_⟩
  have e18 := told_get 8 (tl_pAble_ok (zNew (w.heap.size + 1)) w g1) rfl ha rfl (by kernel_rfl)
  have F18 := hF _ (List.mem_of_getElem? (i := 8) rfl)
  obtain ⟨k_18, i_18, x_18, A_18, n_18, c_18, B_18, m_18, d_18, hv18⟩ := VAL.shape F18
  rw [hv18] at e18 F18
  have e0 : a.tmps[0]? = some (.pointer (some ⟨w.heap.size, 0, none⟩)) := by rw [ha]; exact (putSel_off (by rfl)).trans rfl
  have hg := HR.out.on hB
  have f0 := hg.fr 0
  have y0 := hg.c0
  have f1 := hg.fr 1
  have y1 := hg.c1
  have f2 := hg.fr 2
  have y2 := hg.c2
  have f3 := hg.fr 3
  have y3 := hg.c3
  have f4 := hg.fr 4
  have y4 := hg.c4
  refine skip_ (w1 := five w' (w.heap.size) (.int .i64 k_18) (.bool i_18) (.string x_18) (.slice A_18 n_18 c_18) (.slice B_18 m_18 d_18)) rfl rfl ?_ (hK _ _ ?_)
  · clear ha hF hK K
    go_simp
    all_goals first | rfl | (constructor <;> rfl)
  clear hK K hF e18 e0 f0 y0 f1 y1 f2 y2 f3 y3 f4 y4
  have hres : BX (five w' (w.heap.size) (.int .i64 k_18) (.bool i_18) (.string x_18) (.slice A_18 n_18 c_18) (.slice B_18 m_18 d_18)) (w.heap.size) (.int .i64 k_18) (.bool i_18) (.string x_18) (.slice A_18 n_18 c_18) (.slice B_18 m_18 d_18) := hg.put (.int .i64 k_18) (.bool i_18) (.string x_18) (.slice A_18 n_18 c_18) (.slice B_18 m_18 d_18)
  have r0 := hres.c0
  have r1 := hres.c1
  have r2 := hres.c2
  have r3 := hres.c3
  have r4 := hres.c4
  have HF := Lib.hid F18
  have HB' := Lib.hid hB
  clear hres hg F18 hB
  rw [ha]
  clear ha
  simp only [tl_pAble, Tolds.put, List.map_cons, List.map_nil, putSel, if_true, Act.put, List.setIfInBounds_toArray, List.set_cons_zero, List.set_cons_succ, hv18]
  clear hv18
  generalize V 0 = u0
  generalize V 1 = u1
  generalize V 2 = u2
  generalize V 3 = u3
  generalize V 4 = u4
  generalize V 5 = u5
  generalize V 6 = u6
  generalize V 7 = u7
  try clear V
  go_wp2
  exact bodyPost_ret (v := .agg #[.int .i64 k_18, .bool i_18, .string x_18, .slice A_18 n_18 c_18, .slice B_18 m_18 d_18]) (by simp [results, Tryz.results49, go_sem, r0, r1, r2, r3, r4]) rfl ⟨_, rfl, five_New HF.out (fun b hb => ⟨by have := hb.1; omega, hb.2, by have := hb.1; omega⟩), five_below (HB.out.trans (HB'.out.mono HB.out.size)) _ _ _ _ _ _ (by omega)⟩
end Go.Proofs.YthndgekjccclnaaGreatDoor
