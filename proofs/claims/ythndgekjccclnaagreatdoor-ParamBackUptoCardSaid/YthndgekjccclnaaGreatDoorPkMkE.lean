/-
  Joined texts: MkMakers.
-/
import Derived.Test.YthndgekjccclnaaGreatDoorPkMkD
namespace Go.Proofs.YthndgekjccclnaaGreatDoor
open Go.RowKit Val Num Go.Proofs.YthndgekjccclnaaGreatDoorW.PrintLast
set_option linter.unusedVariables false
set_option linter.unusedSimpArgs false
def tl_pPos (z : Zone) (x1 x2 : Int) (w : World) : Tolds := [(0, 3, fun _ v => v = .pointer (some ⟨w.heap.size, 0, none⟩)), (1, 4, fun _ v => v = .int .i64 x1), (2, 5, VLV z (nbT x1)), (3, 6, PRV z (⟨#[108, 105, 110, 101]⟩, (nbT x1))), (4, 7, fun _ v => v = .pointer (some ⟨w.heap.size, 1, none⟩)), (5, 8, fun _ v => v = .int .i64 x2), (6, 9, VLV z (nbT x2)), (7, 10, PRV z (⟨#[99, 104, 97, 114, 97, 99, 116, 101, 114]⟩, (nbT x2))), (8, 11, PSV z [(⟨#[108, 105, 110, 101]⟩, (nbT x1)), (⟨#[99, 104, 97, 114, 97, 99, 116, 101, 114]⟩, (nbT x2))]), (9, 12, VLV z (obT [⟨#[108, 105, 110, 101]⟩, ⟨#[99, 104, 97, 114, 97, 99, 116, 101, 114]⟩] [(nbT x1), (nbT x2)]))]
theorem tl_pPos_ok (z : Zone) (x1 x2 : Int) (w : World) : (tl_pPos z x1 x2 w).ok 10 = true := by kernel_rfl
theorem tl_pPos_up (z : Zone) (x1 x2 : Int) (w : World) : (tl_pPos z x1 x2 w).up := (tup_cons (fun _ _ _ h _ => h) (tup_cons (fun _ _ _ h _ => h) (tup_cons (fun _ _ _ h hb => VLV.up h hb) (tup_cons (fun _ _ _ h hb => PRV.up h hb) (tup_cons (fun _ _ _ h _ => h) (tup_cons (fun _ _ _ h _ => h) (tup_cons (fun _ _ _ h hb => VLV.up h hb) (tup_cons (fun _ _ _ h hb => PRV.up h hb) (tup_cons (fun _ _ _ h hb => PSV.up h hb) (tup_cons (fun _ _ _ h hb => VLV.up h hb) tup_nil))))))))))
set_option maxRecDepth 100000 in
set_option maxHeartbeats 4000000 in
theorem pPos (x1 x2 : Int) (w : World) (ia : I64 x1) (ib : I64 x2) (hP : PTab w) : Calls Tryz.prog 45 #[.agg #[.int .i64 x1, .int .i64 x2]] w (Copied (posT x1 x2) w) := by
  have Hia := Lib.hid ia
  have Hib := Lib.hid ib
  have HhP := Lib.hid hP
  clear ia ib hP
  go_enter Tryz.func45, Tryz.ntmps45
  go_wp2_with fail
  have HB : Hid (Below w.heap.size w ((w.alloc (.cells #[.int .i64 x1, .int .i64 x2] 53)).alloc (.cells #[.int .i64 0, .bool false, .string ⟨#[]⟩, .slice none 0 0, .slice none 0 0] 30))) := Lib.hid (al2_below w _ _)
  have HX : Hid (BK ((w.alloc (.cells #[.int .i64 x1, .int .i64 x2] 53)).alloc (.cells #[.int .i64 0, .bool false, .string ⟨#[]⟩, .slice none 0 0, .slice none 0 0] 30)) w.heap.size 53 #[.int .i64 x1, .int .i64 x2]) := Lib.hid (al2_0 w _ _)
  have HR : Hid (BX ((w.alloc (.cells #[.int .i64 x1, .int .i64 x2] 53)).alloc (.cells #[.int .i64 0, .bool false, .string ⟨#[]⟩, .slice none 0 0, .slice none 0 0] 30)) (w.heap.size + 1) (.int .i64 0) (.bool false) (.string ⟨#[]⟩) (.slice none 0 0) (.slice none 0 0)) := Lib.hid (al2_1 w _ _)
  replace HhP := Lib.hid (HhP.out.on HB.out)
  generalize ((w.alloc (.cells #[.int .i64 x1, .int .i64 x2] 53)).alloc (.cells #[.int .i64 0, .bool false, .string ⟨#[]⟩, .slice none 0 0, .slice none 0 0] 30)) = w1 at *
  refine start_ (n := 11) (S := fun w' => True) (ds := []) #[false, false, false, false, false, false, false, false, false, false, false] (by kernel_rfl) rfl rfl trivial (fun hHeld => ?_)
  clear hHeld
  have hb : Below w1.heap.size w1 w1.drew := (Below.refl _ _).drew
  replace HB := Lib.hid (HB.out.trans (hb.mono HB.out.size))
  replace HR := Lib.hid (HR.out.on hb)
  replace HX := Lib.hid (HX.out.on hb)
  replace HhP := Lib.hid (HhP.out.on hb)
  clear hb
  generalize w1.drew = c at *
  refine inv_ (B := [0, 1, 3, 7, 0, 16, 55, 119, 255, 511, 1023]) [0, 1, 2, 3, 4, 5, 6, 7, 8, 9, 10] (ToldI _ (tl_pPos (zNew c.heap.size) x1 x2 w) 10 c _) rfl (by kernel_rfl) (by kernel_rfl) (by kernel_rfl) told_begin ?_ (told_end (by kernel_rfl))
  refine steps_cons (told_step 0 (tl_pPos_ok (zNew c.heap.size) x1 x2 w) (tl_pPos_up (zNew c.heap.size) x1 x2 w) rfl (by kernel_rfl) ?_) ?_
  · intro b V a w' ha hB hF hon
    refine ⟨_, rfl, rfl, fun K hK => ?_⟩
    have e1 : a.tmps[1]? = some (.pointer (some ⟨w.heap.size, 0, none⟩)) := by rw [ha]; exact (putSel_off (by rfl)).trans rfl
    refine value_ (w1 := w') (v := .pointer (some ⟨w.heap.size, 0, none⟩)) rfl rfl ?_ (hK _ _ (Below.refl _ _) rfl)
    clear ha hF hon hK K
    go_simp
    all_goals first | rfl | (constructor <;> rfl)
  refine steps_cons (told_step 1 (tl_pPos_ok (zNew c.heap.size) x1 x2 w) (tl_pPos_up (zNew c.heap.size) x1 x2 w) rfl (by kernel_rfl) ?_) ?_
  · intro b V a w' ha hB hF hon
    refine ⟨_, rfl, rfl, fun K hK => ?_⟩
    have e3 := told_get 0 (tl_pPos_ok (zNew c.heap.size) x1 x2 w) rfl ha (hon 0 (by kernel_rfl)) (by kernel_rfl)
    have F3 : V 0 = .pointer (some ⟨w.heap.size, 0, none⟩) := told_fact 0 hF rfl (hon 0 (by kernel_rfl))
    rw [F3] at e3
    have hg := HX.out.on hB
    have y0 := hg.c 0 rfl
    clear hg
    refine value_ (w1 := w') (v := .int .i64 x1) rfl rfl ?_ (hK _ _ (Below.refl _ _) rfl)
    clear ha hF hon hK K
    go_simp
    all_goals first | rfl | (constructor <;> rfl)
  refine steps_cons (told_step 2 (tl_pPos_ok (zNew c.heap.size) x1 x2 w) (tl_pPos_up (zNew c.heap.size) x1 x2 w) rfl (by kernel_rfl) ?_) ?_
  · intro b V a w' ha hB hF hon
    refine ⟨_, rfl, rfl, fun K hK => ?_⟩
    have e4 := told_get 1 (tl_pPos_ok (zNew c.heap.size) x1 x2 w) rfl ha (hon 1 (by kernel_rfl)) (by kernel_rfl)
    have F4 : V 1 = .int .i64 x1 := told_fact 1 hF rfl (hon 1 (by kernel_rfl))
    rw [F4] at e4
    refine goes_ Tryz.func89 (by kernel_rfl) rfl #[.int .i64 x1] rfl rfl rfl (by simp only [List.map_toArray, List.map_cons, List.map_nil, Act.eval, Array.getD_eq_getD_getElem?, e4, Option.getD_some]) ?_
    refine ((vNumber x1 w' Hia.out (HhP.out.on hB)).mono (fun _ _ h => h.mk hB.size)).mono ?_
    rintro e w'' ⟨v, rfl, hv, hb⟩
    exact ⟨v, rfl, hK v w'' hb hv⟩
  refine steps_cons (told_step 3 (tl_pPos_ok (zNew c.heap.size) x1 x2 w) (tl_pPos_up (zNew c.heap.size) x1 x2 w) rfl (by kernel_rfl) ?_) ?_
  · intro b V a w' ha hB hF hon
    refine ⟨_, rfl, rfl, fun K hK => ?_⟩
    have e5 := told_get 2 (tl_pPos_ok (zNew c.heap.size) x1 x2 w) rfl ha (hon 2 (by kernel_rfl)) (by kernel_rfl)
    have F5 := told_fact 2 hF rfl (hon 2 (by kernel_rfl))
    obtain ⟨k_5, i_5, x_5, A_5, n_5, c_5, B_5, m_5, d_5, hv5⟩ := VAL.shape F5
    rw [hv5] at e5 F5
    refine value_ (w1 := w') (v := .agg #[.string ⟨#[108, 105, 110, 101]⟩, .int .i64 k_5, .bool i_5, .string x_5, .slice A_5 n_5 c_5, .slice B_5 m_5 d_5]) rfl rfl ?_ (hK _ _ (Below.refl _ _) ⟨_, _, _, _, _, rfl, F5⟩)
    clear ha hF hon hK K
    go_simp
    all_goals first | rfl | (constructor <;> rfl)
  refine steps_cons (told_step 4 (tl_pPos_ok (zNew c.heap.size) x1 x2 w) (tl_pPos_up (zNew c.heap.size) x1 x2 w) rfl (by kernel_rfl) ?_) ?_
  · intro b V a w' ha hB hF hon
    refine ⟨_, rfl, rfl, fun K hK => ?_⟩
    have e1 : a.tmps[1]? = some (.pointer (some ⟨w.heap.size, 0, none⟩)) := by rw [ha]; exact (putSel_off (by rfl)).trans rfl
    refine value_ (w1 := w') (v := .pointer (some ⟨w.heap.size, 1, none⟩)) rfl rfl ?_ (hK _ _ (Below.refl _ _) rfl)
    clear ha hF hon hK K
    go_simp
    all_goals first | rfl | (constructor <;> rfl)
  refine steps_cons (told_step 5 (tl_pPos_ok (zNew c.heap.size) x1 x2 w) (tl_pPos_up (zNew c.heap.size) x1 x2 w) rfl (by kernel_rfl) ?_) ?_
  · intro b V a w' ha hB hF hon
    refine ⟨_, rfl, rfl, fun K hK => ?_⟩
    have e7 := told_get 4 (tl_pPos_ok (zNew c.heap.size) x1 x2 w) rfl ha (hon 4 (by kernel_rfl)) (by kernel_rfl)
    have F7 : V 4 = .pointer (some ⟨w.heap.size, 1, none⟩) := told_fact 4 hF rfl (hon 4 (by kernel_rfl))
    rw [F7] at e7
    have hg := HX.out.on hB
    have y1 := hg.c 1 rfl
    clear hg
    refine value_ (w1 := w') (v := .int .i64 x2) rfl rfl ?_ (hK _ _ (Below.refl _ _) rfl)
    clear ha hF hon hK K
    go_simp
    all_goals first | rfl | (constructor <;> rfl)
  refine steps_cons (told_step 6 (tl_pPos_ok (zNew c.heap.size) x1 x2 w) (tl_pPos_up (zNew c.heap.size) x1 x2 w) rfl (by kernel_rfl) ?_) ?_
  · intro b V a w' ha hB hF hon
    refine ⟨_, rfl, rfl, fun K hK => ?_⟩
    have e8 := told_get 5 (tl_pPos_ok (zNew c.heap.size) x1 x2 w) rfl ha (hon 5 (by kernel_rfl)) (by kernel_rfl)
    have F8 : V 5 = .int .i64 x2 := told_fact 5 hF rfl (hon 5 (by kernel_rfl))
    rw [F8] at e8
    refine goes_ Tryz.func89 (by kernel_rfl) rfl #[.int .i64 x2] rfl rfl rfl (by simp only [List.map_toArray, List.map_cons, List.map_nil, Act.eval, Array.getD_eq_getD_getElem?, e8, Option.getD_some]) ?_
    refine ((vNumber x2 w' Hib.out (HhP.out.on hB)).mono (fun _ _ h => h.mk hB.size)).mono ?_
    rintro e w'' ⟨v, rfl, hv, hb⟩
    exact ⟨v, rfl, hK v w'' hb hv⟩
  refine steps_cons (told_step 7 (tl_pPos_ok (zNew c.heap.size) x1 x2 w) (tl_pPos_up (zNew c.heap.size) x1 x2 w) rfl (by kernel_rfl) ?_) ?_
  · intro b V a w' ha hB hF hon
    refine ⟨_, rfl, rfl, fun K hK => ?_⟩
    have e9 := told_get 6 (tl_pPos_ok (zNew c.heap.size) x1 x2 w) rfl ha (hon 6 (by kernel_rfl)) (by kernel_rfl)
    have F9 := told_fact 6 hF rfl (hon 6 (by kernel_rfl))
    obtain ⟨k_9, i_9, x_9, A_9, n_9, c_9, B_9, m_9, d_9, hv9⟩ := VAL.shape F9
    rw [hv9] at e9 F9
    refine value_ (w1 := w') (v := .agg #[.string ⟨#[99, 104, 97, 114, 97, 99, 116, 101, 114]⟩, .int .i64 k_9, .bool i_9, .string x_9, .slice A_9 n_9 c_9, .slice B_9 m_9 d_9]) rfl rfl ?_ (hK _ _ (Below.refl _ _) ⟨_, _, _, _, _, rfl, F9⟩)
    clear ha hF hon hK K
    go_simp
    all_goals first | rfl | (constructor <;> rfl)
  refine steps_cons (told_step 8 (tl_pPos_ok (zNew c.heap.size) x1 x2 w) (tl_pPos_up (zNew c.heap.size) x1 x2 w) rfl (by kernel_rfl) ?_) ?_
  · intro b V a w' ha hB hF hon
    refine ⟨_, rfl, rfl, fun K hK => ?_⟩
    have e6 := told_get 3 (tl_pPos_ok (zNew c.heap.size) x1 x2 w) rfl ha (hon 3 (by kernel_rfl)) (by kernel_rfl)
    have F6 := told_fact 3 hF rfl (hon 3 (by kernel_rfl))
    obtain ⟨p0, p1, p2, p3, p4, hv6, G6⟩ := F6
    obtain ⟨k_6, i_6, x_6, A_6, n_6, c_6, B_6, m_6, d_6, hw6⟩ := VAL.shape G6
    injection hw6 with hw6
    injection hw6 with hw6
    injection hw6 with z0 hw6; injection hw6 with z1 hw6; injection hw6 with z2 hw6; injection hw6 with z3 hw6; injection hw6 with z4 hw6
    subst z0; subst z1; subst z2; subst z3; subst z4
    rw [hv6] at e6
    have e10 := told_get 7 (tl_pPos_ok (zNew c.heap.size) x1 x2 w) rfl ha (hon 7 (by kernel_rfl)) (by kernel_rfl)
    have F10 := told_fact 7 hF rfl (hon 7 (by kernel_rfl))
    obtain ⟨p0, p1, p2, p3, p4, hv10, G10⟩ := F10
    obtain ⟨k_10, i_10, x_10, A_10, n_10, c_10, B_10, m_10, d_10, hw10⟩ := VAL.shape G10
    injection hw10 with hw10
    injection hw10 with hw10
    injection hw10 with z0 hw10; injection hw10 with z1 hw10; injection hw10 with z2 hw10; injection hw10 with z3 hw10; injection hw10 with z4 hw10
    subst z0; subst z1; subst z2; subst z3; subst z4
    rw [hv10] at e10
    refine value_ (w1 := w'.alloc (.cells #[.string ⟨#[108, 105, 110, 101]⟩, .int .i64 k_6, .bool i_6, .string x_6, .slice A_6 n_6 c_6, .slice B_6 m_6 d_6, .string ⟨#[99, 104, 97, 114, 97, 99, 116, 101, 114]⟩, .int .i64 k_10, .bool i_10, .string x_10, .slice A_10 n_10 c_10, .slice B_10 m_10 d_10] 112)) (v := .slice (some ⟨w'.heap.size, 0, none⟩) 2 2) rfl rfl ?_ (hK _ _ ((Below.refl _ _).alloc (Nat.le_refl _) _) (PSV_new _ _ _ _ _ (PRC.cons G6 (PRC.cons G10 (PRC.nil _ _))) (zNew_alloc hB.size)))
    clear ha hF hon hK K
    go_simp
    all_goals first | rfl | (constructor <;> rfl)
  refine steps_cons (told_step 9 (tl_pPos_ok (zNew c.heap.size) x1 x2 w) (tl_pPos_up (zNew c.heap.size) x1 x2 w) rfl (by kernel_rfl) ?_) ?_
  · intro b V a w' ha hB hF hon
    refine ⟨_, rfl, rfl, fun K hK => ?_⟩
    have e11 := told_get 8 (tl_pPos_ok (zNew c.heap.size) x1 x2 w) rfl ha (hon 8 (by kernel_rfl)) (by kernel_rfl)
    have F11 := told_fact 8 hF rfl (hon 8 (by kernel_rfl))
    refine goes_ Tryz.func81 (by kernel_rfl) rfl #[V 8] rfl rfl rfl (by simp only [List.map_toArray, List.map_cons, List.map_nil, Act.eval, Array.getD_eq_getD_getElem?, e11, Option.getD_some]) ?_
    refine (pObject_any [(⟨#[108, 105, 110, 101]⟩, (nbT x1)), (⟨#[99, 104, 97, 114, 97, 99, 116, 101, 114]⟩, (nbT x2))] w' _ hB.size F11 (Nat.le_of_ble_eq_true rfl)).mono ?_
    rintro e w'' ⟨v, rfl, hv, hb⟩
    exact ⟨v, rfl, hK v w'' hb hv⟩
  refine steps_cons (told_last ?_ ?_) steps_nil
  · intro e he; simp only [tl_pPos, List.mem_cons, List.mem_nil_iff, or_false] at he; rcases he with rfl | rfl | rfl | rfl | rfl | rfl | rfl | rfl | rfl | rfl <;> kernel_rfl
  intro V a w' ha hB hF
  refine ⟨_, rfl, rfl, fun K hK => ?_⟩
  have e12 := told_get 9 (tl_pPos_ok (zNew c.heap.size) x1 x2 w) rfl ha rfl (by kernel_rfl)
  have F12 := hF _ (List.mem_of_getElem? (i := 9) rfl)
  obtain ⟨k_12, i_12, x_12, A_12, n_12, c_12, B_12, m_12, d_12, hv12⟩ := VAL.shape F12
  rw [hv12] at e12 F12
  have e2 : a.tmps[2]? = some (.pointer (some ⟨w.heap.size + 1, 0, none⟩)) := by rw [ha]; exact (putSel_off (by rfl)).trans rfl
  have hg := HR.out.on hB
  have f0 := hg.fr 0
  have y0 := hg.c0
  have f1 := hg.fr 1
  have y1 := hg.c1
  have f2 := hg.fr 2
  have y2 := hg.c2
  have f3 := hg.fr 3
  have y3 := hg.c3
  have f4 := hg.fr 4
  have y4 := hg.c4
  refine skip_ (w1 := five w' (w.heap.size + 1) (.int .i64 k_12) (.bool i_12) (.string x_12) (.slice A_12 n_12 c_12) (.slice B_12 m_12 d_12)) rfl rfl ?_ (hK _ _ ?_)
  · clear ha hF hK K
    go_simp
    all_goals first | rfl | (constructor <;> rfl)
  clear hK K hF e12 e2 f0 y0 f1 y1 f2 y2 f3 y3 f4 y4
  have hres : BX (five w' (w.heap.size + 1) (.int .i64 k_12) (.bool i_12) (.string x_12) (.slice A_12 n_12 c_12) (.slice B_12 m_12 d_12)) (w.heap.size + 1) (.int .i64 k_12) (.bool i_12) (.string x_12) (.slice A_12 n_12 c_12) (.slice B_12 m_12 d_12) := hg.put (.int .i64 k_12) (.bool i_12) (.string x_12) (.slice A_12 n_12 c_12) (.slice B_12 m_12 d_12)
  have r0 := hres.c0
  have r1 := hres.c1
  have r2 := hres.c2
  have r3 := hres.c3
  have r4 := hres.c4
  have HF := Lib.hid F12
  have HB' := Lib.hid hB
  clear hres hg F12 hB
  rw [ha]
  clear ha
  simp only [tl_pPos, Tolds.put, List.map_cons, List.map_nil, putSel, if_true, Act.put, List.setIfInBounds_toArray, List.set_cons_zero, List.set_cons_succ, hv12]
  clear hv12
  generalize V 0 = u0
  generalize V 1 = u1
  generalize V 2 = u2
  generalize V 3 = u3
  generalize V 4 = u4
  generalize V 5 = u5
  generalize V 6 = u6
  generalize V 7 = u7
  generalize V 8 = u8
  try clear V
  go_wp2
  exact bodyPost_ret (v := .agg #[.int .i64 k_12, .bool i_12, .string x_12, .slice A_12 n_12 c_12, .slice B_12 m_12 d_12]) (by simp [results, Tryz.results45, go_sem, r0, r1, r2, r3, r4]) rfl ⟨_, rfl, five_New HF.out (fun b hb => ⟨Nat.le_trans HB.out.size hb.1, hb.2, by have := HR.out.lt; have := hb.1; omega⟩), five_below (HB.out.trans (HB'.out.mono HB.out.size)) _ _ _ _ _ _ (by omega)⟩

def tl_rPos (z : Zone) (x1 x2 : Int) (w : World) : Tolds := [(0, 3, TSV z [⟨#[108, 105, 110, 101]⟩, ⟨#[99, 104, 97, 114, 97, 99, 116, 101, 114]⟩]), (1, 4, fun _ v => v = .pointer (some ⟨w.heap.size, 0, none⟩)), (2, 5, fun _ v => v = .int .i64 x1), (3, 6, VLV z (nbT x1)), (4, 7, fun _ v => v = .pointer (some ⟨w.heap.size, 1, none⟩)), (5, 8, fun _ v => v = .int .i64 x2), (6, 9, VLV z (nbT x2)), (7, 10, VSV z [(nbT x1), (nbT x2)]), (8, 11, VLV z (obT [⟨#[108, 105, 110, 101]⟩, ⟨#[99, 104, 97, 114, 97, 99, 116, 101, 114]⟩] [(nbT x1), (nbT x2)]))]
theorem tl_rPos_ok (z : Zone) (x1 x2 : Int) (w : World) : (tl_rPos z x1 x2 w).ok 9 = true := by kernel_rfl
theorem tl_rPos_up (z : Zone) (x1 x2 : Int) (w : World) : (tl_rPos z x1 x2 w).up := (tup_cons (fun _ _ _ h hb => TSV.up h hb) (tup_cons (fun _ _ _ h _ => h) (tup_cons (fun _ _ _ h _ => h) (tup_cons (fun _ _ _ h hb => VLV.up h hb) (tup_cons (fun _ _ _ h _ => h) (tup_cons (fun _ _ _ h _ => h) (tup_cons (fun _ _ _ h hb => VLV.up h hb) (tup_cons (fun _ _ _ h hb => VSV.up h hb) (tup_cons (fun _ _ _ h hb => VLV.up h hb) tup_nil)))))))))
set_option maxRecDepth 100000 in
set_option maxHeartbeats 4000000 in
theorem rPos (x1 x2 : Int) (w : World) (ia : I64 x1) (ib : I64 x2) : Calls Tryz.prog 46 #[.agg #[.int .i64 x1, .int .i64 x2]] w (Copied (posT x1 x2) w) := by
  have Hia := Lib.hid ia
  have Hib := Lib.hid ib
  clear ia ib
  go_enter Tryz.func46, Tryz.ntmps46
  go_wp2_with fail
  have HB : Hid (Below w.heap.size w ((w.alloc (.cells #[.int .i64 x1, .int .i64 x2] 53)).alloc (.cells #[.int .i64 0, .bool false, .string ⟨#[]⟩, .slice none 0 0, .slice none 0 0] 30))) := Lib.hid (al2_below w _ _)
  have HX : Hid (BK ((w.alloc (.cells #[.int .i64 x1, .int .i64 x2] 53)).alloc (.cells #[.int .i64 0, .bool false, .string ⟨#[]⟩, .slice none 0 0, .slice none 0 0] 30)) w.heap.size 53 #[.int .i64 x1, .int .i64 x2]) := Lib.hid (al2_0 w _ _)
  have HR : Hid (BX ((w.alloc (.cells #[.int .i64 x1, .int .i64 x2] 53)).alloc (.cells #[.int .i64 0, .bool false, .string ⟨#[]⟩, .slice none 0 0, .slice none 0 0] 30)) (w.heap.size + 1) (.int .i64 0) (.bool false) (.string ⟨#[]⟩) (.slice none 0 0) (.slice none 0 0)) := Lib.hid (al2_1 w _ _)
  generalize ((w.alloc (.cells #[.int .i64 x1, .int .i64 x2] 53)).alloc (.cells #[.int .i64 0, .bool false, .string ⟨#[]⟩, .slice none 0 0, .slice none 0 0] 30)) = w1 at *
  refine start_ (n := 10) (S := fun w' => True) (ds := []) #[false, false, false, false, false, false, false, false, false, false] (by kernel_rfl) rfl rfl trivial (fun hHeld => ?_)
  clear hHeld
  have hb : Below w1.heap.size w1 w1.drew := (Below.refl _ _).drew
  replace HB := Lib.hid (HB.out.trans (hb.mono HB.out.size))
  replace HR := Lib.hid (HR.out.on hb)
  replace HX := Lib.hid (HX.out.on hb)
  clear hb
  generalize w1.drew = c at *
  refine inv_ (B := [0, 0, 2, 6, 0, 16, 62, 126, 255, 511]) [0, 1, 2, 3, 4, 5, 6, 7, 8, 9] (ToldI _ (tl_rPos (zNew c.heap.size) x1 x2 w) 9 c _) rfl (by kernel_rfl) (by kernel_rfl) (by kernel_rfl) told_begin ?_ (told_end (by kernel_rfl))
  refine steps_cons (told_step 0 (tl_rPos_ok (zNew c.heap.size) x1 x2 w) (tl_rPos_up (zNew c.heap.size) x1 x2 w) rfl (by kernel_rfl) ?_) ?_
  · intro b V a w' ha hB hF hon
    refine ⟨_, rfl, rfl, fun K hK => ?_⟩
    refine value_ (w1 := w'.alloc (.cells #[.string ⟨#[108, 105, 110, 101]⟩, .string ⟨#[99, 104, 97, 114, 97, 99, 116, 101, 114]⟩] 9)) (v := .slice (some ⟨w'.heap.size, 0, none⟩) 2 2) rfl rfl ?_ (hK _ _ ((Below.refl _ _).alloc (Nat.le_refl _) _) (TSV_new _ _ _ _ _ rfl (zNew_alloc hB.size)))
    clear ha hF hon hK K
    go_simp
    all_goals first | rfl | (constructor <;> rfl)
  refine steps_cons (told_step 1 (tl_rPos_ok (zNew c.heap.size) x1 x2 w) (tl_rPos_up (zNew c.heap.size) x1 x2 w) rfl (by kernel_rfl) ?_) ?_
  · intro b V a w' ha hB hF hon
    refine ⟨_, rfl, rfl, fun K hK => ?_⟩
    have e1 : a.tmps[1]? = some (.pointer (some ⟨w.heap.size, 0, none⟩)) := by rw [ha]; exact (putSel_off (by rfl)).trans rfl
    refine value_ (w1 := w') (v := .pointer (some ⟨w.heap.size, 0, none⟩)) rfl rfl ?_ (hK _ _ (Below.refl _ _) rfl)
    clear ha hF hon hK K
    go_simp
    all_goals first | rfl | (constructor <;> rfl)
  refine steps_cons (told_step 2 (tl_rPos_ok (zNew c.heap.size) x1 x2 w) (tl_rPos_up (zNew c.heap.size) x1 x2 w) rfl (by kernel_rfl) ?_) ?_
  · intro b V a w' ha hB hF hon
    refine ⟨_, rfl, rfl, fun K hK => ?_⟩
    have e4 := told_get 1 (tl_rPos_ok (zNew c.heap.size) x1 x2 w) rfl ha (hon 1 (by kernel_rfl)) (by kernel_rfl)
    have F4 : V 1 = .pointer (some ⟨w.heap.size, 0, none⟩) := told_fact 1 hF rfl (hon 1 (by kernel_rfl))
    rw [F4] at e4
    have hg := HX.out.on hB
    have y0 := hg.c 0 rfl
    clear hg
    refine value_ (w1 := w') (v := .int .i64 x1) rfl rfl ?_ (hK _ _ (Below.refl _ _) rfl)
    clear ha hF hon hK K
    go_simp
    all_goals first | rfl | (constructor <;> rfl)
  refine steps_cons (told_step 3 (tl_rPos_ok (zNew c.heap.size) x1 x2 w) (tl_rPos_up (zNew c.heap.size) x1 x2 w) rfl (by kernel_rfl) ?_) ?_
  · intro b V a w' ha hB hF hon
    refine ⟨_, rfl, rfl, fun K hK => ?_⟩
    have e5 := told_get 2 (tl_rPos_ok (zNew c.heap.size) x1 x2 w) rfl ha (hon 2 (by kernel_rfl)) (by kernel_rfl)
    have F5 : V 2 = .int .i64 x1 := told_fact 2 hF rfl (hon 2 (by kernel_rfl))
    rw [F5] at e5
    refine goes_ Tryz.func86 (by kernel_rfl) rfl #[.int .i64 x1] rfl rfl rfl (by simp only [List.map_toArray, List.map_cons, List.map_nil, Act.eval, Array.getD_eq_getD_getElem?, e5, Option.getD_some]) ?_
    refine ((rNum x1 w' Hia.out).mono (fun _ _ h => h.mk hB.size)).mono ?_
    rintro e w'' ⟨v, rfl, hv, hb⟩
    exact ⟨v, rfl, hK v w'' hb hv⟩
  refine steps_cons (told_step 4 (tl_rPos_ok (zNew c.heap.size) x1 x2 w) (tl_rPos_up (zNew c.heap.size) x1 x2 w) rfl (by kernel_rfl) ?_) ?_
  · intro b V a w' ha hB hF hon
    refine ⟨_, rfl, rfl, fun K hK => ?_⟩
    have e1 : a.tmps[1]? = some (.pointer (some ⟨w.heap.size, 0, none⟩)) := by rw [ha]; exact (putSel_off (by rfl)).trans rfl
    refine value_ (w1 := w') (v := .pointer (some ⟨w.heap.size, 1, none⟩)) rfl rfl ?_ (hK _ _ (Below.refl _ _) rfl)
    clear ha hF hon hK K
    go_simp
    all_goals first | rfl | (constructor <;> rfl)
  refine steps_cons (told_step 5 (tl_rPos_ok (zNew c.heap.size) x1 x2 w) (tl_rPos_up (zNew c.heap.size) x1 x2 w) rfl (by kernel_rfl) ?_) ?_
  · intro b V a w' ha hB hF hon
    refine ⟨_, rfl, rfl, fun K hK => ?_⟩
    have e7 := told_get 4 (tl_rPos_ok (zNew c.heap.size) x1 x2 w) rfl ha (hon 4 (by kernel_rfl)) (by kernel_rfl)
    have F7 : V 4 = .pointer (some ⟨w.heap.size, 1, none⟩) := told_fact 4 hF rfl (hon 4 (by kernel_rfl))
    rw [F7] at e7
    have hg := HX.out.on hB
    have y1 := hg.c 1 rfl
    clear hg
    refine value_ (w1 := w') (v := .int .i64 x2) rfl rfl ?_ (hK _ _ (Below.refl _ _) rfl)
    clear ha hF hon hK K
    go_simp
    all_goals first | rfl | (constructor <;> rfl)
  refine steps_cons (told_step 6 (tl_rPos_ok (zNew c.heap.size) x1 x2 w) (tl_rPos_up (zNew c.heap.size) x1 x2 w) rfl (by kernel_rfl) ?_) ?_
  · intro b V a w' ha hB hF hon
    refine ⟨_, rfl, rfl, fun K hK => ?_⟩
    have e8 := told_get 5 (tl_rPos_ok (zNew c.heap.size) x1 x2 w) rfl ha (hon 5 (by kernel_rfl)) (by kernel_rfl)
    have F8 : V 5 = .int .i64 x2 := told_fact 5 hF rfl (hon 5 (by kernel_rfl))
    rw [F8] at e8
    refine goes_ Tryz.func86 (by kernel_rfl) rfl #[.int .i64 x2] rfl rfl rfl (by simp only [List.map_toArray, List.map_cons, List.map_nil, Act.eval, Array.getD_eq_getD_getElem?, e8, Option.getD_some]) ?_
    refine ((rNum x2 w' Hib.out).mono (fun _ _ h => h.mk hB.size)).mono ?_
    rintro e w'' ⟨v, rfl, hv, hb⟩
    exact ⟨v, rfl, hK v w'' hb hv⟩
  refine steps_cons (told_step 7 (tl_rPos_ok (zNew c.heap.size) x1 x2 w) (tl_rPos_up (zNew c.heap.size) x1 x2 w) rfl (by kernel_rfl) ?_) ?_
  · intro b V a w' ha hB hF hon
    refine ⟨_, rfl, rfl, fun K hK => ?_⟩
    have e6 := told_get 3 (tl_rPos_ok (zNew c.heap.size) x1 x2 w) rfl ha (hon 3 (by kernel_rfl)) (by kernel_rfl)
    have F6 := told_fact 3 hF rfl (hon 3 (by kernel_rfl))
    obtain ⟨k_6, i_6, x_6, A_6, n_6, c_6, B_6, m_6, d_6, hv6⟩ := VAL.shape F6
    rw [hv6] at e6 F6
    have e9 := told_get 6 (tl_rPos_ok (zNew c.heap.size) x1 x2 w) rfl ha (hon 6 (by kernel_rfl)) (by kernel_rfl)
    have F9 := told_fact 6 hF rfl (hon 6 (by kernel_rfl))
    obtain ⟨k_9, i_9, x_9, A_9, n_9, c_9, B_9, m_9, d_9, hv9⟩ := VAL.shape F9
    rw [hv9] at e9 F9
    refine value_ (w1 := w'.alloc (.cells #[.int .i64 k_6, .bool i_6, .string x_6, .slice A_6 n_6 c_6, .slice B_6 m_6 d_6, .int .i64 k_9, .bool i_9, .string x_9, .slice A_9 n_9 c_9, .slice B_9 m_9 d_9] 30)) (v := .slice (some ⟨w'.heap.size, 0, none⟩) 2 2) rfl rfl ?_ (hK _ _ ((Below.refl _ _).alloc (Nat.le_refl _) _) (VSV_new _ _ _ _ _ (VR.cons F6 (VR.cons F9 (VR.none _ _))) (zNew_alloc hB.size)))
    clear ha hF hon hK K
    go_simp
    all_goals first | rfl | (constructor <;> rfl)
  refine steps_cons (told_step 8 (tl_rPos_ok (zNew c.heap.size) x1 x2 w) (tl_rPos_up (zNew c.heap.size) x1 x2 w) rfl (by kernel_rfl) ?_) ?_
  · intro b V a w' ha hB hF hon
    refine ⟨_, rfl, rfl, fun K hK => ?_⟩
    have e3 := told_get 0 (tl_rPos_ok (zNew c.heap.size) x1 x2 w) rfl ha (hon 0 (by kernel_rfl)) (by kernel_rfl)
    have F3 := told_fact 0 hF rfl (hon 0 (by kernel_rfl))
    have e10 := told_get 7 (tl_rPos_ok (zNew c.heap.size) x1 x2 w) rfl ha (hon 7 (by kernel_rfl)) (by kernel_rfl)
    have F10 := told_fact 7 hF rfl (hon 7 (by kernel_rfl))
    refine goes_ Tryz.func84 (by kernel_rfl) rfl #[V 0, V 7] rfl rfl rfl (by simp only [List.map_toArray, List.map_cons, List.map_nil, Act.eval, Array.getD_eq_getD_getElem?, e3, e10, Option.getD_some]) ?_
    refine ((rObject_any w' (zNew c.heap.size) _ _ F3 F10 rfl (Nat.le_trans (posT_bulk x1 x2 Hia.out Hib.out) (by omega))).mono (fun _ _ h => h.mk hB.size)).mono ?_
    rintro e w'' ⟨v, rfl, hv, hb⟩
    exact ⟨v, rfl, hK v w'' hb hv⟩
  refine steps_cons (told_last ?_ ?_) steps_nil
  · intro e he; simp only [tl_rPos, List.mem_cons, List.mem_nil_iff, or_false] at he; rcases he with rfl | rfl | rfl | rfl | rfl | rfl | rfl | rfl | rfl <;> kernel_rfl
  intro V a w' ha hB hF
  refine ⟨_, rfl, rfl, fun K hK => ?_⟩
  have e11 := told_get 8 (tl_rPos_ok (zNew c.heap.size) x1 x2 w) rfl ha rfl (by kernel_rfl)
  have F11 := hF _ (List.mem_of_getElem? (i := 8) rfl)
  obtain ⟨k_11, i_11, x_11, A_11, n_11, c_11, B_11, m_11, d_11, hv11⟩ := VAL.shape F11
  rw [hv11] at e11 F11
  have e2 : a.tmps[2]? = some (.pointer (some ⟨w.heap.size + 1, 0, none⟩)) := by rw [ha]; exact (putSel_off (by rfl)).trans rfl
  have hg := HR.out.on hB
  have f0 := hg.fr 0
  have y0 := hg.c0
  have f1 := hg.fr 1
  have y1 := hg.c1
  have f2 := hg.fr 2
  have y2 := hg.c2
  have f3 := hg.fr 3
  have y3 := hg.c3
  have f4 := hg.fr 4
  have y4 := hg.c4
  refine skip_ (w1 := five w' (w.heap.size + 1) (.int .i64 k_11) (.bool i_11) (.string x_11) (.slice A_11 n_11 c_11) (.slice B_11 m_11 d_11)) rfl rfl ?_ (hK _ _ ?_)
  · clear ha hF hK K
    go_simp
    all_goals first | rfl | (constructor <;> rfl)
  clear hK K hF e11 e2 f0 y0 f1 y1 f2 y2 f3 y3 f4 y4
  have hres : BX (five w' (w.heap.size + 1) (.int .i64 k_11) (.bool i_11) (.string x_11) (.slice A_11 n_11 c_11) (.slice B_11 m_11 d_11)) (w.heap.size + 1) (.int .i64 k_11) (.bool i_11) (.string x_11) (.slice A_11 n_11 c_11) (.slice B_11 m_11 d_11) := hg.put (.int .i64 k_11) (.bool i_11) (.string x_11) (.slice A_11 n_11 c_11) (.slice B_11 m_11 d_11)
  have r0 := hres.c0
  have r1 := hres.c1
  have r2 := hres.c2
  have r3 := hres.c3
  have r4 := hres.c4
  have HF := Lib.hid F11
  have HB' := Lib.hid hB
  clear hres hg F11 hB
  rw [ha]
  clear ha
  simp only [tl_rPos, Tolds.put, List.map_cons, List.map_nil, putSel, if_true, Act.put, List.setIfInBounds_toArray, List.set_cons_zero, List.set_cons_succ, hv11]
  clear hv11
  generalize V 0 = u0
  generalize V 1 = u1
  generalize V 2 = u2
  generalize V 3 = u3
  generalize V 4 = u4
  generalize V 5 = u5
  generalize V 6 = u6
  generalize V 7 = u7
  try clear V
  go_wp2
  exact bodyPost_ret (v := .agg #[.int .i64 k_11, .bool i_11, .string x_11, .slice A_11 n_11 c_11, .slice B_11 m_11 d_11]) (by simp [results, Tryz.results46, go_sem, r0, r1, r2, r3, r4]) rfl ⟨_, rfl, five_New HF.out (fun b hb => ⟨Nat.le_trans HB.out.size hb.1, hb.2, by have := HR.out.lt; have := hb.1; omega⟩), five_below (HB.out.trans (HB'.out.mono HB.out.size)) _ _ _ _ _ _ (by omega)⟩

def tl_pRange (z : Zone) (x1 x2 x3 x4 : Int) (w : World) : Tolds := [(0, 3, fun _ v => v = .pointer (some ⟨w.heap.size, 0, none⟩)), (1, 4, fun _ v => v = .agg #[.int .i64 x1, .int .i64 x2]), (2, 5, VLV z (posT x1 x2)), (3, 6, PRV z (⟨#[115, 116, 97, 114, 116]⟩, (posT x1 x2))), (4, 7, fun _ v => v = .pointer (some ⟨w.heap.size, 2, none⟩)), (5, 8, fun _ v => v = .agg #[.int .i64 x3, .int .i64 x4]), (6, 9, VLV z (posT x3 x4)), (7, 10, PRV z (⟨#[101, 110, 100]⟩, (posT x3 x4))), (8, 11, PSV z [(⟨#[115, 116, 97, 114, 116]⟩, (posT x1 x2)), (⟨#[101, 110, 100]⟩, (posT x3 x4))]), (9, 12, VLV z (obT [⟨#[115, 116, 97, 114, 116]⟩, ⟨#[101, 110, 100]⟩] [(posT x1 x2), (posT x3 x4)]))]
theorem tl_pRange_ok (z : Zone) (x1 x2 x3 x4 : Int) (w : World) : (tl_pRange z x1 x2 x3 x4 w).ok 10 = true := by kernel_rfl
theorem tl_pRange_up (z : Zone) (x1 x2 x3 x4 : Int) (w : World) : (tl_pRange z x1 x2 x3 x4 w).up := (tup_cons (fun _ _ _ h _ => h) (tup_cons (fun _ _ _ h _ => h) (tup_cons (fun _ _ _ h hb => VLV.up h hb) (tup_cons (fun _ _ _ h hb => PRV.up h hb) (tup_cons (fun _ _ _ h _ => h) (tup_cons (fun _ _ _ h _ => h) (tup_cons (fun _ _ _ h hb => VLV.up h hb) (tup_cons (fun _ _ _ h hb => PRV.up h hb) (tup_cons (fun _ _ _ h hb => PSV.up h hb) (tup_cons (fun _ _ _ h hb => VLV.up h hb) tup_nil))))))))))
set_option maxRecDepth 100000 in
set_option maxHeartbeats 4000000 in
theorem pRange (x1 x2 x3 x4 : Int) (w : World) (ia : I64 x1) (ib : I64 x2) (ic : I64 x3) (id' : I64 x4) (hP : PTab w) : Calls Tryz.prog 37 #[.agg #[.int .i64 x1, .int .i64 x2, .int .i64 x3, .int .i64 x4]] w (Copied (rangeT x1 x2 x3 x4) w) := by
  have Hia := Lib.hid ia
  have Hib := Lib.hid ib
  have Hic := Lib.hid ic
  have Hid' := Lib.hid id'
  have HhP := Lib.hid hP
  clear ia ib ic id' hP
  go_enter Tryz.func37, Tryz.ntmps37
  go_wp2_with fail
  have HB : Hid (Below w.heap.size w ((w.alloc (.cells #[.int .i64 x1, .int .i64 x2, .int .i64 x3, .int .i64 x4] 55)).alloc (.cells #[.int .i64 0, .bool false, .string ⟨#[]⟩, .slice none 0 0, .slice none 0 0] 30))) := Lib.hid (al2_below w _ _)
  have HX : Hid (BK ((w.alloc (.cells #[.int .i64 x1, .int .i64 x2, .int .i64 x3, .int .i64 x4] 55)).alloc (.cells #[.int .i64 0, .bool false, .string ⟨#[]⟩, .slice none 0 0, .slice none 0 0] 30)) w.heap.size 55 #[.int .i64 x1, .int .i64 x2, .int .i64 x3, .int .i64 x4]) := Lib.hid (al2_0 w _ _)
  have HR : Hid (BX ((w.alloc (.cells #[.int .i64 x1, .int .i64 x2, .int .i64 x3, .int .i64 x4] 55)).alloc (.cells #[.int .i64 0, .bool false, .string ⟨#[]⟩, .slice none 0 0, .slice none 0 0] 30)) (w.heap.size + 1) (.int .i64 0) (.bool false) (.string ⟨#[]⟩) (.slice none 0 0) (.slice none 0 0)) := Lib.hid (al2_1 w _ _)
  replace HhP := Lib.hid (HhP.out.on HB.out)
  generalize ((w.alloc (.cells #[.int .i64 x1, .int .i64 x2, .int .i64 x3, .int .i64 x4] 55)).alloc (.cells #[.int .i64 0, .bool false, .string ⟨#[]⟩, .slice none 0 0, .slice none 0 0] 30)) = w1 at *
  refine start_ (n := 11) (S := fun w' => True) (ds := []) #[false, false, false, false, false, false, false, false, false, false, false] (by kernel_rfl) rfl rfl trivial (fun hHeld => ?_)
  clear hHeld
  have hb : Below w1.heap.size w1 w1.drew := (Below.refl _ _).drew
  replace HB := Lib.hid (HB.out.trans (hb.mono HB.out.size))
  replace HR := Lib.hid (HR.out.on hb)
  replace HX := Lib.hid (HX.out.on hb)
  replace HhP := Lib.hid (HhP.out.on hb)
  clear hb
  generalize w1.drew = c at *
  refine inv_ (B := [0, 1, 3, 7, 0, 16, 55, 119, 255, 511, 1023]) [0, 1, 2, 3, 4, 5, 6, 7, 8, 9, 10] (ToldI _ (tl_pRange (zNew c.heap.size) x1 x2 x3 x4 w) 10 c _) rfl (by kernel_rfl) (by kernel_rfl) (by kernel_rfl) told_begin ?_ (told_end (by kernel_rfl))
  refine steps_cons (told_step 0 (tl_pRange_ok (zNew c.heap.size) x1 x2 x3 x4 w) (tl_pRange_up (zNew c.heap.size) x1 x2 x3 x4 w) rfl (by kernel_rfl) ?_) ?_
  · intro b V a w' ha hB hF hon
    refine ⟨_, rfl, rfl, fun K hK => ?_⟩
    have e1 : a.tmps[1]? = some (.pointer (some ⟨w.heap.size, 0, none⟩)) := by rw [ha]; exact (putSel_off (by rfl)).trans rfl
    refine value_ (w1 := w') (v := .pointer (some ⟨w.heap.size, 0, none⟩)) rfl rfl ?_ (hK _ _ (Below.refl _ _) rfl)
    clear ha hF hon hK K
    go_simp
    all_goals first | rfl | (constructor <;> rfl)
  refine steps_cons (told_step 1 (tl_pRange_ok (zNew c.heap.size) x1 x2 x3 x4 w) (tl_pRange_up (zNew c.heap.size) x1 x2 x3 x4 w) rfl (by kernel_rfl) ?_) ?_
  · intro b V a w' ha hB hF hon
    refine ⟨_, rfl, rfl, fun K hK => ?_⟩
    have e3 := told_get 0 (tl_pRange_ok (zNew c.heap.size) x1 x2 x3 x4 w) rfl ha (hon 0 (by kernel_rfl)) (by kernel_rfl)
    have F3 : V 0 = .pointer (some ⟨w.heap.size, 0, none⟩) := told_fact 0 hF rfl (hon 0 (by kernel_rfl))
    rw [F3] at e3
    have hg := HX.out.on hB
    have y0 := hg.c 0 rfl
    have y1 := hg.c 1 rfl
    clear hg
    refine value_ (w1 := w') (v := .agg #[.int .i64 x1, .int .i64 x2]) rfl rfl ?_ (hK _ _ (Below.refl _ _) rfl)
    clear ha hF hon hK K
    go_simp
    all_goals first | rfl | (constructor <;> rfl)
  refine steps_cons (told_step 2 (tl_pRange_ok (zNew c.heap.size) x1 x2 x3 x4 w) (tl_pRange_up (zNew c.heap.size) x1 x2 x3 x4 w) rfl (by kernel_rfl) ?_) ?_
  · intro b V a w' ha hB hF hon
    refine ⟨_, rfl, rfl, fun K hK => ?_⟩
    have e4 := told_get 1 (tl_pRange_ok (zNew c.heap.size) x1 x2 x3 x4 w) rfl ha (hon 1 (by kernel_rfl)) (by kernel_rfl)
    have F4 : V 1 = .agg #[.int .i64 x1, .int .i64 x2] := told_fact 1 hF rfl (hon 1 (by kernel_rfl))
    rw [F4] at e4
    refine goes_ Tryz.func45 (by kernel_rfl) rfl #[.agg #[.int .i64 x1, .int .i64 x2]] rfl rfl rfl (by simp only [List.map_toArray, List.map_cons, List.map_nil, Act.eval, Array.getD_eq_getD_getElem?, e4, Option.getD_some]) ?_
    refine ((pPos x1 x2 w' Hia.out Hib.out (HhP.out.on hB)).mono (fun _ _ h => h.mk hB.size)).mono ?_
    rintro e w'' ⟨v, rfl, hv, hb⟩
    exact ⟨v, rfl, hK v w'' hb hv⟩
  refine steps_cons (told_step 3 (tl_pRange_ok (zNew c.heap.size) x1 x2 x3 x4 w) (tl_pRange_up (zNew c.heap.size) x1 x2 x3 x4 w) rfl (by kernel_rfl) ?_) ?_
  · intro b V a w' ha hB hF hon
    refine ⟨_, rfl, rfl, fun K hK => ?_⟩
    have e5 := told_get 2 (tl_pRange_ok (zNew c.heap.size) x1 x2 x3 x4 w) rfl ha (hon 2 (by kernel_rfl)) (by kernel_rfl)
    have F5 := told_fact 2 hF rfl (hon 2 (by kernel_rfl))
    obtain ⟨k_5, i_5, x_5, A_5, n_5, c_5, B_5, m_5, d_5, hv5⟩ := VAL.shape F5
    rw [hv5] at e5 F5
    refine value_ (w1 := w') (v := .agg #[.string ⟨#[115, 116, 97, 114, 116]⟩, .int .i64 k_5, .bool i_5, .string x_5, .slice A_5 n_5 c_5, .slice B_5 m_5 d_5]) rfl rfl ?_ (hK _ _ (Below.refl _ _) ⟨_, _, _, _, _, rfl, F5⟩)
    clear ha hF hon hK K
    go_simp
    all_goals first | rfl | (constructor <;> rfl)
  refine steps_cons (told_step 4 (tl_pRange_ok (zNew c.heap.size) x1 x2 x3 x4 w) (tl_pRange_up (zNew c.heap.size) x1 x2 x3 x4 w) rfl (by kernel_rfl) ?_) ?_
  · intro b V a w' ha hB hF hon
    refine ⟨_, rfl, rfl, fun K hK => ?_⟩
    have e1 : a.tmps[1]? = some (.pointer (some ⟨w.heap.size, 0, none⟩)) := by rw [ha]; exact (putSel_off (by rfl)).trans rfl
    refine value_ (w1 := w') (v := .pointer (some ⟨w.heap.size, 2, none⟩)) rfl rfl ?_ (hK _ _ (Below.refl _ _) rfl)
    clear ha hF hon hK K
    go_simp
    all_goals first | rfl | (constructor <;> rfl)
  refine steps_cons (told_step 5 (tl_pRange_ok (zNew c.heap.size) x1 x2 x3 x4 w) (tl_pRange_up (zNew c.heap.size) x1 x2 x3 x4 w) rfl (by kernel_rfl) ?_) ?_
  · intro b V a w' ha hB hF hon
    refine ⟨_, rfl, rfl, fun K hK => ?_⟩
    have e7 := told_get 4 (tl_pRange_ok (zNew c.heap.size) x1 x2 x3 x4 w) rfl ha (hon 4 (by kernel_rfl)) (by kernel_rfl)
    have F7 : V 4 = .pointer (some ⟨w.heap.size, 2, none⟩) := told_fact 4 hF rfl (hon 4 (by kernel_rfl))
    rw [F7] at e7
    have hg := HX.out.on hB
    have y2 := hg.c 2 rfl
    have y3 := hg.c 3 rfl
    clear hg
    refine value_ (w1 := w') (v := .agg #[.int .i64 x3, .int .i64 x4]) rfl rfl ?_ (hK _ _ (Below.refl _ _) rfl)
    clear ha hF hon hK K
    go_simp
    all_goals first | rfl | (constructor <;> rfl)
  refine steps_cons (told_step 6 (tl_pRange_ok (zNew c.heap.size) x1 x2 x3 x4 w) (tl_pRange_up (zNew c.heap.size) x1 x2 x3 x4 w) rfl (by kernel_rfl) ?_) ?_
  · intro b V a w' ha hB hF hon
    refine ⟨_, rfl, rfl, fun K hK => ?_⟩
    have e8 := told_get 5 (tl_pRange_ok (zNew c.heap.size) x1 x2 x3 x4 w) rfl ha (hon 5 (by kernel_rfl)) (by kernel_rfl)
    have F8 : V 5 = .agg #[.int .i64 x3, .int .i64 x4] := told_fact 5 hF rfl (hon 5 (by kernel_rfl))
    rw [F8] at e8
    refine goes_ Tryz.func45 (by kernel_rfl) rfl #[.agg #[.int .i64 x3, .int .i64 x4]] rfl rfl rfl (by simp only [List.map_toArray, List.map_cons, List.map_nil, Act.eval, Array.getD_eq_getD_getElem?, e8, Option.getD_some]) ?_
    refine ((pPos x3 x4 w' Hic.out Hid'.out (HhP.out.on hB)).mono (fun _ _ h => h.mk hB.size)).mono ?_
    rintro e w'' ⟨v, rfl, hv, hb⟩
    exact ⟨v, rfl, hK v w'' hb hv⟩
  refine steps_cons (told_step 7 (tl_pRange_ok (zNew c.heap.size) x1 x2 x3 x4 w) (tl_pRange_up (zNew c.heap.size) x1 x2 x3 x4 w) rfl (by kernel_rfl) ?_) ?_
  · intro b V a w' ha hB hF hon
    refine ⟨_, rfl, rfl, fun K hK => ?_⟩
    have e9 := told_get 6 (tl_pRange_ok (zNew c.heap.size) x1 x2 x3 x4 w) rfl ha (hon 6 (by kernel_rfl)) (by kernel_rfl)
    have F9 := told_fact 6 hF rfl (hon 6 (by kernel_rfl))
    obtain ⟨k_9, i_9, x_9, A_9, n_9, c_9, B_9, m_9, d_9, hv9⟩ := VAL.shape F9
    rw [hv9] at e9 F9
    refine value_ (w1 := w') (v := .agg #[.string ⟨#[101, 110, 100]⟩, .int .i64 k_9, .bool i_9, .string x_9, .slice A_9 n_9 c_9, .slice B_9 m_9 d_9]) rfl rfl ?_ (hK _ _ (Below.refl _ _) ⟨_, _, _, _, _, rfl, F9⟩)
    clear ha hF hon hK K
    go_simp
    all_goals first | rfl | (constructor <;> rfl)
  refine steps_cons (told_step 8 (tl_pRange_ok (zNew c.heap.size) x1 x2 x3 x4 w) (tl_pRange_up (zNew c.heap.size) x1 x2 x3 x4 w) rfl (by kernel_rfl) ?_) ?_
  · intro b V a w' ha hB hF hon
    refine ⟨_, rfl, rfl, fun K hK => ?_⟩
    have e6 := told_get 3 (tl_pRange_ok (zNew c.heap.size) x1 x2 x3 x4 w) rfl ha (hon 3 (by kernel_rfl)) (by kernel_rfl)
    have F6 := told_fact 3 hF rfl (hon 3 (by kernel_rfl))
    obtain ⟨p0, p1, p2, p3, p4, hv6, G6⟩ := F6
    obtain ⟨k_6, i_6, x_6, A_6, n_6, c_6, B_6, m_6, d_6, hw6⟩ := VAL.shape G6
    injection hw6 with hw6
    injection hw6 with hw6
    injection hw6 with z0 hw6; injection hw6 with z1 hw6; injection hw6 with z2 hw6; injection hw6 with z3 hw6; injection hw6 with z4 hw6
    subst z0; subst z1; subst z2; subst z3; subst z4
    rw [hv6] at e6
    have e10 := told_get 7 (tl_pRange_ok (zNew c.heap.size) x1 x2 x3 x4 w) rfl ha (hon 7 (by kernel_rfl)) (by kernel_rfl)
    have F10 := told_fact 7 hF rfl (hon 7 (by kernel_rfl))
    obtain ⟨p0, p1, p2, p3, p4, hv10, G10⟩ := F10
    obtain ⟨k_10, i_10, x_10, A_10, n_10, c_10, B_10, m_10, d_10, hw10⟩ := VAL.shape G10
    injection hw10 with hw10
    injection hw10 with hw10
    injection hw10 with z0 hw10; injection hw10 with z1 hw10; injection hw10 with z2 hw10; injection hw10 with z3 hw10; injection hw10 with z4 hw10
    subst z0; subst z1; subst z2; subst z3; subst z4
    rw [hv10] at e10
    refine value_ (w1 := w'.alloc (.cells #[.string ⟨#[115, 116, 97, 114, 116]⟩, .int .i64 k_6, .bool i_6, .string x_6, .slice A_6 n_6 c_6, .slice B_6 m_6 d_6, .string ⟨#[101, 110, 100]⟩, .int .i64 k_10, .bool i_10, .string x_10, .slice A_10 n_10 c_10, .slice B_10 m_10 d_10] 112)) (v := .slice (some ⟨w'.heap.size, 0, none⟩) 2 2) rfl rfl ?_ (hK _ _ ((Below.refl _ _).alloc (Nat.le_refl _) _) (PSV_new _ _ _ _ _ (PRC.cons G6 (PRC.cons G10 (PRC.nil _ _))) (zNew_alloc hB.size)))
    clear ha hF hon hK K
    go_simp
    all_goals first | rfl | (constructor <;> rfl)
  refine steps_cons (told_step 9 (tl_pRange_ok (zNew c.heap.size) x1 x2 x3 x4 w) (tl_pRange_up (zNew c.heap.size) x1 x2 x3 x4 w) rfl (by kernel_rfl) ?_) ?_
  · intro b V a w' ha hB hF hon
    refine ⟨_, rfl, rfl, fun K hK => ?_⟩
    have e11 := told_get 8 (tl_pRange_ok (zNew c.heap.size) x1 x2 x3 x4 w) rfl ha (hon 8 (by kernel_rfl)) (by kernel_rfl)
    have F11 := told_fact 8 hF rfl (hon 8 (by kernel_rfl))
    refine goes_ Tryz.func81 (by kernel_rfl) rfl #[V 8] rfl rfl rfl (by simp only [List.map_toArray, List.map_cons, List.map_nil, Act.eval, Array.getD_eq_getD_getElem?, e11, Option.getD_some]) ?_
    refine (pObject_any [(⟨#[115, 116, 97, 114, 116]⟩, (posT x1 x2)), (⟨#[101, 110, 100]⟩, (posT x3 x4))] w' _ hB.size F11 (Nat.le_of_ble_eq_true rfl)).mono ?_
    rintro e w'' ⟨v, rfl, hv, hb⟩
    exact ⟨v, rfl, hK v w'' hb hv⟩
  refine steps_cons (told_last ?_ ?_) steps_nil
  · intro e he; simp only [tl_pRange, List.mem_cons, List.mem_nil_iff, or_false] at he; rcases he with rfl | rfl | rfl | rfl | rfl | rfl | rfl | rfl | rfl | rfl <;> kernel_rfl
  intro V a w' ha hB hF
  refine ⟨_, rfl, rfl, fun K hK => ?_⟩
  have e12 := told_get 9 (tl_pRange_ok (zNew c.heap.size) x1 x2 x3 x4 w) rfl ha rfl (by kernel_rfl)
  have F12 := hF _ (List.mem_of_getElem? (i := 9) rfl)
  obtain ⟨k_12, i_12, x_12, A_12, n_12, c_12, B_12, m_12, d_12, hv12⟩ := VAL.shape F12
  rw [hv12] at e12 F12
  have e2 : a.tmps[2]? = some (.pointer (some ⟨w.heap.size + 1, 0, none⟩)) := by rw [ha]; exact (putSel_off (by rfl)).trans rfl
  have hg := HR.out.on hB
  have f0 := hg.fr 0
  have y0 := hg.c0
  have f1 := hg.fr 1
  have y1 := hg.c1
  have f2 := hg.fr 2
  have y2 := hg.c2
  have f3 := hg.fr 3
  have y3 := hg.c3
  have f4 := hg.fr 4
  have y4 := hg.c4
  refine skip_ (w1 := five w' (w.heap.size + 1) (.int .i64 k_12) (.bool i_12) (.string x_12) (.slice A_12 n_12 c_12) (.slice B_12 m_12 d_12)) rfl rfl ?_ (hK _ _ ?_)
  · clear ha hF hK K
    go_simp
    all_goals first | rfl | (constructor <;> rfl)
  clear hK K hF e12 e2 f0 y0 f1 y1 f2 y2 f3 y3 f4 y4
  have hres : BX (five w' (w.heap.size + 1) (.int .i64 k_12) (.bool i_12) (.string x_12) (.slice A_12 n_12 c_12) (.slice B_12 m_12 d_12)) (w.heap.size + 1) (.int .i64 k_12) (.bool i_12) (.string x_12) (.slice A_12 n_12 c_12) (.slice B_12 m_12 d_12) := hg.put (.int .i64 k_12) (.bool i_12) (.string x_12) (.slice A_12 n_12 c_12) (.slice B_12 m_12 d_12)
  have r0 := hres.c0
  have r1 := hres.c1
  have r2 := hres.c2
  have r3 := hres.c3
  have r4 := hres.c4
  have HF := Lib.hid F12
  have HB' := Lib.hid hB
  clear hres hg F12 hB
  rw [ha]
  clear ha
  simp only [tl_pRange, Tolds.put, List.map_cons, List.map_nil, putSel, if_true, Act.put, List.setIfInBounds_toArray, List.set_cons_zero, List.set_cons_succ, hv12]
  clear hv12
  generalize V 0 = u0
  generalize V 1 = u1
  generalize V 2 = u2
  generalize V 3 = u3
  generalize V 4 = u4
  generalize V 5 = u5
  generalize V 6 = u6
  generalize V 7 = u7
  generalize V 8 = u8
  try clear V
  go_wp2
  exact bodyPost_ret (v := .agg #[.int .i64 k_12, .bool i_12, .string x_12, .slice A_12 n_12 c_12, .slice B_12 m_12 d_12]) (by simp [results, Tryz.results37, go_sem, r0, r1, r2, r3, r4]) rfl ⟨_, rfl, five_New HF.out (fun b hb => ⟨Nat.le_trans HB.out.size hb.1, hb.2, by have := HR.out.lt; have := hb.1; omega⟩), five_below (HB.out.trans (HB'.out.mono HB.out.size)) _ _ _ _ _ _ (by omega)⟩

def tl_rRange (z : Zone) (x1 x2 x3 x4 : Int) (w : World) : Tolds := [(0, 3, TSV z [⟨#[115, 116, 97, 114, 116]⟩, ⟨#[101, 110, 100]⟩]), (1, 4, fun _ v => v = .pointer (some ⟨w.heap.size, 0, none⟩)), (2, 5, fun _ v => v = .agg #[.int .i64 x1, .int .i64 x2]), (3, 6, VLV z (posT x1 x2)), (4, 7, fun _ v => v = .pointer (some ⟨w.heap.size, 2, none⟩)), (5, 8, fun _ v => v = .agg #[.int .i64 x3, .int .i64 x4]), (6, 9, VLV z (posT x3 x4)), (7, 10, VSV z [(posT x1 x2), (posT x3 x4)]), (8, 11, VLV z (obT [⟨#[115, 116, 97, 114, 116]⟩, ⟨#[101, 110, 100]⟩] [(posT x1 x2), (posT x3 x4)]))]
theorem tl_rRange_ok (z : Zone) (x1 x2 x3 x4 : Int) (w : World) : (tl_rRange z x1 x2 x3 x4 w).ok 9 = true := by kernel_rfl
theorem tl_rRange_up (z : Zone) (x1 x2 x3 x4 : Int) (w : World) : (tl_rRange z x1 x2 x3 x4 w).up := (tup_cons (fun _ _ _ h hb => TSV.up h hb) (tup_cons (fun _ _ _ h _ => h) (tup_cons (fun _ _ _ h _ => h) (tup_cons (fun _ _ _ h hb => VLV.up h hb) (tup_cons (fun _ _ _ h _ => h) (tup_cons (fun _ _ _ h _ => h) (tup_cons (fun _ _ _ h hb => VLV.up h hb) (tup_cons (fun _ _ _ h hb => VSV.up h hb) (tup_cons (fun _ _ _ h hb => VLV.up h hb) tup_nil)))))))))
set_option maxRecDepth 100000 in
set_option maxHeartbeats 4000000 in
theorem rRange (x1 x2 x3 x4 : Int) (w : World) (ia : I64 x1) (ib : I64 x2) (ic : I64 x3) (id' : I64 x4) : Calls Tryz.prog 44 #[.agg #[.int .i64 x1, .int .i64 x2, .int .i64 x3, .int .i64 x4]] w (Copied (rangeT x1 x2 x3 x4) w) := by
  have Hia := Lib.hid ia
  have Hib := Lib.hid ib
  have Hic := Lib.hid ic
  have Hid' := Lib.hid id'
  clear ia ib ic id'
  go_enter Tryz.func44, Tryz.ntmps44
  go_wp2_with fail
  have HB : Hid (Below w.heap.size w ((w.alloc (.cells #[.int .i64 x1, .int .i64 x2, .int .i64 x3, .int .i64 x4] 55)).alloc (.cells #[.int .i64 0, .bool false, .string ⟨#[]⟩, .slice none 0 0, .slice none 0 0] 30))) := Lib.hid (al2_below w _ _)
  have HX : Hid (BK ((w.alloc (.cells #[.int .i64 x1, .int .i64 x2, .int .i64 x3, .int .i64 x4] 55)).alloc (.cells #[.int .i64 0, .bool false, .string ⟨#[]⟩, .slice none 0 0, .slice none 0 0] 30)) w.heap.size 55 #[.int .i64 x1, .int .i64 x2, .int .i64 x3, .int .i64 x4]) := Lib.hid (al2_0 w _ _)
  have HR : Hid (BX ((w.alloc (.cells #[.int .i64 x1, .int .i64 x2, .int .i64 x3, .int .i64 x4] 55)).alloc (.cells #[.int .i64 0, .bool false, .string ⟨#[]⟩, .slice none 0 0, .slice none 0 0] 30)) (w.heap.size + 1) (.int .i64 0) (.bool false) (.string ⟨#[]⟩) (.slice none 0 0) (.slice none 0 0)) := Lib.hid (al2_1 w _ _)
  generalize ((w.alloc (.cells #[.int .i64 x1, .int .i64 x2, .int .i64 x3, .int .i64 x4] 55)).alloc (.cells #[.int .i64 0, .bool false, .string ⟨#[]⟩, .slice none 0 0, .slice none 0 0] 30)) = w1 at *
  refine start_ (n := 10) (S := fun w' => True) (ds := []) #[false, false, false, false, false, false, false, false, false, false] (by kernel_rfl) rfl rfl trivial (fun hHeld => ?_)
  clear hHeld
  have hb : Below w1.heap.size w1 w1.drew := (Below.refl _ _).drew
  replace HB := Lib.hid (HB.out.trans (hb.mono HB.out.size))
  replace HR := Lib.hid (HR.out.on hb)
  replace HX := Lib.hid (HX.out.on hb)
  clear hb
  generalize w1.drew = c at *
  refine inv_ (B := [0, 0, 2, 6, 0, 16, 62, 126, 255, 511]) [0, 1, 2, 3, 4, 5, 6, 7, 8, 9] (ToldI _ (tl_rRange (zNew c.heap.size) x1 x2 x3 x4 w) 9 c _) rfl (by kernel_rfl) (by kernel_rfl) (by kernel_rfl) told_begin ?_ (told_end (by kernel_rfl))
  refine steps_cons (told_step 0 (tl_rRange_ok (zNew c.heap.size) x1 x2 x3 x4 w) (tl_rRange_up (zNew c.heap.size) x1 x2 x3 x4 w) rfl (by kernel_rfl) ?_) ?_
  · intro b V a w' ha hB hF hon
    refine ⟨_, rfl, rfl, fun K hK => ?_⟩
    refine value_ (w1 := w'.alloc (.cells #[.string ⟨#[115, 116, 97, 114, 116]⟩, .string ⟨#[101, 110, 100]⟩] 9)) (v := .slice (some ⟨w'.heap.size, 0, none⟩) 2 2) rfl rfl ?_ (hK _ _ ((Below.refl _ _).alloc (Nat.le_refl _) _) (TSV_new _ _ _ _ _ rfl (zNew_alloc hB.size)))
    clear ha hF hon hK K
    go_simp
    all_goals first | rfl | (constructor <;> rfl)
  refine steps_cons (told_step 1 (tl_rRange_ok (zNew c.heap.size) x1 x2 x3 x4 w) (tl_rRange_up (zNew c.heap.size) x1 x2 x3 x4 w) rfl (by kernel_rfl) ?_) ?_
  · intro b V a w' ha hB hF hon
    refine ⟨_, rfl, rfl, fun K hK => ?_⟩
    have e1 : a.tmps[1]? = some (.pointer (some ⟨w.heap.size, 0, none⟩)) := by rw [ha]; exact (putSel_off (by rfl)).trans rfl
    refine value_ (w1 := w') (v := .pointer (some ⟨w.heap.size, 0, none⟩)) rfl rfl ?_ (hK _ _ (Below.refl _ _) rfl)
    clear ha hF hon hK K
    go_simp
    all_goals first | rfl | (constructor <;> rfl)
  refine steps_cons (told_step 2 (tl_rRange_ok (zNew c.heap.size) x1 x2 x3 x4 w) (tl_rRange_up (zNew c.heap.size) x1 x2 x3 x4 w) rfl (by kernel_rfl) ?_) ?_
  · intro b V a w' ha hB hF hon
    refine ⟨_, rfl, rfl, fun K hK => ?_⟩
    have e4 := told_get 1 (tl_rRange_ok (zNew c.heap.size) x1 x2 x3 x4 w) rfl ha (hon 1 (by kernel_rfl)) (by kernel_rfl)
    have F4 : V 1 = .pointer (some ⟨w.heap.size, 0, none⟩) := told_fact 1 hF rfl (hon 1 (by kernel_rfl))
    rw [F4] at e4
    have hg := HX.out.on hB
    have y0 := hg.c 0 rfl
    have y1 := hg.c 1 rfl
    clear hg
    refine value_ (w1 := w') (v := .agg #[.int .i64 x1, .int .i64 x2]) rfl rfl ?_ (hK _ _ (Below.refl _ _) rfl)
    clear ha hF hon hK K
    go_simp
    all_goals first | rfl | (constructor <;> rfl)
  refine steps_cons (told_step 3 (tl_rRange_ok (zNew c.heap.size) x1 x2 x3 x4 w) (tl_rRange_up (zNew c.heap.size) x1 x2 x3 x4 w) rfl (by kernel_rfl) ?_) ?_
  · intro b V a w' ha hB hF hon
    refine ⟨_, rfl, rfl, fun K hK => ?_⟩
    have e5 := told_get 2 (tl_rRange_ok (zNew c.heap.size) x1 x2 x3 x4 w) rfl ha (hon 2 (by kernel_rfl)) (by kernel_rfl)
    have F5 : V 2 = .agg #[.int .i64 x1, .int .i64 x2] := told_fact 2 hF rfl (hon 2 (by kernel_rfl))
    rw [F5] at e5
    refine goes_ Tryz.func46 (by kernel_rfl) rfl #[.agg #[.int .i64 x1, .int .i64 x2]] rfl rfl rfl (by simp only [List.map_toArray, List.map_cons, List.map_nil, Act.eval, Array.getD_eq_getD_getElem?, e5, Option.getD_some]) ?_
    refine ((rPos x1 x2 w' Hia.out Hib.out).mono (fun _ _ h => h.mk hB.size)).mono ?_
    rintro e w'' ⟨v, rfl, hv, hb⟩
    exact ⟨v, rfl, hK v w'' hb hv⟩
  refine steps_cons (told_step 4 (tl_rRange_ok (zNew c.heap.size) x1 x2 x3 x4 w) (tl_rRange_up (zNew c.heap.size) x1 x2 x3 x4 w) rfl (by kernel_rfl) ?_) ?_
  · intro b V a w' ha hB hF hon
    refine ⟨_, rfl, rfl, fun K hK => ?_⟩
    have e1 : a.tmps[1]? = some (.pointer (some ⟨w.heap.size, 0, none⟩)) := by rw [ha]; exact (putSel_off (by rfl)).trans rfl
    refine value_ (w1 := w') (v := .pointer (some ⟨w.heap.size, 2, none⟩)) rfl rfl ?_ (hK _ _ (Below.refl _ _) rfl)
    clear ha hF hon hK K
    go_simp
    all_goals first | rfl | (constructor <;> rfl)
  refine steps_cons (told_step 5 (tl_rRange_ok (zNew c.heap.size) x1 x2 x3 x4 w) (tl_rRange_up (zNew c.heap.size) x1 x2 x3 x4 w) rfl (by kernel_rfl) ?_) ?_
  · intro b V a w' ha hB hF hon
    refine ⟨_, rfl, rfl, fun K hK => ?_⟩
    have e7 := told_get 4 (tl_rRange_ok (zNew c.heap.size) x1 x2 x3 x4 w) rfl ha (hon 4 (by kernel_rfl)) (by kernel_rfl)
    have F7 : V 4 = .pointer (some ⟨w.heap.size, 2, none⟩) := told_fact 4 hF rfl (hon 4 (by kernel_rfl))
    rw [F7] at e7
    have hg := HX.out.on hB
    have y2 := hg.c 2 rfl
    have y3 := hg.c 3 rfl
    clear hg
    refine value_ (w1 := w') (v := .agg #[.int .i64 x3, .int .i64 x4]) rfl rfl ?_ (hK _ _ (Below.refl _ _) rfl)
    clear ha hF hon hK K
    go_simp
    all_goals first | rfl | (constructor <;> rfl)
  refine steps_cons (told_step 6 (tl_rRange_ok (zNew c.heap.size) x1 x2 x3 x4 w) (tl_rRange_up (zNew c.heap.size) x1 x2 x3 x4 w) rfl (by kernel_rfl) ?_) ?_
  · intro b V a w' ha hB hF hon
    refine ⟨_, rfl, rfl, fun K hK => ?_⟩
    have e8 := told_get 5 (tl_rRange_ok (zNew c.heap.size) x1 x2 x3 x4 w) rfl ha (hon 5 (by kernel_rfl)) (by kernel_rfl)
    have F8 : V 5 = .agg #[.int .i64 x3, .int .i64 x4] := told_fact 5 hF rfl (hon 5 (by kernel_rfl))
    rw [F8] at e8
    refine goes_ Tryz.func46 (by kernel_rfl) rfl #[.agg #[.int .i64 x3, .int .i64 x4]] rfl rfl rfl (by simp only [List.map_toArray, List.map_cons, List.map_nil, Act.eval, Array.getD_eq_getD_getElem?, e8, Option.getD_some]) ?_
    refine ((rPos x3 x4 w' Hic.out Hid'.out).mono (fun _ _ h => h.mk hB.size)).mono ?_
    rintro e w'' ⟨v, rfl, hv, hb⟩
    exact ⟨v, rfl, hK v w'' hb hv⟩
  refine steps_cons (told_step 7 (tl_rRange_ok (zNew c.heap.size) x1 x2 x3 x4 w) (tl_rRange_up (zNew c.heap.size) x1 x2 x3 x4 w) rfl (by kernel_rfl) ?_) ?_
  · intro b V a w' ha hB hF hon
    refine ⟨_, rfl, rfl, fun K hK => ?_⟩
    have e6 := told_get 3 (tl_rRange_ok (zNew c.heap.size) x1 x2 x3 x4 w) rfl ha (hon 3 (by kernel_rfl)) (by kernel_rfl)
    have F6 := told_fact 3 hF rfl (hon 3 (by kernel_rfl))
    obtain ⟨k_6, i_6, x_6, A_6, n_6, c_6, B_6, m_6, d_6, hv6⟩ := VAL.shape F6
    rw [hv6] at e6 F6
    have e9 := told_get 6 (tl_rRange_ok (zNew c.heap.size) x1 x2 x3 x4 w) rfl ha (hon 6 (by kernel_rfl)) (by kernel_rfl)
    have F9 := told_fact 6 hF rfl (hon 6 (by kernel_rfl))
    obtain ⟨k_9, i_9, x_9, A_9, n_9, c_9, B_9, m_9, d_9, hv9⟩ := VAL.shape F9
    rw [hv9] at e9 F9
    refine value_ (w1 := w'.alloc (.cells #[.int .i64 k_6, .bool i_6, .string x_6, .slice A_6 n_6 c_6, .slice B_6 m_6 d_6, .int .i64 k_9, .bool i_9, .string x_9, .slice A_9 n_9 c_9, .slice B_9 m_9 d_9] 30)) (v := .slice (some ⟨w'.heap.size, 0, none⟩) 2 2) rfl rfl ?_ (hK _ _ ((Below.refl _ _).alloc (Nat.le_refl _) _) (VSV_new _ _ _ _ _ (VR.cons F6 (VR.cons F9 (VR.none _ _))) (zNew_alloc hB.size)))
    clear ha hF hon hK K
    go_simp
    all_goals first | rfl | (constructor <;> rfl)
  refine steps_cons (told_step 8 (tl_rRange_ok (zNew c.heap.size) x1 x2 x3 x4 w) (tl_rRange_up (zNew c.heap.size) x1 x2 x3 x4 w) rfl (by kernel_rfl) ?_) ?_
  · intro b V a w' ha hB hF hon
    refine ⟨_, rfl, rfl, fun K hK => ?_⟩
    have e3 := told_get 0 (tl_rRange_ok (zNew c.heap.size) x1 x2 x3 x4 w) rfl ha (hon 0 (by kernel_rfl)) (by kernel_rfl)
    have F3 := told_fact 0 hF rfl (hon 0 (by kernel_rfl))
    have e10 := told_get 7 (tl_rRange_ok (zNew c.heap.size) x1 x2 x3 x4 w) rfl ha (hon 7 (by kernel_rfl)) (by kernel_rfl)
    have F10 := told_fact 7 hF rfl (hon 7 (by kernel_rfl))
    refine goes_ Tryz.func84 (by kernel_rfl) rfl #[V 0, V 7] rfl rfl rfl (by simp only [List.map_toArray, List.map_cons, List.map_nil, Act.eval, Array.getD_eq_getD_getElem?, e3, e10, Option.getD_some]) ?_
    refine ((rObject_any w' (zNew c.heap.size) _ _ F3 F10 rfl (Nat.le_trans (rangeT_bulk x1 x2 x3 x4 Hia.out Hib.out Hic.out Hid'.out) (by omega))).mono (fun _ _ h => h.mk hB.size)).mono ?_
    rintro e w'' ⟨v, rfl, hv, hb⟩
    exact ⟨v, rfl, hK v w'' hb hv⟩
  refine steps_cons (told_last ?_ ?_) steps_nil
  · intro e he; simp only [tl_rRange, List.mem_cons, List.mem_nil_iff, or_false] at he; rcases he with rfl | rfl | rfl | rfl | rfl | rfl | rfl | rfl | rfl <;> kernel_rfl
  intro V a w' ha hB hF
  refine ⟨_, rfl, rfl, fun K hK => ?_⟩
  have e11 := told_get 8 (tl_rRange_ok (zNew c.heap.size) x1 x2 x3 x4 w) rfl ha rfl (by kernel_rfl)
  have F11 := hF _ (List.mem_of_getElem? (i := 8) rfl)
  obtain ⟨k_11, i_11, x_11, A_11, n_11, c_11, B_11, m_11, d_11, hv11⟩ := VAL.shape F11
  rw [hv11] at e11 F11
  have e2 : a.tmps[2]? = some (.pointer (some ⟨w.heap.size + 1, 0, none⟩)) := by rw [ha]; exact (putSel_off (by rfl)).trans rfl
  have hg := HR.out.on hB
  have f0 := hg.fr 0
  have y0 := hg.c0
  have f1 := hg.fr 1
  have y1 := hg.c1
  have f2 := hg.fr 2
  have y2 := hg.c2
  have f3 := hg.fr 3
  have y3 := hg.c3
  have f4 := hg.fr 4
  have y4 := hg.c4
  refine skip_ (w1 := five w' (w.heap.size + 1) (.int .i64 k_11) (.bool i_11) (.string x_11) (.slice A_11 n_11 c_11) (.slice B_11 m_11 d_11)) rfl rfl ?_ (hK _ _ ?_)
  · clear ha hF hK K
    go_simp
    all_goals first | rfl | (constructor <;> rfl)
  clear hK K hF e11 e2 f0 y0 f1 y1 f2 y2 f3 y3 f4 y4
  have hres : BX (five w' (w.heap.size + 1) (.int .i64 k_11) (.bool i_11) (.string x_11) (.slice A_11 n_11 c_11) (.slice B_11 m_11 d_11)) (w.heap.size + 1) (.int .i64 k_11) (.bool i_11) (.string x_11) (.slice A_11 n_11 c_11) (.slice B_11 m_11 d_11) := hg.put (.int .i64 k_11) (.bool i_11) (.string x_11) (.slice A_11 n_11 c_11) (.slice B_11 m_11 d_11)
  have r0 := hres.c0
  have r1 := hres.c1
  have r2 := hres.c2
  have r3 := hres.c3
  have r4 := hres.c4
  have HF := Lib.hid F11
  have HB' := Lib.hid hB
  clear hres hg F11 hB
  rw [ha]
  clear ha
  simp only [tl_rRange, Tolds.put, List.map_cons, List.map_nil, putSel, if_true, Act.put, List.setIfInBounds_toArray, List.set_cons_zero, List.set_cons_succ, hv11]
  clear hv11
  generalize V 0 = u0
  generalize V 1 = u1
  generalize V 2 = u2
  generalize V 3 = u3
  generalize V 4 = u4
  generalize V 5 = u5
  generalize V 6 = u6
  generalize V 7 = u7
  try clear V
  go_wp2
  exact bodyPost_ret (v := .agg #[.int .i64 k_11, .bool i_11, .string x_11, .slice A_11 n_11 c_11, .slice B_11 m_11 d_11]) (by simp [results, Tryz.results44, go_sem, r0, r1, r2, r3, r4]) rfl ⟨_, rfl, five_New HF.out (fun b hb => ⟨Nat.le_trans HB.out.size hb.1, hb.2, by have := HR.out.lt; have := hb.1; omega⟩), five_below (HB.out.trans (HB'.out.mono HB.out.size)) _ _ _ _ _ _ (by omega)⟩

def tl_pDiag (z : Zone) (x1 x2 x3 x4 x5 : Int) (tx : ByteArray) (w : World) : Tolds := [(0, 3, fun _ v => v = .pointer (some ⟨w.heap.size, 0, none⟩)), (1, 4, fun _ v => v = .agg #[.int .i64 x1, .int .i64 x2, .int .i64 x3, .int .i64 x4]), (2, 5, VLV z (rangeT x1 x2 x3 x4)), (3, 6, PRV z (⟨#[114, 97, 110, 103, 101]⟩, (rangeT x1 x2 x3 x4))), (4, 7, VLV z (nbT 1)), (5, 8, PRV z (⟨#[115, 101, 118, 101, 114, 105, 116, 121]⟩, (nbT 1))), (6, 9, fun _ v => v = .pointer (some ⟨w.heap.size, 4, none⟩)), (7, 10, fun _ v => v = .int .i64 x5), (8, 11, VLV z (nbT x5)), (9, 12, PRV z (⟨#[99, 111, 100, 101]⟩, (nbT x5))), (10, 13, VLV z (txT ⟨#[99, 111, 108, 111, 112, 104, 111, 110]⟩)), (11, 14, PRV z (⟨#[115, 111, 117, 114, 99, 101]⟩, (txT ⟨#[99, 111, 108, 111, 112, 104, 111, 110]⟩))), (12, 15, fun _ v => v = .pointer (some ⟨w.heap.size, 5, none⟩)), (13, 16, fun _ v => v = .string tx), (14, 17, VLV z (txT tx)), (15, 18, PRV z (⟨#[109, 101, 115, 115, 97, 103, 101]⟩, (txT tx))), (16, 19, PSV z [(⟨#[114, 97, 110, 103, 101]⟩, (rangeT x1 x2 x3 x4)), (⟨#[115, 101, 118, 101, 114, 105, 116, 121]⟩, (nbT 1)), (⟨#[99, 111, 100, 101]⟩, (nbT x5)), (⟨#[115, 111, 117, 114, 99, 101]⟩, (txT ⟨#[99, 111, 108, 111, 112, 104, 111, 110]⟩)), (⟨#[109, 101, 115, 115, 97, 103, 101]⟩, (txT tx))]), (17, 20, VLV z (obT [⟨#[114, 97, 110, 103, 101]⟩, ⟨#[115, 101, 118, 101, 114, 105, 116, 121]⟩, ⟨#[99, 111, 100, 101]⟩, ⟨#[115, 111, 117, 114, 99, 101]⟩, ⟨#[109, 101, 115, 115, 97, 103, 101]⟩] [(rangeT x1 x2 x3 x4), (nbT 1), (nbT x5), (txT ⟨#[99, 111, 108, 111, 112, 104, 111, 110]⟩), (txT tx)]))]
theorem tl_pDiag_ok (z : Zone) (x1 x2 x3 x4 x5 : Int) (tx : ByteArray) (w : World) : (tl_pDiag z x1 x2 x3 x4 x5 tx w).ok 18 = true := by kernel_rfl
theorem tl_pDiag_up (z : Zone) (x1 x2 x3 x4 x5 : Int) (tx : ByteArray) (w : World) : (tl_pDiag z x1 x2 x3 x4 x5 tx w).up := (tup_cons (fun _ _ _ h _ => h) (tup_cons (fun _ _ _ h _ => h) (tup_cons (fun _ _ _ h hb => VLV.up h hb) (tup_cons (fun _ _ _ h hb => PRV.up h hb) (tup_cons (fun _ _ _ h hb => VLV.up h hb) (tup_cons (fun _ _ _ h hb => PRV.up h hb) (tup_cons (fun _ _ _ h _ => h) (tup_cons (fun _ _ _ h _ => h) (tup_cons (fun _ _ _ h hb => VLV.up h hb) (tup_cons (fun _ _ _ h hb => PRV.up h hb) (tup_cons (fun _ _ _ h hb => VLV.up h hb) (tup_cons (fun _ _ _ h hb => PRV.up h hb) (tup_cons (fun _ _ _ h _ => h) (tup_cons (fun _ _ _ h _ => h) (tup_cons (fun _ _ _ h hb => VLV.up h hb) (tup_cons (fun _ _ _ h hb => PRV.up h hb) (tup_cons (fun _ _ _ h hb => PSV.up h hb) (tup_cons (fun _ _ _ h hb => VLV.up h hb) tup_nil))))))))))))))))))
set_option maxRecDepth 100000 in
set_option maxHeartbeats 4000000 in
theorem pDiag (x1 x2 x3 x4 x5 : Int) (tx : ByteArray) (w : World) (ia : I64 x1) (ib : I64 x2) (ic : I64 x3) (id' : I64 x4) (ik : I64 x5) (hP : PTab w) : Calls Tryz.prog 92 #[.agg #[.int .i64 x1, .int .i64 x2, .int .i64 x3, .int .i64 x4, .int .i64 x5, .string tx]] w (Copied (diagT x1 x2 x3 x4 x5 tx) w) := by
  have Hia := Lib.hid ia
  have Hib := Lib.hid ib
  have Hic := Lib.hid ic
  have Hid' := Lib.hid id'
  have Hik := Lib.hid ik
  have HhP := Lib.hid hP
  clear ia ib ic id' ik hP
  go_enter Tryz.func92, Tryz.ntmps92
  go_wp2_with fail
  have HB : Hid (Below w.heap.size w ((w.alloc (.cells #[.int .i64 x1, .int .i64 x2, .int .i64 x3, .int .i64 x4, .int .i64 x5, .string tx] 123)).alloc (.cells #[.int .i64 0, .bool false, .string ⟨#[]⟩, .slice none 0 0, .slice none 0 0] 30))) := Lib.hid (al2_below w _ _)
  have HX : Hid (BK ((w.alloc (.cells #[.int .i64 x1, .int .i64 x2, .int .i64 x3, .int .i64 x4, .int .i64 x5, .string tx] 123)).alloc (.cells #[.int .i64 0, .bool false, .string ⟨#[]⟩, .slice none 0 0, .slice none 0 0] 30)) w.heap.size 123 #[.int .i64 x1, .int .i64 x2, .int .i64 x3, .int .i64 x4, .int .i64 x5, .string tx]) := Lib.hid (al2_0 w _ _)
  have HR : Hid (BX ((w.alloc (.cells #[.int .i64 x1, .int .i64 x2, .int .i64 x3, .int .i64 x4, .int .i64 x5, .string tx] 123)).alloc (.cells #[.int .i64 0, .bool false, .string ⟨#[]⟩, .slice none 0 0, .slice none 0 0] 30)) (w.heap.size + 1) (.int .i64 0) (.bool false) (.string ⟨#[]⟩) (.slice none 0 0) (.slice none 0 0)) := Lib.hid (al2_1 w _ _)
  replace HhP := Lib.hid (HhP.out.on HB.out)
  generalize ((w.alloc (.cells #[.int .i64 x1, .int .i64 x2, .int .i64 x3, .int .i64 x4, .int .i64 x5, .string tx] 123)).alloc (.cells #[.int .i64 0, .bool false, .string ⟨#[]⟩, .slice none 0 0, .slice none 0 0] 30)) = w1 at *
  refine start_ (n := 19) (S := fun w' => True) (ds := []) #[false, false, false, false, false, false, false, false, false, false, false, false, false, false, false, false, false, false, false] (by kernel_rfl) rfl rfl trivial (fun hHeld => ?_)
  clear hHeld
  have hb : Below w1.heap.size w1 w1.drew := (Below.refl _ _).drew
  replace HB := Lib.hid (HB.out.trans (hb.mono HB.out.size))
  replace HR := Lib.hid (HR.out.on hb)
  replace HX := Lib.hid (HX.out.on hb)
  replace HhP := Lib.hid (HhP.out.on hb)
  clear hb
  generalize w1.drew = c at *
  refine inv_ (B := [0, 1, 3, 7, 7, 23, 0, 64, 215, 471, 471, 1495, 0, 4096, 13783, 30167, 65535, 131071, 262143]) [0, 1, 2, 3, 4, 5, 6, 7, 8, 9, 10, 11, 12, 13, 14, 15, 16, 17, 18] (ToldI _ (tl_pDiag (zNew c.heap.size) x1 x2 x3 x4 x5 tx w) 18 c _) rfl (by kernel_rfl) (by kernel_rfl) (by kernel_rfl) told_begin ?_ (told_end (by kernel_rfl))
  refine steps_cons (told_step 0 (tl_pDiag_ok (zNew c.heap.size) x1 x2 x3 x4 x5 tx w) (tl_pDiag_up (zNew c.heap.size) x1 x2 x3 x4 x5 tx w) rfl (by kernel_rfl) ?_) ?_
  · intro b V a w' ha hB hF hon
    refine ⟨_, rfl, rfl, fun K hK => ?_⟩
    have e1 : a.tmps[1]? = some (.pointer (some ⟨w.heap.size, 0, none⟩)) := by rw [ha]; exact (putSel_off (by rfl)).trans rfl
    refine value_ (w1 := w') (v := .pointer (some ⟨w.heap.size, 0, none⟩)) rfl rfl ?_ (hK _ _ (Below.refl _ _) rfl)
    clear ha hF hon hK K
    go_simp
    all_goals first | rfl | (constructor <;> rfl)
  refine steps_cons (told_step 1 (tl_pDiag_ok (zNew c.heap.size) x1 x2 x3 x4 x5 tx w) (tl_pDiag_up (zNew c.heap.size) x1 x2 x3 x4 x5 tx w) rfl (by kernel_rfl) ?_) ?_
  · intro b V a w' ha hB hF hon
    refine ⟨_, rfl, rfl, fun K hK => ?_⟩
    have e3 := told_get 0 (tl_pDiag_ok (zNew c.heap.size) x1 x2 x3 x4 x5 tx w) rfl ha (hon 0 (by kernel_rfl)) (by kernel_rfl)
    have F3 : V 0 = .pointer (some ⟨w.heap.size, 0, none⟩) := told_fact 0 hF rfl (hon 0 (by kernel_rfl))
    rw [F3] at e3
    have hg := HX.out.on hB
    have y0 := hg.c 0 rfl
    have y1 := hg.c 1 rfl
    have y2 := hg.c 2 rfl
    have y3 := hg.c 3 rfl
    clear hg
    refine value_ (w1 := w') (v := .agg #[.int .i64 x1, .int .i64 x2, .int .i64 x3, .int .i64 x4]) rfl rfl ?_ (hK _ _ (Below.refl _ _) rfl)
    clear ha hF hon hK K
    go_simp
    all_goals first | rfl | (constructor <;> rfl)
  refine steps_cons (told_step 2 (tl_pDiag_ok (zNew c.heap.size) x1 x2 x3 x4 x5 tx w) (tl_pDiag_up (zNew c.heap.size) x1 x2 x3 x4 x5 tx w) rfl (by kernel_rfl) ?_) ?_
  · intro b V a w' ha hB hF hon
    refine ⟨_, rfl, rfl, fun K hK => ?_⟩
    have e4 := told_get 1 (tl_pDiag_ok (zNew c.heap.size) x1 x2 x3 x4 x5 tx w) rfl ha (hon 1 (by kernel_rfl)) (by kernel_rfl)
    have F4 : V 1 = .agg #[.int .i64 x1, .int .i64 x2, .int .i64 x3, .int .i64 x4] := told_fact 1 hF rfl (hon 1 (by kernel_rfl))
    rw [F4] at e4
    refine goes_ Tryz.func37 (by kernel_rfl) rfl #[.agg #[.int .i64 x1, .int .i64 x2, .int .i64 x3, .int .i64 x4]] rfl rfl rfl (by simp only [List.map_toArray, List.map_cons, List.map_nil, Act.eval, Array.getD_eq_getD_getElem?, e4, Option.getD_some]) ?_
    refine ((pRange x1 x2 x3 x4 w' Hia.out Hib.out Hic.out Hid'.out (HhP.out.on hB)).mono (fun _ _ h => h.mk hB.size)).mono ?_
    rintro e w'' ⟨v, rfl, hv, hb⟩
    exact ⟨v, rfl, hK v w'' hb hv⟩
  refine steps_cons (told_step 3 (tl_pDiag_ok (zNew c.heap.size) x1 x2 x3 x4 x5 tx w) (tl_pDiag_up (zNew c.heap.size) x1 x2 x3 x4 x5 tx w) rfl (by kernel_rfl) ?_) ?_
  · intro b V a w' ha hB hF hon
    refine ⟨_, rfl, rfl, fun K hK => ?_⟩
    have e5 := told_get 2 (tl_pDiag_ok (zNew c.heap.size) x1 x2 x3 x4 x5 tx w) rfl ha (hon 2 (by kernel_rfl)) (by kernel_rfl)
    have F5 := told_fact 2 hF rfl (hon 2 (by kernel_rfl))
    obtain ⟨k_5, i_5, x_5, A_5, n_5, c_5, B_5, m_5, d_5, hv5⟩ := VAL.shape F5
    rw [hv5] at e5 F5
    refine value_ (w1 := w') (v := .agg #[.string ⟨#[114, 97, 110, 103, 101]⟩, .int .i64 k_5, .bool i_5, .string x_5, .slice A_5 n_5 c_5, .slice B_5 m_5 d_5]) rfl rfl ?_ (hK _ _ (Below.refl _ _) ⟨_, _, _, _, _, rfl, F5⟩)
    clear ha hF hon hK K
    go_simp
    all_goals first | rfl | (constructor <;> rfl)
  refine steps_cons (told_step 4 (tl_pDiag_ok (zNew c.heap.size) x1 x2 x3 x4 x5 tx w) (tl_pDiag_up (zNew c.heap.size) x1 x2 x3 x4 x5 tx w) rfl (by kernel_rfl) ?_) ?_
  · intro b V a w' ha hB hF hon
    refine ⟨_, rfl, rfl, fun K hK => ?_⟩
    refine goes_ Tryz.func89 (by kernel_rfl) rfl #[.int .i64 1] rfl rfl rfl (by simp only [List.map_toArray, List.map_cons, List.map_nil, Act.eval, Array.getD_eq_getD_getElem?, Option.getD_some]) ?_
    refine ((vNumber 1 w' (by unfold I64; omega) (HhP.out.on hB)).mono (fun _ _ h => h.mk hB.size)).mono ?_
    rintro e w'' ⟨v, rfl, hv, hb⟩
    exact ⟨v, rfl, hK v w'' hb hv⟩
  refine steps_cons (told_step 5 (tl_pDiag_ok (zNew c.heap.size) x1 x2 x3 x4 x5 tx w) (tl_pDiag_up (zNew c.heap.size) x1 x2 x3 x4 x5 tx w) rfl (by kernel_rfl) ?_) ?_
  · intro b V a w' ha hB hF hon
    refine ⟨_, rfl, rfl, fun K hK => ?_⟩
    have e7 := told_get 4 (tl_pDiag_ok (zNew c.heap.size) x1 x2 x3 x4 x5 tx w) rfl ha (hon 4 (by kernel_rfl)) (by kernel_rfl)
    have F7 := told_fact 4 hF rfl (hon 4 (by kernel_rfl))
    obtain ⟨k_7, i_7, x_7, A_7, n_7, c_7, B_7, m_7, d_7, hv7⟩ := VAL.shape F7
    rw [hv7] at e7 F7
    refine value_ (w1 := w') (v := .agg #[.string ⟨#[115, 101, 118, 101, 114, 105, 116, 121]⟩, .int .i64 k_7, .bool i_7, .string x_7, .slice A_7 n_7 c_7, .slice B_7 m_7 d_7]) rfl rfl ?_ (hK _ _ (Below.refl _ _) ⟨_, _, _, _, _, rfl, F7⟩)
    clear ha hF hon hK K
    go_simp
    all_goals first | rfl | (constructor <;> rfl)
  refine steps_cons (told_step 6 (tl_pDiag_ok (zNew c.heap.size) x1 x2 x3 x4 x5 tx w) (tl_pDiag_up (zNew c.heap.size) x1 x2 x3 x4 x5 tx w) rfl (by kernel_rfl) ?_) ?_
  · intro b V a w' ha hB hF hon
    refine ⟨_, rfl, rfl, fun K hK => ?_⟩
    have e1 : a.tmps[1]? = some (.pointer (some ⟨w.heap.size, 0, none⟩)) := by rw [ha]; exact (putSel_off (by rfl)).trans rfl
    refine value_ (w1 := w') (v := .pointer (some ⟨w.heap.size, 4, none⟩)) rfl rfl ?_ (hK _ _ (Below.refl _ _) rfl)
    clear ha hF hon hK K
    go_simp
    all_goals first | rfl | (constructor <;> rfl)
  refine steps_cons (told_step 7 (tl_pDiag_ok (zNew c.heap.size) x1 x2 x3 x4 x5 tx w) (tl_pDiag_up (zNew c.heap.size) x1 x2 x3 x4 x5 tx w) rfl (by kernel_rfl) ?_) ?_
  · intro b V a w' ha hB hF hon
    refine ⟨_, rfl, rfl, fun K hK => ?_⟩
    have e9 := told_get 6 (tl_pDiag_ok (zNew c.heap.size) x1 x2 x3 x4 x5 tx w) rfl ha (hon 6 (by kernel_rfl)) (by kernel_rfl)
    have F9 : V 6 = .pointer (some ⟨w.heap.size, 4, none⟩) := told_fact 6 hF rfl (hon 6 (by kernel_rfl))
    rw [F9] at e9
    have hg := HX.out.on hB
    have y4 := hg.c 4 rfl
    clear hg
    refine value_ (w1 := w') (v := .int .i64 x5) rfl rfl ?_ (hK _ _ (Below.refl _ _) rfl)
    clear ha hF hon hK K
    go_simp
    all_goals first | rfl | (constructor <;> rfl)
  refine steps_cons (told_step 8 (tl_pDiag_ok (zNew c.heap.size) x1 x2 x3 x4 x5 tx w) (tl_pDiag_up (zNew c.heap.size) x1 x2 x3 x4 x5 tx w) rfl (by kernel_rfl) ?_) ?_
  · intro b V a w' ha hB hF hon
    refine ⟨_, rfl, rfl, fun K hK => ?_⟩
    have e10 := told_get 7 (tl_pDiag_ok (zNew c.heap.size) x1 x2 x3 x4 x5 tx w) rfl ha (hon 7 (by kernel_rfl)) (by kernel_rfl)
    have F10 : V 7 = .int .i64 x5 := told_fact 7 hF rfl (hon 7 (by kernel_rfl))
    rw [F10] at e10
    refine goes_ Tryz.func89 (by kernel_rfl) rfl #[.int .i64 x5] rfl rfl rfl (by simp only [List.map_toArray, List.map_cons, List.map_nil, Act.eval, Array.getD_eq_getD_getElem?, e10, Option.getD_some]) ?_
    refine ((vNumber x5 w' Hik.out (HhP.out.on hB)).mono (fun _ _ h => h.mk hB.size)).mono ?_
    rintro e w'' ⟨v, rfl, hv, hb⟩
    exact ⟨v, rfl, hK v w'' hb hv⟩
  refine steps_cons (told_step 9 (tl_pDiag_ok (zNew c.heap.size) x1 x2 x3 x4 x5 tx w) (tl_pDiag_up (zNew c.heap.size) x1 x2 x3 x4 x5 tx w) rfl (by kernel_rfl) ?_) ?_
  · intro b V a w' ha hB hF hon
    refine ⟨_, rfl, rfl, fun K hK => ?_⟩
    have e11 := told_get 8 (tl_pDiag_ok (zNew c.heap.size) x1 x2 x3 x4 x5 tx w) rfl ha (hon 8 (by kernel_rfl)) (by kernel_rfl)
    have F11 := told_fact 8 hF rfl (hon 8 (by kernel_rfl))
    obtain ⟨k_11, i_11, x_11, A_11, n_11, c_11, B_11, m_11, d_11, hv11⟩ := VAL.shape F11
    rw [hv11] at e11 F11
    refine value_ (w1 := w') (v := .agg #[.string ⟨#[99, 111, 100, 101]⟩, .int .i64 k_11, .bool i_11, .string x_11, .slice A_11 n_11 c_11, .slice B_11 m_11 d_11]) rfl rfl ?_ (hK _ _ (Below.refl _ _) ⟨_, _, _, _, _, rfl, F11⟩)
    clear ha hF hon hK K
    go_simp
    all_goals first | rfl | (constructor <;> rfl)
  refine steps_cons (told_step 10 (tl_pDiag_ok (zNew c.heap.size) x1 x2 x3 x4 x5 tx w) (tl_pDiag_up (zNew c.heap.size) x1 x2 x3 x4 x5 tx w) rfl (by kernel_rfl) ?_) ?_
  · intro b V a w' ha hB hF hon
    refine ⟨_, rfl, rfl, fun K hK => ?_⟩
    refine goes_ Tryz.func90 (by kernel_rfl) rfl #[.string ⟨#[99, 111, 108, 111, 112, 104, 111, 110]⟩] rfl rfl rfl (by simp only [List.map_toArray, List.map_cons, List.map_nil, Act.eval, Array.getD_eq_getD_getElem?, Option.getD_some]) ?_
    refine ((vText ⟨#[99, 111, 108, 111, 112, 104, 111, 110]⟩ w').mono (fun _ _ h => h.mk hB.size)).mono ?_
    rintro e w'' ⟨v, rfl, hv, hb⟩
    exact ⟨v, rfl, hK v w'' hb hv⟩
  refine steps_cons (told_step 11 (tl_pDiag_ok (zNew c.heap.size) x1 x2 x3 x4 x5 tx w) (tl_pDiag_up (zNew c.heap.size) x1 x2 x3 x4 x5 tx w) rfl (by kernel_rfl) ?_) ?_
  · intro b V a w' ha hB hF hon
    refine ⟨_, rfl, rfl, fun K hK => ?_⟩
    have e13 := told_get 10 (tl_pDiag_ok (zNew c.heap.size) x1 x2 x3 x4 x5 tx w) rfl ha (hon 10 (by kernel_rfl)) (by kernel_rfl)
    have F13 := told_fact 10 hF rfl (hon 10 (by kernel_rfl))
    obtain ⟨k_13, i_13, x_13, A_13, n_13, c_13, B_13, m_13, d_13, hv13⟩ := VAL.shape F13
    rw [hv13] at e13 F13
    refine value_ (w1 := w') (v := .agg #[.string ⟨#[115, 111, 117, 114, 99, 101]⟩, .int .i64 k_13, .bool i_13, .string x_13, .slice A_13 n_13 c_13, .slice B_13 m_13 d_13]) rfl rfl ?_ (hK _ _ (Below.refl _ _) ⟨_, _, _, _, _, rfl, F13⟩)
    clear ha hF hon hK K
    go_simp
    all_goals first | rfl | (constructor <;> rfl)
  refine steps_cons (told_step 12 (tl_pDiag_ok (zNew c.heap.size) x1 x2 x3 x4 x5 tx w) (tl_pDiag_up (zNew c.heap.size) x1 x2 x3 x4 x5 tx w) rfl (by kernel_rfl) ?_) ?_
  · intro b V a w' ha hB hF hon
    refine ⟨_, rfl, rfl, fun K hK => ?_⟩
    have e1 : a.tmps[1]? = some (.pointer (some ⟨w.heap.size, 0, none⟩)) := by rw [ha]; exact (putSel_off (by rfl)).trans rfl
    refine value_ (w1 := w') (v := .pointer (some ⟨w.heap.size, 5, none⟩)) rfl rfl ?_ (hK _ _ (Below.refl _ _) rfl)
    clear ha hF hon hK K
    go_simp
    all_goals first | rfl | (constructor <;> rfl)
  refine steps_cons (told_step 13 (tl_pDiag_ok (zNew c.heap.size) x1 x2 x3 x4 x5 tx w) (tl_pDiag_up (zNew c.heap.size) x1 x2 x3 x4 x5 tx w) rfl (by kernel_rfl) ?_) ?_
  · intro b V a w' ha hB hF hon
    refine ⟨_, rfl, rfl, fun K hK => ?_⟩
    have e15 := told_get 12 (tl_pDiag_ok (zNew c.heap.size) x1 x2 x3 x4 x5 tx w) rfl ha (hon 12 (by kernel_rfl)) (by kernel_rfl)
    have F15 : V 12 = .pointer (some ⟨w.heap.size, 5, none⟩) := told_fact 12 hF rfl (hon 12 (by kernel_rfl))
    rw [F15] at e15
    have hg := HX.out.on hB
    have y5 := hg.c 5 rfl
    clear hg
    refine value_ (w1 := w') (v := .string tx) rfl rfl ?_ (hK _ _ (Below.refl _ _) rfl)
    clear ha hF hon hK K
    go_simp
    all_goals first | rfl | (constructor <;> rfl)
  refine steps_cons (told_step 14 (tl_pDiag_ok (zNew c.heap.size) x1 x2 x3 x4 x5 tx w) (tl_pDiag_up (zNew c.heap.size) x1 x2 x3 x4 x5 tx w) rfl (by kernel_rfl) ?_) ?_
  · intro b V a w' ha hB hF hon
    refine ⟨_, rfl, rfl, fun K hK => ?_⟩
    have e16 := told_get 13 (tl_pDiag_ok (zNew c.heap.size) x1 x2 x3 x4 x5 tx w) rfl ha (hon 13 (by kernel_rfl)) (by kernel_rfl)
    have F16 : V 13 = .string tx := told_fact 13 hF rfl (hon 13 (by kernel_rfl))
    rw [F16] at e16
    refine goes_ Tryz.func90 (by kernel_rfl) rfl #[.string tx] rfl rfl rfl (by simp only [List.map_toArray, List.map_cons, List.map_nil, Act.eval, Array.getD_eq_getD_getElem?, e16, Option.getD_some]) ?_
    refine ((vText tx w').mono (fun _ _ h => h.mk hB.size)).mono ?_
    rintro e w'' ⟨v, rfl, hv, hb⟩
    exact ⟨v, rfl, hK v w'' hb hv⟩
  refine steps_cons (told_step 15 (tl_pDiag_ok (zNew c.heap.size) x1 x2 x3 x4 x5 tx w) (tl_pDiag_up (zNew c.heap.size) x1 x2 x3 x4 x5 tx w) rfl (by kernel_rfl) ?_) ?_
  · intro b V a w' ha hB hF hon
    refine ⟨_, rfl, rfl, fun K hK => ?_⟩
    have e17 := told_get 14 (tl_pDiag_ok (zNew c.heap.size) x1 x2 x3 x4 x5 tx w) rfl ha (hon 14 (by kernel_rfl)) (by kernel_rfl)
    have F17 := told_fact 14 hF rfl (hon 14 (by kernel_rfl))
    obtain ⟨k_17, i_17, x_17, A_17, n_17, c_17, B_17, m_17, d_17, hv17⟩ := VAL.shape F17
    rw [hv17] at e17 F17
    refine value_ (w1 := w') (v := .agg #[.string ⟨#[109, 101, 115, 115, 97, 103, 101]⟩, .int .i64 k_17, .bool i_17, .string x_17, .slice A_17 n_17 c_17, .slice B_17 m_17 d_17]) rfl rfl ?_ (hK _ _ (Below.refl _ _) ⟨_, _, _, _, _, rfl, F17⟩)
    clear ha hF hon hK K
    go_simp
    all_goals first | rfl | (constructor <;> rfl)
  refine steps_cons (told_step 16 (tl_pDiag_ok (zNew c.heap.size) x1 x2 x3 x4 x5 tx w) (tl_pDiag_up (zNew c.heap.size) x1 x2 x3 x4 x5 tx w) rfl (by kernel_rfl) ?_) ?_
  · intro b V a w' ha hB hF hon
    refine ⟨_, rfl, rfl, fun K hK => ?_⟩
    have e6 := told_get 3 (tl_pDiag_ok (zNew c.heap.size) x1 x2 x3 x4 x5 tx w) rfl ha (hon 3 (by kernel_rfl)) (by kernel_rfl)
    have F6 := told_fact 3 hF rfl (hon 3 (by kernel_rfl))
    obtain ⟨p0, p1, p2, p3, p4, hv6, G6⟩ := F6
    obtain ⟨k_6, i_6, x_6, A_6, n_6, c_6, B_6, m_6, d_6, hw6⟩ := VAL.shape G6
    injection hw6 with hw6
    injection hw6 with hw6
    injection hw6 with z0 hw6; injection hw6 with z1 hw6; injection hw6 with z2 hw6; injection hw6 with z3 hw6; injection hw6 with z4 hw6
    subst z0; subst z1; subst z2; subst z3; subst z4
    rw [hv6] at e6
    have e8 := told_get 5 (tl_pDiag_ok (zNew c.heap.size) x1 x2 x3 x4 x5 tx w) rfl ha (hon 5 (by kernel_rfl)) (by kernel_rfl)
    have F8 := told_fact 5 hF rfl (hon 5 (by kernel_rfl))
    obtain ⟨p0, p1, p2, p3, p4, hv8, G8⟩ := F8
    obtain ⟨k_8, i_8, x_8, A_8, n_8, c_8, B_8, m_8, d_8, hw8⟩ := VAL.shape G8
    injection hw8 with hw8
    injection hw8 with hw8
    injection hw8 with z0 hw8; injection hw8 with z1 hw8; injection hw8 with z2 hw8; injection hw8 with z3 hw8; injection hw8 with z4 hw8
    subst z0; subst z1; subst z2; subst z3; subst z4
    rw [hv8] at e8
    have e12 := told_get 9 (tl_pDiag_ok (zNew c.heap.size) x1 x2 x3 x4 x5 tx w) rfl ha (hon 9 (by kernel_rfl)) (by kernel_rfl)
    have F12 := told_fact 9 hF rfl (hon 9 (by kernel_rfl))
    obtain ⟨p0, p1, p2, p3, p4, hv12, G12⟩ := F12
    obtain ⟨k_12, i_12, x_12, A_12, n_12, c_12, B_12, m_12, d_12, hw12⟩ := VAL.shape G12
    injection hw12 with hw12
    injection hw12 with hw12
    injection hw12 with z0 hw12; injection hw12 with z1 hw12; injection hw12 with z2 hw12; injection hw12 with z3 hw12; injection hw12 with z4 hw12
    subst z0; subst z1; subst z2; subst z3; subst z4
    rw [hv12] at e12
    have e14 := told_get 11 (tl_pDiag_ok (zNew c.heap.size) x1 x2 x3 x4 x5 tx w) rfl ha (hon 11 (by kernel_rfl)) (by kernel_rfl)
    have F14 := told_fact 11 hF rfl (hon 11 (by kernel_rfl))
    obtain ⟨p0, p1, p2, p3, p4, hv14, G14⟩ := F14
    obtain ⟨k_14, i_14, x_14, A_14, n_14, c_14, B_14, m_14, d_14, hw14⟩ := VAL.shape G14
    injection hw14 with hw14
    injection hw14 with hw14
    injection hw14 with z0 hw14; injection hw14 with z1 hw14; injection hw14 with z2 hw14; injection hw14 with z3 hw14; injection hw14 with z4 hw14
    subst z0; subst z1; subst z2; subst z3; subst z4
    rw [hv14] at e14
    have e18 := told_get 15 (tl_pDiag_ok (zNew c.heap.size) x1 x2 x3 x4 x5 tx w) rfl ha (hon 15 (by kernel_rfl)) (by kernel_rfl)
    have F18 := told_fact 15 hF rfl (hon 15 (by kernel_rfl))
    obtain ⟨p0, p1, p2, p3, p4, hv18, G18⟩ := F18
    obtain ⟨k_18, i_18, x_18, A_18, n_18, c_18, B_18, m_18, d_18, hw18⟩ := VAL.shape G18
    injection hw18 with hw18
    injection hw18 with hw18
    injection hw18 with z0 hw18; injection hw18 with z1 hw18; injection hw18 with z2 hw18; injection hw18 with z3 hw18; injection hw18 with z4 hw18
    subst z0; subst z1; subst z2; subst z3; subst z4
    rw [hv18] at e18
    refine value_ (w1 := w'.alloc (.cells #[.string ⟨#[114, 97, 110, 103, 101]⟩, .int .i64 k_6, .bool i_6, .string x_6, .slice A_6 n_6 c_6, .slice B_6 m_6 d_6, .string ⟨#[115, 101, 118, 101, 114, 105, 116, 121]⟩, .int .i64 k_8, .bool i_8, .string x_8, .slice A_8 n_8 c_8, .slice B_8 m_8 d_8, .string ⟨#[99, 111, 100, 101]⟩, .int .i64 k_12, .bool i_12, .string x_12, .slice A_12 n_12 c_12, .slice B_12 m_12 d_12, .string ⟨#[115, 111, 117, 114, 99, 101]⟩, .int .i64 k_14, .bool i_14, .string x_14, .slice A_14 n_14 c_14, .slice B_14 m_14 d_14, .string ⟨#[109, 101, 115, 115, 97, 103, 101]⟩, .int .i64 k_18, .bool i_18, .string x_18, .slice A_18 n_18 c_18, .slice B_18 m_18 d_18] 112)) (v := .slice (some ⟨w'.heap.size, 0, none⟩) 5 5) rfl rfl ?_ (hK _ _ ((Below.refl _ _).alloc (Nat.le_refl _) _) (PSV_new _ _ _ _ _ (PRC.cons G6 (PRC.cons G8 (PRC.cons G12 (PRC.cons G14 (PRC.cons G18 (PRC.nil _ _)))))) (zNew_alloc hB.size)))
    clear ha hF hon hK K
    go_simp
    all_goals first | rfl | (constructor <;> rfl)
  refine steps_cons (told_step 17 (tl_pDiag_ok (zNew c.heap.size) x1 x2 x3 x4 x5 tx w) (tl_pDiag_up (zNew c.heap.size) x1 x2 x3 x4 x5 tx w) rfl (by kernel_rfl) ?_) ?_
  · intro b V a w' ha hB hF hon
    refine ⟨_, rfl, rfl, fun K hK => ?_⟩
    have e19 := told_get 16 (tl_pDiag_ok (zNew c.heap.size) x1 x2 x3 x4 x5 tx w) rfl ha (hon 16 (by kernel_rfl)) (by kernel_rfl)
    have F19 := told_fact 16 hF rfl (hon 16 (by kernel_rfl))
    refine goes_ Tryz.func81 (by kernel_rfl) rfl #[V 16] rfl rfl rfl (by simp only [List.map_toArray, List.map_cons, List.map_nil, Act.eval, Array.getD_eq_getD_getElem?, e19, Option.getD_some]) ?_
    refine (pObject_any [(⟨#[114, 97, 110, 103, 101]⟩, (rangeT x1 x2 x3 x4)), (⟨#[115, 101, 118, 101, 114, 105, 116, 121]⟩, (nbT 1)), (⟨#[99, 111, 100, 101]⟩, (nbT x5)), (⟨#[115, 111, 117, 114, 99, 101]⟩, (txT ⟨#[99, 111, 108, 111, 112, 104, 111, 110]⟩)), (⟨#[109, 101, 115, 115, 97, 103, 101]⟩, (txT tx))] w' _ hB.size F19 (Nat.le_of_ble_eq_true rfl)).mono ?_
    rintro e w'' ⟨v, rfl, hv, hb⟩
    exact ⟨v, rfl, hK v w'' hb hv⟩
  refine steps_cons (told_last ?_ ?_) steps_nil
  · intro e he; simp only [tl_pDiag, List.mem_cons, List.mem_nil_iff, or_false] at he; rcases he with rfl | rfl | rfl | rfl | rfl | rfl | rfl | rfl | rfl | rfl | rfl | rfl | rfl | rfl | rfl | rfl | rfl | rfl <;> kernel_rfl
  intro V a w' ha hB hF
  refine ⟨_, rfl, rfl, fun K hK => ?_⟩
  have e20 := told_get 17 (tl_pDiag_ok (zNew c.heap.size) x1 x2 x3 x4 x5 tx w) rfl ha rfl (by kernel_rfl)
  have F20 := hF _ (List.mem_of_getElem? (i := 17) rfl)
  obtain ⟨k_20, i_20, x_20, A_20, n_20, c_20, B_20, m_20, d_20, hv20⟩ := VAL.shape F20
  rw [hv20] at e20 F20
  have e2 : a.tmps[2]? = some (.pointer (some ⟨w.heap.size + 1, 0, none⟩)) := by rw [ha]; exact (putSel_off (by rfl)).trans rfl
  have hg := HR.out.on hB
  have f0 := hg.fr 0
  have y0 := hg.c0
  have f1 := hg.fr 1
  have y1 := hg.c1
  have f2 := hg.fr 2
  have y2 := hg.c2
  have f3 := hg.fr 3
  have y3 := hg.c3
  have f4 := hg.fr 4
  have y4 := hg.c4
  refine skip_ (w1 := five w' (w.heap.size + 1) (.int .i64 k_20) (.bool i_20) (.string x_20) (.slice A_20 n_20 c_20) (.slice B_20 m_20 d_20)) rfl rfl ?_ (hK _ _ ?_)
  · clear ha hF hK K
    go_simp
    all_goals first | rfl | (constructor <;> rfl)
  clear hK K hF e20 e2 f0 y0 f1 y1 f2 y2 f3 y3 f4 y4
  have hres : BX (five w' (w.heap.size + 1) (.int .i64 k_20) (.bool i_20) (.string x_20) (.slice A_20 n_20 c_20) (.slice B_20 m_20 d_20)) (w.heap.size + 1) (.int .i64 k_20) (.bool i_20) (.string x_20) (.slice A_20 n_20 c_20) (.slice B_20 m_20 d_20) := hg.put (.int .i64 k_20) (.bool i_20) (.string x_20) (.slice A_20 n_20 c_20) (.slice B_20 m_20 d_20)
  have r0 := hres.c0
  have r1 := hres.c1
  have r2 := hres.c2
  have r3 := hres.c3
  have r4 := hres.c4
  have HF := Lib.hid F20
  have HB' := Lib.hid hB
  clear hres hg F20 hB
  rw [ha]
  clear ha
  simp only [tl_pDiag, Tolds.put, List.map_cons, List.map_nil, putSel, if_true, Act.put, List.setIfInBounds_toArray, List.set_cons_zero, List.set_cons_succ, hv20]
  clear hv20
  generalize V 0 = u0
  generalize V 1 = u1
  generalize V 2 = u2
  generalize V 3 = u3
  generalize V 4 = u4
  generalize V 5 = u5
  generalize V 6 = u6
  generalize V 7 = u7
  generalize V 8 = u8
  generalize V 9 = u9
  generalize V 10 = u10
  generalize V 11 = u11
  generalize V 12 = u12
  generalize V 13 = u13
  generalize V 14 = u14
  generalize V 15 = u15
  generalize V 16 = u16
  try clear V
  go_wp2
  exact bodyPost_ret (v := .agg #[.int .i64 k_20, .bool i_20, .string x_20, .slice A_20 n_20 c_20, .slice B_20 m_20 d_20]) (by simp [results, Tryz.results92, go_sem, r0, r1, r2, r3, r4]) rfl ⟨_, rfl, five_New HF.out (fun b hb => ⟨Nat.le_trans HB.out.size hb.1, hb.2, by have := HR.out.lt; have := hb.1; omega⟩), five_below (HB.out.trans (HB'.out.mono HB.out.size)) _ _ _ _ _ _ (by omega)⟩

end Go.Proofs.YthndgekjccclnaaGreatDoor
