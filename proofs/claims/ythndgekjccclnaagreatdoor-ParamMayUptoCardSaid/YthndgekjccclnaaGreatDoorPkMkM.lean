/-
  Joined texts: MkFold.
-/
import Derived.Test.YthndgekjccclnaaGreatDoorPkMkG
import Derived.Test.YthndgekjccclnaaGreatDoorPkMkI
namespace Go.Proofs.YthndgekjccclnaaGreatDoor
open Go.RowKit Val Num Go.Proofs.YthndgekjccclnaaGreatDoorW.PrintLast
set_option linter.unusedVariables false
set_option linter.unusedSimpArgs false

/-- a fold -/
structure Fd where
  a : Int
  b : Int
def Fd.enc (x : Fd) : List Value := [.int .i64 x.a, .int .i64 x.b]
def Fd.ok (x : Fd) : Prop := I64 x.a ∧ I64 x.b
def startLN : ByteArray := ⟨#[115, 116, 97, 114, 116, 76, 105, 110, 101]⟩
def endLN : ByteArray := ⟨#[101, 110, 100, 76, 105, 110, 101]⟩
def foldT (a b : Int) : VT := obT [startLN, endLN] [nbT a, nbT b]
def Fd.tree (x : Fd) : VT := foldT x.a x.b
theorem foldT_bulk (a b : Int) (ha : I64 a) (hb : I64 b) : (foldT a b).bulk ≤ 100 := by
  have := nbT_bulk a ha
  have := nbT_bulk b hb
  show 1 + 0 + 2 + 2 + (9 + (7 + 0)) + (0 + (nbT a).bulk + (nbT b).bulk) ≤ 100
  omega
def tl_pFold (z : Zone) (x1 x2 : Int) (w : World) : Tolds := [(0, 3, fun _ v => v = .pointer (some ⟨w.heap.size, 0, none⟩)), (1, 4, fun _ v => v = .int .i64 x1), (2, 5, VLV z (nbT x1)), (3, 6, PRV z (⟨#[115, 116, 97, 114, 116, 76, 105, 110, 101]⟩, (nbT x1))), (4, 7, fun _ v => v = .pointer (some ⟨w.heap.size, 1, none⟩)), (5, 8, fun _ v => v = .int .i64 x2), (6, 9, VLV z (nbT x2)), (7, 10, PRV z (⟨#[101, 110, 100, 76, 105, 110, 101]⟩, (nbT x2))), (8, 11, PSV z [(⟨#[115, 116, 97, 114, 116, 76, 105, 110, 101]⟩, (nbT x1)), (⟨#[101, 110, 100, 76, 105, 110, 101]⟩, (nbT x2))]), (9, 12, VLV z (obT [⟨#[115, 116, 97, 114, 116, 76, 105, 110, 101]⟩, ⟨#[101, 110, 100, 76, 105, 110, 101]⟩] [(nbT x1), (nbT x2)]))]
theorem tl_pFold_ok (z : Zone) (x1 x2 : Int) (w : World) : (tl_pFold z x1 x2 w).ok 10 = true := by kernel_rfl
theorem tl_pFold_up (z : Zone) (x1 x2 : Int) (w : World) : (tl_pFold z x1 x2 w).up := (tup_cons (fun _ _ _ h _ => h) (tup_cons (fun _ _ _ h _ => h) (tup_cons (fun _ _ _ h hb => VLV.up h hb) (tup_cons (fun _ _ _ h hb => PRV.up h hb) (tup_cons (fun _ _ _ h _ => h) (tup_cons (fun _ _ _ h _ => h) (tup_cons (fun _ _ _ h hb => VLV.up h hb) (tup_cons (fun _ _ _ h hb => PRV.up h hb) (tup_cons (fun _ _ _ h hb => PSV.up h hb) (tup_cons (fun _ _ _ h hb => VLV.up h hb) tup_nil))))))))))
set_option maxRecDepth 100000 in
set_option maxHeartbeats 4000000 in
theorem pFold (x1 x2 : Int) (w : World) (ia : I64 x1) (ib : I64 x2) (hP : PTab w) : Calls Tryz.prog 88 #[.agg #[.int .i64 x1, .int .i64 x2]] w (Copied (foldT x1 x2) w) := by
  have Hia := Lib.hid ia
  have Hib := Lib.hid ib
  have HhP := Lib.hid hP
  clear ia ib hP
  go_enter Tryz.func88, Tryz.ntmps88
  go_wp2_with fail
  have HB : Hid (Below w.heap.size w ((w.alloc (.cells #[.int .i64 x1, .int .i64 x2] 76)).alloc (.cells #[.int .i64 0, .bool false, .string ⟨#[]⟩, .slice none 0 0, .slice none 0 0] 30))) := Lib.hid (al2_below w _ _)
  have HX : Hid (BK ((w.alloc (.cells #[.int .i64 x1, .int .i64 x2] 76)).alloc (.cells #[.int .i64 0, .bool false, .string ⟨#[]⟩, .slice none 0 0, .slice none 0 0] 30)) w.heap.size 76 #[.int .i64 x1, .int .i64 x2]) := Lib.hid (al2_0 w _ _)
  have HR : Hid (BX ((w.alloc (.cells #[.int .i64 x1, .int .i64 x2] 76)).alloc (.cells #[.int .i64 0, .bool false, .string ⟨#[]⟩, .slice none 0 0, .slice none 0 0] 30)) (w.heap.size + 1) (.int .i64 0) (.bool false) (.string ⟨#[]⟩) (.slice none 0 0) (.slice none 0 0)) := Lib.hid (al2_1 w _ _)
  replace HhP := Lib.hid (HhP.out.on HB.out)
  generalize ((w.alloc (.cells #[.int .i64 x1, .int .i64 x2] 76)).alloc (.cells #[.int .i64 0, .bool false, .string ⟨#[]⟩, .slice none 0 0, .slice none 0 0] 30)) = w1 at *
  refine start_ (n := 11) (S := fun w' => True) (ds := []) #[false, false, false, false, false, false, false, false, false, false, false] (by kernel_rfl) rfl rfl trivial (fun hHeld => ?_)
  clear hHeld
  have hb : Below w1.heap.size w1 w1.drew := (Below.refl _ _).drew
  replace HB := Lib.hid (HB.out.trans (hb.mono HB.out.size))
  replace HR := Lib.hid (HR.out.on hb)
  replace HX := Lib.hid (HX.out.on hb)
  replace HhP := Lib.hid (HhP.out.on hb)
  clear hb
  generalize w1.drew = c at *
  refine inv_ (B := [0, 1, 3, 7, 0, 16, 55, 119, 255, 511, 1023]) [0, 1, 2, 3, 4, 5, 6, 7, 8, 9, 10] (ToldI _ (tl_pFold (zNew c.heap.size) x1 x2 w) 10 c _) rfl (by kernel_rfl) (by kernel_rfl) (by kernel_rfl) told_begin ?_ (told_end (by kernel_rfl))
  refine steps_cons (told_step 0 (tl_pFold_ok (zNew c.heap.size) x1 x2 w) (tl_pFold_up (zNew c.heap.size) x1 x2 w) rfl (by kernel_rfl) ?_) ?_
  · intro b V a w' ha hB hF hon
    refine ⟨_, rfl, rfl, fun K hK => ?_⟩
    have e1 : a.tmps[1]? = some (.pointer (some ⟨w.heap.size, 0, none⟩)) := by rw [ha]; exact (putSel_off (by rfl)).trans rfl
    refine value_ (w1 := w') (v := .pointer (some ⟨w.heap.size, 0, none⟩)) rfl rfl ?_ (hK _ _ (Below.refl _ _) rfl)
    clear ha hF hon hK K
    go_simp
    all_goals first | rfl | (constructor <;> rfl)
  refine steps_cons (told_step 1 (tl_pFold_ok (zNew c.heap.size) x1 x2 w) (tl_pFold_up (zNew c.heap.size) x1 x2 w) rfl (by kernel_rfl) ?_) ?_
  · intro b V a w' ha hB hF hon
    refine ⟨_, rfl, rfl, fun K hK => ?_⟩
    have e3 := told_get 0 (tl_pFold_ok (zNew c.heap.size) x1 x2 w) rfl ha (hon 0 (by kernel_rfl)) (by kernel_rfl)
    have F3 : V 0 = .pointer (some ⟨w.heap.size, 0, none⟩) := told_fact 0 hF rfl (hon 0 (by kernel_rfl))
    rw [F3] at e3
    have hg := HX.out.on hB
    have y0 := hg.c 0 rfl
    clear hg
    refine value_ (w1 := w') (v := .int .i64 x1) rfl rfl ?_ (hK _ _ (Below.refl _ _) rfl)
    clear ha hF hon hK K
    go_simp
    all_goals first | rfl | (constructor <;> rfl)
  refine steps_cons (told_step 2 (tl_pFold_ok (zNew c.heap.size) x1 x2 w) (tl_pFold_up (zNew c.heap.size) x1 x2 w) rfl (by kernel_rfl) ?_) ?_
  · intro b V a w' ha hB hF hon
    refine ⟨_, rfl, rfl, fun K hK => ?_⟩
    have e4 := told_get 1 (tl_pFold_ok (zNew c.heap.size) x1 x2 w) rfl ha (hon 1 (by kernel_rfl)) (by kernel_rfl)
    have F4 : V 1 = .int .i64 x1 := told_fact 1 hF rfl (hon 1 (by kernel_rfl))
    rw [F4] at e4
    refine goes_ Tryz.func89 (by kernel_rfl) rfl #[.int .i64 x1] rfl rfl rfl (by simp only [List.map_toArray, List.map_cons, List.map_nil, Act.eval, Array.getD_eq_getD_getElem?, e4, Option.getD_some]) ?_
    refine ((vNumber x1 w' Hia.out (HhP.out.on hB)).mono (fun _ _ h => h.mk hB.size)).mono ?_
    rintro e w'' ⟨v, rfl, hv, hb⟩
    exact ⟨v, rfl, hK v w'' hb hv⟩
  refine steps_cons (told_step 3 (tl_pFold_ok (zNew c.heap.size) x1 x2 w) (tl_pFold_up (zNew c.heap.size) x1 x2 w) rfl (by kernel_rfl) ?_) ?_
  · intro b V a w' ha hB hF hon
    refine ⟨_, rfl, rfl, fun K hK => ?_⟩
    have e5 := told_get 2 (tl_pFold_ok (zNew c.heap.size) x1 x2 w) rfl ha (hon 2 (by kernel_rfl)) (by kernel_rfl)
    have F5 := told_fact 2 hF rfl (hon 2 (by kernel_rfl))
    obtain ⟨k_5, i_5, x_5, A_5, n_5, c_5, B_5, m_5, d_5, hv5⟩ := VAL.shape F5
    rw [hv5] at e5 F5
    refine value_ (w1 := w') (v := .agg #[.string ⟨#[115, 116, 97, 114, 116, 76, 105, 110, 101]⟩, .int .i64 k_5, .bool i_5, .string x_5, .slice A_5 n_5 c_5, .slice B_5 m_5 d_5]) rfl rfl ?_ (hK _ _ (Below.refl _ _) ⟨_, _, _, _, _, rfl, F5⟩)
    clear ha hF hon hK K
    go_simp
    all_goals first | rfl | (constructor <;> rfl)
  refine steps_cons (told_step 4 (tl_pFold_ok (zNew c.heap.size) x1 x2 w) (tl_pFold_up (zNew c.heap.size) x1 x2 w) rfl (by kernel_rfl) ?_) ?_
  · intro b V a w' ha hB hF hon
    refine ⟨_, rfl, rfl, fun K hK => ?_⟩
    have e1 : a.tmps[1]? = some (.pointer (some ⟨w.heap.size, 0, none⟩)) := by rw [ha]; exact (putSel_off (by rfl)).trans rfl
    refine value_ (w1 := w') (v := .pointer (some ⟨w.heap.size, 1, none⟩)) rfl rfl ?_ (hK _ _ (Below.refl _ _) rfl)
    clear ha hF hon hK K
    go_simp
    all_goals first | rfl | (constructor <;> rfl)
  refine steps_cons (told_step 5 (tl_pFold_ok (zNew c.heap.size) x1 x2 w) (tl_pFold_up (zNew c.heap.size) x1 x2 w) rfl (by kernel_rfl) ?_) ?_
  · intro b V a w' ha hB hF hon
    refine ⟨_, rfl, rfl, fun K hK => ?_⟩
    have e7 := told_get 4 (tl_pFold_ok (zNew c.heap.size) x1 x2 w) rfl ha (hon 4 (by kernel_rfl)) (by kernel_rfl)
    have F7 : V 4 = .pointer (some ⟨w.heap.size, 1, none⟩) := told_fact 4 hF rfl (hon 4 (by kernel_rfl))
    rw [F7] at e7
    have hg := HX.out.on hB
    have y1 := hg.c 1 rfl
    clear hg
    refine value_ (w1 := w') (v := .int .i64 x2) rfl rfl ?_ (hK _ _ (Below.refl _ _) rfl)
    clear ha hF hon hK K
    go_simp
    all_goals first | rfl | (constructor <;> rfl)
  refine steps_cons (told_step 6 (tl_pFold_ok (zNew c.heap.size) x1 x2 w) (tl_pFold_up (zNew c.heap.size) x1 x2 w) rfl (by kernel_rfl) ?_) ?_
  · intro b V a w' ha hB hF hon
    refine ⟨_, rfl, rfl, fun K hK => ?_⟩
    have e8 := told_get 5 (tl_pFold_ok (zNew c.heap.size) x1 x2 w) rfl ha (hon 5 (by kernel_rfl)) (by kernel_rfl)
    have F8 : V 5 = .int .i64 x2 := told_fact 5 hF rfl (hon 5 (by kernel_rfl))
    rw [F8] at e8
    refine goes_ Tryz.func89 (by kernel_rfl) rfl #[.int .i64 x2] rfl rfl rfl (by simp only [List.map_toArray, List.map_cons, List.map_nil, Act.eval, Array.getD_eq_getD_getElem?, e8, Option.getD_some]) ?_
    refine ((vNumber x2 w' Hib.out (HhP.out.on hB)).mono (fun _ _ h => h.mk hB.size)).mono ?_
    rintro e w'' ⟨v, rfl, hv, hb⟩
    exact ⟨v, rfl, hK v w'' hb hv⟩
  refine steps_cons (told_step 7 (tl_pFold_ok (zNew c.heap.size) x1 x2 w) (tl_pFold_up (zNew c.heap.size) x1 x2 w) rfl (by kernel_rfl) ?_) ?_
  · intro b V a w' ha hB hF hon
    refine ⟨_, rfl, rfl, fun K hK => ?_⟩
    have e9 := told_get 6 (tl_pFold_ok (zNew c.heap.size) x1 x2 w) rfl ha (hon 6 (by kernel_rfl)) (by kernel_rfl)
    have F9 := told_fact 6 hF rfl (hon 6 (by kernel_rfl))
    obtain ⟨k_9, i_9, x_9, A_9, n_9, c_9, B_9, m_9, d_9, hv9⟩ := VAL.shape F9
    rw [hv9] at e9 F9
    refine value_ (w1 := w') (v := .agg #[.string ⟨#[101, 110, 100, 76, 105, 110, 101]⟩, .int .i64 k_9, .bool i_9, .string x_9, .slice A_9 n_9 c_9, .slice B_9 m_9 d_9]) rfl rfl ?_ (hK _ _ (Below.refl _ _) ⟨_, _, _, _, _, rfl, F9⟩)
    clear ha hF hon hK K
    go_simp
    all_goals first | rfl | (constructor <;> rfl)
  refine steps_cons (told_step 8 (tl_pFold_ok (zNew c.heap.size) x1 x2 w) (tl_pFold_up (zNew c.heap.size) x1 x2 w) rfl (by kernel_rfl) ?_) ?_
  · intro b V a w' ha hB hF hon
    refine ⟨_, rfl, rfl, fun K hK => ?_⟩
    have e6 := told_get 3 (tl_pFold_ok (zNew c.heap.size) x1 x2 w) rfl ha (hon 3 (by kernel_rfl)) (by kernel_rfl)
    have F6 := told_fact 3 hF rfl (hon 3 (by kernel_rfl))
    obtain ⟨p0, p1, p2, p3, p4, hv6, G6⟩ := F6
    obtain ⟨k_6, i_6, x_6, A_6, n_6, c_6, B_6, m_6, d_6, hw6⟩ := VAL.shape G6
    injection hw6 with hw6
    injection hw6 with hw6
    injection hw6 with z0 hw6; injection hw6 with z1 hw6; injection hw6 with z2 hw6; injection hw6 with z3 hw6; injection hw6 with z4 hw6
    subst z0; subst z1; subst z2; subst z3; subst z4
    rw [hv6] at e6
    have e10 := told_get 7 (tl_pFold_ok (zNew c.heap.size) x1 x2 w) rfl ha (hon 7 (by kernel_rfl)) (by kernel_rfl)
    have F10 := told_fact 7 hF rfl (hon 7 (by kernel_rfl))
    obtain ⟨p0, p1, p2, p3, p4, hv10, G10⟩ := F10
    obtain ⟨k_10, i_10, x_10, A_10, n_10, c_10, B_10, m_10, d_10, hw10⟩ := VAL.shape G10
    injection hw10 with hw10
    injection hw10 with hw10
    injection hw10 with z0 hw10; injection hw10 with z1 hw10; injection hw10 with z2 hw10; injection hw10 with z3 hw10; injection hw10 with z4 hw10
    subst z0; subst z1; subst z2; subst z3; subst z4
    rw [hv10] at e10
    refine value_ (w1 := w'.alloc (.cells #[.string ⟨#[115, 116, 97, 114, 116, 76, 105, 110, 101]⟩, .int .i64 k_6, .bool i_6, .string x_6, .slice A_6 n_6 c_6, .slice B_6 m_6 d_6, .string ⟨#[101, 110, 100, 76, 105, 110, 101]⟩, .int .i64 k_10, .bool i_10, .string x_10, .slice A_10 n_10 c_10, .slice B_10 m_10 d_10] 112)) (v := .slice (some ⟨w'.heap.size, 0, none⟩) 2 2) rfl rfl ?_ (hK _ _ ((Below.refl _ _).alloc (Nat.le_refl _) _) (PSV_new _ _ _ _ _ (PRC.cons G6 (PRC.cons G10 (PRC.nil _ _))) (zNew_alloc hB.size)))
    clear ha hF hon hK K
    go_simp
    all_goals first | rfl | (constructor <;> rfl)
  refine steps_cons (told_step 9 (tl_pFold_ok (zNew c.heap.size) x1 x2 w) (tl_pFold_up (zNew c.heap.size) x1 x2 w) rfl (by kernel_rfl) ?_) ?_
  · intro b V a w' ha hB hF hon
    refine ⟨_, rfl, rfl, fun K hK => ?_⟩
    have e11 := told_get 8 (tl_pFold_ok (zNew c.heap.size) x1 x2 w) rfl ha (hon 8 (by kernel_rfl)) (by kernel_rfl)
    have F11 := told_fact 8 hF rfl (hon 8 (by kernel_rfl))
    refine goes_ Tryz.func81 (by kernel_rfl) rfl #[V 8] rfl rfl rfl (by simp only [List.map_toArray, List.map_cons, List.map_nil, Act.eval, Array.getD_eq_getD_getElem?, e11, Option.getD_some]) ?_
    refine (pObject_any [(⟨#[115, 116, 97, 114, 116, 76, 105, 110, 101]⟩, (nbT x1)), (⟨#[101, 110, 100, 76, 105, 110, 101]⟩, (nbT x2))] w' _ hB.size F11 (Nat.le_of_ble_eq_true rfl)).mono ?_
    rintro e w'' ⟨v, rfl, hv, hb⟩
    exact ⟨v, rfl, hK v w'' hb hv⟩
  refine steps_cons (told_last ?_ ?_) steps_nil
  · intro e he; simp only [tl_pFold, List.mem_cons, List.mem_nil_iff, or_false] at he; rcases he with rfl | rfl | rfl | rfl | rfl | rfl | rfl | rfl | rfl | rfl <;> kernel_rfl
  intro V a w' ha hB hF
  refine ⟨_, rfl, rfl, fun K hK => ?_⟩
  have e12 := told_get 9 (tl_pFold_ok (zNew c.heap.size) x1 x2 w) rfl ha rfl (by kernel_rfl)
  have F12 := hF _ (List.mem_of_getElem? (i := 9) rfl)
  obtain ⟨k_12, i_12, x_12, A_12, n_12, c_12, B_12, m_12, d_12, hv12⟩ := VAL.shape F12
  rw [hv12] at e12 F12
  have e2 : a.tmps[2]? = some (.pointer (some ⟨w.heap.size + 1, 0, none⟩)) := by rw [ha]; exact (putSel_off (by rfl)).trans rfl
  have hg := HR.out.on hB
  have f0 := hg.fr 0
  have y0 := hg.c0
  have f1 := hg.fr 1
  have y1 := hg.c1
  have f2 := hg.fr 2
  have y2 := hg.c2
  have f3 := hg.fr 3
  have y3 := hg.c3
  have f4 := hg.fr 4
  have y4 := hg.c4
  refine skip_ (w1 := five w' (w.heap.size + 1) (.int .i64 k_12) (.bool i_12) (.string x_12) (.slice A_12 n_12 c_12) (.slice B_12 m_12 d_12)) rfl rfl ?_ (hK _ _ ?_)
  · clear ha hF hK K
    go_simp
    all_goals first | rfl | (constructor <;> rfl)
  clear hK K hF e12 e2 f0 y0 f1 y1 f2 y2 f3 y3 f4 y4
  have hres : BX (five w' (w.heap.size + 1) (.int .i64 k_12) (.bool i_12) (.string x_12) (.slice A_12 n_12 c_12) (.slice B_12 m_12 d_12)) (w.heap.size + 1) (.int .i64 k_12) (.bool i_12) (.string x_12) (.slice A_12 n_12 c_12) (.slice B_12 m_12 d_12) := hg.put (.int .i64 k_12) (.bool i_12) (.string x_12) (.slice A_12 n_12 c_12) (.slice B_12 m_12 d_12)
  have r0 := hres.c0
  have r1 := hres.c1
  have r2 := hres.c2
  have r3 := hres.c3
  have r4 := hres.c4
  have HF := Lib.hid F12
  have HB' := Lib.hid hB
  clear hres hg F12 hB
  rw [ha]
  clear ha
  simp only [tl_pFold, Tolds.put, List.map_cons, List.map_nil, putSel, if_true, Act.put, List.setIfInBounds_toArray, List.set_cons_zero, List.set_cons_succ, hv12]
  clear hv12
  generalize V 0 = u0
  generalize V 1 = u1
  generalize V 2 = u2
  generalize V 3 = u3
  generalize V 4 = u4
  generalize V 5 = u5
  generalize V 6 = u6
  generalize V 7 = u7
  generalize V 8 = u8
  try clear V
  go_wp2
  exact bodyPost_ret (v := .agg #[.int .i64 k_12, .bool i_12, .string x_12, .slice A_12 n_12 c_12, .slice B_12 m_12 d_12]) (by simp [results, Tryz.results88, go_sem, r0, r1, r2, r3, r4]) rfl ⟨_, rfl, five_New HF.out (fun b hb => ⟨Nat.le_trans HB.out.size hb.1, hb.2, by have := HR.out.lt; have := hb.1; omega⟩), five_below (HB.out.trans (HB'.out.mono HB.out.size)) _ _ _ _ _ _ (by omega)⟩


set_option maxRecDepth 100000 in
set_option maxHeartbeats 4000000 in
theorem all_F (l : List Fd) (w : World) (A : Option Addr) (cap : Nat) (hl : l.length ≤ 1048576) (he : ER 2 Fd.enc w (fun b => b < w.heap.size) A l) (hP : PTab w) (ho : ∀ x ∈ l, Fd.ok x) :
    Calls Tryz.prog 87 #[.slice A l.length cap, .func (.func 88) #[] #[]] w (Copied (lsT (l.map Fd.tree)) w) := by
  have HhP := Lib.hid hP
  have Hho := Lib.hid ho
  have HE := Lib.hid he
  obtain ⟨n, hn⟩ : ∃ n, l.length = n := ⟨_, rfl⟩
  have HN := Lib.hid hn
  rw [hn] at hl
  rw [hn]
  clear he hn hP ho
  obtain ⟨i0, hi0, hz0, hz1, hz2⟩ := info_parts Tryz.infoV
  have HI0 := Lib.hid hi0
  have HZ0 := Lib.hid hz0
  have HZ1 := Lib.hid hz1
  have HZ2 := Lib.hid hz2
  clear hi0 hz0 hz1 hz2
  have HAT : Hid (ALat w (w.heap.size + 2) w.heap.size (w.heap.size + 1)) := Lib.hid ⟨by omega, by omega, by omega, by omega, by omega⟩
  go_enter Tryz.func87, Tryz.ntmps87
  go_wp2_with fail
  go_loopg [11] n (fun q v wr => ∃ (p : Nat) (ov : Value) (xs : List Value), p + q = n ∧ v = .int .i64 p ∧ AL w (w.heap.size + 2) w.heap.size (w.heap.size + 1) (fun j => (l.map Fd.tree).getD j .leaf) p ov xs wr)
  case atStart => exact ⟨0, _, [], by omega, rfl, al2_0 w _ _, al2_1 w _ _, al2_below w _ _, World.ownsRow_nil _ _ _ _, VR.nil _ _ _, by simp⟩
  case round =>
    obtain ⟨p, ov, xs, hp, rfl, hM⟩ := hrel
    have HP := Lib.hid hp
    have HM := Lib.hid hM
    clear hp hM
    by_cases hlt : p < n
    · have hd0 : decide ((p : Int) < (n : Int)) = true := by simp; omega
      have hd1 : decide (p < n) = true := by simp; omega
      have hpl : p < l.length := by have := HN.out; omega
      rcases HE.out with h0 | ⟨b, off, rfl, hblt, hc⟩
      · subst h0; simp at hpl
      have hcc := hc p hpl
      have kk : ∀ o, wr.cell? ⟨b, o, none⟩ = w.cell? ⟨b, o, none⟩ := fun o => HM.out.below.cell (p := ⟨b, o, none⟩) hblt
      have i1 : (0 : Int) ≤ p := by omega
      have i2 : (p : Int) < n := by omega
      have HT : Hid ((fun j => (l.map Fd.tree).getD j .leaf) p = Fd.tree l[p]) := Lib.hid (by show (l.map Fd.tree).getD p .leaf = _; rw [List.getD_eq_getElem?_getD]; simp [hpl])
      have HOK := Lib.hid (Hho.out l[p] (List.getElem_mem hpl))
      generalize l[p] = x at *
      obtain ⟨a, b'⟩ := x
      have k0 := (kk _).trans (hcc 0 _ rfl)
      have k1 := (kk _).trans (hcc 1 _ rfl)
      rw [Nat.add_zero] at k0
      clear kk hcc hc hlt hpl
      go_wp2_with fail
      have hba := (Below.refl wr.heap.size wr).alloc (Nat.le_refl _) (.cells #[.int .i64 a, .int .i64 b'] 76)
      have HX : Hid (BK (wr.alloc (.cells #[.int .i64 a, .int .i64 b'] 76)) wr.heap.size 76 #[.int .i64 a, .int .i64 b']) := Lib.hid (BK.new wr _ _)
      have HXo : Hid (ov.ownBlock ≠ some wr.heap.size ∧ w.heap.size + 2 ≤ wr.heap.size) := Lib.hid ⟨fun e => by have := (HM.out.own.lt _ e).2; omega, HM.out.size⟩
      replace HM := Lib.hid (HM.out.on hba)
      clear hba k0 k1
      generalize (wr.alloc (.cells #[.int .i64 a, .int .i64 b'] 76)) = w1 at *
      generalize wr.heap.size = g5 at *
      refine start_ (n := 9) (S := ALS (w.heap.size + 1) g5 ov 76 #[.int .i64 a, .int .i64 b']) (ds := [8]) #[false, false, false, false, false, false, false, false, false] (by kernel_rfl) rfl rfl ⟨HM.out.out, HX.out⟩ (fun hHeld => ?_)
      have hbd : Below w1.heap.size w1 w1.drew := (Below.refl _ _).drew
      replace HM := Lib.hid (HM.out.on hbd)
      replace HX := Lib.hid (HX.out.on hbd)
      clear hbd
      generalize w1.drew = w2 at *
      refine pure_ (i := 0) (N := some 15) (v := ?_) (a' := ?_) #[true, false, false, false, false, false, false, false, false] rfl rfl (by kernel_rfl) (fun _ _ _ h => h) (Or.inl ⟨by rfl, ?_⟩) ?_ ?_
      rotate_left
      · intro w'; go_simp; with_reducible rfl
      rotate_left
      · simp only [Act.put, List.setIfInBounds_toArray, List.set_cons_zero, List.set_cons_succ, i64_w, i32_w]; rfl
      refine pure_ (i := 2) (N := some 17) (v := ?_) (a' := ?_) #[true, false, true, false, false, false, false, false, false] rfl rfl (by kernel_rfl) (fun _ _ _ h => h) (Or.inl ⟨by rfl, ?_⟩) ?_ ?_
      rotate_left
      · intro w'; go_simp; with_reducible rfl
      rotate_left
      · simp only [Act.put, List.setIfInBounds_toArray, List.set_cons_zero, List.set_cons_succ, i64_w, i32_w]; rfl
      refine take_ (i := 1) (N := some 16) (v := ?_) (a' := ?_) #[true, true, true, false, false, false, false, false, false] rfl rfl (by kernel_rfl) (fun _ _ _ h => h) (Or.inl ⟨by rfl, ?_⟩) hHeld ?_ ?_
      rotate_left
      · intro w' hh; have s3 := hh.box.c3; have t0 := hh.x.c 0 rfl; have t1 := hh.x.c 1 rfl; clear hh; go_simp; with_reducible rfl
      rotate_left
      · simp only [Act.put, List.setIfInBounds_toArray, List.set_cons_zero, List.set_cons_succ, i64_w, i32_w]; rfl
      refine take_ (i := 3) (N := some 18) (v := ?_) (a' := ?_) #[true, true, true, true, false, false, false, false, false] rfl rfl (by kernel_rfl) (fun _ _ _ h => h) (Or.inl ⟨by rfl, ?_⟩) hHeld ?_ ?_
      rotate_left
      · intro w' hh; have s3 := hh.box.c3; have t0 := hh.x.c 0 rfl; have t1 := hh.x.c 1 rfl; clear hh; go_simp; with_reducible rfl
      rotate_left
      · simp only [Act.put, List.setIfInBounds_toArray, List.set_cons_zero, List.set_cons_succ, i64_w, i32_w]; rfl
      refine one_ (i := 4) (N := some 19) #[true, true, true, true, true, false, false, false, false] rfl rfl (by kernel_rfl) (by decide) (fun K hK => ?_)
      refine goesV_ Tryz.func88 (by kernel_rfl) rfl #[.agg #[.int .i64 a, .int .i64 b']] (by rfl) rfl rfl (by rfl) (by (try simp only [List.map_toArray, List.map_cons, List.map_nil]); first | done | rfl) ?_
      have HBw := Lib.hid HM.out.below
      refine (pFold a b' w2 HOK.out.1 HOK.out.2 (HhP.out.on HBw.out)).mono ?_
      rintro e w3 ⟨v', rfl, hv, hb⟩
      refine ⟨_, rfl, ?_⟩
      obtain ⟨v0, v1, v2, v3, v4, rfl⟩ := hv.five
      refine hK.out _ _ (hHeld.on hb) (fun hHeld2 => ?_)
      clear hK K hHeld
      have HV2 : Hid (VAL w3 (fun b => w.heap.size + 2 ≤ b ∧ b < w3.heap.size ∧ ov.ownBlock ≠ some b) _ (.agg #[v0, v1, v2, v3, v4])) := Lib.hid (hv.mono (fun b hb => ⟨Nat.le_trans HM.out.size hb.1, hb.2, fun e => by have := (HM.out.own.lt b e).2; have := hb.1; omega⟩))
      replace HM := Lib.hid (HM.out.on hb)
      replace HX := Lib.hid (HX.out.on hb)
      clear hb hv HBw
      refine norm_ (a' := ?_) ?_ ?_
      rotate_left
      · show Act.put _ (some 19) _ = _; simp only [Act.put, List.setIfInBounds_toArray, List.set_cons_zero, List.set_cons_succ, i64_w, i32_w]; rfl
      refine one_ (i := 5) (N := some 20) #[true, true, true, true, true, true, false, false, false] rfl rfl (by kernel_rfl) (by decide) (fun K hK => ?_)
      refine value_ (w1 := (w3.alloc (.cells #[v0, v1, v2, v3, v4] 30))) (v := .slice (some ⟨w3.heap.size, 0, none⟩) 1 1) rfl rfl ?_ ?_
      · go_simp
        all_goals first | rfl | (constructor <;> rfl)
      have hba := (Below.refl w3.heap.size w3).alloc (Nat.le_refl _) (.cells #[v0, v1, v2, v3, v4] 30)
      refine hK.out _ _ (hHeld2.on hba) (fun hHeld => ?_)
      clear hK K hHeld2
      have HN3 : Hid (BK (w3.alloc (.cells #[v0, v1, v2, v3, v4] 30)) w3.heap.size 30 #[v0, v1, v2, v3, v4]) := Lib.hid (BK.new w3 _ _)
      replace HV2 : Hid (VAL (w3.alloc (.cells #[v0, v1, v2, v3, v4] 30)) (fun b => w.heap.size + 2 ≤ b ∧ b < (w3.alloc (.cells #[v0, v1, v2, v3, v4] 30)).heap.size ∧ ov.ownBlock ≠ some b) _ (.agg #[v0, v1, v2, v3, v4])) := Lib.hid ((HV2.out.same (below_same hba (fun b hb => hb.2.1))).mono (fun b hb => ⟨hb.1, Nat.lt_of_lt_of_le hb.2.1 hba.size, hb.2.2⟩))
      replace HM := Lib.hid (HM.out.on hba)
      replace HX := Lib.hid (HX.out.on hba)
      clear hba
      refine norm_ (a' := ?_) ?_ ?_
      rotate_left
      · show Act.put _ (some 20) _ = _; simp only [Act.put, List.setIfInBounds_toArray, List.set_cons_zero, List.set_cons_succ, i64_w, i32_w]; rfl
      generalize (w3.alloc (.cells #[v0, v1, v2, v3, v4] 30)) = w4 at *
      generalize w3.heap.size = q3 at *
      refine one_ (i := 6) (N := some 21) #[true, true, true, true, true, true, true, false, false] rfl rfl (by kernel_rfl) (by decide) (fun K hK => ?_)
      refine step_append_lies _ rfl (.tmp 16) (.tmp 20) 28 rfl (w.heap.size + 2) 30 i0 _ 5 80 Tryz.underlying28 HI0.out HZ0.out HZ1.out HZ2.out rfl (by omega) ov p xs (by rfl) HM.out.own ⟨q3, 0, none⟩ 1 1 [v0, v1, v2, v3, v4] (by rfl) (by rfl) (World.news_of_block HN3.out) HV2.out.one (by omega)
        (by unfold maxLen; omega) (by omega) HM.out.size _ rfl ?_
      intro g ncap w5 hown hgrow hat hlt5
      have HM5 := Lib.hid (HM.out.grown HAT.out (Eq.mpr (congrArg (fun t => VAL w4 _ t (.agg #[v0, v1, v2, v3, v4])) HT.out) HV2.out) hown hgrow hat)
      have hO := HM.out.out.same (hgrow.block _ (by have := HM.out.size; omega) (own_ne HM.out.own (by omega)))
      refine hK.out _ _ ⟨hO, (hgrow.block _ HX.out.lt (fun e => HXo.out.1 e.symm)).trans HX.out⟩ (fun hHeld2 => ?_)
      clear hK K hHeld HM HX HV2 HN3 hown hgrow hat hlt5
      refine norm_ (a' := ?_) ?_ ?_
      rotate_left
      · show Act.put _ (some 21) _ = _; simp only [Act.put, List.setIfInBounds_toArray, List.set_cons_zero, List.set_cons_succ, i64_w, i32_w]; rfl
      refine pure_ (i := 7) (N := some 22) (v := ?_) (a' := ?_) #[true, true, true, true, true, true, true, true, false] rfl rfl (by kernel_rfl) (fun _ _ _ h => h) (Or.inl ⟨by rfl, ?_⟩) ?_ ?_
      rotate_left
      · intro w'; go_simp; with_reducible rfl
      rotate_left
      · simp only [Act.put, List.setIfInBounds_toArray, List.set_cons_zero, List.set_cons_succ, i64_w, i32_w]; rfl
      refine last_ (i := 8) (N := none) #[true, true, true, true, true, true, true, true, true] rfl rfl (by kernel_rfl) (by decide) (fun K hK => ?_)
      have f3 := hO.fr 3
      have s3 := hO.c3
      refine skip_ (w1 := w5.setCell ⟨w.heap.size + 1, 3, none⟩ (.slice (some ⟨g, 0, none⟩) (p + 1) ncap)) rfl rfl ?_ (hK.out _ _ ?_)
      · go_simp
        all_goals first | rfl | (constructor <;> rfl)
      clear hK K f3 s3 hO hHeld2
      generalize (w5.setCell ⟨w.heap.size + 1, 3, none⟩ (.slice (some ⟨g, 0, none⟩) (p + 1) ncap)) = w6 at *
      refine done_ (by kernel_rfl) ?_
      go_wp2
      go_roundg (gk - 1)
      case measure => have := HP.out; omega
      case rel => exact ⟨p + 1, _, _, by have := HP.out; omega, by go_num, HM5.out⟩
    · have hd1 : decide (p < n) = false := by simp; omega
      have hd2 : decide ((p : Int) < (n : Int)) = false := by simp; omega
      have hpn : p = n := by have := HP.out; omega
      subst hpn
      obtain ⟨OA, ocap, hov, hVV⟩ := HM.out.val
      subst hov
      have HVV := Lib.hid hVV
      have hg := HM.out.out
      have y0 := hg.c0
      have y1 := hg.c1
      have y2 := hg.c2
      have y3 := hg.c3
      have y4 := hg.c4
      have hz := HM.out.res
      have z0 := hz.c0
      have z1 := hz.c1
      have z2 := hz.c2
      have z3 := hz.c3
      have z4 := hz.c4
      have f0 := hz.fr 0
      have f1 := hz.fr 1
      have f2 := hz.fr 2
      have f3 := hz.fr 3
      have f4 := hz.fr 4
      have hres := hz.put (.int .i64 4) (.bool false) (.string ⟨#[]⟩) (.slice OA p ocap) (.slice none 0 0)
      have r0 := hres.c0
      have r1 := hres.c1
      have r2 := hres.c2
      have r3 := hres.c3
      have r4 := hres.c4
      clear hres hg hz hVV hlt
      go_wp2
      refine bodyPost_ret (v := .agg #[.int .i64 4, .bool false, .string ⟨#[]⟩, .slice OA p ocap, .slice none 0 0]) (by simp [results, Tryz.results87, go_sem, r0, r1, r2, r3, r4]) rfl ⟨_, rfl, ?_, five_below HM.out.below w.heap.size _ _ _ _ _ (Nat.le_refl _)⟩
      have hV := five_New (w := w) (u0 := .int .i64 4) (u1 := .bool false) (u2 := .string ⟨#[]⟩) (u3 := .slice OA p ocap) (u4 := .slice none 0 0) (g := w.heap.size) HVV.out (fun b hb => ⟨by have := hb.1; omega, hb.2, by have := hb.1; omega⟩)
      have e1 : (l.map Fd.tree).length = p := by rw [List.length_map]; exact HN.out
      show VAL _ _ (.mk 4 false .empty (l.map Fd.tree).length _ []) _
      rw [e1]
      exact hV

set_option maxRecDepth 100000 in
set_option maxHeartbeats 4000000 in
theorem pFolds (l : List Fd) (w : World) (A : Option Addr) (cap : Nat) (hl : l.length ≤ 1048576) (he : ER 2 Fd.enc w (fun b => b < w.heap.size) A l) (hP : PTab w) (ho : ∀ x ∈ l, Fd.ok x) : Calls Tryz.prog 42 #[.slice A l.length cap] w (Copied (lsT (l.map Fd.tree)) w) := by
  have Hhe := Lib.hid he
  have HhP := Lib.hid hP
  have Hho := Lib.hid ho
  clear he hP ho
  have HBX := Lib.hid (BX.new w (.int .i64 0) (.bool false) (.string ⟨#[]⟩) (.slice none 0 0) (.slice none 0 0))
  have HB := Lib.hid (made_end (w := w) (.cells #[.int .i64 0, .bool false, .string ⟨#[]⟩, .slice none 0 0, .slice none 0 0] 30))
  go_enter Tryz.func42, Tryz.ntmps42
  go_wp2_with fail
  generalize (w.alloc (.cells #[.int .i64 0, .bool false, .string ⟨#[]⟩, .slice none 0 0, .slice none 0 0] 30)) = w1 at *
  refine (all_F l w1 A cap hl (Hhe.out.ea.on HB.out).er (HhP.out.on HB.out) Hho.out).mono ?_
  rintro e w2 ⟨x, rfl, hx, hb⟩
  obtain ⟨kv, iv, xv, Av, nv, cv, Bv, mv, dv, rfl⟩ := VAL.shape hx
  have HX := Lib.hid hx
  have HB2 := Lib.hid (HB.out.trans (hb.mono HB.out.size))
  have hy := HBX.out.on hb
  have HZ1 := Lib.hid HBX.out.lt
  have y0 := hy.c0
  have f0 := hy.fr 0
  have y1 := hy.c1
  have f1 := hy.fr 1
  have y2 := hy.c2
  have f2 := hy.fr 2
  have y3 := hy.c3
  have f3 := hy.fr 3
  have y4 := hy.c4
  have f4 := hy.fr 4
  have hres := hy.put (.int .i64 kv) (.bool iv) (.string xv) (.slice Av nv cv) (.slice Bv mv dv)
  have r0 := hres.c0
  have r1 := hres.c1
  have r2 := hres.c2
  have r3 := hres.c3
  have r4 := hres.c4
  clear hres hy hb hx
  go_wp2
  refine bodyPost_ret (v := .agg #[.int .i64 kv, .bool iv, .string xv, .slice Av nv cv, .slice Bv mv dv]) (by simp [results, Tryz.results42, go_sem, r0, r1, r2, r3, r4]) rfl ⟨_, rfl, five_New HX.out (fun b hb => ⟨by have := hb.1; have := HZ1.out; omega, hb.2, by have := hb.1; have := HZ1.out; omega⟩), five_below HB2.out w.heap.size _ _ _ _ _ (Nat.le_refl _)⟩

def tl_rFold (z : Zone) (x1 x2 : Int) (b off n cap p : Nat) (w : World) (ov : Value) : Tolds := [(0, 12, fun _ v => v = .pointer (some ⟨w.heap.size + 1, 3, none⟩)), (1, 13, fun _ v => v = ov), (2, 14, TSV z [⟨#[115, 116, 97, 114, 116, 76, 105, 110, 101]⟩, ⟨#[101, 110, 100, 76, 105, 110, 101]⟩]), (3, 15, fun _ v => v = .slice (some ⟨b, off, none⟩) n cap), (4, 16, fun _ v => v = .int .i64 p), (5, 17, fun _ v => v = .pointer (some ⟨b, off + p * 2, none⟩)), (6, 18, fun _ v => v = .pointer (some ⟨b, off + p * 2, none⟩)), (7, 19, fun _ v => v = .int .i64 x1), (8, 20, VLV z (nbT x1)), (9, 21, fun _ v => v = .slice (some ⟨b, off, none⟩) n cap), (10, 22, fun _ v => v = .int .i64 p), (11, 23, fun _ v => v = .pointer (some ⟨b, off + p * 2, none⟩)), (12, 24, fun _ v => v = .pointer (some ⟨b, off + p * 2 + 1, none⟩)), (13, 25, fun _ v => v = .int .i64 x2), (14, 26, VLV z (nbT x2)), (15, 27, VSV z [(nbT x1), (nbT x2)]), (16, 28, VLV z (obT [⟨#[115, 116, 97, 114, 116, 76, 105, 110, 101]⟩, ⟨#[101, 110, 100, 76, 105, 110, 101]⟩] [(nbT x1), (nbT x2)])), (17, 29, VSV z [(obT [⟨#[115, 116, 97, 114, 116, 76, 105, 110, 101]⟩, ⟨#[101, 110, 100, 76, 105, 110, 101]⟩] [(nbT x1), (nbT x2)])])]
theorem tl_rFold_ok (z : Zone) (x1 x2 : Int) (b off n cap p : Nat) (w : World) (ov : Value) : (tl_rFold z x1 x2 b off n cap p w ov).ok 18 = true := by kernel_rfl
theorem tl_rFold_up (z : Zone) (x1 x2 : Int) (b off n cap p : Nat) (w : World) (ov : Value) : (tl_rFold z x1 x2 b off n cap p w ov).up := (tup_cons (fun _ _ _ h _ => h) (tup_cons (fun _ _ _ h _ => h) (tup_cons (fun _ _ _ h hb => TSV.up h hb) (tup_cons (fun _ _ _ h _ => h) (tup_cons (fun _ _ _ h _ => h) (tup_cons (fun _ _ _ h _ => h) (tup_cons (fun _ _ _ h _ => h) (tup_cons (fun _ _ _ h _ => h) (tup_cons (fun _ _ _ h hb => VLV.up h hb) (tup_cons (fun _ _ _ h _ => h) (tup_cons (fun _ _ _ h _ => h) (tup_cons (fun _ _ _ h _ => h) (tup_cons (fun _ _ _ h _ => h) (tup_cons (fun _ _ _ h _ => h) (tup_cons (fun _ _ _ h hb => VLV.up h hb) (tup_cons (fun _ _ _ h hb => VSV.up h hb) (tup_cons (fun _ _ _ h hb => VLV.up h hb) (tup_cons (fun _ _ _ h hb => VSV.up h hb) tup_nil))))))))))))))))))
set_option maxRecDepth 100000 in
set_option maxHeartbeats 8000000 in
theorem rFolds (l : List Fd) (w : World) (A : Option Addr) (cap : Nat) (hl : l.length ≤ 1048576) (he : ER 2 Fd.enc w (fun b => b < w.heap.size) A l) (ho : ∀ x ∈ l, Fd.ok x) : Calls Tryz.prog 43 #[.slice A l.length cap] w (Copied (lsT (l.map Fd.tree)) w) := by
  have Hhe := Lib.hid he
  have Hho := Lib.hid ho
  clear he ho
  obtain ⟨n, hn⟩ : ∃ n, l.length = n := ⟨_, rfl⟩
  have HN := Lib.hid hn
  rw [hn] at hl
  rw [hn]
  clear hn
  obtain ⟨i0, hi0, hz0, hz1, hz2⟩ := info_parts Tryz.infoV
  have HI0 := Lib.hid hi0
  have HZ0 := Lib.hid hz0
  have HZ1 := Lib.hid hz1
  have HZ2 := Lib.hid hz2
  clear hi0 hz0 hz1 hz2
  have HAT : Hid (ALat w (w.heap.size + 2) w.heap.size (w.heap.size + 1)) := Lib.hid ⟨by omega, by omega, by omega, by omega, by omega⟩
  go_enter Tryz.func43, Tryz.ntmps43
  go_wp2_with fail
  go_loopg [4] n (fun q v wr => ∃ (p : Nat) (ov : Value) (xs : List Value), p + q = n ∧ v = .int .i64 p ∧ AL w (w.heap.size + 2) w.heap.size (w.heap.size + 1) (fun j => (l.map Fd.tree).getD j .leaf) p ov xs wr)
  case atStart => exact ⟨0, _, [], by omega, rfl, al2_0 w _ _, al2_1 w _ _, al2_below w _ _, World.ownsRow_nil _ _ _ _, VR.nil _ _ _, by simp⟩
  case round =>
    obtain ⟨p, ov, xs, hp, rfl, hM⟩ := hrel
    have HP := Lib.hid hp
    have HM := Lib.hid hM
    clear hp hM
    by_cases hlt : p < n
    · have hd0 : decide ((p : Int) < (n : Int)) = true := by simp; omega
      have hd1 : decide (p < n) = true := by simp; omega
      have i1 : (0 : Int) ≤ p := by omega
      have i2 : (p : Int) < n := by omega
      have hpl : p < l.length := by have := HN.out; omega
      rcases Hhe.out with h0 | ⟨b, off, rfl, hblt, hc⟩
      · subst h0; simp at hpl
      have hcc := hc p hpl
      have HT : Hid ((fun j => (l.map Fd.tree).getD j .leaf) p = Fd.tree l[p]) := Lib.hid (by show (l.map Fd.tree).getD p .leaf = _; rw [List.getD_eq_getElem?_getD]; simp [hpl])
      have HOK := Lib.hid (Hho.out l[p] (List.getElem_mem hpl))
      generalize l[p] = x at *
      obtain ⟨x1, x2⟩ := x
      have HROW : Hid (RowAt b (off + p * 2) [.int .i64 x1, .int .i64 x2] wr) := Lib.hid ⟨Nat.lt_of_lt_of_le hblt HM.out.below.size, fun i v hv => (HM.out.below.cell (p := ⟨b, off + p * 2 + i, none⟩) hblt).trans (hcc i v hv)⟩
      replace HT : Hid ((fun j => (l.map Fd.tree).getD j .leaf) p = foldT x1 x2) := HT
      replace HOK : Hid (I64 x1 ∧ I64 x2) := HOK
      clear hcc hc hlt hpl
      go_wp2_with fail
      refine start_ (n := 21) (S := fun w' => True) (ds := []) #[false, false, false, false, false, false, false, false, false, false, false, false, false, false, false, false, false, false, false, false, false] (by kernel_rfl) rfl rfl trivial (fun hHeld => ?_)
      clear hHeld
      have hb : Below wr.heap.size wr wr.drew := (Below.refl _ _).drew
      replace HM := Lib.hid (HM.out.on hb)
      replace HROW := Lib.hid (HROW.out.on hb)
      clear hb
      generalize wr.drew = c at *
      have HO := Lib.hid HM.out.out
      refine inv_ (B := [0, 1, 0, 0, 0, 24, 56, 120, 248, 0, 0, 1536, 3584, 7680, 16376, 32760, 65532, 131068, 262143, 524287, 1048575]) [0, 1, 2, 3, 4, 5, 6, 7, 8, 9, 10, 11, 12, 13, 14, 15, 16, 17, 18, 19, 20] (ToldA _ (AppG w (w.heap.size + 2) (w.heap.size) (w.heap.size + 1) (fun j => (l.map Fd.tree).getD j .leaf) p ov) (tl_rFold (zNew c.heap.size) x1 x2 b off n cap p w ov) 18 30 19 31 (.pointer (some ⟨w.heap.size + 1, 3, none⟩)) 20 c _) rfl (by kernel_rfl) (by kernel_rfl) (by kernel_rfl) toldG_begin ?_ (after_end (by kernel_rfl) (by kernel_rfl))
      refine steps_cons (toldG_step 0 (tl_rFold_ok (zNew c.heap.size) x1 x2 b off n cap p w ov) (tl_rFold_up (zNew c.heap.size) x1 x2 b off n cap p w ov) rfl (by kernel_rfl) ?_) ?_
      · intro bb V a w' ha hB hF hon
        refine ⟨_, rfl, rfl, fun K hK => ?_⟩
        have e3 : a.tmps[3]? = some (.pointer (some ⟨w.heap.size + 1, 0, none⟩)) := by rw [ha]; exact (putSel_off (by rfl)).trans rfl
        refine value_ (w1 := w') (v := .pointer (some ⟨w.heap.size + 1, 3, none⟩)) rfl rfl ?_ (hK _ _ (Below.refl _ _) rfl)
        clear ha hF hon hK K
        go_simp
        all_goals first | rfl | (constructor <;> rfl)
      refine steps_cons (toldG_step 1 (tl_rFold_ok (zNew c.heap.size) x1 x2 b off n cap p w ov) (tl_rFold_up (zNew c.heap.size) x1 x2 b off n cap p w ov) rfl (by kernel_rfl) ?_) ?_
      · intro bb V a w' ha hB hF hon
        refine ⟨_, rfl, rfl, fun K hK => ?_⟩
        have e12 := told_get 0 (tl_rFold_ok (zNew c.heap.size) x1 x2 b off n cap p w ov) rfl ha (hon 0 (by kernel_rfl)) (by kernel_rfl)
        have F12 : V 0 = .pointer (some ⟨w.heap.size + 1, 3, none⟩) := told_fact 0 hF rfl (hon 0 (by kernel_rfl))
        rw [F12] at e12
        have hg := HO.out.on hB
        have y3 := hg.c3
        clear hg
        refine value_ (w1 := w') (v := ov) rfl rfl ?_ (hK _ _ (Below.refl _ _) rfl)
        clear ha hF hon hK K
        go_simp
        all_goals first | rfl | (constructor <;> rfl)
      refine steps_cons (toldG_step 2 (tl_rFold_ok (zNew c.heap.size) x1 x2 b off n cap p w ov) (tl_rFold_up (zNew c.heap.size) x1 x2 b off n cap p w ov) rfl (by kernel_rfl) ?_) ?_
      · intro bb V a w' ha hB hF hon
        refine ⟨_, rfl, rfl, fun K hK => ?_⟩
        refine value_ (w1 := w'.alloc (.cells #[.string ⟨#[115, 116, 97, 114, 116, 76, 105, 110, 101]⟩, .string ⟨#[101, 110, 100, 76, 105, 110, 101]⟩] 9)) (v := .slice (some ⟨w'.heap.size, 0, none⟩) 2 2) rfl rfl ?_ (hK _ _ ((Below.refl _ _).alloc (Nat.le_refl _) _) (TSV_new _ _ _ _ _ rfl (zNew_alloc hB.size)))
        clear ha hF hon hK K
        go_simp
        all_goals first | rfl | (constructor <;> rfl)
      refine steps_cons (toldG_step 3 (tl_rFold_ok (zNew c.heap.size) x1 x2 b off n cap p w ov) (tl_rFold_up (zNew c.heap.size) x1 x2 b off n cap p w ov) rfl (by kernel_rfl) ?_) ?_
      · intro bb V a w' ha hB hF hon
        refine ⟨_, rfl, rfl, fun K hK => ?_⟩
        have e0 : a.tmps[0]? = some (.slice (some ⟨b, off, none⟩) n cap) := by rw [ha]; exact (putSel_off (by rfl)).trans rfl
        refine value_ (w1 := w') (v := .slice (some ⟨b, off, none⟩) n cap) rfl rfl ?_ (hK _ _ (Below.refl _ _) rfl)
        clear ha hF hon hK K
        go_simp
        all_goals first | rfl | (constructor <;> rfl)
      refine steps_cons (toldG_step 4 (tl_rFold_ok (zNew c.heap.size) x1 x2 b off n cap p w ov) (tl_rFold_up (zNew c.heap.size) x1 x2 b off n cap p w ov) rfl (by kernel_rfl) ?_) ?_
      · intro bb V a w' ha hB hF hon
        refine ⟨_, rfl, rfl, fun K hK => ?_⟩
        have e4 : a.tmps[4]? = some (.int .i64 p) := by rw [ha]; exact (putSel_off (by rfl)).trans rfl
        refine value_ (w1 := w') (v := .int .i64 p) rfl rfl ?_ (hK _ _ (Below.refl _ _) rfl)
        clear ha hF hon hK K
        go_simp
        all_goals first | rfl | (constructor <;> rfl)
      refine steps_cons (toldG_step 5 (tl_rFold_ok (zNew c.heap.size) x1 x2 b off n cap p w ov) (tl_rFold_up (zNew c.heap.size) x1 x2 b off n cap p w ov) rfl (by kernel_rfl) ?_) ?_
      · intro bb V a w' ha hB hF hon
        refine ⟨_, rfl, rfl, fun K hK => ?_⟩
        have e15 := told_get 3 (tl_rFold_ok (zNew c.heap.size) x1 x2 b off n cap p w ov) rfl ha (hon 3 (by kernel_rfl)) (by kernel_rfl)
        have F15 : V 3 = .slice (some ⟨b, off, none⟩) n cap := told_fact 3 hF rfl (hon 3 (by kernel_rfl))
        rw [F15] at e15
        have e16 := told_get 4 (tl_rFold_ok (zNew c.heap.size) x1 x2 b off n cap p w ov) rfl ha (hon 4 (by kernel_rfl)) (by kernel_rfl)
        have F16 : V 4 = .int .i64 p := told_fact 4 hF rfl (hon 4 (by kernel_rfl))
        rw [F16] at e16
        refine value_ (w1 := w') (v := .pointer (some ⟨b, off + p * 2, none⟩)) rfl rfl ?_ (hK _ _ (Below.refl _ _) rfl)
        clear ha hF hon hK K
        go_simp
        all_goals first | rfl | (constructor <;> rfl)
      refine steps_cons (toldG_step 6 (tl_rFold_ok (zNew c.heap.size) x1 x2 b off n cap p w ov) (tl_rFold_up (zNew c.heap.size) x1 x2 b off n cap p w ov) rfl (by kernel_rfl) ?_) ?_
      · intro bb V a w' ha hB hF hon
        refine ⟨_, rfl, rfl, fun K hK => ?_⟩
        have e17 := told_get 5 (tl_rFold_ok (zNew c.heap.size) x1 x2 b off n cap p w ov) rfl ha (hon 5 (by kernel_rfl)) (by kernel_rfl)
        have F17 : V 5 = .pointer (some ⟨b, off + p * 2, none⟩) := told_fact 5 hF rfl (hon 5 (by kernel_rfl))
        rw [F17] at e17
        refine value_ (w1 := w') (v := .pointer (some ⟨b, off + p * 2, none⟩)) rfl rfl ?_ (hK _ _ (Below.refl _ _) rfl)
        clear ha hF hon hK K
        go_simp
        all_goals first | rfl | (constructor <;> rfl)
      refine steps_cons (toldG_step 7 (tl_rFold_ok (zNew c.heap.size) x1 x2 b off n cap p w ov) (tl_rFold_up (zNew c.heap.size) x1 x2 b off n cap p w ov) rfl (by kernel_rfl) ?_) ?_
      · intro bb V a w' ha hB hF hon
        refine ⟨_, rfl, rfl, fun K hK => ?_⟩
        have e18 := told_get 6 (tl_rFold_ok (zNew c.heap.size) x1 x2 b off n cap p w ov) rfl ha (hon 6 (by kernel_rfl)) (by kernel_rfl)
        have F18 : V 6 = .pointer (some ⟨b, off + p * 2, none⟩) := told_fact 6 hF rfl (hon 6 (by kernel_rfl))
        rw [F18] at e18
        have hg := HROW.out.on hB
        have y0 := hg.c0 _ rfl
        clear hg
        refine value_ (w1 := w') (v := .int .i64 x1) rfl rfl ?_ (hK _ _ (Below.refl _ _) rfl)
        clear ha hF hon hK K
        go_simp
        all_goals first | rfl | (constructor <;> rfl)
      refine steps_cons (toldG_step 8 (tl_rFold_ok (zNew c.heap.size) x1 x2 b off n cap p w ov) (tl_rFold_up (zNew c.heap.size) x1 x2 b off n cap p w ov) rfl (by kernel_rfl) ?_) ?_
      · intro bb V a w' ha hB hF hon
        refine ⟨_, rfl, rfl, fun K hK => ?_⟩
        have e19 := told_get 7 (tl_rFold_ok (zNew c.heap.size) x1 x2 b off n cap p w ov) rfl ha (hon 7 (by kernel_rfl)) (by kernel_rfl)
        have F19 : V 7 = .int .i64 x1 := told_fact 7 hF rfl (hon 7 (by kernel_rfl))
        rw [F19] at e19
        refine goes_ Tryz.func86 (by kernel_rfl) rfl #[.int .i64 x1] rfl rfl rfl (by simp only [List.map_toArray, List.map_cons, List.map_nil, Act.eval, Array.getD_eq_getD_getElem?, e19, Option.getD_some]) ?_
        refine ((rNum x1 w' HOK.out.1).mono (fun _ _ h => h.mk hB.size)).mono ?_
        rintro e w'' ⟨v, rfl, hv, hb⟩
        exact ⟨v, rfl, hK v w'' hb hv⟩
      refine steps_cons (toldG_step 9 (tl_rFold_ok (zNew c.heap.size) x1 x2 b off n cap p w ov) (tl_rFold_up (zNew c.heap.size) x1 x2 b off n cap p w ov) rfl (by kernel_rfl) ?_) ?_
      · intro bb V a w' ha hB hF hon
        refine ⟨_, rfl, rfl, fun K hK => ?_⟩
        have e0 : a.tmps[0]? = some (.slice (some ⟨b, off, none⟩) n cap) := by rw [ha]; exact (putSel_off (by rfl)).trans rfl
        refine value_ (w1 := w') (v := .slice (some ⟨b, off, none⟩) n cap) rfl rfl ?_ (hK _ _ (Below.refl _ _) rfl)
        clear ha hF hon hK K
        go_simp
        all_goals first | rfl | (constructor <;> rfl)
      refine steps_cons (toldG_step 10 (tl_rFold_ok (zNew c.heap.size) x1 x2 b off n cap p w ov) (tl_rFold_up (zNew c.heap.size) x1 x2 b off n cap p w ov) rfl (by kernel_rfl) ?_) ?_
      · intro bb V a w' ha hB hF hon
        refine ⟨_, rfl, rfl, fun K hK => ?_⟩
        have e4 : a.tmps[4]? = some (.int .i64 p) := by rw [ha]; exact (putSel_off (by rfl)).trans rfl
        refine value_ (w1 := w') (v := .int .i64 p) rfl rfl ?_ (hK _ _ (Below.refl _ _) rfl)
        clear ha hF hon hK K
        go_simp
        all_goals first | rfl | (constructor <;> rfl)
      refine steps_cons (toldG_step 11 (tl_rFold_ok (zNew c.heap.size) x1 x2 b off n cap p w ov) (tl_rFold_up (zNew c.heap.size) x1 x2 b off n cap p w ov) rfl (by kernel_rfl) ?_) ?_
      · intro bb V a w' ha hB hF hon
        refine ⟨_, rfl, rfl, fun K hK => ?_⟩
        have e21 := told_get 9 (tl_rFold_ok (zNew c.heap.size) x1 x2 b off n cap p w ov) rfl ha (hon 9 (by kernel_rfl)) (by kernel_rfl)
        have F21 : V 9 = .slice (some ⟨b, off, none⟩) n cap := told_fact 9 hF rfl (hon 9 (by kernel_rfl))
        rw [F21] at e21
        have e22 := told_get 10 (tl_rFold_ok (zNew c.heap.size) x1 x2 b off n cap p w ov) rfl ha (hon 10 (by kernel_rfl)) (by kernel_rfl)
        have F22 : V 10 = .int .i64 p := told_fact 10 hF rfl (hon 10 (by kernel_rfl))
        rw [F22] at e22
        refine value_ (w1 := w') (v := .pointer (some ⟨b, off + p * 2, none⟩)) rfl rfl ?_ (hK _ _ (Below.refl _ _) rfl)
        clear ha hF hon hK K
        go_simp
        all_goals first | rfl | (constructor <;> rfl)
      refine steps_cons (toldG_step 12 (tl_rFold_ok (zNew c.heap.size) x1 x2 b off n cap p w ov) (tl_rFold_up (zNew c.heap.size) x1 x2 b off n cap p w ov) rfl (by kernel_rfl) ?_) ?_
      · intro bb V a w' ha hB hF hon
        refine ⟨_, rfl, rfl, fun K hK => ?_⟩
        have e23 := told_get 11 (tl_rFold_ok (zNew c.heap.size) x1 x2 b off n cap p w ov) rfl ha (hon 11 (by kernel_rfl)) (by kernel_rfl)
        have F23 : V 11 = .pointer (some ⟨b, off + p * 2, none⟩) := told_fact 11 hF rfl (hon 11 (by kernel_rfl))
        rw [F23] at e23
        refine value_ (w1 := w') (v := .pointer (some ⟨b, off + p * 2 + 1, none⟩)) rfl rfl ?_ (hK _ _ (Below.refl _ _) rfl)
        clear ha hF hon hK K
        go_simp
        all_goals first | rfl | (constructor <;> rfl)
      refine steps_cons (toldG_step 13 (tl_rFold_ok (zNew c.heap.size) x1 x2 b off n cap p w ov) (tl_rFold_up (zNew c.heap.size) x1 x2 b off n cap p w ov) rfl (by kernel_rfl) ?_) ?_
      · intro bb V a w' ha hB hF hon
        refine ⟨_, rfl, rfl, fun K hK => ?_⟩
        have e24 := told_get 12 (tl_rFold_ok (zNew c.heap.size) x1 x2 b off n cap p w ov) rfl ha (hon 12 (by kernel_rfl)) (by kernel_rfl)
        have F24 : V 12 = .pointer (some ⟨b, off + p * 2 + 1, none⟩) := told_fact 12 hF rfl (hon 12 (by kernel_rfl))
        rw [F24] at e24
        have hg := HROW.out.on hB
        have y1 := hg.c 1 _ rfl
        clear hg
        refine value_ (w1 := w') (v := .int .i64 x2) rfl rfl ?_ (hK _ _ (Below.refl _ _) rfl)
        clear ha hF hon hK K
        go_simp
        all_goals first | rfl | (constructor <;> rfl)
      refine steps_cons (toldG_step 14 (tl_rFold_ok (zNew c.heap.size) x1 x2 b off n cap p w ov) (tl_rFold_up (zNew c.heap.size) x1 x2 b off n cap p w ov) rfl (by kernel_rfl) ?_) ?_
      · intro bb V a w' ha hB hF hon
        refine ⟨_, rfl, rfl, fun K hK => ?_⟩
        have e25 := told_get 13 (tl_rFold_ok (zNew c.heap.size) x1 x2 b off n cap p w ov) rfl ha (hon 13 (by kernel_rfl)) (by kernel_rfl)
        have F25 : V 13 = .int .i64 x2 := told_fact 13 hF rfl (hon 13 (by kernel_rfl))
        rw [F25] at e25
        refine goes_ Tryz.func86 (by kernel_rfl) rfl #[.int .i64 x2] rfl rfl rfl (by simp only [List.map_toArray, List.map_cons, List.map_nil, Act.eval, Array.getD_eq_getD_getElem?, e25, Option.getD_some]) ?_
        refine ((rNum x2 w' HOK.out.2).mono (fun _ _ h => h.mk hB.size)).mono ?_
        rintro e w'' ⟨v, rfl, hv, hb⟩
        exact ⟨v, rfl, hK v w'' hb hv⟩
      refine steps_cons (toldG_step 15 (tl_rFold_ok (zNew c.heap.size) x1 x2 b off n cap p w ov) (tl_rFold_up (zNew c.heap.size) x1 x2 b off n cap p w ov) rfl (by kernel_rfl) ?_) ?_
      · intro bb V a w' ha hB hF hon
        refine ⟨_, rfl, rfl, fun K hK => ?_⟩
        have e20 := told_get 8 (tl_rFold_ok (zNew c.heap.size) x1 x2 b off n cap p w ov) rfl ha (hon 8 (by kernel_rfl)) (by kernel_rfl)
        have F20 := told_fact 8 hF rfl (hon 8 (by kernel_rfl))
        obtain ⟨k_20, i_20, x_20, A_20, n_20, c_20, B_20, m_20, d_20, hv20⟩ := VAL.shape F20
        rw [hv20] at e20 F20
        have e26 := told_get 14 (tl_rFold_ok (zNew c.heap.size) x1 x2 b off n cap p w ov) rfl ha (hon 14 (by kernel_rfl)) (by kernel_rfl)
        have F26 := told_fact 14 hF rfl (hon 14 (by kernel_rfl))
        obtain ⟨k_26, i_26, x_26, A_26, n_26, c_26, B_26, m_26, d_26, hv26⟩ := VAL.shape F26
        rw [hv26] at e26 F26
        refine value_ (w1 := w'.alloc (.cells #[.int .i64 k_20, .bool i_20, .string x_20, .slice A_20 n_20 c_20, .slice B_20 m_20 d_20, .int .i64 k_26, .bool i_26, .string x_26, .slice A_26 n_26 c_26, .slice B_26 m_26 d_26] 30)) (v := .slice (some ⟨w'.heap.size, 0, none⟩) 2 2) rfl rfl ?_ (hK _ _ ((Below.refl _ _).alloc (Nat.le_refl _) _) (VSV_new _ _ _ _ _ (VR.cons F20 (VR.cons F26 (VR.none _ _))) (zNew_alloc hB.size)))
        clear ha hF hon hK K
        go_simp
        all_goals first | rfl | (constructor <;> rfl)
      refine steps_cons (toldG_step 16 (tl_rFold_ok (zNew c.heap.size) x1 x2 b off n cap p w ov) (tl_rFold_up (zNew c.heap.size) x1 x2 b off n cap p w ov) rfl (by kernel_rfl) ?_) ?_
      · intro bb V a w' ha hB hF hon
        refine ⟨_, rfl, rfl, fun K hK => ?_⟩
        have e14 := told_get 2 (tl_rFold_ok (zNew c.heap.size) x1 x2 b off n cap p w ov) rfl ha (hon 2 (by kernel_rfl)) (by kernel_rfl)
        have F14 := told_fact 2 hF rfl (hon 2 (by kernel_rfl))
        have e27 := told_get 15 (tl_rFold_ok (zNew c.heap.size) x1 x2 b off n cap p w ov) rfl ha (hon 15 (by kernel_rfl)) (by kernel_rfl)
        have F27 := told_fact 15 hF rfl (hon 15 (by kernel_rfl))
        refine goes_ Tryz.func84 (by kernel_rfl) rfl #[V 2, V 15] rfl rfl rfl (by simp only [List.map_toArray, List.map_cons, List.map_nil, Act.eval, Array.getD_eq_getD_getElem?, e14, e27, Option.getD_some]) ?_
        refine ((rObject_any w' (zNew c.heap.size) _ _ F14 F27 rfl (Nat.le_trans (foldT_bulk x1 x2 HOK.out.1 HOK.out.2) (by omega))).mono (fun _ _ h => h.mk hB.size)).mono ?_
        rintro e w'' ⟨v, rfl, hv, hb⟩
        exact ⟨v, rfl, hK v w'' hb hv⟩
      refine steps_cons (toldG_step 17 (tl_rFold_ok (zNew c.heap.size) x1 x2 b off n cap p w ov) (tl_rFold_up (zNew c.heap.size) x1 x2 b off n cap p w ov) rfl (by kernel_rfl) ?_) ?_
      · intro bb V a w' ha hB hF hon
        refine ⟨_, rfl, rfl, fun K hK => ?_⟩
        have e28 := told_get 16 (tl_rFold_ok (zNew c.heap.size) x1 x2 b off n cap p w ov) rfl ha (hon 16 (by kernel_rfl)) (by kernel_rfl)
        have F28 := told_fact 16 hF rfl (hon 16 (by kernel_rfl))
        obtain ⟨k_28, i_28, x_28, A_28, n_28, c_28, B_28, m_28, d_28, hv28⟩ := VAL.shape F28
        rw [hv28] at e28 F28
        refine value_ (w1 := w'.alloc (.cells #[.int .i64 k_28, .bool i_28, .string x_28, .slice A_28 n_28 c_28, .slice B_28 m_28 d_28] 30)) (v := .slice (some ⟨w'.heap.size, 0, none⟩) 1 1) rfl rfl ?_ (hK _ _ ((Below.refl _ _).alloc (Nat.le_refl _) _) (VSV_new _ _ _ _ _ (VR.cons F28 (VR.none _ _)) (zNew_alloc hB.size)))
        clear ha hF hon hK K
        go_simp
        all_goals first | rfl | (constructor <;> rfl)
      refine steps_cons (after_app ?_ (by kernel_rfl) (by kernel_rfl) (by kernel_rfl) ?_) ?_
      · intro e he; simp only [tl_rFold, List.mem_cons, List.mem_nil_iff, or_false] at he; rcases he with rfl | rfl | rfl | rfl | rfl | rfl | rfl | rfl | rfl | rfl | rfl | rfl | rfl | rfl | rfl | rfl | rfl | rfl <;> kernel_rfl
      · intro V a w' ha hB hF
        refine ⟨_, rfl, fun K hK => ?_⟩
        have e13 := told_get 1 (tl_rFold_ok (zNew c.heap.size) x1 x2 b off n cap p w ov) rfl ha rfl (by kernel_rfl)
        have F13 : V 1 = ov := hF _ (List.mem_of_getElem? (i := 1) rfl)
        rw [F13] at e13
        have e29 := told_get 17 (tl_rFold_ok (zNew c.heap.size) x1 x2 b off n cap p w ov) rfl ha rfl (by kernel_rfl)
        have F29 := hF _ (List.mem_of_getElem? (i := 17) rfl)
        obtain ⟨qb, qo, qc, v0, v1, v2, v3, v4, hvx, hqz, hc5, hvt⟩ := VSV.single F29
        rw [hvx] at e29
        have HMw := Lib.hid (HM.out.on hB)
        have HOw := Lib.hid (HO.out.on hB)
        refine step_append_lies _ rfl (.tmp 13) (.tmp 29) 28 rfl (w.heap.size + 2) 30 i0 _ 5 80 Tryz.underlying28 HI0.out HZ0.out HZ1.out HZ2.out rfl (by omega) ov p xs (by simp only [Act.eval, Array.getD_eq_getD_getElem?, e13, Option.getD_some]) HMw.out.own ⟨qb, qo, none⟩ 1 qc [v0, v1, v2, v3, v4] (by simp only [Act.eval, Array.getD_eq_getD_getElem?, e29, Option.getD_some]) rfl hc5.news hvt.one (by omega)
          (by unfold maxLen; omega) (by omega) HMw.out.size _ rfl ?_
        intro g ncap w5 hown hgrow hat hlt5
        have hv' : VAL w' (fun b => w.heap.size + 2 ≤ b ∧ b < w'.heap.size ∧ (ov).ownBlock ≠ some b) ((fun j => (l.map Fd.tree).getD j .leaf) p) (.agg #[v0, v1, v2, v3, v4]) := by
          refine Eq.mpr (congrArg (fun t => VAL w' _ t (.agg #[v0, v1, v2, v3, v4])) HT.out) ?_
          exact hvt.mono (fun b hb => ⟨Nat.le_trans HM.out.size hb.1, hb.2, fun e => by have := (HM.out.own.lt b e).2; have := hb.1; omega⟩)
        exact hK _ _ ⟨V, _, by rw [ha]; rfl, g, ncap, _, rfl, HMw.out.grown HAT.out hv' hown hgrow hat, HOw.out.same (hgrow.block _ HOw.out.lt (own_ne HMw.out.own HAT.out.d))⟩
      refine steps_cons (after_fa (by kernel_rfl) (by kernel_rfl) (by decide) (by decide) ?_) ?_
      · rintro a w' ⟨V, v, ha, hG⟩
        refine ⟨_, rfl, fun K hK => ?_⟩
        have e3 : a.tmps[3]? = some (.pointer (some ⟨w.heap.size + 1, 0, none⟩)) := by rw [ha, put_ne (by decide)]; exact (putSel_off (by rfl)).trans rfl
        refine value_ (w1 := w') (v := .pointer (some ⟨w.heap.size + 1, 3, none⟩)) rfl rfl ?_ (hK _ _ ⟨V, v, by rw [ha]; rfl, hG⟩)
        clear ha hG hK K
        go_simp
        all_goals first | rfl | (constructor <;> rfl)
      refine steps_cons (after_st (by kernel_rfl) (by kernel_rfl) (by decide) (by decide) ?_) steps_nil
      rintro a w' ⟨V, v, ha, g, ncap, xs', rfl, hM5, hO5⟩
      refine ⟨_, rfl, fun K hK => ?_⟩
      have e31 : a.tmps[31]? = some (.pointer (some ⟨w.heap.size + 1, 3, none⟩)) := by rw [ha]; exact put_at (by rw [put_size, (putSel_size _ _ _).1]; exact Nat.le_of_ble_eq_true rfl)
      have e30 : a.tmps[30]? = some (.slice (some ⟨g, 0, none⟩) (p + 1) ncap) := by rw [ha, put_ne (by decide)]; exact put_at (by rw [(putSel_size _ _ _).1]; exact Nat.le_of_ble_eq_true rfl)
      have f3 := hO5.fr 3
      have s3 := hO5.c3
      refine skip_ (w1 := w'.setCell ⟨w.heap.size + 1, 3, none⟩ (.slice (some ⟨g, 0, none⟩) (p + 1) ncap)) rfl rfl ?_ (hK _ _ ?_)
      · clear ha hM5 hK K
        go_simp
        all_goals first | rfl | (constructor <;> rfl)
      have HM5 := Lib.hid hM5
      clear hK K hM5 hO5 f3 s3 e30 e31
      generalize (w'.setCell ⟨w.heap.size + 1, 3, none⟩ (.slice (some ⟨g, 0, none⟩) (p + 1) ncap)) = w6 at *
      rw [ha]
      clear ha
      simp only [tl_rFold, Tolds.put, List.map_cons, List.map_nil, putSel, if_true, Act.put, List.setIfInBounds_toArray, List.set_cons_zero, List.set_cons_succ]
      generalize V 0 = u0
      generalize V 1 = u1
      generalize V 2 = u2
      generalize V 3 = u3
      generalize V 4 = u4
      generalize V 5 = u5
      generalize V 6 = u6
      generalize V 7 = u7
      generalize V 8 = u8
      generalize V 9 = u9
      generalize V 10 = u10
      generalize V 11 = u11
      generalize V 12 = u12
      generalize V 13 = u13
      generalize V 14 = u14
      generalize V 15 = u15
      generalize V 16 = u16
      generalize V 17 = u17
      try clear V
      go_wp2
      go_roundg (gk - 1)
      case measure => have := HP.out; omega
      case rel => exact ⟨p + 1, _, _, by have := HP.out; omega, by go_num, HM5.out⟩
    · have hd1 : decide (p < n) = false := by simp; omega
      have hd2 : decide ((p : Int) < (n : Int)) = false := by simp; omega
      have hpn : p = n := by have := HP.out; omega
      subst hpn
      obtain ⟨OA, ocap, hov, hVV⟩ := HM.out.val
      subst hov
      have HVV := Lib.hid hVV
      have hg := HM.out.out
      have y0 := hg.c0
      have y1 := hg.c1
      have y2 := hg.c2
      have y3 := hg.c3
      have y4 := hg.c4
      have hz := HM.out.res
      have z0 := hz.c0
      have z1 := hz.c1
      have z2 := hz.c2
      have z3 := hz.c3
      have z4 := hz.c4
      have f0 := hz.fr 0
      have f1 := hz.fr 1
      have f2 := hz.fr 2
      have f3 := hz.fr 3
      have f4 := hz.fr 4
      have hres := hz.put (.int .i64 4) (.bool false) (.string ⟨#[]⟩) (.slice OA p ocap) (.slice none 0 0)
      have r0 := hres.c0
      have r1 := hres.c1
      have r2 := hres.c2
      have r3 := hres.c3
      have r4 := hres.c4
      clear hres hg hz hVV hlt
      go_wp2
      refine bodyPost_ret (v := .agg #[.int .i64 4, .bool false, .string ⟨#[]⟩, .slice OA p ocap, .slice none 0 0]) (by simp [results, Tryz.results43, go_sem, r0, r1, r2, r3, r4]) rfl ⟨_, rfl, ?_, five_below HM.out.below w.heap.size _ _ _ _ _ (Nat.le_refl _)⟩
      have hV := five_New (w := w) (u0 := .int .i64 4) (u1 := .bool false) (u2 := .string ⟨#[]⟩) (u3 := .slice OA p ocap) (u4 := .slice none 0 0) (g := w.heap.size) HVV.out (fun b hb => ⟨by have := hb.1; omega, hb.2, by have := hb.1; omega⟩)
      have e1 : (l.map Fd.tree).length = p := by rw [List.length_map]; exact HN.out
      show VAL _ _ (.mk 4 false .empty (l.map Fd.tree).length _ []) _
      rw [e1]
      exact hV

end Go.Proofs.YthndgekjccclnaaGreatDoor
