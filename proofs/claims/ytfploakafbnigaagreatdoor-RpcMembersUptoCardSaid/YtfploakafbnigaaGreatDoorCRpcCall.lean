/-
  Layer 12, the walks: call.
-/
import Derived.Test.YtfploakafbnigaaGreatDoorCRpcSays
import Derived.Test.YtfploakafbnigaaGreatDoorCPkMkA
namespace Go.Proofs.YtfploakafbnigaaGreatDoor
open Go.RowKit Val Num YtfploakafbnigaaGreatDoorW.PrintLast
set_option linter.unusedVariables false
set_option linter.unusedSimpArgs false
def BLKV (C : Nat) (T : TypeId) (cs : Array Value) (n : Nat) (w : World) (v : Value) : Prop := ∃ q, v = .slice (some ⟨q, 0, none⟩) n n ∧ C ≤ q ∧ BK w q T cs
def BOXV (C : Nat) (T : TypeId) (cs : Array Value) (w : World) (v : Value) : Prop := ∃ g, v = .pointer (some ⟨g, 0, none⟩) ∧ C ≤ g ∧ BK w g T cs
def OBJV (C : Nat) (T1 : TypeId) (cs1 : Array Value) (n1 : Nat) (T2 : TypeId) (cs2 : Array Value) (n2 : Nat) (w : World) (v : Value) : Prop :=
  ∃ q1 q2, v = .agg #[.int .i64 5, .bool false, .string ⟨#[]⟩, .slice (some ⟨q2, 0, none⟩) n2 n2, .slice (some ⟨q1, 0, none⟩) n1 n1] ∧ C ≤ q1 ∧ C ≤ q2 ∧ BK w q1 T1 cs1 ∧ BK w q2 T2 cs2
theorem BLKV.up {C : Nat} {T : TypeId} {cs : Array Value} {n : Nat} {w w' : World} {v : Value} (h : BLKV C T cs n w v) (hb : Below w.heap.size w w') : BLKV C T cs n w' v := by
  obtain ⟨q, e, h1, h2⟩ := h
  exact ⟨q, e, h1, h2.on hb⟩
theorem BOXV.up {C : Nat} {T : TypeId} {cs : Array Value} {w w' : World} {v : Value} (h : BOXV C T cs w v) (hb : Below w.heap.size w w') : BOXV C T cs w' v := by
  obtain ⟨q, e, h1, h2⟩ := h
  exact ⟨q, e, h1, h2.on hb⟩
theorem OBJV.up {C : Nat} {T1 T2 : TypeId} {cs1 cs2 : Array Value} {n1 n2 : Nat} {w w' : World} {v : Value} (h : OBJV C T1 cs1 n1 T2 cs2 n2 w v) (hb : Below w.heap.size w w') : OBJV C T1 cs1 n1 T2 cs2 n2 w' v := by
  obtain ⟨q1, q2, e, c1, c2, b1, b2⟩ := h
  exact ⟨q1, q2, e, c1, c2, b1.on hb, b2.on hb⟩
theorem BLKV_new {C : Nat} (w : World) (T : TypeId) (cs : Array Value) (n : Nat) (h : C ≤ w.heap.size) : BLKV C T cs n (w.alloc (.cells cs T)) (.slice (some ⟨w.heap.size, 0, none⟩) n n) := ⟨_, rfl, h, BK.new w T cs⟩
theorem BOXV_new {C : Nat} (w : World) (T : TypeId) (cs : Array Value) (h : C ≤ w.heap.size) : BOXV C T cs (w.alloc (.cells cs T)) (.pointer (some ⟨w.heap.size, 0, none⟩)) := ⟨_, rfl, h, BK.new w T cs⟩
theorem BK.ne {w : World} {g q : Nat} {T T' : TypeId} {cs cs' : Array Value} (h : BK w g T cs) (k : BK w q T' cs') (hs : cs.size ≠ cs'.size) : g ≠ q := by
  intro e
  subst e
  unfold BK at h k
  rw [h] at k
  injection k with k
  injection k with k1 k2
  exact hs (by rw [k1])
def tl_call (z : Zone) (C : Nat) (s : ByteArray) (w : World) : Tolds := [(0, 3, BLKV C 9 #[.string ⟨#[106, 115, 111, 110, 114, 112, 99]⟩, .string ⟨#[105, 100]⟩, .string ⟨#[109, 101, 116, 104, 111, 100]⟩, .string ⟨#[112, 97, 114, 97, 109, 115]⟩] 4), (1, 4, fun _ v => v = .agg #[.int .i64 3, .bool false, .string ⟨#[50, 46, 48]⟩, .slice none 0 0, .slice none 0 0]), (2, 5, fun _ v => v = .agg #[.int .i64 2, .bool false, .string s, .slice none 0 0, .slice none 0 0]), (3, 6, fun _ v => v = .agg #[.int .i64 3, .bool false, .string ⟨#[97]⟩, .slice none 0 0, .slice none 0 0]), (4, 7, fun _ v => v = .agg #[.int .i64 4, .bool false, .string ⟨#[]⟩, .slice none 0 0, .slice none 0 0]), (5, 8, BLKV C 25 #[.int .i64 3, .bool false, .string ⟨#[50, 46, 48]⟩, .slice none 0 0, .slice none 0 0, .int .i64 2, .bool false, .string s, .slice none 0 0, .slice none 0 0, .int .i64 3, .bool false, .string ⟨#[97]⟩, .slice none 0 0, .slice none 0 0, .int .i64 4, .bool false, .string ⟨#[]⟩, .slice none 0 0, .slice none 0 0] 4), (6, 9, OBJV C 9 #[.string ⟨#[106, 115, 111, 110, 114, 112, 99]⟩, .string ⟨#[105, 100]⟩, .string ⟨#[109, 101, 116, 104, 111, 100]⟩, .string ⟨#[112, 97, 114, 97, 109, 115]⟩] 4 25 #[.int .i64 3, .bool false, .string ⟨#[50, 46, 48]⟩, .slice none 0 0, .slice none 0 0, .int .i64 2, .bool false, .string s, .slice none 0 0, .slice none 0 0, .int .i64 3, .bool false, .string ⟨#[97]⟩, .slice none 0 0, .slice none 0 0, .int .i64 4, .bool false, .string ⟨#[]⟩, .slice none 0 0, .slice none 0 0] 4)]
theorem tl_call_ok (z : Zone) (C : Nat) (s : ByteArray) (w : World) : (tl_call z C s w).ok 7 = true := by kernel_rfl
theorem tl_call_up (z : Zone) (C : Nat) (s : ByteArray) (w : World) : (tl_call z C s w).up := (tup_cons (fun _ _ _ h hb => BLKV.up h hb) (tup_cons (fun _ _ _ h _ => h) (tup_cons (fun _ _ _ h _ => h) (tup_cons (fun _ _ _ h _ => h) (tup_cons (fun _ _ _ h _ => h) (tup_cons (fun _ _ _ h hb => BLKV.up h hb) (tup_cons (fun _ _ _ h hb => OBJV.up h hb) tup_nil)))))))
set_option maxRecDepth 100000 in
set_option maxHeartbeats 8000000 in
theorem call_num (s : ByteArray) (w : World) : Calls Tryz.prog 92 #[.agg #[.int .i64 2, .bool false, .string s, .slice none 0 0, .slice none 0 0]] w fun e w' => ∃ v, e = .returned v ∧ OBJV w.heap.size 9 #[.string ⟨#[106, 115, 111, 110, 114, 112, 99]⟩, .string ⟨#[105, 100]⟩, .string ⟨#[109, 101, 116, 104, 111, 100]⟩, .string ⟨#[112, 97, 114, 97, 109, 115]⟩] 4 25 #[.int .i64 3, .bool false, .string ⟨#[50, 46, 48]⟩, .slice none 0 0, .slice none 0 0, .int .i64 2, .bool false, .string s, .slice none 0 0, .slice none 0 0, .int .i64 3, .bool false, .string ⟨#[97]⟩, .slice none 0 0, .slice none 0 0, .int .i64 4, .bool false, .string ⟨#[]⟩, .slice none 0 0, .slice none 0 0] 4 w' v ∧ Below w.heap.size w w' := by
  go_enter Tryz.func92, Tryz.ntmps92
  go_wp2_with fail
  have HB : Hid (Below w.heap.size w ((w.alloc (.cells #[.int .i64 2, .bool false, .string s, .slice none 0 0, .slice none 0 0] 25)).alloc (.cells #[.int .i64 0, .bool false, .string ⟨#[]⟩, .slice none 0 0, .slice none 0 0] 25))) := Lib.hid (al2_below w _ _)
  have HX : Hid (BK ((w.alloc (.cells #[.int .i64 2, .bool false, .string s, .slice none 0 0, .slice none 0 0] 25)).alloc (.cells #[.int .i64 0, .bool false, .string ⟨#[]⟩, .slice none 0 0, .slice none 0 0] 25)) w.heap.size 25 #[.int .i64 2, .bool false, .string s, .slice none 0 0, .slice none 0 0]) := Lib.hid (al2_0 w _ _)
  have HR : Hid (BX ((w.alloc (.cells #[.int .i64 2, .bool false, .string s, .slice none 0 0, .slice none 0 0] 25)).alloc (.cells #[.int .i64 0, .bool false, .string ⟨#[]⟩, .slice none 0 0, .slice none 0 0] 25)) (w.heap.size + 1) (.int .i64 0) (.bool false) (.string ⟨#[]⟩) (.slice none 0 0) (.slice none 0 0)) := Lib.hid (al2_1 w _ _)
  generalize ((w.alloc (.cells #[.int .i64 2, .bool false, .string s, .slice none 0 0, .slice none 0 0] 25)).alloc (.cells #[.int .i64 0, .bool false, .string ⟨#[]⟩, .slice none 0 0, .slice none 0 0] 25)) = w1 at *
  refine start_ (n := 8) (S := fun w' => True) (ds := []) #[false, false, false, false, false, false, false, false] (by kernel_rfl) rfl rfl trivial (fun hHeld => ?_)
  clear hHeld
  have hb : Below w1.heap.size w1 w1.drew := (Below.refl _ _).drew
  replace HB := Lib.hid (HB.out.trans (hb.mono HB.out.size))
  replace HR := Lib.hid (HR.out.on hb)
  replace HX := Lib.hid (HX.out.on hb)
  clear hb
  generalize w1.drew = c at *
  refine inv_ (B := [0, 0, 0, 2, 0, 30, 63, 127]) [0, 1, 2, 3, 4, 5, 6, 7] (ToldI _ (tl_call (zNew 0) c.heap.size s w) 7 c _) rfl (by kernel_rfl) (by kernel_rfl) (by kernel_rfl) told_begin ?_ (told_end (by kernel_rfl))
  refine steps_cons (told_step 0 (tl_call_ok (zNew 0) c.heap.size s w) (tl_call_up (zNew 0) c.heap.size s w) rfl (by kernel_rfl) ?_) ?_
  · intro b V a w' ha hB hF hon
    refine ⟨_, rfl, rfl, fun K hK => ?_⟩
    refine value_ (w1 := w'.alloc (.cells #[.string ⟨#[106, 115, 111, 110, 114, 112, 99]⟩, .string ⟨#[105, 100]⟩, .string ⟨#[109, 101, 116, 104, 111, 100]⟩, .string ⟨#[112, 97, 114, 97, 109, 115]⟩] 9)) (v := .slice (some ⟨w'.heap.size, 0, none⟩) 4 4) rfl rfl ?_ (hK _ _ ((Below.refl _ _).alloc (Nat.le_refl _) _) (BLKV_new _ _ _ _ hB.size))
    clear ha hF hon hK K
    go_simp
    all_goals first | rfl | (constructor <;> rfl)
  refine steps_cons (told_step 1 (tl_call_ok (zNew 0) c.heap.size s w) (tl_call_up (zNew 0) c.heap.size s w) rfl (by kernel_rfl) ?_) ?_
  · intro b V a w' ha hB hF hon
    refine ⟨_, rfl, rfl, fun K hK => ?_⟩
    refine goes_ Tryz.func90 (by kernel_rfl) rfl #[.string ⟨#[50, 46, 48]⟩] rfl rfl rfl (by simp only [List.map_toArray, List.map_cons, List.map_nil, Act.eval, Array.getD_eq_getD_getElem?, Option.getD_some]) ?_
    refine (kText_any ⟨#[50, 46, 48]⟩ w').mono ?_
    rintro e w'' ⟨rfl, hb⟩
    exact ⟨_, rfl, hK _ w'' hb rfl⟩
  refine steps_cons (told_step 2 (tl_call_ok (zNew 0) c.heap.size s w) (tl_call_up (zNew 0) c.heap.size s w) rfl (by kernel_rfl) ?_) ?_
  · intro b V a w' ha hB hF hon
    refine ⟨_, rfl, rfl, fun K hK => ?_⟩
    have e1 : a.tmps[1]? = some (.pointer (some ⟨w.heap.size, 0, none⟩)) := by rw [ha]; exact (putSel_off (by rfl)).trans rfl
    have hg := HX.out.on hB
    have y0 := hg.c 0 rfl
    have y1 := hg.c 1 rfl
    have y2 := hg.c 2 rfl
    have y3 := hg.c 3 rfl
    have y4 := hg.c 4 rfl
    clear hg
    refine value_ (w1 := w') (v := .agg #[.int .i64 2, .bool false, .string s, .slice none 0 0, .slice none 0 0]) rfl rfl ?_ (hK _ _ (Below.refl _ _) rfl)
    clear ha hF hon hK K
    go_simp
    all_goals first | rfl | (constructor <;> rfl)
  refine steps_cons (told_step 3 (tl_call_ok (zNew 0) c.heap.size s w) (tl_call_up (zNew 0) c.heap.size s w) rfl (by kernel_rfl) ?_) ?_
  · intro b V a w' ha hB hF hon
    refine ⟨_, rfl, rfl, fun K hK => ?_⟩
    refine goes_ Tryz.func90 (by kernel_rfl) rfl #[.string ⟨#[97]⟩] rfl rfl rfl (by simp only [List.map_toArray, List.map_cons, List.map_nil, Act.eval, Array.getD_eq_getD_getElem?, Option.getD_some]) ?_
    refine (kText_any ⟨#[97]⟩ w').mono ?_
    rintro e w'' ⟨rfl, hb⟩
    exact ⟨_, rfl, hK _ w'' hb rfl⟩
  refine steps_cons (told_step 4 (tl_call_ok (zNew 0) c.heap.size s w) (tl_call_up (zNew 0) c.heap.size s w) rfl (by kernel_rfl) ?_) ?_
  · intro b V a w' ha hB hF hon
    refine ⟨_, rfl, rfl, fun K hK => ?_⟩
    refine value_ (w1 := w') (v := .agg #[.int .i64 4, .bool false, .string ⟨#[]⟩, .slice none 0 0, .slice none 0 0]) rfl rfl ?_ (hK _ _ (Below.refl _ _) rfl)
    clear ha hF hon hK K
    go_simp
    all_goals first | rfl | (constructor <;> rfl)
  refine steps_cons (told_step 5 (tl_call_ok (zNew 0) c.heap.size s w) (tl_call_up (zNew 0) c.heap.size s w) rfl (by kernel_rfl) ?_) ?_
  · intro b V a w' ha hB hF hon
    refine ⟨_, rfl, rfl, fun K hK => ?_⟩
    have e4 := told_get 1 (tl_call_ok (zNew 0) c.heap.size s w) rfl ha (hon 1 (by kernel_rfl)) (by kernel_rfl)
    have F4 : V 1 = .agg #[.int .i64 3, .bool false, .string ⟨#[50, 46, 48]⟩, .slice none 0 0, .slice none 0 0] := told_fact 1 hF rfl (hon 1 (by kernel_rfl))
    rw [F4] at e4
    have e5 := told_get 2 (tl_call_ok (zNew 0) c.heap.size s w) rfl ha (hon 2 (by kernel_rfl)) (by kernel_rfl)
    have F5 : V 2 = .agg #[.int .i64 2, .bool false, .string s, .slice none 0 0, .slice none 0 0] := told_fact 2 hF rfl (hon 2 (by kernel_rfl))
    rw [F5] at e5
    have e6 := told_get 3 (tl_call_ok (zNew 0) c.heap.size s w) rfl ha (hon 3 (by kernel_rfl)) (by kernel_rfl)
    have F6 : V 3 = .agg #[.int .i64 3, .bool false, .string ⟨#[97]⟩, .slice none 0 0, .slice none 0 0] := told_fact 3 hF rfl (hon 3 (by kernel_rfl))
    rw [F6] at e6
    have e7 := told_get 4 (tl_call_ok (zNew 0) c.heap.size s w) rfl ha (hon 4 (by kernel_rfl)) (by kernel_rfl)
    have F7 : V 4 = .agg #[.int .i64 4, .bool false, .string ⟨#[]⟩, .slice none 0 0, .slice none 0 0] := told_fact 4 hF rfl (hon 4 (by kernel_rfl))
    rw [F7] at e7
    refine value_ (w1 := w'.alloc (.cells #[.int .i64 3, .bool false, .string ⟨#[50, 46, 48]⟩, .slice none 0 0, .slice none 0 0, .int .i64 2, .bool false, .string s, .slice none 0 0, .slice none 0 0, .int .i64 3, .bool false, .string ⟨#[97]⟩, .slice none 0 0, .slice none 0 0, .int .i64 4, .bool false, .string ⟨#[]⟩, .slice none 0 0, .slice none 0 0] 25)) (v := .slice (some ⟨w'.heap.size, 0, none⟩) 4 4) rfl rfl ?_ (hK _ _ ((Below.refl _ _).alloc (Nat.le_refl _) _) (BLKV_new _ _ _ _ hB.size))
    clear ha hF hon hK K
    go_simp
    all_goals first | rfl | (constructor <;> rfl)
  refine steps_cons (told_step 6 (tl_call_ok (zNew 0) c.heap.size s w) (tl_call_up (zNew 0) c.heap.size s w) rfl (by kernel_rfl) ?_) ?_
  · intro b V a w' ha hB hF hon
    refine ⟨_, rfl, rfl, fun K hK => ?_⟩
    have e3 := told_get 0 (tl_call_ok (zNew 0) c.heap.size s w) rfl ha (hon 0 (by kernel_rfl)) (by kernel_rfl)
    have F3 := told_fact 0 hF rfl (hon 0 (by kernel_rfl))
    have e8 := told_get 5 (tl_call_ok (zNew 0) c.heap.size s w) rfl ha (hon 5 (by kernel_rfl)) (by kernel_rfl)
    have F8 := told_fact 5 hF rfl (hon 5 (by kernel_rfl))
    refine goes_ Tryz.func89 (by kernel_rfl) rfl #[V 0, V 5] rfl rfl rfl (by simp only [List.map_toArray, List.map_cons, List.map_nil, Act.eval, Array.getD_eq_getD_getElem?, e3, e8, Option.getD_some]) ?_
    obtain ⟨q1, hq1, hq1c, hq1b⟩ := F3
    obtain ⟨q2, hq2, hq2c, hq2b⟩ := F8
    rw [hq1, hq2]
    refine (kObject_any _ _ _ _ _ _ w').mono ?_
    rintro e w'' ⟨rfl, hb⟩
    exact ⟨_, rfl, hK _ w'' hb ⟨q1, q2, rfl, hq1c, hq2c, hq1b.on hb, hq2b.on hb⟩⟩
  refine steps_cons (told_last ?_ ?_) steps_nil
  · intro e he; simp only [tl_call, List.mem_cons, List.mem_nil_iff, or_false] at he; rcases he with rfl | rfl | rfl | rfl | rfl | rfl | rfl <;> kernel_rfl
  intro V a w' ha hB hF
  refine ⟨_, rfl, rfl, fun K hK => ?_⟩
  have e9 := told_get 6 (tl_call_ok (zNew 0) c.heap.size s w) rfl ha rfl (by kernel_rfl)
  have F9 := hF _ (List.mem_of_getElem? (i := 6) rfl)
  obtain ⟨qn, ql, hv9, hqn, hql, bqn, bql⟩ := F9
  rw [hv9] at e9
  have e2 : a.tmps[2]? = some (.pointer (some ⟨w.heap.size + 1, 0, none⟩)) := by rw [ha]; exact (putSel_off (by rfl)).trans rfl
  have hg := HR.out.on hB
  have f0 := hg.fr 0
  have y0 := hg.c0
  have f1 := hg.fr 1
  have y1 := hg.c1
  have f2 := hg.fr 2
  have y2 := hg.c2
  have f3 := hg.fr 3
  have y3 := hg.c3
  have f4 := hg.fr 4
  have y4 := hg.c4
  refine skip_ (w1 := five w' (w.heap.size + 1) (.int .i64 5) (.bool false) (.string ⟨#[]⟩) (.slice (some ⟨ql, 0, none⟩) 4 4) (.slice (some ⟨qn, 0, none⟩) 4 4)) rfl rfl ?_ (hK _ _ ?_)
  · clear ha hF hK K
    go_simp
    all_goals first | rfl | (constructor <;> rfl)
  clear hK K hF e9 e2 f0 y0 f1 y1 f2 y2 f3 y3 f4 y4
  have hres : BX (five w' (w.heap.size + 1) (.int .i64 5) (.bool false) (.string ⟨#[]⟩) (.slice (some ⟨ql, 0, none⟩) 4 4) (.slice (some ⟨qn, 0, none⟩) 4 4)) (w.heap.size + 1) (.int .i64 5) (.bool false) (.string ⟨#[]⟩) (.slice (some ⟨ql, 0, none⟩) 4 4) (.slice (some ⟨qn, 0, none⟩) 4 4) := hg.put (.int .i64 5) (.bool false) (.string ⟨#[]⟩) (.slice (some ⟨ql, 0, none⟩) 4 4) (.slice (some ⟨qn, 0, none⟩) 4 4)
  have r0 := hres.c0
  have r1 := hres.c1
  have r2 := hres.c2
  have r3 := hres.c3
  have r4 := hres.c4
  have HB' := Lib.hid hB
  have HN := Lib.hid bqn
  have HL := Lib.hid bql
  have HQ := Lib.hid (show w.heap.size + 1 < qn ∧ w.heap.size + 1 < ql from ⟨Nat.lt_of_lt_of_le HR.out.lt hqn, Nat.lt_of_lt_of_le HR.out.lt hql⟩)
  clear hres hg hB bqn bql hqn hql
  rw [ha]
  clear ha
  simp only [tl_call, Tolds.put, List.map_cons, List.map_nil, putSel, if_true, Act.put, List.setIfInBounds_toArray, List.set_cons_zero, List.set_cons_succ, hv9]
  clear hv9
  generalize V 0 = u0
  generalize V 1 = u1
  generalize V 2 = u2
  generalize V 3 = u3
  generalize V 4 = u4
  generalize V 5 = u5
  try clear V
  go_wp2
  exact bodyPost_ret (v := .agg #[.int .i64 5, .bool false, .string ⟨#[]⟩, .slice (some ⟨ql, 0, none⟩) 4 4, .slice (some ⟨qn, 0, none⟩) 4 4]) (by simp [results, Tryz.results92, go_sem, r0, r1, r2, r3, r4]) rfl ⟨_, rfl, ⟨qn, ql, rfl, by have := HQ.out; omega, by have := HQ.out; omega, (five_same (S := (· = qn)) w' (w.heap.size + 1) _ _ _ _ _ (fun b hb => by have := HQ.out; have : b = qn := hb; omega) qn rfl).trans HN.out, (five_same (S := (· = ql)) w' (w.heap.size + 1) _ _ _ _ _ (fun b hb => by have := HQ.out; have : b = ql := hb; omega) ql rfl).trans HL.out⟩, five_below (HB.out.trans (HB'.out.mono HB.out.size)) _ _ _ _ _ _ (by omega)⟩
end Go.Proofs.YtfploakafbnigaaGreatDoor
