/-
  Layer 12, the walks: RpcAnswers, at every two values, number, text.
-/
import Derived.Test.YtfploakafbnigaaGreatDoorRpcLawIds
import Derived.Test.YtfploakafbnigaaGreatDoorRpcRow
namespace Go.Proofs.YtfploakafbnigaaGreatDoor
open Go.RowKit Val Num YtfploakafbnigaaGreatDoorW.PrintLast
set_option linter.unusedVariables false
set_option linter.unusedSimpArgs false
theorem upZ_nil : ToldsZ.up [] := fun _ h => by cases h
theorem upZ_cons {i : Nat} {t : Tmp} {F : Nat → Nat → World → Value → Prop} {L : ToldsZ} (h : ∀ lo hi w w' v, hi ≤ w.heap.size → F lo hi w v → Below w.heap.size w w' → F lo hi w' v) (hs : ToldsZ.up L) : ToldsZ.up ((i, t, F) :: L) := fun e he => by
  rcases List.mem_cons.1 he with rfl | he
  · exact h
  · exact hs e he
def tz_ans (t u : VT) (g0 : Nat) (ka : Int) (ba : Bool) (xa : ByteArray) (Aa : Option Addr) (na ca : Nat) (Ba : Option Addr) (ma da : Nat) (kb : Int) (bb : Bool) (xb : ByteArray) (Ab : Option Addr) (nb cb : Nat) (Bb : Option Addr) (mb db : Nat) : ToldsZ := [(0, 21, fun _ _ _ v => v = .pointer (some ⟨g0, 0, none⟩)), (1, 22, fun _ _ _ v => v = .agg #[.int .i64 ka, .bool ba, .string xa, .slice Aa na ca, .slice Ba ma da]), (2, 23, fun lo hi w v => VAL w (fun b => lo ≤ b ∧ b < hi) t v), (3, 24, fun _ _ _ v => v = .pointer (some ⟨g0, 5, none⟩)), (4, 25, fun _ _ _ v => v = .agg #[.int .i64 kb, .bool bb, .string xb, .slice Ab nb cb, .slice Bb mb db]), (5, 26, fun lo hi w v => VAL w (fun b => lo ≤ b ∧ b < hi) u v), (6, 7, fun lo hi w v => v = .pointer (some ⟨lo, 0, none⟩) ∧ lo < hi ∧ BK w lo 25 #[.int .i64 0, .bool false, .string ⟨#[]⟩, .slice none 0 0, .slice none 0 0]), (7, 8, fun lo hi w v => v = .pointer (some ⟨lo, 0, none⟩) ∧ lo < hi ∧ BK w lo 25 #[.int .i64 0, .bool false, .string ⟨#[]⟩, .slice none 0 0, .slice none 0 0])]
theorem tz_ans_ok (t u : VT) (g0 : Nat) (ka : Int) (ba : Bool) (xa : ByteArray) (Aa : Option Addr) (na ca : Nat) (Ba : Option Addr) (ma da : Nat) (kb : Int) (bb : Bool) (xb : ByteArray) (Ab : Option Addr) (nb cb : Nat) (Bb : Option Addr) (mb db : Nat) : (tz_ans t u g0 ka ba xa Aa na ca Ba ma da kb bb xb Ab nb cb Bb mb db).flat.ok 8 = true := by kernel_rfl
theorem tz_ans_up (t u : VT) (g0 : Nat) (ka : Int) (ba : Bool) (xa : ByteArray) (Aa : Option Addr) (na ca : Nat) (Ba : Option Addr) (ma da : Nat) (kb : Int) (bb : Bool) (xb : ByteArray) (Ab : Option Addr) (nb cb : Nat) (Bb : Option Addr) (mb db : Nat) : (tz_ans t u g0 ka ba xa Aa na ca Ba ma da kb bb xb Ab nb cb Bb mb db).up := (upZ_cons (fun _ _ _ _ _ _ h _ => h) (upZ_cons (fun _ _ _ _ _ _ h _ => h) (upZ_cons (fun _ _ _ _ _ hh h hb => VAL.same (below_same hb (fun b hq => Nat.lt_of_lt_of_le hq.2 hh)) h) (upZ_cons (fun _ _ _ _ _ _ h _ => h) (upZ_cons (fun _ _ _ _ _ _ h _ => h) (upZ_cons (fun _ _ _ _ _ hh h hb => VAL.same (below_same hb (fun b hq => Nat.lt_of_lt_of_le hq.2 hh)) h) (upZ_cons (fun _ _ _ _ _ _ h hb => ⟨h.1, h.2.1, h.2.2.on hb⟩) (upZ_cons (fun _ _ _ _ _ _ h hb => ⟨h.1, h.2.1, h.2.2.on hb⟩) upZ_nil))))))))
set_option maxRecDepth 100000 in
set_option maxHeartbeats 16000000 in
theorem RpcAnswers_walk (t u : VT) (code : Int) (text : ByteArray) (ka : Int) (ba : Bool) (xa : ByteArray) (Aa : Option Addr) (na ca : Nat) (Ba : Option Addr) (ma da : Nat) (kb : Int) (bb : Bool) (xb : ByteArray) (Ab : Option Addr) (nb cb : Nat) (Bb : Option Addr) (mb db : Nat) (w : World) (ha : VAL w (fun x => x < w.heap.size) t (.agg #[.int .i64 ka, .bool ba, .string xa, .slice Aa na ca, .slice Ba ma da])) (hb : VAL w (fun x => x < w.heap.size) u (.agg #[.int .i64 kb, .bool bb, .string xb, .slice Ab nb cb, .slice Bb mb db])) (kt : t.bulk ≤ 1048576) (ku : u.bulk ≤ 1048576) (kx : text.size ≤ 1048576) (hM : ML w) :
    Calls Tryz.prog 5 #[.agg #[.int .i64 ka, .bool ba, .string xa, .slice Aa na ca, .slice Ba ma da, .int .i64 kb, .bool bb, .string xb, .slice Ab nb cb, .slice Bb mb db], .int .i64 code, .string text] w (Made (.bool true) w) := by
  have HVa : Hid (VLV (zLt w.heap.size) t w _) := Lib.hid (VAL.mono (fun _ hx => ⟨hx, hx⟩) ha)
  have HVb : Hid (VLV (zLt w.heap.size) u w _) := Lib.hid (VAL.mono (fun _ hx => ⟨hx, hx⟩) hb)
  have HKt := Lib.hid kt
  have HKu := Lib.hid ku
  have HKx := Lib.hid kx
  have HM := Lib.hid hM
  have HM0 := Lib.hid hM
  have HB := Lib.hid (Below.refl w.heap.size w)
  clear ha hb kt ku kx hM
  go_enter Tryz.func5, Tryz.ntmps5
  go_wp2_with fail
  refine at2 (fun w1 hX0 hX1 hb hz => ?_)
  replace HVa := Lib.hid (HVa.out.up hb)
  replace HVb := Lib.hid (HVb.out.up hb)
  replace HM := Lib.hid (HM.out.on hb)
  replace HB := Lib.hid (HB.out.trans (hb.mono HB.out.size))
  have HK := Lib.hid (Blks.one hX0)
  replace HK := Lib.hid (Blks.cons hX1 HK.out)
  clear hX0 hX1 hb
  clear hz
  have hD := DeepList_any 2 _ w1 _ _ 2 (BL.VS (Blks.hd HK.out) [t, u] (VR.cons (VAL.mono (fun b hb => (Zone.lt _ _ b hb)) HVa.out) (VR.cons (VAL.mono (fun b hb => (Zone.lt _ _ b hb)) HVb.out) (VR.none _ _)))) (fun b hb => hb) (by omega) (fun j hj => by
    match j, hj with
    | 0, _ => exact Nat.le_trans HKt.out (by omega)
    | 1, _ => exact Nat.le_trans HKu.out (by omega))
  refine hD.mono ?_
  clear hD
  rintro e w2 ⟨⟨dd, rfl⟩, hb⟩
  replace HVa := Lib.hid (HVa.out.up hb)
  replace HVb := Lib.hid (HVb.out.up hb)
  replace HM := Lib.hid (HM.out.on hb)
  replace HK := Lib.hid (HK.out.on hb)
  replace HB := Lib.hid (HB.out.trans (hb.mono HB.out.size))
  clear hb
  cases dd
  rotate_left
  · skip
    go_wp2_with fail
    refine (awake12_any w2 HM.out).mono ?_
    rintro e w3 ⟨rfl, hb⟩
    replace HVa := Lib.hid (HVa.out.up hb)
    replace HVb := Lib.hid (HVb.out.up hb)
    replace HM := Lib.hid (HM.out.on hb)
    replace HK := Lib.hid (HK.out.on hb)
    replace HB := Lib.hid (HB.out.trans (hb.mono HB.out.size))
    clear hb
    go_wp2
    go_ret
    exact ⟨rfl, HB.out⟩
  go_wp2_with fail
  refine start_ (n := 10) (S := fun w' => True) (ds := []) #[false, false, false, false, false, false, false, false, false, false] (by kernel_rfl) rfl rfl trivial (fun hHeld => ?_)
  clear hHeld
  have hb : Below w2.heap.size w2 w2.drew := (Below.refl _ _).drew
  replace HVa := Lib.hid (HVa.out.up hb)
  replace HVb := Lib.hid (HVb.out.up hb)
  replace HM := Lib.hid (HM.out.on hb)
  replace HK := Lib.hid (HK.out.on hb)
  replace HB := Lib.hid (HB.out.trans (hb.mono HB.out.size))
  clear hb
  generalize w2.drew = w3 at *
  have HKc := Lib.hid (Blks.hd (Blks.tl HK.out))
  refine inv_at (B := [0, 1, 3, 0, 8, 31, 0, 0, 255, 511]) [0, 1, 2, 3, 4, 5, 6, 7, 8, 9] (fun a0_ => ToldZ (Two _ (fun a w' => ∃ (V : Nat → Value) (g7 g8 : Nat) (l2 h2 l5 h5 : Nat) (v0 v1 v2 v3 v4 u0 u1 u2 u3 u4 : Value), a = putSel a0_ (fun _ => true) (((tz_ans t u w.heap.size ka ba xa Aa na ca Ba ma da kb bb xb Ab nb cb Bb mb db)).flat.put V) ∧ V 2 = .agg #[v0, v1, v2, v3, v4] ∧ V 5 = .agg #[u0, u1, u2, u3, u4] ∧ V 6 = .pointer (some ⟨g7, 0, none⟩) ∧ V 7 = .pointer (some ⟨g8, 0, none⟩) ∧ Below w3.heap.size w3 w' ∧ BK w' g7 25 #[v0, v1, v2, v3, v4] ∧ BK w' g8 25 #[.int .i64 0, .bool false, .string ⟨#[]⟩, .slice none 0 0, .slice none 0 0] ∧ VAL w' (fun b => l2 ≤ b ∧ b < h2) t (.agg #[v0, v1, v2, v3, v4]) ∧ VAL w' (fun b => l5 ≤ b ∧ b < h5) u (.agg #[u0, u1, u2, u3, u4]) ∧ (w3.heap.size ≤ g7 ∧ w3.heap.size ≤ g8 ∧ g7 ≠ g8 ∧ (g8 < l2 ∨ h2 ≤ g8) ∧ (g8 < l5 ∨ h5 ≤ g8) ∧ h2 ≤ w'.heap.size ∧ h5 ≤ w'.heap.size)) 9) (tz_ans t u w.heap.size ka ba xa Aa na ca Ba ma da kb bb xb Ab nb cb Bb mb db) 8 w3 a0_) rfl (by kernel_rfl) (by kernel_rfl) (by kernel_rfl) toldZ_begin ?_ (two_end (by kernel_rfl) (by kernel_rfl))
  refine steps_cons (toldZ_step 0 (tz_ans_ok t u w.heap.size ka ba xa Aa na ca Ba ma da kb bb xb Ab nb cb Bb mb db) (tz_ans_up t u w.heap.size ka ba xa Aa na ca Ba ma da kb bb xb Ab nb cb Bb mb db) rfl (by kernel_rfl) ?_) ?_
  · intro b V lo hi a w' ha hB hF hon
    refine ⟨_, rfl, rfl, fun K hK => ?_⟩
    have e3 : a.tmps[3]? = some (.pointer (some ⟨w.heap.size, 0, none⟩)) := by rw [ha]; exact (putSel_off (by rfl)).trans rfl
    refine value_ (w1 := w') (v := .pointer (some ⟨w.heap.size, 0, none⟩)) rfl rfl ?_ (hK _ _ (Below.refl _ _) rfl)
    clear ha hF hon hK K
    go_simp
    all_goals first | rfl | (constructor <;> rfl)
  refine steps_cons (toldZ_step 1 (tz_ans_ok t u w.heap.size ka ba xa Aa na ca Ba ma da kb bb xb Ab nb cb Bb mb db) (tz_ans_up t u w.heap.size ka ba xa Aa na ca Ba ma da kb bb xb Ab nb cb Bb mb db) rfl (by kernel_rfl) ?_) ?_
  · intro b V lo hi a w' ha hB hF hon
    refine ⟨_, rfl, rfl, fun K hK => ?_⟩
    have e21 := told_get 0 (tz_ans_ok t u w.heap.size ka ba xa Aa na ca Ba ma da kb bb xb Ab nb cb Bb mb db) rfl ha (hon 0 (by kernel_rfl)) (by kernel_rfl)
    have F21 := (hF.1 _ (List.mem_of_getElem? (i := 0) rfl) (hon 0 (by kernel_rfl))).2.2.2
    replace F21 : V 0 = .pointer (some ⟨w.heap.size, 0, none⟩) := F21
    rw [F21] at e21
    have hg := HKc.out.on hB
    have y0 := hg.c 0 rfl
    have y1 := hg.c 1 rfl
    have y2 := hg.c 2 rfl
    have y3 := hg.c 3 rfl
    have y4 := hg.c 4 rfl
    clear hg
    refine value_ (w1 := w') (v := .agg #[.int .i64 ka, .bool ba, .string xa, .slice Aa na ca, .slice Ba ma da]) rfl rfl ?_ (hK _ _ (Below.refl _ _) rfl)
    clear ha hF hon hK K
    go_simp
    all_goals first | rfl | (constructor <;> rfl)
  refine steps_cons (toldZ_step 2 (tz_ans_ok t u w.heap.size ka ba xa Aa na ca Ba ma da kb bb xb Ab nb cb Bb mb db) (tz_ans_up t u w.heap.size ka ba xa Aa na ca Ba ma da kb bb xb Ab nb cb Bb mb db) rfl (by kernel_rfl) ?_) ?_
  · intro b V lo hi a w' ha hB hF hon
    refine ⟨_, rfl, rfl, fun K hK => ?_⟩
    have e22 := told_get 1 (tz_ans_ok t u w.heap.size ka ba xa Aa na ca Ba ma da kb bb xb Ab nb cb Bb mb db) rfl ha (hon 1 (by kernel_rfl)) (by kernel_rfl)
    have F22 := (hF.1 _ (List.mem_of_getElem? (i := 1) rfl) (hon 1 (by kernel_rfl))).2.2.2
    replace F22 : V 1 = .agg #[.int .i64 ka, .bool ba, .string xa, .slice Aa na ca, .slice Ba ma da] := F22
    rw [F22] at e22
    refine goes_ Tryz.func19 (by kernel_rfl) rfl #[.agg #[.int .i64 ka, .bool ba, .string xa, .slice Aa na ca, .slice Ba ma da]] rfl rfl rfl (by simp only [List.map_toArray, List.map_cons, List.map_nil, Act.eval, Array.getD_eq_getD_getElem?, e22, Option.getD_some]) ?_
    refine (refCopy_any t w' _ _ (HVa.out.up hB) (Zone.lt _ _) (Nat.le_trans HKt.out (by omega))).mono ?_
    rintro e w'' ⟨v, rfl, hv, hb⟩
    exact ⟨v, rfl, hK v w'' hb hv⟩
  refine steps_cons (toldZ_step 3 (tz_ans_ok t u w.heap.size ka ba xa Aa na ca Ba ma da kb bb xb Ab nb cb Bb mb db) (tz_ans_up t u w.heap.size ka ba xa Aa na ca Ba ma da kb bb xb Ab nb cb Bb mb db) rfl (by kernel_rfl) ?_) ?_
  · intro b V lo hi a w' ha hB hF hon
    refine ⟨_, rfl, rfl, fun K hK => ?_⟩
    have e3 : a.tmps[3]? = some (.pointer (some ⟨w.heap.size, 0, none⟩)) := by rw [ha]; exact (putSel_off (by rfl)).trans rfl
    refine value_ (w1 := w') (v := .pointer (some ⟨w.heap.size, 5, none⟩)) rfl rfl ?_ (hK _ _ (Below.refl _ _) rfl)
    clear ha hF hon hK K
    go_simp
    all_goals first | rfl | (constructor <;> rfl)
  refine steps_cons (toldZ_step 4 (tz_ans_ok t u w.heap.size ka ba xa Aa na ca Ba ma da kb bb xb Ab nb cb Bb mb db) (tz_ans_up t u w.heap.size ka ba xa Aa na ca Ba ma da kb bb xb Ab nb cb Bb mb db) rfl (by kernel_rfl) ?_) ?_
  · intro b V lo hi a w' ha hB hF hon
    refine ⟨_, rfl, rfl, fun K hK => ?_⟩
    have e24 := told_get 3 (tz_ans_ok t u w.heap.size ka ba xa Aa na ca Ba ma da kb bb xb Ab nb cb Bb mb db) rfl ha (hon 3 (by kernel_rfl)) (by kernel_rfl)
    have F24 := (hF.1 _ (List.mem_of_getElem? (i := 3) rfl) (hon 3 (by kernel_rfl))).2.2.2
    replace F24 : V 3 = .pointer (some ⟨w.heap.size, 5, none⟩) := F24
    rw [F24] at e24
    have hg := HKc.out.on hB
    have y5 := hg.c 5 rfl
    have y6 := hg.c 6 rfl
    have y7 := hg.c 7 rfl
    have y8 := hg.c 8 rfl
    have y9 := hg.c 9 rfl
    clear hg
    refine value_ (w1 := w') (v := .agg #[.int .i64 kb, .bool bb, .string xb, .slice Ab nb cb, .slice Bb mb db]) rfl rfl ?_ (hK _ _ (Below.refl _ _) rfl)
    clear ha hF hon hK K
    go_simp
    all_goals first | rfl | (constructor <;> rfl)
  refine steps_cons (toldZ_step 5 (tz_ans_ok t u w.heap.size ka ba xa Aa na ca Ba ma da kb bb xb Ab nb cb Bb mb db) (tz_ans_up t u w.heap.size ka ba xa Aa na ca Ba ma da kb bb xb Ab nb cb Bb mb db) rfl (by kernel_rfl) ?_) ?_
  · intro b V lo hi a w' ha hB hF hon
    refine ⟨_, rfl, rfl, fun K hK => ?_⟩
    have e25 := told_get 4 (tz_ans_ok t u w.heap.size ka ba xa Aa na ca Ba ma da kb bb xb Ab nb cb Bb mb db) rfl ha (hon 4 (by kernel_rfl)) (by kernel_rfl)
    have F25 := (hF.1 _ (List.mem_of_getElem? (i := 4) rfl) (hon 4 (by kernel_rfl))).2.2.2
    replace F25 : V 4 = .agg #[.int .i64 kb, .bool bb, .string xb, .slice Ab nb cb, .slice Bb mb db] := F25
    rw [F25] at e25
    refine goes_ Tryz.func19 (by kernel_rfl) rfl #[.agg #[.int .i64 kb, .bool bb, .string xb, .slice Ab nb cb, .slice Bb mb db]] rfl rfl rfl (by simp only [List.map_toArray, List.map_cons, List.map_nil, Act.eval, Array.getD_eq_getD_getElem?, e25, Option.getD_some]) ?_
    refine (refCopy_any u w' _ _ (HVb.out.up hB) (Zone.lt _ _) (Nat.le_trans HKu.out (by omega))).mono ?_
    rintro e w'' ⟨v, rfl, hv, hb⟩
    exact ⟨v, rfl, hK v w'' hb hv⟩
  refine steps_cons (toldZ_step 6 (tz_ans_ok t u w.heap.size ka ba xa Aa na ca Ba ma da kb bb xb Ab nb cb Bb mb db) (tz_ans_up t u w.heap.size ka ba xa Aa na ca Ba ma da kb bb xb Ab nb cb Bb mb db) rfl (by kernel_rfl) ?_) ?_
  · intro b V lo hi a w' ha hB hF hon
    refine ⟨_, rfl, rfl, fun K hK => ?_⟩
    refine value_ (w1 := w'.alloc (.cells #[.int .i64 0, .bool false, .string ⟨#[]⟩, .slice none 0 0, .slice none 0 0] 25)) (v := .pointer (some ⟨w'.heap.size, 0, none⟩)) rfl rfl ?_ (hK _ _ (made_end' _ _) ⟨rfl, by simp, BK.new _ _ _⟩)
    clear ha hF hon hK K
    go_simp
    all_goals first | rfl | (constructor <;> rfl)
  refine steps_cons (toldZ_step 7 (tz_ans_ok t u w.heap.size ka ba xa Aa na ca Ba ma da kb bb xb Ab nb cb Bb mb db) (tz_ans_up t u w.heap.size ka ba xa Aa na ca Ba ma da kb bb xb Ab nb cb Bb mb db) rfl (by kernel_rfl) ?_) ?_
  · intro b V lo hi a w' ha hB hF hon
    refine ⟨_, rfl, rfl, fun K hK => ?_⟩
    refine value_ (w1 := w'.alloc (.cells #[.int .i64 0, .bool false, .string ⟨#[]⟩, .slice none 0 0, .slice none 0 0] 25)) (v := .pointer (some ⟨w'.heap.size, 0, none⟩)) rfl rfl ?_ (hK _ _ (made_end' _ _) ⟨rfl, by simp, BK.new _ _ _⟩)
    clear ha hF hon hK K
    go_simp
    all_goals first | rfl | (constructor <;> rfl)
  refine steps_cons (two_first ?_ (by kernel_rfl) (by kernel_rfl) (by decide) ?_) ?_
  · intro e he; simp only [tz_ans, List.mem_cons, List.mem_nil_iff, or_false] at he; rcases he with rfl | rfl | rfl | rfl | rfl | rfl | rfl | rfl <;> kernel_rfl
  · intro V lo hi a w' ha hB hF
    refine ⟨_, rfl, fun K hK => ?_⟩
    have e23 := told_get 2 (tz_ans_ok t u w.heap.size ka ba xa Aa na ca Ba ma da kb bb xb Ab nb cb Bb mb db) rfl ha rfl (by kernel_rfl)
    have F23 := (hF.1 _ (List.mem_of_getElem? (i := 2) rfl) rfl).2.2.2
    have e26 := told_get 5 (tz_ans_ok t u w.heap.size ka ba xa Aa na ca Ba ma da kb bb xb Ab nb cb Bb mb db) rfl ha rfl (by kernel_rfl)
    have F26 := (hF.1 _ (List.mem_of_getElem? (i := 5) rfl) rfl).2.2.2
    have e7 := told_get 6 (tz_ans_ok t u w.heap.size ka ba xa Aa na ca Ba ma da kb bb xb Ab nb cb Bb mb db) rfl ha rfl (by kernel_rfl)
    have F7 := (hF.1 _ (List.mem_of_getElem? (i := 6) rfl) rfl).2.2.2
    have e8 := told_get 7 (tz_ans_ok t u w.heap.size ka ba xa Aa na ca Ba ma da kb bb xb Ab nb cb Bb mb db) rfl ha rfl (by kernel_rfl)
    have F8 := (hF.1 _ (List.mem_of_getElem? (i := 7) rfl) rfl).2.2.2
    obtain ⟨kp, bp, xp, Ap, np, cp, Bp, mp, dp, hv23⟩ := VAL.shape F23
    obtain ⟨kq, bq, xq, Aq, nq, cq, Bq, mq, dq, hv26⟩ := VAL.shape F26
    obtain ⟨hv7, hl7, bk7⟩ := F7
    obtain ⟨hv8, hl8, bk8⟩ := F8
    rw [hv23] at e23 F23
    rw [hv26] at F26
    rw [hv7] at e7
    have d26 := hF.2 _ (List.mem_of_getElem? (i := 2) rfl) _ (List.mem_of_getElem? (i := 6) rfl) rfl rfl (by show (2 : Nat) ≠ 6; decide)
    have d27 := hF.2 _ (List.mem_of_getElem? (i := 2) rfl) _ (List.mem_of_getElem? (i := 7) rfl) rfl rfl (by show (2 : Nat) ≠ 7; decide)
    have d56 := hF.2 _ (List.mem_of_getElem? (i := 5) rfl) _ (List.mem_of_getElem? (i := 6) rfl) rfl rfl (by show (5 : Nat) ≠ 6; decide)
    have d57 := hF.2 _ (List.mem_of_getElem? (i := 5) rfl) _ (List.mem_of_getElem? (i := 7) rfl) rfl rfl (by show (5 : Nat) ≠ 7; decide)
    have d67 := hF.2 _ (List.mem_of_getElem? (i := 6) rfl) _ (List.mem_of_getElem? (i := 7) rfl) rfl rfl (by show (6 : Nat) ≠ 7; decide)
    have b2 := hF.1 _ (List.mem_of_getElem? (i := 2) rfl) rfl
    have b5 := hF.1 _ (List.mem_of_getElem? (i := 5) rfl) rfl
    have b6 := hF.1 _ (List.mem_of_getElem? (i := 6) rfl) rfl
    have b7 := hF.1 _ (List.mem_of_getElem? (i := 7) rfl) rfl
    dsimp only at d26 d27 d56 d57 d67 b2 b5 b6 b7 hl7 hl8 bk7 bk8 F23 F26 hv7 hv8
    generalize lo 2 = l2 at *
    generalize hi 2 = h2 at *
    generalize lo 5 = l5 at *
    generalize hi 5 = h5 at *
    generalize lo 6 = g7 at *
    generalize hi 6 = h7 at *
    generalize lo 7 = g8 at *
    generalize hi 7 = h8 at *
    have q2 := b2.2.2.1
    have q5 := b5.2.2.1
    have q6 := b6.1
    have q7 := b7.1
    have r2 := b2.2.1
    have r5 := b5.2.1
    clear b2 b5 b6 b7 hF
    refine store_fldK rfl rfl 25 (.tmp 7) (.tmp 23) rfl g7 0 (.agg #[.int .i64 kp, .bool bp, .string xp, .slice Ap np cp, .slice Bp mp dp]) [.int .i64 kp, .bool bp, .string xp, .slice Ap np cp, .slice Bp mp dp] (by simp only [Act.eval, Array.getD_eq_getD_getElem?, e7, Option.getD_some]) (by simp only [Act.eval, Array.getD_eq_getD_getElem?, e23, Option.getD_some]) rfl #[.int .i64 kp, .bool bp, .string xp, .slice Ap np cp, .slice Bp mp dp] bk7 (by kernel_rfl) (Nat.le_of_ble_eq_true rfl) (by simp [Value.oneCell']) rfl (fun W hS hbt hsz => hK _ _ ?_)
    refine ⟨V, g7, g8, l2, h2, l5, h5, _, _, _, _, _, _, _, _, _, _, ha, hv23, hv26, hv7, hv8, hbt.below hB (by omega) hB.size, hS, bk8.but hbt (by omega), VAL.same (hbt.same (fun b hq => ⟨by omega, by omega⟩)) F23, VAL.same (hbt.same (fun b hq => ⟨by omega, by omega⟩)) F26, by omega, by omega, by omega, by omega, by omega, by omega, by omega⟩
  refine steps_cons (two_last (by kernel_rfl) (by decide) ?_) steps_nil
  rintro a w' ⟨V, g7, g8, l2, h2, l5, h5, v0, v1, v2, v3, v4, u0, u1, u2, u3, u4, ha, hv23, hv26, hv7, hv8, hB, bk7, bk8, F23, F26, q1, q2, q3, q4, q5, q6, q7⟩
  refine ⟨_, rfl, fun K hK => ?_⟩
  obtain ⟨kp, bp, xp, Ap, np, cp, Bp, mp, dp, rfl, rfl, rfl, rfl, rfl⟩ := VAL.shape5 F23
  obtain ⟨kq, bq, xq, Aq, nq, cq, Bq, mq, dq, rfl, rfl, rfl, rfl, rfl⟩ := VAL.shape5 F26
  have e26 := told_get 5 (tz_ans_ok t u w.heap.size ka ba xa Aa na ca Ba ma da kb bb xb Ab nb cb Bb mb db) rfl ha rfl (by kernel_rfl)
  have e8 := told_get 7 (tz_ans_ok t u w.heap.size ka ba xa Aa na ca Ba ma da kb bb xb Ab nb cb Bb mb db) rfl ha rfl (by kernel_rfl)
  rw [hv26] at e26
  rw [hv8] at e8
  refine store_fldK rfl rfl 25 (.tmp 8) (.tmp 26) rfl g8 0 (.agg #[.int .i64 kq, .bool bq, .string xq, .slice Aq nq cq, .slice Bq mq dq]) [.int .i64 kq, .bool bq, .string xq, .slice Aq nq cq, .slice Bq mq dq] (by simp only [Act.eval, Array.getD_eq_getD_getElem?, e8, Option.getD_some]) (by simp only [Act.eval, Array.getD_eq_getD_getElem?, e26, Option.getD_some]) rfl #[.int .i64 kq, .bool bq, .string xq, .slice Aq nq cq, .slice Bq mq dq] bk8 (by kernel_rfl) (Nat.le_of_ble_eq_true rfl) (by simp [Value.oneCell']) rfl (fun w4 hS hbt hsz => hK _ _ ?_)
  have hb := hbt.below hB q2 hB.size
  have HX7 := bk7.but hbt q3
  have HVp : Hid (VLV (zNew 0) t w4 _) := Lib.hid (VAL.mono (fun b hq => ⟨Nat.zero_le _, by rw [hsz]; omega⟩) (VAL.same (hbt.same (fun b hq => ⟨by omega, by omega⟩)) F23))
  have HVq : Hid (VLV (zNew 0) u w4 _) := Lib.hid (VAL.mono (fun b hq => ⟨Nat.zero_le _, by rw [hsz]; omega⟩) (VAL.same (hbt.same (fun b hq => ⟨by omega, by omega⟩)) F26))
  have HG7 := Lib.hid q3
  replace HVa := Lib.hid (HVa.out.up hb)
  replace HVb := Lib.hid (HVb.out.up hb)
  replace HM := Lib.hid (HM.out.on hb)
  replace HK := Lib.hid (HK.out.on hb)
  replace HB := Lib.hid (HB.out.trans (hb.mono HB.out.size))
  replace HK := Lib.hid (Blks.cons hS (Blks.cons HX7 HK.out))
  clear hb hbt hS hsz HX7 bk7 bk8 F23 F26 hB q1 q2 q3 q4 q5 q6 q7 e8 e26 hK K HKc
  replace HVp := Lib.hid HVp.out.old
  replace HVq := Lib.hid HVq.out.old
  obtain ⟨N0, HN0⟩ : ∃ n, Hid (w4.heap.size = n) := ⟨_, Lib.hid rfl⟩
  have HNN := HN0.out
  rw [HNN] at HVp HVq
  clear HNN
  rw [ha]
  clear ha
  simp only [tz_ans, ToldsZ.flat, Tolds.put, List.map_cons, List.map_nil, putSel, if_true, Act.put, List.setIfInBounds_toArray, List.set_cons_zero, List.set_cons_succ, hv23, hv26, hv7, hv8]
  clear hv23 hv26 hv7 hv8
  generalize V 0 = u0_
  generalize V 1 = u1_
  generalize V 3 = u3_
  generalize V 4 = u4_
  try clear V
  have hg := Blks.hd (Blks.tl HK.out)
  have y0 := hg.c 0 rfl
  have y1 := hg.c 1 rfl
  have y2 := hg.c 2 rfl
  have y3 := hg.c 3 rfl
  have y4 := hg.c 4 rfl
  clear hg
  have hg := Blks.hd HK.out
  have u0 := hg.c 0 rfl
  have u1 := hg.c 1 rfl
  have u2 := hg.c 2 rfl
  have u3 := hg.c 3 rfl
  have u4 := hg.c 4 rfl
  clear hg
  go_wp2_with fail
  clear y0 y1 y2 y3 y4 u0 u1 u2 u3 u4
  have HL0 : Hid (∀ x ∈ ([⟨g8, 25, #[.int .i64 kq, .bool bq, .string xq, .slice Aq nq cq, .slice Bq mq dq]⟩, ⟨g7, 25, #[.int .i64 kp, .bool bp, .string xp, .slice Ap np cp, .slice Bp mp dp]⟩, ⟨w.heap.size + 1, 25, #[.int .i64 ka, .bool ba, .string xa, .slice Aa na ca, .slice Ba ma da, .int .i64 kb, .bool bb, .string xb, .slice Ab nb cb, .slice Bb mb db]⟩, ⟨w.heap.size, 51, #[.int .i64 ka, .bool ba, .string xa, .slice Aa na ca, .slice Ba ma da, .int .i64 kb, .bool bb, .string xb, .slice Ab nb cb, .slice Bb mb db]⟩] : List Blk), x.g < N0) := Lib.hid (by rw [← HN0.out]; exact Blks.lts HK.out)
  have HWN : Hid (w.heap.size ≤ N0) := Lib.hid (by rw [← HN0.out]; exact HB.out.size)
  refine (Reply_any t u _ _ _ _ w4 HVp.out HVq.out (by have := HKt.out; omega) (by have := HKu.out; omega)).mono ?_
  rintro e w5 ⟨v', rfl, hm, hb⟩
  rw [HN0.out] at hm
  have HMX := Lib.hid hm
  obtain ⟨Xi0, Xi1, Xi2, Xi3, Xi4, Xp0, Xp1, Xp2, Xp3, Xp4, Xr0, Xr1, Xr2, Xr3, Xr4, he, q1, q2, q3⟩ := hm
  dsimp only at he q1 q2 q3
  subst he
  obtain ⟨kXi, bXi, xXi, AXi, nXi, cXi, BXi, mXi, dXi, rfl, rfl, rfl, rfl, rfl⟩ := VAL.shape5 q1.1
  obtain ⟨kXp, bXp, xXp, AXp, nXp, cXp, BXp, mXp, dXp, rfl, rfl, rfl, rfl, rfl⟩ := VAL.shape5 q2.1
  obtain ⟨kXr, bXr, xXr, AXr, nXr, cXr, BXr, mXr, dXr, rfl, rfl, rfl, rfl, rfl⟩ := VAL.shape5 q3.1
  have HR := Lib.hid q3.wrow
  have HRn := Lib.hid q3.wlen
  clear q1 q2 q3
  replace HVa := Lib.hid (HVa.out.up hb)
  replace HVb := Lib.hid (HVb.out.up hb)
  replace HM := Lib.hid (HM.out.on hb)
  replace HVp := Lib.hid (HVp.out.up hb)
  replace HVq := Lib.hid (HVq.out.up hb)
  replace HK := Lib.hid (HK.out.on hb)
  replace HB := Lib.hid (HB.out.trans (hb.mono HB.out.size))
  have HO9 : Hid (N0 ≤ w5.heap.size) := Lib.hid (by have := HN0.out; have := hb.size; omega)
  clear hb
  go_wp2_with (
    refine store1 rfl rfl 46 (.tmp 9) (.tmp 29) rfl rfl #[.int .i64 3, .int .i64 kXi, .bool bXi, .string xXi, .slice AXi nXi cXi, .slice BXi mXi dXi, .string ⟨#[]⟩, .bool false, .int .i64 kXp, .bool bXp, .string xXp, .slice AXp nXp cXp, .slice BXp mXp dXp, .int .i64 kXr, .bool bXr, .string xXr, .slice AXr nXr cXr, .slice BXr mXr dXr, .int .i64 0, .string ⟨#[]⟩] rfl (by kernel_rfl) rfl (by simp [Value.oneCell']) ?_
    intro w6 hX hb hz
    replace HR := Lib.hid (HR.out.on hb (Nat.le_refl _))
    replace HVa := Lib.hid (HVa.out.up hb)
    replace HVb := Lib.hid (HVb.out.up hb)
    replace HM := Lib.hid (HM.out.on hb)
    replace HVp := Lib.hid (HVp.out.up hb)
    replace HVq := Lib.hid (HVq.out.up hb)
    replace HMX := Lib.hid (HMX.out.up hb)
    replace HK := Lib.hid (HK.out.on hb)
    replace HB := Lib.hid (HB.out.trans (hb.mono HB.out.size))
    replace HK := Lib.hid (Blks.cons hX HK.out)
    have HG9 := Lib.hid (Nat.le_of_succ_le hz)
    clear hX hb hz
    generalize w5.heap.size = g9 at *
    have hg := Blks.hd (Blks.tl (Blks.tl HK.out))
    have y0 := hg.c 0 rfl
    have y1 := hg.c 1 rfl
    have y2 := hg.c 2 rfl
    have y3 := hg.c 3 rfl
    have y4 := hg.c 4 rfl
    clear hg)
  clear y0 y1 y2 y3 y4
  obtain ⟨N1, HN1⟩ : ∃ n, Hid (w6.heap.size = n) := ⟨_, Lib.hid rfl⟩
  have HO91 : Hid (g9 < N1) := Lib.hid (by have := HN1.out; have := (Blks.hd HK.out).lt; omega)
  refine (Fault_any t code text _ _ w6 HVp.out (by have := HKt.out; omega)).mono ?_
  rintro e w7 ⟨v', rfl, hm, hb⟩
  rw [HN1.out] at hm
  have HMY := Lib.hid hm
  obtain ⟨Yi0, Yi1, Yi2, Yi3, Yi4, Yp0, Yp1, Yp2, Yp3, Yp4, Yr0, Yr1, Yr2, Yr3, Yr4, he, q1, q2, q3⟩ := hm
  dsimp only at he q1 q2 q3
  subst he
  obtain ⟨kYi, bYi, xYi, AYi, nYi, cYi, BYi, mYi, dYi, rfl, rfl, rfl, rfl, rfl⟩ := VAL.shape5 q1.1
  obtain ⟨kYp, bYp, xYp, AYp, nYp, cYp, BYp, mYp, dYp, rfl, rfl, rfl, rfl, rfl⟩ := VAL.shape5 q2.1
  obtain ⟨kYr, bYr, xYr, AYr, nYr, cYr, BYr, mYr, dYr, rfl, rfl, rfl, rfl, rfl⟩ := VAL.shape5 q3.1
  have HS := Lib.hid q1.wrow
  have HSn := Lib.hid q1.wlen
  clear q1 q2 q3
  replace HVa := Lib.hid (HVa.out.up hb)
  replace HVb := Lib.hid (HVb.out.up hb)
  replace HM := Lib.hid (HM.out.on hb)
  replace HVp := Lib.hid (HVp.out.up hb)
  replace HVq := Lib.hid (HVq.out.up hb)
  replace HMX := Lib.hid (HMX.out.up hb)
  replace HR := Lib.hid (HR.out.on hb HG9.out)
  replace HG9 := Lib.hid (Nat.le_trans HG9.out hb.size)
  replace HK := Lib.hid (HK.out.on hb)
  replace HB := Lib.hid (HB.out.trans (hb.mono HB.out.size))
  have HO10 : Hid (N1 ≤ w7.heap.size) := Lib.hid (by have := HN1.out; have := hb.size; omega)
  clear hb
  go_wp2_with (first
    | (refine store1 rfl rfl 46 (.tmp 10) (.tmp 33) rfl rfl #[.int .i64 4, .int .i64 kYi, .bool bYi, .string xYi, .slice AYi nYi cYi, .slice BYi mYi dYi, .string ⟨#[]⟩, .bool false, .int .i64 kYp, .bool bYp, .string xYp, .slice AYp nYp cYp, .slice BYp mYp dYp, .int .i64 kYr, .bool bYr, .string xYr, .slice AYr nYr cYr, .slice BYr mYr dYr, .int .i64 code, .string text] rfl (by kernel_rfl) rfl (by simp [Value.oneCell']) ?_
       intro w8 hX hb hz
       replace HS := Lib.hid (HS.out.on hb (Nat.le_refl _))
       replace HVa := Lib.hid (HVa.out.up hb)
       replace HVb := Lib.hid (HVb.out.up hb)
       replace HM := Lib.hid (HM.out.on hb)
       replace HVp := Lib.hid (HVp.out.up hb)
       replace HVq := Lib.hid (HVq.out.up hb)
       replace HMX := Lib.hid (HMX.out.up hb)
       replace HR := Lib.hid (HR.out.on hb HG9.out)
       replace HG9 := Lib.hid (Nat.le_trans HG9.out hb.size)
       replace HMY := Lib.hid (HMY.out.up hb)
       replace HK := Lib.hid (HK.out.on hb)
       replace HB := Lib.hid (HB.out.trans (hb.mono HB.out.size))
       replace HK := Lib.hid (Blks.cons hX HK.out)
       have HG10 := Lib.hid (Nat.le_of_succ_le hz)
       clear hX hb hz
       generalize w7.heap.size = g10 at *
       have hg := Blks.hd (Blks.tl (Blks.tl (Blks.tl (Blks.tl (Blks.tl HK.out)))))
       have y0 := hg.c 0 rfl
       have y1 := hg.c 1 rfl
       have y2 := hg.c 2 rfl
       have y3 := hg.c 3 rfl
       have y4 := hg.c 4 rfl
       have y5 := hg.c 5 rfl
       have y6 := hg.c 6 rfl
       have y7 := hg.c 7 rfl
       have y8 := hg.c 8 rfl
       have y9 := hg.c 9 rfl
       clear hg)
    | (refine load_blk (by rfl) 46 (.tmp 9) rfl g9 rfl (Blks.hd (Blks.tl HK.out)) _ Tryz.underlying46 rfl (by kernel_rfl) ?_))
  clear y0 y1 y2 y3 y4 y5 y6 y7 y8 y9
  refine (SameM_same ⟨3, t, .empty, false, .nul, u, 0, .empty⟩ _ _ _ _ w8 HMX.out.any ⟨_, _, _, _, _, _, _, _, _, _, _, _, _, _, _, rfl, HVa.out, nul_VLV _ _, HVb.out⟩ (bulk3 (by have := HKt.out; omega) (by have := HKu.out; omega))).mono ?_
  rintro e w9 ⟨rfl, hb⟩
  replace HVa := Lib.hid (HVa.out.up hb)
  replace HVb := Lib.hid (HVb.out.up hb)
  replace HM := Lib.hid (HM.out.on hb)
  replace HVp := Lib.hid (HVp.out.up hb)
  replace HVq := Lib.hid (HVq.out.up hb)
  replace HMX := Lib.hid (HMX.out.up hb)
  replace HR := Lib.hid (HR.out.on hb HG9.out)
  replace HG9 := Lib.hid (Nat.le_trans HG9.out hb.size)
  replace HMY := Lib.hid (HMY.out.up hb)
  replace HS := Lib.hid (HS.out.on hb HG10.out)
  replace HG10 := Lib.hid (Nat.le_trans HG10.out hb.size)
  replace HK := Lib.hid (HK.out.on hb)
  replace HB := Lib.hid (HB.out.trans (hb.mono HB.out.size))
  clear hb
  have hg := Blks.hd (Blks.tl (Blks.tl (Blks.tl (Blks.tl (Blks.tl HK.out)))))
  have y0 := hg.c 0 rfl
  have y1 := hg.c 1 rfl
  have y2 := hg.c 2 rfl
  have y3 := hg.c 3 rfl
  have y4 := hg.c 4 rfl
  have y5 := hg.c 5 rfl
  have y6 := hg.c 6 rfl
  have y7 := hg.c 7 rfl
  have y8 := hg.c 8 rfl
  have y9 := hg.c 9 rfl
  clear hg
  go_wp2_with (refine load_blk (by rfl) 46 (.tmp 10) rfl g10 rfl (Blks.hd HK.out) _ Tryz.underlying46 rfl (by kernel_rfl) ?_)
  clear y0 y1 y2 y3 y4 y5 y6 y7 y8 y9
  refine (SameM_same ⟨4, t, .empty, false, .nul, .nul, code, text⟩ _ _ _ _ w9 HMY.out.any ⟨_, _, _, _, _, _, _, _, _, _, _, _, _, _, _, rfl, HVa.out, nul_VLV _ _, nul_VLV _ _⟩ (bulk4 (by have := HKt.out; omega) (by have := HKx.out; omega))).mono ?_
  rintro e w10 ⟨rfl, hb⟩
  replace HVa := Lib.hid (HVa.out.up hb)
  replace HVb := Lib.hid (HVb.out.up hb)
  replace HM := Lib.hid (HM.out.on hb)
  replace HVp := Lib.hid (HVp.out.up hb)
  replace HVq := Lib.hid (HVq.out.up hb)
  replace HMX := Lib.hid (HMX.out.up hb)
  replace HR := Lib.hid (HR.out.on hb HG9.out)
  replace HG9 := Lib.hid (Nat.le_trans HG9.out hb.size)
  replace HMY := Lib.hid (HMY.out.up hb)
  replace HS := Lib.hid (HS.out.on hb HG10.out)
  replace HG10 := Lib.hid (Nat.le_trans HG10.out hb.size)
  replace HK := Lib.hid (HK.out.on hb)
  replace HB := Lib.hid (HB.out.trans (hb.mono HB.out.size))
  clear hb
  clear HMX HMY
  go_wp2_with fail
  have HLX : Hid (∀ b, N0 ≤ b → b < g9 → ∀ x ∈ ([⟨g10, 46, #[.int .i64 4, .int .i64 kYi, .bool bYi, .string xYi, .slice AYi nYi cYi, .slice BYi mYi dYi, .string ⟨#[]⟩, .bool false, .int .i64 kYp, .bool bYp, .string xYp, .slice AYp nYp cYp, .slice BYp mYp dYp, .int .i64 kYr, .bool bYr, .string xYr, .slice AYr nYr cYr, .slice BYr mYr dYr, .int .i64 code, .string text]⟩, ⟨g9, 46, #[.int .i64 3, .int .i64 kXi, .bool bXi, .string xXi, .slice AXi nXi cXi, .slice BXi mXi dXi, .string ⟨#[]⟩, .bool false, .int .i64 kXp, .bool bXp, .string xXp, .slice AXp nXp cXp, .slice BXp mXp dXp, .int .i64 kXr, .bool bXr, .string xXr, .slice AXr nXr cXr, .slice BXr mXr dXr, .int .i64 0, .string ⟨#[]⟩]⟩, ⟨g8, 25, #[.int .i64 kq, .bool bq, .string xq, .slice Aq nq cq, .slice Bq mq dq]⟩, ⟨g7, 25, #[.int .i64 kp, .bool bp, .string xp, .slice Ap np cp, .slice Bp mp dp]⟩, ⟨w.heap.size + 1, 25, #[.int .i64 ka, .bool ba, .string xa, .slice Aa na ca, .slice Ba ma da, .int .i64 kb, .bool bb, .string xb, .slice Ab nb cb, .slice Bb mb db]⟩, ⟨w.heap.size, 51, #[.int .i64 ka, .bool ba, .string xa, .slice Aa na ca, .slice Ba ma da, .int .i64 kb, .bool bb, .string xb, .slice Ab nb cb, .slice Bb mb db]⟩] : List Blk), x.g ≠ b) := Lib.hid (fun b h1 h2 x hx => by
    have h3 := HO91.out; have h4 := HO10.out
    rcases List.mem_cons.1 hx with rfl | hx
    · show g10 ≠ b; omega
    rcases List.mem_cons.1 hx with rfl | hx
    · show g9 ≠ b; omega
    have := HL0.out x hx; omega)
  have HLY : Hid (∀ b, N1 ≤ b → b < g10 → ∀ x ∈ ([⟨g10, 46, #[.int .i64 4, .int .i64 kYi, .bool bYi, .string xYi, .slice AYi nYi cYi, .slice BYi mYi dYi, .string ⟨#[]⟩, .bool false, .int .i64 kYp, .bool bYp, .string xYp, .slice AYp nYp cYp, .slice BYp mYp dYp, .int .i64 kYr, .bool bYr, .string xYr, .slice AYr nYr cYr, .slice BYr mYr dYr, .int .i64 code, .string text]⟩, ⟨g9, 46, #[.int .i64 3, .int .i64 kXi, .bool bXi, .string xXi, .slice AXi nXi cXi, .slice BXi mXi dXi, .string ⟨#[]⟩, .bool false, .int .i64 kXp, .bool bXp, .string xXp, .slice AXp nXp cXp, .slice BXp mXp dXp, .int .i64 kXr, .bool bXr, .string xXr, .slice AXr nXr cXr, .slice BXr mXr dXr, .int .i64 0, .string ⟨#[]⟩]⟩, ⟨g8, 25, #[.int .i64 kq, .bool bq, .string xq, .slice Aq nq cq, .slice Bq mq dq]⟩, ⟨g7, 25, #[.int .i64 kp, .bool bp, .string xp, .slice Ap np cp, .slice Bp mp dp]⟩, ⟨w.heap.size + 1, 25, #[.int .i64 ka, .bool ba, .string xa, .slice Aa na ca, .slice Ba ma da, .int .i64 kb, .bool bb, .string xb, .slice Ab nb cb, .slice Bb mb db]⟩, ⟨w.heap.size, 51, #[.int .i64 ka, .bool ba, .string xa, .slice Aa na ca, .slice Ba ma da, .int .i64 kb, .bool bb, .string xb, .slice Ab nb cb, .slice Bb mb db]⟩] : List Blk), x.g ≠ b) := Lib.hid (fun b h1 h2 x hx => by
    have h3 := HO91.out; have h4 := HO9.out
    rcases List.mem_cons.1 hx with rfl | hx
    · show g10 ≠ b; omega
    rcases List.mem_cons.1 hx with rfl | hx
    · show g9 ≠ b; omega
    have := HL0.out x hx; omega)
  have HRST : Hid (Rest w N0 t u (.agg #[.int .i64 ka, .bool ba, .string xa, .slice Aa na ca, .slice Ba ma da]) (.agg #[.int .i64 kb, .bool bb, .string xb, .slice Ab nb cb, .slice Bb mb db]) (.agg #[.int .i64 kp, .bool bp, .string xp, .slice Ap np cp, .slice Bp mp dp]) (.agg #[.int .i64 kq, .bool bq, .string xq, .slice Aq nq cq, .slice Bq mq dq]) ([⟨g10, 46, #[.int .i64 4, .int .i64 kYi, .bool bYi, .string xYi, .slice AYi nYi cYi, .slice BYi mYi dYi, .string ⟨#[]⟩, .bool false, .int .i64 kYp, .bool bYp, .string xYp, .slice AYp nYp cYp, .slice BYp mYp dYp, .int .i64 kYr, .bool bYr, .string xYr, .slice AYr nYr cYr, .slice BYr mYr dYr, .int .i64 code, .string text]⟩, ⟨g9, 46, #[.int .i64 3, .int .i64 kXi, .bool bXi, .string xXi, .slice AXi nXi cXi, .slice BXi mXi dXi, .string ⟨#[]⟩, .bool false, .int .i64 kXp, .bool bXp, .string xXp, .slice AXp nXp cXp, .slice BXp mXp dXp, .int .i64 kXr, .bool bXr, .string xXr, .slice AXr nXr cXr, .slice BXr mXr dXr, .int .i64 0, .string ⟨#[]⟩]⟩, ⟨g8, 25, #[.int .i64 kq, .bool bq, .string xq, .slice Aq nq cq, .slice Bq mq dq]⟩, ⟨g7, 25, #[.int .i64 kp, .bool bp, .string xp, .slice Ap np cp, .slice Bp mp dp]⟩, ⟨w.heap.size + 1, 25, #[.int .i64 ka, .bool ba, .string xa, .slice Aa na ca, .slice Ba ma da, .int .i64 kb, .bool bb, .string xb, .slice Ab nb cb, .slice Bb mb db]⟩, ⟨w.heap.size, 51, #[.int .i64 ka, .bool ba, .string xa, .slice Aa na ca, .slice Ba ma da, .int .i64 kb, .bool bb, .string xb, .slice Ab nb cb, .slice Bb mb db]⟩] : List Blk) w10) := Lib.hid ⟨HB.out, HM.out, HVa.out, HVb.out, HVp.out, HVq.out, HK.out⟩
  clear HB HM HVa HVb HVp HVq HK
  have hn : nXr ≤ 1073741824 := by have := HRn.out; have := HKu.out; omega
  go_loopg [12] nXr (fun q v wr => ∃ p : Nat, p + q = nXr ∧ v = .int .i64 p ∧ Rest w N0 t u (.agg #[.int .i64 ka, .bool ba, .string xa, .slice Aa na ca, .slice Ba ma da]) (.agg #[.int .i64 kb, .bool bb, .string xb, .slice Ab nb cb, .slice Bb mb db]) (.agg #[.int .i64 kp, .bool bp, .string xp, .slice Ap np cp, .slice Bp mp dp]) (.agg #[.int .i64 kq, .bool bq, .string xq, .slice Aq nq cq, .slice Bq mq dq]) ([⟨g10, 46, #[.int .i64 4, .int .i64 kYi, .bool bYi, .string xYi, .slice AYi nYi cYi, .slice BYi mYi dYi, .string ⟨#[]⟩, .bool false, .int .i64 kYp, .bool bYp, .string xYp, .slice AYp nYp cYp, .slice BYp mYp dYp, .int .i64 kYr, .bool bYr, .string xYr, .slice AYr nYr cYr, .slice BYr mYr dYr, .int .i64 code, .string text]⟩, ⟨g9, 46, #[.int .i64 3, .int .i64 kXi, .bool bXi, .string xXi, .slice AXi nXi cXi, .slice BXi mXi dXi, .string ⟨#[]⟩, .bool false, .int .i64 kXp, .bool bXp, .string xXp, .slice AXp nXp cXp, .slice BXp mXp dXp, .int .i64 kXr, .bool bXr, .string xXr, .slice AXr nXr cXr, .slice BXr mXr dXr, .int .i64 0, .string ⟨#[]⟩]⟩, ⟨g8, 25, #[.int .i64 kq, .bool bq, .string xq, .slice Aq nq cq, .slice Bq mq dq]⟩, ⟨g7, 25, #[.int .i64 kp, .bool bp, .string xp, .slice Ap np cp, .slice Bp mp dp]⟩, ⟨w.heap.size + 1, 25, #[.int .i64 ka, .bool ba, .string xa, .slice Aa na ca, .slice Ba ma da, .int .i64 kb, .bool bb, .string xb, .slice Ab nb cb, .slice Bb mb db]⟩, ⟨w.heap.size, 51, #[.int .i64 ka, .bool ba, .string xa, .slice Aa na ca, .slice Ba ma da, .int .i64 kb, .bool bb, .string xb, .slice Ab nb cb, .slice Bb mb db]⟩] : List Blk) wr ∧ WRow N0 g9 AXr nXr wr ∧ WRow N1 g10 AYi nYi wr)
  case atStart => exact ⟨0, by omega, rfl, HRST.out, HR.out, HS.out⟩
  case round =>
    clear HRST HR HS
    obtain ⟨p, hp, rfl, hR, hA, hC⟩ := hrel
    have HP := Lib.hid hp
    have HRST := Lib.hid hR
    have HR := Lib.hid hA
    have HS := Lib.hid hC
    clear hp hR hA hC
    have hg := Blks.hd (Blks.tl HRST.out.2.2.2.2.2.2)
    have y16 := hg.c 16 rfl
    clear hg
    by_cases hlt : p < nXr
    · rcases HR.out with h0 | ⟨b, off, rfl, h1, h2, h3, h4⟩
      · omega
      obtain ⟨x0, hc⟩ := h3 p hlt
      have hf := h4 (off + p * 5)
      have H1 := Lib.hid h1
      have H2 := Lib.hid h2
      clear h1 h2 h3 h4
      go_wp2
      go_roundg (gk - 1)
      case measure => have := HP.out; omega
      case rel => exact ⟨p + 1, by have := HP.out; omega, by go_num, (HRST.out.but HM0.out (set_but _ b _ _) HWN.out H1.out (HLX.out b H1.out H2.out)), (HR.out.set _ _), (HS.out.but (set_but _ b _ _) (Nat.le_of_lt (Blks.hd HRST.out.2.2.2.2.2.2).lt) (.inl (by have := H2.out; have := HO91.out; omega)))⟩
    · have h1 : decide (p < nXr) = false := by simp; omega
      go_wp2_with fail
      clear h1 hlt hn y16 HP
      have hn : nYi ≤ 1073741824 := by have := HSn.out; have := HKt.out; omega
      go_loopg [13] nYi (fun q v wr => ∃ p : Nat, p + q = nYi ∧ v = .int .i64 p ∧ Rest w N0 t u (.agg #[.int .i64 ka, .bool ba, .string xa, .slice Aa na ca, .slice Ba ma da]) (.agg #[.int .i64 kb, .bool bb, .string xb, .slice Ab nb cb, .slice Bb mb db]) (.agg #[.int .i64 kp, .bool bp, .string xp, .slice Ap np cp, .slice Bp mp dp]) (.agg #[.int .i64 kq, .bool bq, .string xq, .slice Aq nq cq, .slice Bq mq dq]) ([⟨g10, 46, #[.int .i64 4, .int .i64 kYi, .bool bYi, .string xYi, .slice AYi nYi cYi, .slice BYi mYi dYi, .string ⟨#[]⟩, .bool false, .int .i64 kYp, .bool bYp, .string xYp, .slice AYp nYp cYp, .slice BYp mYp dYp, .int .i64 kYr, .bool bYr, .string xYr, .slice AYr nYr cYr, .slice BYr mYr dYr, .int .i64 code, .string text]⟩, ⟨g9, 46, #[.int .i64 3, .int .i64 kXi, .bool bXi, .string xXi, .slice AXi nXi cXi, .slice BXi mXi dXi, .string ⟨#[]⟩, .bool false, .int .i64 kXp, .bool bXp, .string xXp, .slice AXp nXp cXp, .slice BXp mXp dXp, .int .i64 kXr, .bool bXr, .string xXr, .slice AXr nXr cXr, .slice BXr mXr dXr, .int .i64 0, .string ⟨#[]⟩]⟩, ⟨g8, 25, #[.int .i64 kq, .bool bq, .string xq, .slice Aq nq cq, .slice Bq mq dq]⟩, ⟨g7, 25, #[.int .i64 kp, .bool bp, .string xp, .slice Ap np cp, .slice Bp mp dp]⟩, ⟨w.heap.size + 1, 25, #[.int .i64 ka, .bool ba, .string xa, .slice Aa na ca, .slice Ba ma da, .int .i64 kb, .bool bb, .string xb, .slice Ab nb cb, .slice Bb mb db]⟩, ⟨w.heap.size, 51, #[.int .i64 ka, .bool ba, .string xa, .slice Aa na ca, .slice Ba ma da, .int .i64 kb, .bool bb, .string xb, .slice Ab nb cb, .slice Bb mb db]⟩] : List Blk) wr ∧ WRow N0 g9 AXr nXr wr ∧ WRow N1 g10 AYi nYi wr)
      case atStart => exact ⟨0, by omega, rfl, HRST.out, HR.out, HS.out⟩
      case round =>
        clear HRST HR HS
        obtain ⟨p, hp, rfl, hR, hA, hC⟩ := hrel
        have HP := Lib.hid hp
        have HRST := Lib.hid hR
        have HR := Lib.hid hA
        have HS := Lib.hid hC
        clear hp hR hA hC
        have hg := Blks.hd HRST.out.2.2.2.2.2.2
        have y4 := hg.c 4 rfl
        clear hg
        by_cases hlt : p < nYi
        · rcases HS.out with h0 | ⟨b, off, rfl, h1, h2, h3, h4⟩
          · omega
          obtain ⟨x0, hc⟩ := h3 p hlt
          have hf := h4 (off + p * 5)
          have H1 := Lib.hid h1
          have H2 := Lib.hid h2
          clear h1 h2 h3 h4
          go_wp2
          go_roundg (gk - 1)
          case measure => have := HP.out; omega
          case rel => exact ⟨p + 1, by have := HP.out; omega, by go_num, (HRST.out.but HM0.out (set_but _ b _ _) HWN.out (by have := H1.out; have := HO91.out; have := HO9.out; omega) (HLY.out b H1.out H2.out)), (HR.out.but (set_but _ b _ _) (Nat.le_of_lt (Blks.hd (Blks.tl HRST.out.2.2.2.2.2.2)).lt) (.inr (by have := H1.out; have := HO91.out; omega))), (HS.out.set _ _)⟩
        · have h1 : decide (p < nYi) = false := by simp; omega
          obtain ⟨hB, hM, hVa, hVb, hVp, hVq, hK⟩ := HRST.out
          have HB := Lib.hid hB
          have HM := Lib.hid hM
          have HVa := Lib.hid hVa
          have HVb := Lib.hid hVb
          have HVp := Lib.hid hVp
          have HVq := Lib.hid hVq
          have HK := Lib.hid hK
          clear hB hM hVa hVb hVp hVq hK HRST HR HS
          have hg := Blks.hd (Blks.tl (Blks.tl (Blks.tl HK.out)))
          have c0 := hg.c 0 rfl
          have c1 := hg.c 1 rfl
          have c2 := hg.c 2 rfl
          have c3 := hg.c 3 rfl
          have c4 := hg.c 4 rfl
          clear hg
          have hg := Blks.hd (Blks.tl (Blks.tl (Blks.tl (Blks.tl (Blks.tl HK.out)))))
          have u0 := hg.c 0 rfl
          have u1 := hg.c 1 rfl
          have u2 := hg.c 2 rfl
          have u3 := hg.c 3 rfl
          have u4 := hg.c 4 rfl
          have u5 := hg.c 5 rfl
          have u6 := hg.c 6 rfl
          have u7 := hg.c 7 rfl
          have u8 := hg.c 8 rfl
          have u9 := hg.c 9 rfl
          clear hg
          go_wp2_with fail
          clear h1 hlt hn y4 HP c0 c1 c2 c3 c4 u0 u1 u2 u3 u4 u5 u6 u7 u8 u9
          have hE := refEqual_any t t wr _ _ _ _ HVp.out HVa.out (Zone.lt _ _) (Zone.lt _ _) (by have := HKt.out; omega) (by have := HKt.out; omega)
          rw [VT.eqv_refl] at hE
          refine hE.mono ?_
          clear hE
          rintro e w11 ⟨rfl, hb⟩
          replace HVa := Lib.hid (HVa.out.up hb)
          replace HVb := Lib.hid (HVb.out.up hb)
          replace HVp := Lib.hid (HVp.out.up hb)
          replace HVq := Lib.hid (HVq.out.up hb)
          replace HM := Lib.hid (HM.out.on hb)
          replace HK := Lib.hid (HK.out.on hb)
          replace HB := Lib.hid (HB.out.trans (hb.mono HB.out.size))
          clear hb
          have hg := Blks.hd (Blks.tl (Blks.tl HK.out))
          have c0 := hg.c 0 rfl
          have c1 := hg.c 1 rfl
          have c2 := hg.c 2 rfl
          have c3 := hg.c 3 rfl
          have c4 := hg.c 4 rfl
          clear hg
          have hg := Blks.hd (Blks.tl (Blks.tl (Blks.tl (Blks.tl (Blks.tl HK.out)))))
          have u0 := hg.c 0 rfl
          have u1 := hg.c 1 rfl
          have u2 := hg.c 2 rfl
          have u3 := hg.c 3 rfl
          have u4 := hg.c 4 rfl
          have u5 := hg.c 5 rfl
          have u6 := hg.c 6 rfl
          have u7 := hg.c 7 rfl
          have u8 := hg.c 8 rfl
          have u9 := hg.c 9 rfl
          clear hg
          go_wp2_with fail
          clear c0 c1 c2 c3 c4 u0 u1 u2 u3 u4 u5 u6 u7 u8 u9
          have hE := refEqual_any u u w11 _ _ _ _ HVq.out HVb.out (Zone.lt _ _) (Zone.lt _ _) (by have := HKu.out; omega) (by have := HKu.out; omega)
          rw [VT.eqv_refl] at hE
          refine hE.mono ?_
          clear hE
          rintro e w12 ⟨rfl, hb⟩
          replace HVa := Lib.hid (HVa.out.up hb)
          replace HVb := Lib.hid (HVb.out.up hb)
          replace HVp := Lib.hid (HVp.out.up hb)
          replace HVq := Lib.hid (HVq.out.up hb)
          replace HM := Lib.hid (HM.out.on hb)
          replace HK := Lib.hid (HK.out.on hb)
          replace HB := Lib.hid (HB.out.trans (hb.mono HB.out.size))
          clear hb
          go_wp2_with fail
          refine (awake12_any w12 HM.out).mono ?_
          rintro e w13 ⟨rfl, hb⟩
          replace HVa := Lib.hid (HVa.out.up hb)
          replace HVb := Lib.hid (HVb.out.up hb)
          replace HVp := Lib.hid (HVp.out.up hb)
          replace HVq := Lib.hid (HVq.out.up hb)
          replace HM := Lib.hid (HM.out.on hb)
          replace HK := Lib.hid (HK.out.on hb)
          replace HB := Lib.hid (HB.out.trans (hb.mono HB.out.size))
          clear hb
          go_wp2
          go_ret
          exact ⟨rfl, HB.out⟩
end Go.Proofs.YtfploakafbnigaaGreatDoor
