/-
  Layer 12, the walks: the law's examples.
-/
import Derived.Test.YtfploakafbnigaaGreatDoorCRpcCall
import Derived.Test.YtfploakafbnigaaGreatDoorCPkOdP
namespace Go.Proofs.YtfploakafbnigaaGreatDoor
open Go.RowKit Val Num YtfploakafbnigaaGreatDoorW.PrintLast
set_option linter.unusedVariables false
set_option linter.unusedSimpArgs false
theorem Blks.lts {L : List Blk} {w : World} (h : Blks L w) : ∀ x ∈ L, x.g < w.heap.size := by
  induction L with
  | nil => intro x hx; cases hx
  | cons b r ih =>
    intro x hx
    rcases List.mem_cons.1 hx with rfl | hx
    · exact h.1.lt
    · exact ih h.2 x hx
theorem Blks.but {L : List Blk} {w W : World} {g : Nat} (h : Blks L w) (hb : But g w W) (hg : ∀ x ∈ L, x.g ≠ g) : Blks L W := by
  induction L with
  | nil => trivial
  | cons b r ih => exact ⟨h.1.but hb (hg b List.mem_cons_self), ih h.2 (fun x hx => hg x (List.mem_cons_of_mem _ hx))⟩
def tl_aw4 (z : Zone) (C : Nat) (g7 g6 g5 : Nat) : Tolds := [(0, 28, BLKV C 9 #[.string ⟨#[106, 115, 111, 110, 114, 112, 99]⟩, .string ⟨#[105, 100]⟩, .string ⟨#[101, 114, 114, 111, 114]⟩] 3), (1, 29, fun _ v => v = .agg #[.int .i64 3, .bool false, .string ⟨#[50, 46, 48]⟩, .slice none 0 0, .slice none 0 0]), (2, 30, fun _ v => v = .agg #[.int .i64 0, .bool false, .string ⟨#[]⟩, .slice none 0 0, .slice none 0 0]), (3, 31, fun _ v => v = .agg #[.int .i64 5, .bool false, .string ⟨#[]⟩, .slice (some ⟨g6, 0, none⟩) 2 2, .slice (some ⟨g5 + 1, 0, none⟩) 2 2]), (4, 32, BLKV C 25 #[.int .i64 3, .bool false, .string ⟨#[50, 46, 48]⟩, .slice none 0 0, .slice none 0 0, .int .i64 0, .bool false, .string ⟨#[]⟩, .slice none 0 0, .slice none 0 0, .int .i64 5, .bool false, .string ⟨#[]⟩, .slice (some ⟨g6, 0, none⟩) 2 2, .slice (some ⟨g5 + 1, 0, none⟩) 2 2] 3), (5, 33, OBJV C 9 #[.string ⟨#[106, 115, 111, 110, 114, 112, 99]⟩, .string ⟨#[105, 100]⟩, .string ⟨#[101, 114, 114, 111, 114]⟩] 3 25 #[.int .i64 3, .bool false, .string ⟨#[50, 46, 48]⟩, .slice none 0 0, .slice none 0 0, .int .i64 0, .bool false, .string ⟨#[]⟩, .slice none 0 0, .slice none 0 0, .int .i64 5, .bool false, .string ⟨#[]⟩, .slice (some ⟨g6, 0, none⟩) 2 2, .slice (some ⟨g5 + 1, 0, none⟩) 2 2] 3), (6, 4, BOXV C 25 #[.int .i64 0, .bool false, .string ⟨#[]⟩, .slice none 0 0, .slice none 0 0])]
theorem tl_aw4_ok (z : Zone) (C : Nat) (g7 g6 g5 : Nat) : (tl_aw4 z C g7 g6 g5).ok 7 = true := by kernel_rfl
theorem tl_aw4_up (z : Zone) (C : Nat) (g7 g6 g5 : Nat) : (tl_aw4 z C g7 g6 g5).up := (tup_cons (fun _ _ _ h hb => BLKV.up h hb) (tup_cons (fun _ _ _ h _ => h) (tup_cons (fun _ _ _ h _ => h) (tup_cons (fun _ _ _ h _ => h) (tup_cons (fun _ _ _ h hb => BLKV.up h hb) (tup_cons (fun _ _ _ h hb => OBJV.up h hb) (tup_cons (fun _ _ _ h hb => BOXV.up h hb) tup_nil)))))))
def tl_aw5 (z : Zone) (C : Nat) (g7 g6 g5 : Nat) : Tolds := [(0, 34, BLKV C 9 #[.string ⟨#[106, 115, 111, 110, 114, 112, 99]⟩, .string ⟨#[105, 100]⟩, .string ⟨#[114, 101, 115, 117, 108, 116]⟩, .string ⟨#[101, 114, 114, 111, 114]⟩] 4), (1, 35, fun _ v => v = .agg #[.int .i64 3, .bool false, .string ⟨#[50, 46, 48]⟩, .slice none 0 0, .slice none 0 0]), (2, 36, fun _ v => v = .agg #[.int .i64 3, .bool false, .string ⟨#[55]⟩, .slice none 0 0, .slice none 0 0]), (3, 37, fun _ v => v = .agg #[.int .i64 0, .bool false, .string ⟨#[]⟩, .slice none 0 0, .slice none 0 0]), (4, 38, fun _ v => v = .agg #[.int .i64 5, .bool false, .string ⟨#[]⟩, .slice (some ⟨g6, 0, none⟩) 2 2, .slice (some ⟨g5 + 1, 0, none⟩) 2 2]), (5, 39, BLKV C 25 #[.int .i64 3, .bool false, .string ⟨#[50, 46, 48]⟩, .slice none 0 0, .slice none 0 0, .int .i64 3, .bool false, .string ⟨#[55]⟩, .slice none 0 0, .slice none 0 0, .int .i64 0, .bool false, .string ⟨#[]⟩, .slice none 0 0, .slice none 0 0, .int .i64 5, .bool false, .string ⟨#[]⟩, .slice (some ⟨g6, 0, none⟩) 2 2, .slice (some ⟨g5 + 1, 0, none⟩) 2 2] 4), (6, 40, OBJV C 9 #[.string ⟨#[106, 115, 111, 110, 114, 112, 99]⟩, .string ⟨#[105, 100]⟩, .string ⟨#[114, 101, 115, 117, 108, 116]⟩, .string ⟨#[101, 114, 114, 111, 114]⟩] 4 25 #[.int .i64 3, .bool false, .string ⟨#[50, 46, 48]⟩, .slice none 0 0, .slice none 0 0, .int .i64 3, .bool false, .string ⟨#[55]⟩, .slice none 0 0, .slice none 0 0, .int .i64 0, .bool false, .string ⟨#[]⟩, .slice none 0 0, .slice none 0 0, .int .i64 5, .bool false, .string ⟨#[]⟩, .slice (some ⟨g6, 0, none⟩) 2 2, .slice (some ⟨g5 + 1, 0, none⟩) 2 2] 4), (7, 5, BOXV C 25 #[.int .i64 0, .bool false, .string ⟨#[]⟩, .slice none 0 0, .slice none 0 0])]
theorem tl_aw5_ok (z : Zone) (C : Nat) (g7 g6 g5 : Nat) : (tl_aw5 z C g7 g6 g5).ok 8 = true := by kernel_rfl
theorem tl_aw5_up (z : Zone) (C : Nat) (g7 g6 g5 : Nat) : (tl_aw5 z C g7 g6 g5).up := (tup_cons (fun _ _ _ h hb => BLKV.up h hb) (tup_cons (fun _ _ _ h _ => h) (tup_cons (fun _ _ _ h _ => h) (tup_cons (fun _ _ _ h _ => h) (tup_cons (fun _ _ _ h _ => h) (tup_cons (fun _ _ _ h hb => BLKV.up h hb) (tup_cons (fun _ _ _ h hb => OBJV.up h hb) (tup_cons (fun _ _ _ h hb => BOXV.up h hb) tup_nil))))))))
set_option maxRecDepth 100000 in
set_option maxHeartbeats 20000000 in
theorem awake12_any (w : World) (hM : ML w) : Calls Tryz.prog 32 #[] w (Made (.bool true) w) := by
  have HM := Lib.hid hM
  have HM0 := Lib.hid hM
  have HB := Lib.hid (Below.refl w.heap.size w)
  clear hM
  go_enter Tryz.func32, Tryz.ntmps32
  go_wp2_with fail
  refine at1 (fun w1 hX0 hb hz => ?_)
  replace HM := Lib.hid (HM.out.on hb)
  replace HB := Lib.hid (HB.out.trans (hb.mono HB.out.size))
  have HK := Lib.hid (Blks.one hX0)
  clear hX0 hb
  clear hz
  refine (kText_any ⟨#[97]⟩ w1).mono ?_
  rintro e w2 ⟨rfl, hb⟩
  replace HM := Lib.hid (HM.out.on hb)
  replace HK := Lib.hid (HK.out.on hb)
  replace HB := Lib.hid (HB.out.trans (hb.mono HB.out.size))
  clear hb
  go_wp2_with fail
  refine (kText_any ⟨#[50, 46, 48]⟩ w2).mono ?_
  rintro e w3 ⟨rfl, hb⟩
  replace HM := Lib.hid (HM.out.on hb)
  replace HK := Lib.hid (HK.out.on hb)
  replace HB := Lib.hid (HB.out.trans (hb.mono HB.out.size))
  clear hb
  go_wp2_with fail
  refine (kNumber_any ⟨#[51]⟩ w3).mono ?_
  rintro e w4 ⟨rfl, hb⟩
  replace HM := Lib.hid (HM.out.on hb)
  replace HK := Lib.hid (HK.out.on hb)
  replace HB := Lib.hid (HB.out.trans (hb.mono HB.out.size))
  clear hb
  go_wp2_with fail
  refine at1 (fun w5 hX0 hb hz => ?_)
  replace HM := Lib.hid (HM.out.on hb)
  replace HK := Lib.hid (HK.out.on hb)
  replace HB := Lib.hid (HB.out.trans (hb.mono HB.out.size))
  replace HK := Lib.hid (Blks.cons hX0 HK.out)
  clear hX0 hb
  clear hz
  generalize w4.heap.size = g2 at *
  refine (kObject_any (some ⟨g2, 0, none⟩) (some ⟨w.heap.size, 0, none⟩) 3 3 3 3 w5).mono ?_
  rintro e w6 ⟨rfl, hb⟩
  replace HM := Lib.hid (HM.out.on hb)
  replace HK := Lib.hid (HK.out.on hb)
  replace HB := Lib.hid (HB.out.trans (hb.mono HB.out.size))
  clear hb
  go_wp2_with fail
  refine at2 (fun w7 hX0 hX1 hb hz => ?_)
  replace HM := Lib.hid (HM.out.on hb)
  replace HK := Lib.hid (HK.out.on hb)
  replace HB := Lib.hid (HB.out.trans (hb.mono HB.out.size))
  replace HK := Lib.hid (Blks.cons hX0 HK.out)
  replace HK := Lib.hid (Blks.cons hX1 HK.out)
  clear hX0 hX1 hb
  clear hz
  generalize w6.heap.size = g3 at *
  refine (kText_any ⟨#[50, 46, 48]⟩ w7).mono ?_
  rintro e w8 ⟨rfl, hb⟩
  replace HM := Lib.hid (HM.out.on hb)
  replace HK := Lib.hid (HK.out.on hb)
  replace HB := Lib.hid (HB.out.trans (hb.mono HB.out.size))
  clear hb
  go_wp2_with fail
  refine (kText_any ⟨#[55]⟩ w8).mono ?_
  rintro e w9 ⟨rfl, hb⟩
  replace HM := Lib.hid (HM.out.on hb)
  replace HK := Lib.hid (HK.out.on hb)
  replace HB := Lib.hid (HB.out.trans (hb.mono HB.out.size))
  clear hb
  go_wp2_with fail
  refine at1 (fun w10 hX0 hb hz => ?_)
  replace HM := Lib.hid (HM.out.on hb)
  replace HK := Lib.hid (HK.out.on hb)
  replace HB := Lib.hid (HB.out.trans (hb.mono HB.out.size))
  replace HK := Lib.hid (Blks.cons hX0 HK.out)
  clear hX0 hb
  clear hz
  generalize w9.heap.size = g4 at *
  refine (kObject_any (some ⟨g4, 0, none⟩) (some ⟨g3 + 1, 0, none⟩) 3 3 3 3 w10).mono ?_
  rintro e w11 ⟨rfl, hb⟩
  replace HM := Lib.hid (HM.out.on hb)
  replace HK := Lib.hid (HK.out.on hb)
  replace HB := Lib.hid (HB.out.trans (hb.mono HB.out.size))
  clear hb
  go_wp2_with fail
  refine at2 (fun w12 hX0 hX1 hb hz => ?_)
  replace HM := Lib.hid (HM.out.on hb)
  replace HK := Lib.hid (HK.out.on hb)
  replace HB := Lib.hid (HB.out.trans (hb.mono HB.out.size))
  replace HK := Lib.hid (Blks.cons hX0 HK.out)
  replace HK := Lib.hid (Blks.cons hX1 HK.out)
  clear hX0 hX1 hb
  clear hz
  generalize w11.heap.size = g5 at *
  refine (kNumber_any ⟨#[45, 51, 50, 55, 48, 48]⟩ w12).mono ?_
  rintro e w13 ⟨rfl, hb⟩
  replace HM := Lib.hid (HM.out.on hb)
  replace HK := Lib.hid (HK.out.on hb)
  replace HB := Lib.hid (HB.out.trans (hb.mono HB.out.size))
  clear hb
  go_wp2_with fail
  refine (kText_any ⟨#[120]⟩ w13).mono ?_
  rintro e w14 ⟨rfl, hb⟩
  replace HM := Lib.hid (HM.out.on hb)
  replace HK := Lib.hid (HK.out.on hb)
  replace HB := Lib.hid (HB.out.trans (hb.mono HB.out.size))
  clear hb
  go_wp2_with fail
  refine at1 (fun w15 hX0 hb hz => ?_)
  replace HM := Lib.hid (HM.out.on hb)
  replace HK := Lib.hid (HK.out.on hb)
  replace HB := Lib.hid (HB.out.trans (hb.mono HB.out.size))
  replace HK := Lib.hid (Blks.cons hX0 HK.out)
  clear hX0 hb
  clear hz
  generalize w14.heap.size = g6 at *
  refine (kObject_any (some ⟨g6, 0, none⟩) (some ⟨g5 + 1, 0, none⟩) 2 2 2 2 w15).mono ?_
  rintro e w16 ⟨rfl, hb⟩
  replace HM := Lib.hid (HM.out.on hb)
  replace HK := Lib.hid (HK.out.on hb)
  replace HB := Lib.hid (HB.out.trans (hb.mono HB.out.size))
  clear hb
  go_wp2_with fail
  have HGg7 := Lib.hid (Blks.hd HK.out).lt
  have hb : Below w16.heap.size w16 (w16.alloc (.cells #[.int .i64 5, .bool false, .string ⟨#[]⟩, .slice (some ⟨g6, 0, none⟩) 2 2, .slice (some ⟨g5 + 1, 0, none⟩) 2 2] 25)) := made_end' w16 _
  replace HM := Lib.hid (HM.out.on hb)
  replace HK := Lib.hid (HK.out.on hb)
  replace HB := Lib.hid (HB.out.trans (hb.mono HB.out.size))
  have hX0 : BK (w16.alloc (.cells #[.int .i64 5, .bool false, .string ⟨#[]⟩, .slice (some ⟨g6, 0, none⟩) 2 2, .slice (some ⟨g5 + 1, 0, none⟩) 2 2] 25)) (w16.heap.size) 25 #[.int .i64 5, .bool false, .string ⟨#[]⟩, .slice (some ⟨g6, 0, none⟩) 2 2, .slice (some ⟨g5 + 1, 0, none⟩) 2 2] := BK.new w16 _ _
  replace HK := Lib.hid (Blks.cons hX0 HK.out)
  clear hb hX0
  generalize (w16.alloc (.cells #[.int .i64 5, .bool false, .string ⟨#[]⟩, .slice (some ⟨g6, 0, none⟩) 2 2, .slice (some ⟨g5 + 1, 0, none⟩) 2 2] 25)) = w17 at *
  generalize w16.heap.size = g7 at *
  refine start_ (n := 8) (S := fun w' => True) (ds := []) #[false, false, false, false, false, false, false, false] (by kernel_rfl) rfl rfl trivial (fun hHeld => ?_)
  clear hHeld
  have hb : Below w17.heap.size w17 w17.drew := (Below.refl _ _).drew
  have HX3 := Lib.hid (BK.on (Blks.hd HK.out) hb)
  replace HM := Lib.hid (HM.out.on hb)
  replace HK := Lib.hid (HK.out.on hb)
  replace HB := Lib.hid (HB.out.trans (hb.mono HB.out.size))
  clear hb
  generalize w17.drew = w18 at *
  refine inv_ (B := [0, 0, 0, 0, 14, 31, 0, 127]) [0, 1, 2, 3, 4, 5, 6, 7] (ToldI _ (tl_aw4 (zNew 0) w18.heap.size g7 g6 g5) 7 w18 _) rfl (by kernel_rfl) (by kernel_rfl) (by kernel_rfl) told_begin ?_ (told_end (by kernel_rfl))
  refine steps_cons (told_step 0 (tl_aw4_ok (zNew 0) w18.heap.size g7 g6 g5) (tl_aw4_up (zNew 0) w18.heap.size g7 g6 g5) rfl (by kernel_rfl) ?_) ?_
  · intro b V a w' ha hB hF hon
    refine ⟨_, rfl, rfl, fun K hK => ?_⟩
    refine value_ (w1 := w'.alloc (.cells #[.string ⟨#[106, 115, 111, 110, 114, 112, 99]⟩, .string ⟨#[105, 100]⟩, .string ⟨#[101, 114, 114, 111, 114]⟩] 9)) (v := .slice (some ⟨w'.heap.size, 0, none⟩) 3 3) rfl rfl ?_ (hK _ _ ((Below.refl _ _).alloc (Nat.le_refl _) _) (BLKV_new _ _ _ _ hB.size))
    clear ha hF hon hK K
    go_simp
    all_goals first | rfl | (constructor <;> rfl)
  refine steps_cons (told_step 1 (tl_aw4_ok (zNew 0) w18.heap.size g7 g6 g5) (tl_aw4_up (zNew 0) w18.heap.size g7 g6 g5) rfl (by kernel_rfl) ?_) ?_
  · intro b V a w' ha hB hF hon
    refine ⟨_, rfl, rfl, fun K hK => ?_⟩
    refine goes_ Tryz.func90 (by kernel_rfl) rfl #[.string ⟨#[50, 46, 48]⟩] rfl rfl rfl (by simp only [List.map_toArray, List.map_cons, List.map_nil, Act.eval, Array.getD_eq_getD_getElem?, Option.getD_some]) ?_
    refine (kText_any ⟨#[50, 46, 48]⟩ w').mono ?_
    rintro e w'' ⟨rfl, hb⟩
    exact ⟨_, rfl, hK _ w'' hb rfl⟩
  refine steps_cons (told_step 2 (tl_aw4_ok (zNew 0) w18.heap.size g7 g6 g5) (tl_aw4_up (zNew 0) w18.heap.size g7 g6 g5) rfl (by kernel_rfl) ?_) ?_
  · intro b V a w' ha hB hF hon
    refine ⟨_, rfl, rfl, fun K hK => ?_⟩
    refine value_ (w1 := w') (v := .agg #[.int .i64 0, .bool false, .string ⟨#[]⟩, .slice none 0 0, .slice none 0 0]) rfl rfl ?_ (hK _ _ (Below.refl _ _) rfl)
    clear ha hF hon hK K
    go_simp
    all_goals first | rfl | (constructor <;> rfl)
  refine steps_cons (told_step 3 (tl_aw4_ok (zNew 0) w18.heap.size g7 g6 g5) (tl_aw4_up (zNew 0) w18.heap.size g7 g6 g5) rfl (by kernel_rfl) ?_) ?_
  · intro b V a w' ha hB hF hon
    refine ⟨_, rfl, rfl, fun K hK => ?_⟩
    have e3 : a.tmps[3]? = some (.pointer (some ⟨g7, 0, none⟩)) := by rw [ha]; exact (putSel_off (by rfl)).trans rfl
    have hg := HX3.out.on hB
    have y0 := hg.c 0 rfl
    have y1 := hg.c 1 rfl
    have y2 := hg.c 2 rfl
    have y3 := hg.c 3 rfl
    have y4 := hg.c 4 rfl
    clear hg
    refine value_ (w1 := w') (v := .agg #[.int .i64 5, .bool false, .string ⟨#[]⟩, .slice (some ⟨g6, 0, none⟩) 2 2, .slice (some ⟨g5 + 1, 0, none⟩) 2 2]) rfl rfl ?_ (hK _ _ (Below.refl _ _) rfl)
    clear ha hF hon hK K
    go_simp
    all_goals first | rfl | (constructor <;> rfl)
  refine steps_cons (told_step 4 (tl_aw4_ok (zNew 0) w18.heap.size g7 g6 g5) (tl_aw4_up (zNew 0) w18.heap.size g7 g6 g5) rfl (by kernel_rfl) ?_) ?_
  · intro b V a w' ha hB hF hon
    refine ⟨_, rfl, rfl, fun K hK => ?_⟩
    have e29 := told_get 1 (tl_aw4_ok (zNew 0) w18.heap.size g7 g6 g5) rfl ha (hon 1 (by kernel_rfl)) (by kernel_rfl)
    have F29 : V 1 = .agg #[.int .i64 3, .bool false, .string ⟨#[50, 46, 48]⟩, .slice none 0 0, .slice none 0 0] := told_fact 1 hF rfl (hon 1 (by kernel_rfl))
    rw [F29] at e29
    have e30 := told_get 2 (tl_aw4_ok (zNew 0) w18.heap.size g7 g6 g5) rfl ha (hon 2 (by kernel_rfl)) (by kernel_rfl)
    have F30 : V 2 = .agg #[.int .i64 0, .bool false, .string ⟨#[]⟩, .slice none 0 0, .slice none 0 0] := told_fact 2 hF rfl (hon 2 (by kernel_rfl))
    rw [F30] at e30
    have e31 := told_get 3 (tl_aw4_ok (zNew 0) w18.heap.size g7 g6 g5) rfl ha (hon 3 (by kernel_rfl)) (by kernel_rfl)
    have F31 : V 3 = .agg #[.int .i64 5, .bool false, .string ⟨#[]⟩, .slice (some ⟨g6, 0, none⟩) 2 2, .slice (some ⟨g5 + 1, 0, none⟩) 2 2] := told_fact 3 hF rfl (hon 3 (by kernel_rfl))
    rw [F31] at e31
    refine value_ (w1 := w'.alloc (.cells #[.int .i64 3, .bool false, .string ⟨#[50, 46, 48]⟩, .slice none 0 0, .slice none 0 0, .int .i64 0, .bool false, .string ⟨#[]⟩, .slice none 0 0, .slice none 0 0, .int .i64 5, .bool false, .string ⟨#[]⟩, .slice (some ⟨g6, 0, none⟩) 2 2, .slice (some ⟨g5 + 1, 0, none⟩) 2 2] 25)) (v := .slice (some ⟨w'.heap.size, 0, none⟩) 3 3) rfl rfl ?_ (hK _ _ ((Below.refl _ _).alloc (Nat.le_refl _) _) (BLKV_new _ _ _ _ hB.size))
    clear ha hF hon hK K
    go_simp
    all_goals first | rfl | (constructor <;> rfl)
  refine steps_cons (told_step 5 (tl_aw4_ok (zNew 0) w18.heap.size g7 g6 g5) (tl_aw4_up (zNew 0) w18.heap.size g7 g6 g5) rfl (by kernel_rfl) ?_) ?_
  · intro b V a w' ha hB hF hon
    refine ⟨_, rfl, rfl, fun K hK => ?_⟩
    have e28 := told_get 0 (tl_aw4_ok (zNew 0) w18.heap.size g7 g6 g5) rfl ha (hon 0 (by kernel_rfl)) (by kernel_rfl)
    have F28 := told_fact 0 hF rfl (hon 0 (by kernel_rfl))
    have e32 := told_get 4 (tl_aw4_ok (zNew 0) w18.heap.size g7 g6 g5) rfl ha (hon 4 (by kernel_rfl)) (by kernel_rfl)
    have F32 := told_fact 4 hF rfl (hon 4 (by kernel_rfl))
    refine goes_ Tryz.func89 (by kernel_rfl) rfl #[V 0, V 4] rfl rfl rfl (by simp only [List.map_toArray, List.map_cons, List.map_nil, Act.eval, Array.getD_eq_getD_getElem?, e28, e32, Option.getD_some]) ?_
    obtain ⟨q1, hq1, hq1c, hq1b⟩ := F28
    obtain ⟨q2, hq2, hq2c, hq2b⟩ := F32
    rw [hq1, hq2]
    refine (kObject_any _ _ _ _ _ _ w').mono ?_
    rintro e w'' ⟨rfl, hb⟩
    exact ⟨_, rfl, hK _ w'' hb ⟨q1, q2, rfl, hq1c, hq2c, hq1b.on hb, hq2b.on hb⟩⟩
  refine steps_cons (told_step 6 (tl_aw4_ok (zNew 0) w18.heap.size g7 g6 g5) (tl_aw4_up (zNew 0) w18.heap.size g7 g6 g5) rfl (by kernel_rfl) ?_) ?_
  · intro b V a w' ha hB hF hon
    refine ⟨_, rfl, rfl, fun K hK => ?_⟩
    refine value_ (w1 := w'.alloc (.cells #[.int .i64 0, .bool false, .string ⟨#[]⟩, .slice none 0 0, .slice none 0 0] 25)) (v := .pointer (some ⟨w'.heap.size, 0, none⟩)) rfl rfl ?_ (hK _ _ ((Below.refl _ _).alloc (Nat.le_refl _) _) (BOXV_new _ _ _ hB.size))
    clear ha hF hon hK K
    go_simp
    all_goals first | rfl | (constructor <;> rfl)
  refine steps_cons (told_last ?_ ?_) steps_nil
  · intro e he; simp only [tl_aw4, List.mem_cons, List.mem_nil_iff, or_false] at he; rcases he with rfl | rfl | rfl | rfl | rfl | rfl | rfl <;> kernel_rfl
  intro V a w' ha hB hF
  refine ⟨_, rfl, rfl, fun K hK => ?_⟩
  have e33 := told_get 5 (tl_aw4_ok (zNew 0) w18.heap.size g7 g6 g5) rfl ha rfl (by kernel_rfl)
  have F33 := hF _ (List.mem_of_getElem? (i := 5) rfl)
  have e4 := told_get 6 (tl_aw4_ok (zNew 0) w18.heap.size g7 g6 g5) rfl ha rfl (by kernel_rfl)
  have F4 := hF _ (List.mem_of_getElem? (i := 6) rfl)
  obtain ⟨qn4, ql4, hv33, hqn, hql, bqn, bql⟩ := F33
  rw [hv33] at e33
  obtain ⟨gb4, hv4, hgC, hbk⟩ := F4
  rw [hv4] at e4
  have y0 := hbk.c 0 rfl
  have f0 := hbk.fr 0
  have y1 := hbk.c 1 rfl
  have f1 := hbk.fr 1
  have y2 := hbk.c 2 rfl
  have f2 := hbk.fr 2
  have y3 := hbk.c 3 rfl
  have f3 := hbk.fr 3
  have y4 := hbk.c 4 rfl
  have f4 := hbk.fr 4
  refine skip_ (w1 := setAll gb4 w' 0 [.int .i64 5, .bool false, .string ⟨#[]⟩, .slice (some ⟨ql4, 0, none⟩) 3 3, .slice (some ⟨qn4, 0, none⟩) 3 3]) rfl rfl ?_ (hK _ _ ?_)
  · clear ha hF hK K
    go_simp
    all_goals first | rfl | (constructor <;> rfl)
  clear hK K hF e33 e4 y0 f0 y1 f1 y2 f2 y3 f3 y4 f4
  have hnb := hbk.all [.int .i64 5, .bool false, .string ⟨#[]⟩, .slice (some ⟨ql4, 0, none⟩) 3 3, .slice (some ⟨qn4, 0, none⟩) 3 3] rfl
  have hb := setAll_below gb4 hgC [.int .i64 5, .bool false, .string ⟨#[]⟩, .slice (some ⟨ql4, 0, none⟩) 3 3, .slice (some ⟨qn4, 0, none⟩) 3 3] w' 0 hB
  have hne1 : qn4 ≠ gb4 := bqn.ne hbk (by decide)
  have hne2 : ql4 ≠ gb4 := bql.ne hbk (by simp)
  have hq1 := (setAll_same (S := (· = qn4)) gb4 [.int .i64 5, .bool false, .string ⟨#[]⟩, .slice (some ⟨ql4, 0, none⟩) 3 3, .slice (some ⟨qn4, 0, none⟩) 3 3] (fun b hb e => hne1 (by rw [← e]; exact hb.symm)) w' 0 qn4 rfl).trans bqn
  have hq2 := (setAll_same (S := (· = ql4)) gb4 [.int .i64 5, .bool false, .string ⟨#[]⟩, .slice (some ⟨ql4, 0, none⟩) 3 3, .slice (some ⟨qn4, 0, none⟩) 3 3] (fun b hb e => hne2 (by rw [← e]; exact hb.symm)) w' 0 ql4 rfl).trans bql
  replace HM := Lib.hid (HM.out.on hb)
  replace HK := Lib.hid (HK.out.on hb)
  replace HB := Lib.hid (HB.out.trans (hb.mono HB.out.size))
  replace HK := Lib.hid (Blks.cons (hq1) HK.out)
  replace HK := Lib.hid (Blks.cons (hq2) HK.out)
  replace HK := Lib.hid (Blks.cons (hnb) HK.out)
  clear hb hnb hq1 hq2 hne1 hne2 bqn bql hqn hql hgC hbk HX3 hB
  generalize setAll gb4 w' 0 [.int .i64 5, .bool false, .string ⟨#[]⟩, .slice (some ⟨ql4, 0, none⟩) 3 3, .slice (some ⟨qn4, 0, none⟩) 3 3] = w19 at *
  rw [ha]
  clear ha
  simp only [tl_aw4, Tolds.put, List.map_cons, List.map_nil, putSel, if_true, Act.put, List.setIfInBounds_toArray, List.set_cons_zero, List.set_cons_succ, hv33, hv4]
  clear hv33 hv4
  generalize V 0 = u0
  generalize V 1 = u1
  generalize V 2 = u2
  generalize V 3 = u3
  generalize V 4 = u4
  try clear V
  go_wp2_with fail
  refine start_ (n := 9) (S := fun w' => True) (ds := []) #[false, false, false, false, false, false, false, false, false] (by kernel_rfl) rfl rfl trivial (fun hHeld => ?_)
  clear hHeld
  have hb : Below w19.heap.size w19 w19.drew := (Below.refl _ _).drew
  have HX3 := Lib.hid (BK.on (Blks.hd (Blks.tl (Blks.tl (Blks.tl HK.out)))) hb)
  replace HM := Lib.hid (HM.out.on hb)
  replace HK := Lib.hid (HK.out.on hb)
  replace HB := Lib.hid (HB.out.trans (hb.mono HB.out.size))
  clear hb
  generalize w19.drew = w20 at *
  refine inv_ (B := [0, 0, 2, 0, 0, 30, 63, 0, 255]) [0, 1, 2, 3, 4, 5, 6, 7, 8] (ToldI _ (tl_aw5 (zNew 0) w20.heap.size g7 g6 g5) 8 w20 _) rfl (by kernel_rfl) (by kernel_rfl) (by kernel_rfl) told_begin ?_ (told_end (by kernel_rfl))
  refine steps_cons (told_step 0 (tl_aw5_ok (zNew 0) w20.heap.size g7 g6 g5) (tl_aw5_up (zNew 0) w20.heap.size g7 g6 g5) rfl (by kernel_rfl) ?_) ?_
  · intro b V a w' ha hB hF hon
    refine ⟨_, rfl, rfl, fun K hK => ?_⟩
    refine value_ (w1 := w'.alloc (.cells #[.string ⟨#[106, 115, 111, 110, 114, 112, 99]⟩, .string ⟨#[105, 100]⟩, .string ⟨#[114, 101, 115, 117, 108, 116]⟩, .string ⟨#[101, 114, 114, 111, 114]⟩] 9)) (v := .slice (some ⟨w'.heap.size, 0, none⟩) 4 4) rfl rfl ?_ (hK _ _ ((Below.refl _ _).alloc (Nat.le_refl _) _) (BLKV_new _ _ _ _ hB.size))
    clear ha hF hon hK K
    go_simp
    all_goals first | rfl | (constructor <;> rfl)
  refine steps_cons (told_step 1 (tl_aw5_ok (zNew 0) w20.heap.size g7 g6 g5) (tl_aw5_up (zNew 0) w20.heap.size g7 g6 g5) rfl (by kernel_rfl) ?_) ?_
  · intro b V a w' ha hB hF hon
    refine ⟨_, rfl, rfl, fun K hK => ?_⟩
    refine goes_ Tryz.func90 (by kernel_rfl) rfl #[.string ⟨#[50, 46, 48]⟩] rfl rfl rfl (by simp only [List.map_toArray, List.map_cons, List.map_nil, Act.eval, Array.getD_eq_getD_getElem?, Option.getD_some]) ?_
    refine (kText_any ⟨#[50, 46, 48]⟩ w').mono ?_
    rintro e w'' ⟨rfl, hb⟩
    exact ⟨_, rfl, hK _ w'' hb rfl⟩
  refine steps_cons (told_step 2 (tl_aw5_ok (zNew 0) w20.heap.size g7 g6 g5) (tl_aw5_up (zNew 0) w20.heap.size g7 g6 g5) rfl (by kernel_rfl) ?_) ?_
  · intro b V a w' ha hB hF hon
    refine ⟨_, rfl, rfl, fun K hK => ?_⟩
    refine goes_ Tryz.func90 (by kernel_rfl) rfl #[.string ⟨#[55]⟩] rfl rfl rfl (by simp only [List.map_toArray, List.map_cons, List.map_nil, Act.eval, Array.getD_eq_getD_getElem?, Option.getD_some]) ?_
    refine (kText_any ⟨#[55]⟩ w').mono ?_
    rintro e w'' ⟨rfl, hb⟩
    exact ⟨_, rfl, hK _ w'' hb rfl⟩
  refine steps_cons (told_step 3 (tl_aw5_ok (zNew 0) w20.heap.size g7 g6 g5) (tl_aw5_up (zNew 0) w20.heap.size g7 g6 g5) rfl (by kernel_rfl) ?_) ?_
  · intro b V a w' ha hB hF hon
    refine ⟨_, rfl, rfl, fun K hK => ?_⟩
    refine value_ (w1 := w') (v := .agg #[.int .i64 0, .bool false, .string ⟨#[]⟩, .slice none 0 0, .slice none 0 0]) rfl rfl ?_ (hK _ _ (Below.refl _ _) rfl)
    clear ha hF hon hK K
    go_simp
    all_goals first | rfl | (constructor <;> rfl)
  refine steps_cons (told_step 4 (tl_aw5_ok (zNew 0) w20.heap.size g7 g6 g5) (tl_aw5_up (zNew 0) w20.heap.size g7 g6 g5) rfl (by kernel_rfl) ?_) ?_
  · intro b V a w' ha hB hF hon
    refine ⟨_, rfl, rfl, fun K hK => ?_⟩
    have e3 : a.tmps[3]? = some (.pointer (some ⟨g7, 0, none⟩)) := by rw [ha]; exact (putSel_off (by rfl)).trans rfl
    have hg := HX3.out.on hB
    have y0 := hg.c 0 rfl
    have y1 := hg.c 1 rfl
    have y2 := hg.c 2 rfl
    have y3 := hg.c 3 rfl
    have y4 := hg.c 4 rfl
    clear hg
    refine value_ (w1 := w') (v := .agg #[.int .i64 5, .bool false, .string ⟨#[]⟩, .slice (some ⟨g6, 0, none⟩) 2 2, .slice (some ⟨g5 + 1, 0, none⟩) 2 2]) rfl rfl ?_ (hK _ _ (Below.refl _ _) rfl)
    clear ha hF hon hK K
    go_simp
    all_goals first | rfl | (constructor <;> rfl)
  refine steps_cons (told_step 5 (tl_aw5_ok (zNew 0) w20.heap.size g7 g6 g5) (tl_aw5_up (zNew 0) w20.heap.size g7 g6 g5) rfl (by kernel_rfl) ?_) ?_
  · intro b V a w' ha hB hF hon
    refine ⟨_, rfl, rfl, fun K hK => ?_⟩
    have e35 := told_get 1 (tl_aw5_ok (zNew 0) w20.heap.size g7 g6 g5) rfl ha (hon 1 (by kernel_rfl)) (by kernel_rfl)
    have F35 : V 1 = .agg #[.int .i64 3, .bool false, .string ⟨#[50, 46, 48]⟩, .slice none 0 0, .slice none 0 0] := told_fact 1 hF rfl (hon 1 (by kernel_rfl))
    rw [F35] at e35
    have e36 := told_get 2 (tl_aw5_ok (zNew 0) w20.heap.size g7 g6 g5) rfl ha (hon 2 (by kernel_rfl)) (by kernel_rfl)
    have F36 : V 2 = .agg #[.int .i64 3, .bool false, .string ⟨#[55]⟩, .slice none 0 0, .slice none 0 0] := told_fact 2 hF rfl (hon 2 (by kernel_rfl))
    rw [F36] at e36
    have e37 := told_get 3 (tl_aw5_ok (zNew 0) w20.heap.size g7 g6 g5) rfl ha (hon 3 (by kernel_rfl)) (by kernel_rfl)
    have F37 : V 3 = .agg #[.int .i64 0, .bool false, .string ⟨#[]⟩, .slice none 0 0, .slice none 0 0] := told_fact 3 hF rfl (hon 3 (by kernel_rfl))
    rw [F37] at e37
    have e38 := told_get 4 (tl_aw5_ok (zNew 0) w20.heap.size g7 g6 g5) rfl ha (hon 4 (by kernel_rfl)) (by kernel_rfl)
    have F38 : V 4 = .agg #[.int .i64 5, .bool false, .string ⟨#[]⟩, .slice (some ⟨g6, 0, none⟩) 2 2, .slice (some ⟨g5 + 1, 0, none⟩) 2 2] := told_fact 4 hF rfl (hon 4 (by kernel_rfl))
    rw [F38] at e38
    refine value_ (w1 := w'.alloc (.cells #[.int .i64 3, .bool false, .string ⟨#[50, 46, 48]⟩, .slice none 0 0, .slice none 0 0, .int .i64 3, .bool false, .string ⟨#[55]⟩, .slice none 0 0, .slice none 0 0, .int .i64 0, .bool false, .string ⟨#[]⟩, .slice none 0 0, .slice none 0 0, .int .i64 5, .bool false, .string ⟨#[]⟩, .slice (some ⟨g6, 0, none⟩) 2 2, .slice (some ⟨g5 + 1, 0, none⟩) 2 2] 25)) (v := .slice (some ⟨w'.heap.size, 0, none⟩) 4 4) rfl rfl ?_ (hK _ _ ((Below.refl _ _).alloc (Nat.le_refl _) _) (BLKV_new _ _ _ _ hB.size))
    clear ha hF hon hK K
    go_simp
    all_goals first | rfl | (constructor <;> rfl)
  refine steps_cons (told_step 6 (tl_aw5_ok (zNew 0) w20.heap.size g7 g6 g5) (tl_aw5_up (zNew 0) w20.heap.size g7 g6 g5) rfl (by kernel_rfl) ?_) ?_
  · intro b V a w' ha hB hF hon
    refine ⟨_, rfl, rfl, fun K hK => ?_⟩
    have e34 := told_get 0 (tl_aw5_ok (zNew 0) w20.heap.size g7 g6 g5) rfl ha (hon 0 (by kernel_rfl)) (by kernel_rfl)
    have F34 := told_fact 0 hF rfl (hon 0 (by kernel_rfl))
    have e39 := told_get 5 (tl_aw5_ok (zNew 0) w20.heap.size g7 g6 g5) rfl ha (hon 5 (by kernel_rfl)) (by kernel_rfl)
    have F39 := told_fact 5 hF rfl (hon 5 (by kernel_rfl))
    refine goes_ Tryz.func89 (by kernel_rfl) rfl #[V 0, V 5] rfl rfl rfl (by simp only [List.map_toArray, List.map_cons, List.map_nil, Act.eval, Array.getD_eq_getD_getElem?, e34, e39, Option.getD_some]) ?_
    obtain ⟨q1, hq1, hq1c, hq1b⟩ := F34
    obtain ⟨q2, hq2, hq2c, hq2b⟩ := F39
    rw [hq1, hq2]
    refine (kObject_any _ _ _ _ _ _ w').mono ?_
    rintro e w'' ⟨rfl, hb⟩
    exact ⟨_, rfl, hK _ w'' hb ⟨q1, q2, rfl, hq1c, hq2c, hq1b.on hb, hq2b.on hb⟩⟩
  refine steps_cons (told_step 7 (tl_aw5_ok (zNew 0) w20.heap.size g7 g6 g5) (tl_aw5_up (zNew 0) w20.heap.size g7 g6 g5) rfl (by kernel_rfl) ?_) ?_
  · intro b V a w' ha hB hF hon
    refine ⟨_, rfl, rfl, fun K hK => ?_⟩
    refine value_ (w1 := w'.alloc (.cells #[.int .i64 0, .bool false, .string ⟨#[]⟩, .slice none 0 0, .slice none 0 0] 25)) (v := .pointer (some ⟨w'.heap.size, 0, none⟩)) rfl rfl ?_ (hK _ _ ((Below.refl _ _).alloc (Nat.le_refl _) _) (BOXV_new _ _ _ hB.size))
    clear ha hF hon hK K
    go_simp
    all_goals first | rfl | (constructor <;> rfl)
  refine steps_cons (told_last ?_ ?_) steps_nil
  · intro e he; simp only [tl_aw5, List.mem_cons, List.mem_nil_iff, or_false] at he; rcases he with rfl | rfl | rfl | rfl | rfl | rfl | rfl | rfl <;> kernel_rfl
  intro V a w' ha hB hF
  refine ⟨_, rfl, rfl, fun K hK => ?_⟩
  have e40 := told_get 6 (tl_aw5_ok (zNew 0) w20.heap.size g7 g6 g5) rfl ha rfl (by kernel_rfl)
  have F40 := hF _ (List.mem_of_getElem? (i := 6) rfl)
  have e5 := told_get 7 (tl_aw5_ok (zNew 0) w20.heap.size g7 g6 g5) rfl ha rfl (by kernel_rfl)
  have F5 := hF _ (List.mem_of_getElem? (i := 7) rfl)
  obtain ⟨qn5, ql5, hv40, hqn, hql, bqn, bql⟩ := F40
  rw [hv40] at e40
  obtain ⟨gb5, hv5, hgC, hbk⟩ := F5
  rw [hv5] at e5
  have y0 := hbk.c 0 rfl
  have f0 := hbk.fr 0
  have y1 := hbk.c 1 rfl
  have f1 := hbk.fr 1
  have y2 := hbk.c 2 rfl
  have f2 := hbk.fr 2
  have y3 := hbk.c 3 rfl
  have f3 := hbk.fr 3
  have y4 := hbk.c 4 rfl
  have f4 := hbk.fr 4
  refine skip_ (w1 := setAll gb5 w' 0 [.int .i64 5, .bool false, .string ⟨#[]⟩, .slice (some ⟨ql5, 0, none⟩) 4 4, .slice (some ⟨qn5, 0, none⟩) 4 4]) rfl rfl ?_ (hK _ _ ?_)
  · clear ha hF hK K
    go_simp
    all_goals first | rfl | (constructor <;> rfl)
  clear hK K hF e40 e5 y0 f0 y1 f1 y2 f2 y3 f3 y4 f4
  have hnb := hbk.all [.int .i64 5, .bool false, .string ⟨#[]⟩, .slice (some ⟨ql5, 0, none⟩) 4 4, .slice (some ⟨qn5, 0, none⟩) 4 4] rfl
  have hb := setAll_below gb5 hgC [.int .i64 5, .bool false, .string ⟨#[]⟩, .slice (some ⟨ql5, 0, none⟩) 4 4, .slice (some ⟨qn5, 0, none⟩) 4 4] w' 0 hB
  have hne1 : qn5 ≠ gb5 := bqn.ne hbk (by decide)
  have hne2 : ql5 ≠ gb5 := bql.ne hbk (by simp)
  have hq1 := (setAll_same (S := (· = qn5)) gb5 [.int .i64 5, .bool false, .string ⟨#[]⟩, .slice (some ⟨ql5, 0, none⟩) 4 4, .slice (some ⟨qn5, 0, none⟩) 4 4] (fun b hb e => hne1 (by rw [← e]; exact hb.symm)) w' 0 qn5 rfl).trans bqn
  have hq2 := (setAll_same (S := (· = ql5)) gb5 [.int .i64 5, .bool false, .string ⟨#[]⟩, .slice (some ⟨ql5, 0, none⟩) 4 4, .slice (some ⟨qn5, 0, none⟩) 4 4] (fun b hb e => hne2 (by rw [← e]; exact hb.symm)) w' 0 ql5 rfl).trans bql
  replace HM := Lib.hid (HM.out.on hb)
  replace HK := Lib.hid (HK.out.on hb)
  replace HB := Lib.hid (HB.out.trans (hb.mono HB.out.size))
  replace HK := Lib.hid (Blks.cons (hq1) HK.out)
  replace HK := Lib.hid (Blks.cons (hq2) HK.out)
  replace HK := Lib.hid (Blks.cons (hnb) HK.out)
  clear hb hnb hq1 hq2 hne1 hne2 bqn bql hqn hql hgC hbk HX3 hB
  generalize setAll gb5 w' 0 [.int .i64 5, .bool false, .string ⟨#[]⟩, .slice (some ⟨ql5, 0, none⟩) 4 4, .slice (some ⟨qn5, 0, none⟩) 4 4] = w21 at *
  rw [ha]
  clear ha
  simp only [tl_aw5, Tolds.put, List.map_cons, List.map_nil, putSel, if_true, Act.put, List.setIfInBounds_toArray, List.set_cons_zero, List.set_cons_succ, hv40, hv5]
  clear hv40 hv5
  generalize V 0 = u0
  generalize V 1 = u1
  generalize V 2 = u2
  generalize V 3 = u3
  generalize V 4 = u4
  generalize V 5 = u5
  try clear V
  go_wp2_with fail
  refine at1 (fun w22 hX0 hb hz => ?_)
  replace HM := Lib.hid (HM.out.on hb)
  replace HK := Lib.hid (HK.out.on hb)
  replace HB := Lib.hid (HB.out.trans (hb.mono HB.out.size))
  replace HK := Lib.hid (Blks.cons hX0 HK.out)
  clear hX0 hb
  clear hz
  generalize w21.heap.size = g8 at *
  refine (kNumber_any ⟨#[49]⟩ w22).mono ?_
  rintro e w23 ⟨rfl, hb⟩
  replace HM := Lib.hid (HM.out.on hb)
  replace HK := Lib.hid (HK.out.on hb)
  replace HB := Lib.hid (HB.out.trans (hb.mono HB.out.size))
  clear hb
  go_wp2_with fail
  refine (kText_any ⟨#[97]⟩ w23).mono ?_
  rintro e w24 ⟨rfl, hb⟩
  replace HM := Lib.hid (HM.out.on hb)
  replace HK := Lib.hid (HK.out.on hb)
  replace HB := Lib.hid (HB.out.trans (hb.mono HB.out.size))
  clear hb
  go_wp2_with fail
  refine at1 (fun w25 hX0 hb hz => ?_)
  replace HM := Lib.hid (HM.out.on hb)
  replace HK := Lib.hid (HK.out.on hb)
  replace HB := Lib.hid (HB.out.trans (hb.mono HB.out.size))
  replace HK := Lib.hid (Blks.cons hX0 HK.out)
  clear hX0 hb
  clear hz
  generalize w24.heap.size = g9 at *
  refine (kObject_any (some ⟨g9, 0, none⟩) (some ⟨g8, 0, none⟩) 2 2 2 2 w25).mono ?_
  rintro e w26 ⟨rfl, hb⟩
  replace HM := Lib.hid (HM.out.on hb)
  replace HK := Lib.hid (HK.out.on hb)
  replace HB := Lib.hid (HB.out.trans (hb.mono HB.out.size))
  clear hb
  go_wp2_with fail
  refine at1 (fun w27 hX0 hb hz => ?_)
  replace HM := Lib.hid (HM.out.on hb)
  replace HK := Lib.hid (HK.out.on hb)
  replace HB := Lib.hid (HB.out.trans (hb.mono HB.out.size))
  replace HK := Lib.hid (Blks.cons hX0 HK.out)
  clear hX0 hb
  clear hz
  generalize w26.heap.size = g10 at *
  refine (kNumber_any ⟨#[49]⟩ w27).mono ?_
  rintro e w28 ⟨rfl, hb⟩
  replace HM := Lib.hid (HM.out.on hb)
  replace HK := Lib.hid (HK.out.on hb)
  replace HB := Lib.hid (HB.out.trans (hb.mono HB.out.size))
  clear hb
  go_wp2_with fail
  have HLT := Lib.hid (Blks.lts HK.out)
  have HW := Lib.hid HB.out.size
  refine (call_num ⟨#[49]⟩ w28).mono ?_
  rintro e w29 ⟨v', rfl, ⟨cn11, cl11, rfl, -, hge, bqn, bql⟩, hb⟩
  replace HM := Lib.hid (HM.out.on hb)
  replace HK := Lib.hid (HK.out.on hb)
  replace HB := Lib.hid (HB.out.trans (hb.mono HB.out.size))
  have Hge := Lib.hid hge
  clear hge
  replace HK := Lib.hid (Blks.cons bql (Blks.cons bqn HK.out))
  clear hb bqn bql
  go_wp2_with fail
  have HGg12 := Lib.hid (Blks.hd HK.out).lt
  have hb : Below w29.heap.size w29 (w29.alloc (.cells #[.int .i64 5, .bool false, .string ⟨#[]⟩, .slice (some ⟨cl11, 0, none⟩) 4 4, .slice (some ⟨cn11, 0, none⟩) 4 4] 25)) := made_end' w29 _
  replace HM := Lib.hid (HM.out.on hb)
  replace HK := Lib.hid (HK.out.on hb)
  replace HB := Lib.hid (HB.out.trans (hb.mono HB.out.size))
  have hX0 : BK (w29.alloc (.cells #[.int .i64 5, .bool false, .string ⟨#[]⟩, .slice (some ⟨cl11, 0, none⟩) 4 4, .slice (some ⟨cn11, 0, none⟩) 4 4] 25)) (w29.heap.size) 25 #[.int .i64 5, .bool false, .string ⟨#[]⟩, .slice (some ⟨cl11, 0, none⟩) 4 4, .slice (some ⟨cn11, 0, none⟩) 4 4] := BK.new w29 _ _
  replace HK := Lib.hid (Blks.cons hX0 HK.out)
  clear hb hX0
  generalize (w29.alloc (.cells #[.int .i64 5, .bool false, .string ⟨#[]⟩, .slice (some ⟨cl11, 0, none⟩) 4 4, .slice (some ⟨cn11, 0, none⟩) 4 4] 25)) = w30 at *
  generalize w29.heap.size = g12 at *
  have hb : Below w30.heap.size w30 w30.drew := (Below.refl _ _).drew
  refine start_ (n := 5) (S := Blks [⟨g12, 25, #[.int .i64 5, .bool false, .string ⟨#[]⟩, .slice (some ⟨cl11, 0, none⟩) 4 4, .slice (some ⟨cn11, 0, none⟩) 4 4]⟩]) (ds := []) #[false, false, false, false, false] (by kernel_rfl) rfl rfl (Blks.on (Blks.one (Blks.hd HK.out)) hb) (fun hHeld => ?_)
  replace HM := Lib.hid (HM.out.on hb)
  replace HK := Lib.hid (HK.out.on hb)
  replace HB := Lib.hid (HB.out.trans (hb.mono HB.out.size))
  clear hb
  generalize w30.drew = w31 at *
  refine pure_ (i := 0) (N := some 48) (v := ?_) (a' := ?_) #[true, false, false, false, false] rfl rfl (by kernel_rfl) (fun _ _ _ h => h) (Or.inl ⟨by rfl, ?_⟩) ?_ ?_
  rotate_left
  · intro w'; go_simp; with_reducible rfl
  rotate_left
  · simp only [Act.put, List.setIfInBounds_toArray, List.set_cons_zero, List.set_cons_succ, i64_w, i32_w]; rfl
  refine take_ (i := 1) (N := some 49) (v := ?_) (a' := ?_) #[true, true, false, false, false] rfl rfl (by kernel_rfl) (fun _ _ _ h => h) (Or.inl ⟨by rfl, ?_⟩) hHeld ?_ ?_
  rotate_left
  · intro w' hh; have hg := Blks.hd hh; have t3 := hg.c 3 rfl; clear hh hg; go_simp; with_reducible rfl
  rotate_left
  · simp only [Act.put, List.setIfInBounds_toArray, List.set_cons_zero, List.set_cons_succ, i64_w, i32_w]; rfl
  refine one_ (i := 2) (N := some 50) #[true, true, true, false, false] rfl rfl (by kernel_rfl) (by decide) (fun K hK => ?_)
  refine goes_ Tryz.func91 (by kernel_rfl) rfl #[.string ⟨#[51]⟩] (by rfl) rfl rfl (by (try simp only [List.map_toArray, List.map_cons, List.map_nil]); first | done | rfl) ?_
  refine (kNumber_any ⟨#[51]⟩ w31).mono ?_
  rintro e w32 ⟨rfl, hb⟩
  refine ⟨_, rfl, ?_⟩
  refine hK.out _ _ (hHeld.on hb) (fun hHeld' => ?_)
  clear hK K hHeld
  have hHeld := hHeld'
  clear hHeld'
  replace HM := Lib.hid (HM.out.on hb)
  replace HK := Lib.hid (HK.out.on hb)
  replace HB := Lib.hid (HB.out.trans (hb.mono HB.out.size))
  clear hb
  refine norm_ (a' := ?_) ?_ ?_
  rotate_left
  · show Act.put _ (some 50) _ = _; simp only [Act.put, List.setIfInBounds_toArray, List.set_cons_zero, List.set_cons_succ, i64_w, i32_w]; rfl
  refine pure_ (i := 3) (N := some 51) (v := ?_) (a' := ?_) #[true, true, true, true, false] rfl rfl (by kernel_rfl) (fun _ _ _ h => h) (Or.inl ⟨by rfl, ?_⟩) ?_ ?_
  rotate_left
  · intro w'; go_simp; with_reducible rfl
  rotate_left
  · simp only [Act.put, List.setIfInBounds_toArray, List.set_cons_zero, List.set_cons_succ, i64_w, i32_w]; rfl
  refine one_ (i := 4) (N := none) #[true, true, true, true, true] rfl rfl (by kernel_rfl) (by decide) (fun K hK => ?_)
  refine store_fldK (by rfl) rfl 25 (.tmp 51) (.tmp 50) rfl (cl11) 15 (.agg #[.int .i64 2, .bool false, .string ⟨#[51]⟩, .slice none 0 0, .slice none 0 0]) [.int .i64 2, .bool false, .string ⟨#[51]⟩, .slice none 0 0, .slice none 0 0] (by rfl) (by rfl) rfl #[.int .i64 3, .bool false, .string ⟨#[50, 46, 48]⟩, .slice none 0 0, .slice none 0 0, .int .i64 2, .bool false, .string ⟨#[49]⟩, .slice none 0 0, .slice none 0 0, .int .i64 3, .bool false, .string ⟨#[97]⟩, .slice none 0 0, .slice none 0 0, .int .i64 2, .bool false, .string ⟨#[51]⟩, .slice none 0 0, .slice none 0 0] (Blks.hd (Blks.tl HK.out)) (by kernel_rfl) (Nat.le_of_ble_eq_true rfl) (by simp [Value.oneCell']) rfl (fun w33 hS hbt hsz => hK.out _ _ (Blks.one (BK.but (Blks.hd hHeld) hbt (by have := HGg12.out; have := Hge.out; have := HW.out; omega))) (fun hHeld' => ?_))
  clear hK K
  clear hHeld
  have hHeld := hHeld'
  clear hHeld'
  replace HM := Lib.hid (ML.but2 HM0.out HM.out hbt (by have := HGg12.out; have := Hge.out; have := HW.out; omega))
  replace HK := Lib.hid (Blks.cons (BK.but (Blks.hd HK.out) hbt (by have := HGg12.out; have := Hge.out; have := HW.out; omega)) (Blks.cons hS (Blks.cons (BK.but (Blks.hd (Blks.tl (Blks.tl HK.out))) hbt (BK.ne (Blks.hd (Blks.tl (Blks.tl HK.out))) (Blks.hd (Blks.tl HK.out)) (by simp))) (Blks.but (Blks.tl (Blks.tl (Blks.tl (HK.out)))) hbt (fun x hx => Nat.ne_of_lt (Nat.lt_of_lt_of_le (HLT.out x hx) Hge.out))))))
  replace HB := Lib.hid (hbt.below HB.out (by have := HGg12.out; have := Hge.out; have := HW.out; omega) HB.out.size)
  clear hbt hS hsz
  refine done_ (by kernel_rfl) ?_
  clear HLT Hge HW
  go_wp2_with fail
  refine (kNumber_any ⟨#[49]⟩ w33).mono ?_
  rintro e w34 ⟨rfl, hb⟩
  replace HM := Lib.hid (HM.out.on hb)
  replace HK := Lib.hid (HK.out.on hb)
  replace HB := Lib.hid (HB.out.trans (hb.mono HB.out.size))
  clear hb
  go_wp2_with fail
  have HLT := Lib.hid (Blks.lts HK.out)
  have HW := Lib.hid HB.out.size
  refine (call_num ⟨#[49]⟩ w34).mono ?_
  rintro e w35 ⟨v', rfl, ⟨cn13, cl13, rfl, -, hge, bqn, bql⟩, hb⟩
  replace HM := Lib.hid (HM.out.on hb)
  replace HK := Lib.hid (HK.out.on hb)
  replace HB := Lib.hid (HB.out.trans (hb.mono HB.out.size))
  have Hge := Lib.hid hge
  clear hge
  replace HK := Lib.hid (Blks.cons bql (Blks.cons bqn HK.out))
  clear hb bqn bql
  go_upto_region 10 with (fail)
  have HGg14 := Lib.hid (Blks.hd HK.out).lt
  have hb : Below w35.heap.size w35 (w35.alloc (.cells #[.int .i64 5, .bool false, .string ⟨#[]⟩, .slice (some ⟨cl13, 0, none⟩) 4 4, .slice (some ⟨cn13, 0, none⟩) 4 4] 25)) := made_end' w35 _
  replace HM := Lib.hid (HM.out.on hb)
  replace HK := Lib.hid (HK.out.on hb)
  replace HB := Lib.hid (HB.out.trans (hb.mono HB.out.size))
  have hX0 : BK (w35.alloc (.cells #[.int .i64 5, .bool false, .string ⟨#[]⟩, .slice (some ⟨cl13, 0, none⟩) 4 4, .slice (some ⟨cn13, 0, none⟩) 4 4] 25)) (w35.heap.size) 25 #[.int .i64 5, .bool false, .string ⟨#[]⟩, .slice (some ⟨cl13, 0, none⟩) 4 4, .slice (some ⟨cn13, 0, none⟩) 4 4] := BK.new w35 _ _
  replace HK := Lib.hid (Blks.cons hX0 HK.out)
  clear hb hX0
  generalize (w35.alloc (.cells #[.int .i64 5, .bool false, .string ⟨#[]⟩, .slice (some ⟨cl13, 0, none⟩) 4 4, .slice (some ⟨cn13, 0, none⟩) 4 4] 25)) = w36 at *
  generalize w35.heap.size = g14 at *
  have hg := Blks.hd HK.out
  have y3 := hg.c 3 rfl
  clear hg
  go_wp2_with (
    refine store_fld rfl rfl 25 (.tmp 57) (.tmp 56) rfl (cl13) 10 (.agg #[.int .i64 0, .bool false, .string ⟨#[]⟩, .slice none 0 0, .slice none 0 0]) [.int .i64 0, .bool false, .string ⟨#[]⟩, .slice none 0 0, .slice none 0 0] rfl rfl rfl #[.int .i64 3, .bool false, .string ⟨#[50, 46, 48]⟩, .slice none 0 0, .slice none 0 0, .int .i64 2, .bool false, .string ⟨#[49]⟩, .slice none 0 0, .slice none 0 0, .int .i64 0, .bool false, .string ⟨#[]⟩, .slice none 0 0, .slice none 0 0, .int .i64 4, .bool false, .string ⟨#[]⟩, .slice none 0 0, .slice none 0 0] (Blks.hd (Blks.tl HK.out)) (by kernel_rfl) (Nat.le_of_ble_eq_true rfl) (by simp [Value.oneCell']) rfl ?_
    intro w37 hS hbt hsz
    replace HM := Lib.hid (ML.but2 HM0.out HM.out hbt (by have := HGg14.out; have := Hge.out; have := HW.out; omega))
    replace HK := Lib.hid (Blks.cons (BK.but (Blks.hd HK.out) hbt (by have := HGg14.out; have := Hge.out; have := HW.out; omega)) (Blks.cons hS (Blks.cons (BK.but (Blks.hd (Blks.tl (Blks.tl HK.out))) hbt (BK.ne (Blks.hd (Blks.tl (Blks.tl HK.out))) (Blks.hd (Blks.tl HK.out)) (by simp))) (Blks.but (Blks.tl (Blks.tl (Blks.tl (HK.out)))) hbt (fun x hx => Nat.ne_of_lt (Nat.lt_of_lt_of_le (HLT.out x hx) Hge.out))))))
    replace HB := Lib.hid (hbt.below HB.out (by have := HGg14.out; have := Hge.out; have := HW.out; omega) HB.out.size)
    clear hbt hS hsz)
  clear y3
  go_wp2_with fail
  refine (kNumber_any ⟨#[49]⟩ w37).mono ?_
  rintro e w38 ⟨rfl, hb⟩
  replace HM := Lib.hid (HM.out.on hb)
  replace HK := Lib.hid (HK.out.on hb)
  replace HB := Lib.hid (HB.out.trans (hb.mono HB.out.size))
  clear hb
  go_wp2_with fail
  refine (call_num ⟨#[49]⟩ w38).mono ?_
  rintro e w39 ⟨v', rfl, ⟨cn15, cl15, rfl, -, hge, bqn, bql⟩, hb⟩
  replace HM := Lib.hid (HM.out.on hb)
  replace HK := Lib.hid (HK.out.on hb)
  replace HB := Lib.hid (HB.out.trans (hb.mono HB.out.size))
  clear hge
  replace HK := Lib.hid (Blks.cons bql (Blks.cons bqn HK.out))
  clear hb bqn bql
  go_wp2_with fail
  refine (says_yes (obT [⟨#[106, 115, 111, 110, 114, 112, 99]⟩, ⟨#[105, 100]⟩, ⟨#[109, 101, 116, 104, 111, 100]⟩, ⟨#[112, 97, 114, 97, 109, 115]⟩] [(txT ⟨#[50, 46, 48]⟩), (nmT ⟨#[49]⟩), (txT ⟨#[97]⟩), (lsT [])]) 1 (zNew 0) _ w39 (VAL.mono (fun b hb => ⟨Nat.zero_le _, hb⟩) (VAL.shut (by decide) (BL.TS (Blks.hd (Blks.tl HK.out)) [⟨#[106, 115, 111, 110, 114, 112, 99]⟩, ⟨#[105, 100]⟩, ⟨#[109, 101, 116, 104, 111, 100]⟩, ⟨#[112, 97, 114, 97, 109, 115]⟩] rfl) (BL.VS (Blks.hd HK.out) [(txT ⟨#[50, 46, 48]⟩), (nmT ⟨#[49]⟩), (txT ⟨#[97]⟩), (lsT [])] (VR.cons (VAL.shut (by decide) (.inl rfl) (.inl rfl)) (VR.cons (VAL.shut (by decide) (.inl rfl) (.inl rfl)) (VR.cons (VAL.shut (by decide) (.inl rfl) (.inl rfl)) (VR.cons (VAL.shut (by decide) (.inl rfl) (.inl rfl)) (VR.none _ _)))))))) HM.out (Nat.le_of_ble_eq_true (by kernel_rfl)) (by kernel_rfl) (.inl ⟨by decide, by kernel_rfl⟩)).mono ?_
  rintro e w40 ⟨rfl, hb⟩
  replace HM := Lib.hid (HM.out.on hb)
  replace HK := Lib.hid (HK.out.on hb)
  replace HB := Lib.hid (HB.out.trans (hb.mono HB.out.size))
  clear hb
  have hg := Blks.hd (Blks.tl (Blks.tl (Blks.tl (Blks.tl (Blks.tl (Blks.tl (Blks.tl (Blks.tl (Blks.tl (Blks.tl (Blks.tl (Blks.tl (Blks.tl (Blks.tl (Blks.tl (Blks.tl (Blks.tl (Blks.tl (Blks.tl (Blks.tl (Blks.tl (Blks.tl (Blks.tl HK.out)))))))))))))))))))))))
  have y0 := hg.c 0 rfl
  have y1 := hg.c 1 rfl
  have y2 := hg.c 2 rfl
  have y3 := hg.c 3 rfl
  have y4 := hg.c 4 rfl
  clear hg
  go_wp2_with fail
  clear y0 y1 y2 y3 y4
  refine (says_yes (obT [⟨#[109, 101, 116, 104, 111, 100]⟩, ⟨#[106, 115, 111, 110, 114, 112, 99]⟩, ⟨#[120]⟩] [(txT ⟨#[97]⟩), (txT ⟨#[50, 46, 48]⟩), (nmT ⟨#[51]⟩)]) 2 (zNew 0) _ w40 (VAL.mono (fun b hb => ⟨Nat.zero_le _, hb⟩) (VAL.shut (by decide) (BL.TS (Blks.hd (Blks.tl (Blks.tl (Blks.tl (Blks.tl (Blks.tl (Blks.tl (Blks.tl (Blks.tl (Blks.tl (Blks.tl (Blks.tl (Blks.tl (Blks.tl (Blks.tl (Blks.tl (Blks.tl (Blks.tl (Blks.tl (Blks.tl (Blks.tl (Blks.tl (Blks.tl (Blks.tl (Blks.tl (Blks.tl HK.out)))))))))))))))))))))))))) [⟨#[109, 101, 116, 104, 111, 100]⟩, ⟨#[106, 115, 111, 110, 114, 112, 99]⟩, ⟨#[120]⟩] rfl) (BL.VS (Blks.hd (Blks.tl (Blks.tl (Blks.tl (Blks.tl (Blks.tl (Blks.tl (Blks.tl (Blks.tl (Blks.tl (Blks.tl (Blks.tl (Blks.tl (Blks.tl (Blks.tl (Blks.tl (Blks.tl (Blks.tl (Blks.tl (Blks.tl (Blks.tl (Blks.tl (Blks.tl (Blks.tl (Blks.tl HK.out))))))))))))))))))))))))) [(txT ⟨#[97]⟩), (txT ⟨#[50, 46, 48]⟩), (nmT ⟨#[51]⟩)] (VR.cons (VAL.shut (by decide) (.inl rfl) (.inl rfl)) (VR.cons (VAL.shut (by decide) (.inl rfl) (.inl rfl)) (VR.cons (VAL.shut (by decide) (.inl rfl) (.inl rfl)) (VR.none _ _))))))) HM.out (Nat.le_of_ble_eq_true (by kernel_rfl)) (by kernel_rfl) (.inl ⟨by decide, by kernel_rfl⟩)).mono ?_
  rintro e w41 ⟨rfl, hb⟩
  replace HM := Lib.hid (HM.out.on hb)
  replace HK := Lib.hid (HK.out.on hb)
  replace HB := Lib.hid (HB.out.trans (hb.mono HB.out.size))
  clear hb
  have hg := Blks.hd (Blks.tl (Blks.tl (Blks.tl (Blks.tl (Blks.tl (Blks.tl (Blks.tl (Blks.tl (Blks.tl (Blks.tl (Blks.tl (Blks.tl (Blks.tl (Blks.tl (Blks.tl (Blks.tl (Blks.tl (Blks.tl (Blks.tl (Blks.tl HK.out))))))))))))))))))))
  have y0 := hg.c 0 rfl
  have y1 := hg.c 1 rfl
  have y2 := hg.c 2 rfl
  have y3 := hg.c 3 rfl
  have y4 := hg.c 4 rfl
  clear hg
  go_wp2_with fail
  clear y0 y1 y2 y3 y4
  refine (says_yes (obT [⟨#[106, 115, 111, 110, 114, 112, 99]⟩, ⟨#[105, 100]⟩, ⟨#[114, 101, 115, 117, 108, 116]⟩] [(txT ⟨#[50, 46, 48]⟩), (txT ⟨#[55]⟩), VT.nul]) 3 (zNew 0) _ w41 (VAL.mono (fun b hb => ⟨Nat.zero_le _, hb⟩) (VAL.shut (by decide) (BL.TS (Blks.hd (Blks.tl (Blks.tl (Blks.tl (Blks.tl (Blks.tl (Blks.tl (Blks.tl (Blks.tl (Blks.tl (Blks.tl (Blks.tl (Blks.tl (Blks.tl (Blks.tl (Blks.tl (Blks.tl (Blks.tl (Blks.tl (Blks.tl (Blks.tl (Blks.tl (Blks.tl HK.out))))))))))))))))))))))) [⟨#[106, 115, 111, 110, 114, 112, 99]⟩, ⟨#[105, 100]⟩, ⟨#[114, 101, 115, 117, 108, 116]⟩] rfl) (BL.VS (Blks.hd (Blks.tl (Blks.tl (Blks.tl (Blks.tl (Blks.tl (Blks.tl (Blks.tl (Blks.tl (Blks.tl (Blks.tl (Blks.tl (Blks.tl (Blks.tl (Blks.tl (Blks.tl (Blks.tl (Blks.tl (Blks.tl (Blks.tl (Blks.tl (Blks.tl HK.out)))))))))))))))))))))) [(txT ⟨#[50, 46, 48]⟩), (txT ⟨#[55]⟩), VT.nul] (VR.cons (VAL.shut (by decide) (.inl rfl) (.inl rfl)) (VR.cons (VAL.shut (by decide) (.inl rfl) (.inl rfl)) (VR.cons (nul_VAL _ _) (VR.none _ _))))))) HM.out (Nat.le_of_ble_eq_true (by kernel_rfl)) (by kernel_rfl) (.inl ⟨by decide, by kernel_rfl⟩)).mono ?_
  rintro e w42 ⟨rfl, hb⟩
  replace HM := Lib.hid (HM.out.on hb)
  replace HK := Lib.hid (HK.out.on hb)
  replace HB := Lib.hid (HB.out.trans (hb.mono HB.out.size))
  clear hb
  have hg := Blks.hd (Blks.tl (Blks.tl (Blks.tl (Blks.tl (Blks.tl (Blks.tl (Blks.tl (Blks.tl (Blks.tl (Blks.tl (Blks.tl (Blks.tl (Blks.tl (Blks.tl HK.out))))))))))))))
  have y0 := hg.c 0 rfl
  have y1 := hg.c 1 rfl
  have y2 := hg.c 2 rfl
  have y3 := hg.c 3 rfl
  have y4 := hg.c 4 rfl
  clear hg
  go_wp2_with fail
  clear y0 y1 y2 y3 y4
  refine (says_yes (obT [⟨#[106, 115, 111, 110, 114, 112, 99]⟩, ⟨#[105, 100]⟩, ⟨#[101, 114, 114, 111, 114]⟩] [(txT ⟨#[50, 46, 48]⟩), VT.nul, (obT [⟨#[99, 111, 100, 101]⟩, ⟨#[109, 101, 115, 115, 97, 103, 101]⟩] [(nmT ⟨#[45, 51, 50, 55, 48, 48]⟩), (txT ⟨#[120]⟩)])]) 4 (zNew 0) _ w42 (VAL.mono (fun b hb => ⟨Nat.zero_le _, hb⟩) (VAL.shut (by decide) (BL.TS (Blks.hd (Blks.tl (Blks.tl (Blks.tl (Blks.tl (Blks.tl (Blks.tl (Blks.tl (Blks.tl (Blks.tl (Blks.tl (Blks.tl (Blks.tl (Blks.tl (Blks.tl (Blks.tl (Blks.tl HK.out))))))))))))))))) [⟨#[106, 115, 111, 110, 114, 112, 99]⟩, ⟨#[105, 100]⟩, ⟨#[101, 114, 114, 111, 114]⟩] rfl) (BL.VS (Blks.hd (Blks.tl (Blks.tl (Blks.tl (Blks.tl (Blks.tl (Blks.tl (Blks.tl (Blks.tl (Blks.tl (Blks.tl (Blks.tl (Blks.tl (Blks.tl (Blks.tl (Blks.tl HK.out)))))))))))))))) [(txT ⟨#[50, 46, 48]⟩), VT.nul, (obT [⟨#[99, 111, 100, 101]⟩, ⟨#[109, 101, 115, 115, 97, 103, 101]⟩] [(nmT ⟨#[45, 51, 50, 55, 48, 48]⟩), (txT ⟨#[120]⟩)])] (VR.cons (VAL.shut (by decide) (.inl rfl) (.inl rfl)) (VR.cons (nul_VAL _ _) (VR.cons (VAL.shut (by decide) (BL.TS (Blks.hd (Blks.tl (Blks.tl (Blks.tl (Blks.tl (Blks.tl (Blks.tl (Blks.tl (Blks.tl (Blks.tl (Blks.tl (Blks.tl (Blks.tl (Blks.tl (Blks.tl (Blks.tl (Blks.tl (Blks.tl (Blks.tl (Blks.tl HK.out)))))))))))))))))))) [⟨#[99, 111, 100, 101]⟩, ⟨#[109, 101, 115, 115, 97, 103, 101]⟩] rfl) (BL.VS (Blks.hd (Blks.tl (Blks.tl (Blks.tl (Blks.tl (Blks.tl (Blks.tl (Blks.tl (Blks.tl (Blks.tl (Blks.tl (Blks.tl (Blks.tl (Blks.tl (Blks.tl (Blks.tl (Blks.tl (Blks.tl (Blks.tl HK.out))))))))))))))))))) [(nmT ⟨#[45, 51, 50, 55, 48, 48]⟩), (txT ⟨#[120]⟩)] (VR.cons (VAL.shut (by decide) (.inl rfl) (.inl rfl)) (VR.cons (VAL.shut (by decide) (.inl rfl) (.inl rfl)) (VR.none _ _))))) (VR.none _ _))))))) HM.out (Nat.le_of_ble_eq_true (by kernel_rfl)) (by kernel_rfl) (.inl ⟨by decide, by kernel_rfl⟩)).mono ?_
  rintro e w43 ⟨rfl, hb⟩
  replace HM := Lib.hid (HM.out.on hb)
  replace HK := Lib.hid (HK.out.on hb)
  replace HB := Lib.hid (HB.out.trans (hb.mono HB.out.size))
  clear hb
  have hg := Blks.hd (Blks.tl (Blks.tl (Blks.tl (Blks.tl (Blks.tl (Blks.tl (Blks.tl (Blks.tl HK.out))))))))
  have y0 := hg.c 0 rfl
  have y1 := hg.c 1 rfl
  have y2 := hg.c 2 rfl
  have y3 := hg.c 3 rfl
  have y4 := hg.c 4 rfl
  clear hg
  go_wp2_with fail
  clear y0 y1 y2 y3 y4
  refine (says_yes (obT [⟨#[105, 100]⟩, ⟨#[109, 101, 116, 104, 111, 100]⟩] [(nmT ⟨#[49]⟩), (txT ⟨#[97]⟩)]) 0 (zNew 0) _ w43 (VAL.mono (fun b hb => ⟨Nat.zero_le _, hb⟩) (VAL.shut (by decide) (BL.TS (Blks.hd (Blks.tl (Blks.tl (Blks.tl (Blks.tl (Blks.tl (Blks.tl (Blks.tl (Blks.tl (Blks.tl (Blks.tl HK.out))))))))))) [⟨#[105, 100]⟩, ⟨#[109, 101, 116, 104, 111, 100]⟩] rfl) (BL.VS (Blks.hd (Blks.tl (Blks.tl (Blks.tl (Blks.tl (Blks.tl (Blks.tl (Blks.tl (Blks.tl (Blks.tl HK.out)))))))))) [(nmT ⟨#[49]⟩), (txT ⟨#[97]⟩)] (VR.cons (VAL.shut (by decide) (.inl rfl) (.inl rfl)) (VR.cons (VAL.shut (by decide) (.inl rfl) (.inl rfl)) (VR.none _ _)))))) HM.out (Nat.le_of_ble_eq_true (by kernel_rfl)) (by kernel_rfl) (.inr ⟨rfl, by kernel_rfl⟩)).mono ?_
  rintro e w44 ⟨rfl, hb⟩
  replace HM := Lib.hid (HM.out.on hb)
  replace HK := Lib.hid (HK.out.on hb)
  replace HB := Lib.hid (HB.out.trans (hb.mono HB.out.size))
  clear hb
  go_wp2_with fail
  refine (kNumber_any ⟨#[49, 46, 53]⟩ w44).mono ?_
  rintro e w45 ⟨rfl, hb⟩
  replace HM := Lib.hid (HM.out.on hb)
  replace HK := Lib.hid (HK.out.on hb)
  replace HB := Lib.hid (HB.out.trans (hb.mono HB.out.size))
  clear hb
  go_wp2_with fail
  refine (call_num ⟨#[49, 46, 53]⟩ w45).mono ?_
  rintro e w46 ⟨v', rfl, ⟨cn16, cl16, rfl, -, hge, bqn, bql⟩, hb⟩
  replace HM := Lib.hid (HM.out.on hb)
  replace HK := Lib.hid (HK.out.on hb)
  replace HB := Lib.hid (HB.out.trans (hb.mono HB.out.size))
  clear hge
  replace HK := Lib.hid (Blks.cons bql (Blks.cons bqn HK.out))
  clear hb bqn bql
  go_wp2_with fail
  refine (says_yes (obT [⟨#[106, 115, 111, 110, 114, 112, 99]⟩, ⟨#[105, 100]⟩, ⟨#[109, 101, 116, 104, 111, 100]⟩, ⟨#[112, 97, 114, 97, 109, 115]⟩] [(txT ⟨#[50, 46, 48]⟩), (nmT ⟨#[49, 46, 53]⟩), (txT ⟨#[97]⟩), (lsT [])]) 0 (zNew 0) _ w46 (VAL.mono (fun b hb => ⟨Nat.zero_le _, hb⟩) (VAL.shut (by decide) (BL.TS (Blks.hd (Blks.tl HK.out)) [⟨#[106, 115, 111, 110, 114, 112, 99]⟩, ⟨#[105, 100]⟩, ⟨#[109, 101, 116, 104, 111, 100]⟩, ⟨#[112, 97, 114, 97, 109, 115]⟩] rfl) (BL.VS (Blks.hd HK.out) [(txT ⟨#[50, 46, 48]⟩), (nmT ⟨#[49, 46, 53]⟩), (txT ⟨#[97]⟩), (lsT [])] (VR.cons (VAL.shut (by decide) (.inl rfl) (.inl rfl)) (VR.cons (VAL.shut (by decide) (.inl rfl) (.inl rfl)) (VR.cons (VAL.shut (by decide) (.inl rfl) (.inl rfl)) (VR.cons (VAL.shut (by decide) (.inl rfl) (.inl rfl)) (VR.none _ _)))))))) HM.out (Nat.le_of_ble_eq_true (by kernel_rfl)) (by kernel_rfl) (.inr ⟨rfl, by kernel_rfl⟩)).mono ?_
  rintro e w47 ⟨rfl, hb⟩
  replace HM := Lib.hid (HM.out.on hb)
  replace HK := Lib.hid (HK.out.on hb)
  replace HB := Lib.hid (HB.out.trans (hb.mono HB.out.size))
  clear hb
  have hg := Blks.hd (Blks.tl (Blks.tl (Blks.tl (Blks.tl (Blks.tl (Blks.tl (Blks.tl HK.out)))))))
  have y0 := hg.c 0 rfl
  have y1 := hg.c 1 rfl
  have y2 := hg.c 2 rfl
  have y3 := hg.c 3 rfl
  have y4 := hg.c 4 rfl
  clear hg
  go_wp2_with fail
  clear y0 y1 y2 y3 y4
  refine (says_yes (obT [⟨#[106, 115, 111, 110, 114, 112, 99]⟩, ⟨#[105, 100]⟩, ⟨#[109, 101, 116, 104, 111, 100]⟩, ⟨#[112, 97, 114, 97, 109, 115]⟩] [(txT ⟨#[50, 46, 48]⟩), (nmT ⟨#[49]⟩), (txT ⟨#[97]⟩), (nmT ⟨#[51]⟩)]) 0 (zNew 0) _ w47 (VAL.mono (fun b hb => ⟨Nat.zero_le _, hb⟩) (VAL.shut (by decide) (BL.TS (Blks.hd (Blks.tl (Blks.tl (Blks.tl (Blks.tl (Blks.tl (Blks.tl (Blks.tl (Blks.tl (Blks.tl HK.out)))))))))) [⟨#[106, 115, 111, 110, 114, 112, 99]⟩, ⟨#[105, 100]⟩, ⟨#[109, 101, 116, 104, 111, 100]⟩, ⟨#[112, 97, 114, 97, 109, 115]⟩] rfl) (BL.VS (Blks.hd (Blks.tl (Blks.tl (Blks.tl (Blks.tl (Blks.tl (Blks.tl (Blks.tl (Blks.tl HK.out))))))))) [(txT ⟨#[50, 46, 48]⟩), (nmT ⟨#[49]⟩), (txT ⟨#[97]⟩), (nmT ⟨#[51]⟩)] (VR.cons (VAL.shut (by decide) (.inl rfl) (.inl rfl)) (VR.cons (VAL.shut (by decide) (.inl rfl) (.inl rfl)) (VR.cons (VAL.shut (by decide) (.inl rfl) (.inl rfl)) (VR.cons (VAL.shut (by decide) (.inl rfl) (.inl rfl)) (VR.none _ _)))))))) HM.out (Nat.le_of_ble_eq_true (by kernel_rfl)) (by kernel_rfl) (.inr ⟨rfl, by kernel_rfl⟩)).mono ?_
  rintro e w48 ⟨rfl, hb⟩
  replace HM := Lib.hid (HM.out.on hb)
  replace HK := Lib.hid (HK.out.on hb)
  replace HB := Lib.hid (HB.out.trans (hb.mono HB.out.size))
  clear hb
  have hg := Blks.hd (Blks.tl (Blks.tl (Blks.tl (Blks.tl HK.out))))
  have y0 := hg.c 0 rfl
  have y1 := hg.c 1 rfl
  have y2 := hg.c 2 rfl
  have y3 := hg.c 3 rfl
  have y4 := hg.c 4 rfl
  clear hg
  go_wp2_with fail
  clear y0 y1 y2 y3 y4
  refine (says_yes (obT [⟨#[106, 115, 111, 110, 114, 112, 99]⟩, ⟨#[105, 100]⟩, ⟨#[109, 101, 116, 104, 111, 100]⟩, ⟨#[112, 97, 114, 97, 109, 115]⟩] [(txT ⟨#[50, 46, 48]⟩), (nmT ⟨#[49]⟩), VT.nul, (lsT [])]) 0 (zNew 0) _ w48 (VAL.mono (fun b hb => ⟨Nat.zero_le _, hb⟩) (VAL.shut (by decide) (BL.TS (Blks.hd (Blks.tl (Blks.tl (Blks.tl (Blks.tl (Blks.tl (Blks.tl HK.out))))))) [⟨#[106, 115, 111, 110, 114, 112, 99]⟩, ⟨#[105, 100]⟩, ⟨#[109, 101, 116, 104, 111, 100]⟩, ⟨#[112, 97, 114, 97, 109, 115]⟩] rfl) (BL.VS (Blks.hd (Blks.tl (Blks.tl (Blks.tl (Blks.tl (Blks.tl HK.out)))))) [(txT ⟨#[50, 46, 48]⟩), (nmT ⟨#[49]⟩), VT.nul, (lsT [])] (VR.cons (VAL.shut (by decide) (.inl rfl) (.inl rfl)) (VR.cons (VAL.shut (by decide) (.inl rfl) (.inl rfl)) (VR.cons (nul_VAL _ _) (VR.cons (VAL.shut (by decide) (.inl rfl) (.inl rfl)) (VR.none _ _)))))))) HM.out (Nat.le_of_ble_eq_true (by kernel_rfl)) (by kernel_rfl) (.inr ⟨rfl, by kernel_rfl⟩)).mono ?_
  rintro e w49 ⟨rfl, hb⟩
  replace HM := Lib.hid (HM.out.on hb)
  replace HK := Lib.hid (HK.out.on hb)
  replace HB := Lib.hid (HB.out.trans (hb.mono HB.out.size))
  clear hb
  have hg := Blks.hd (Blks.tl (Blks.tl (Blks.tl (Blks.tl (Blks.tl (Blks.tl (Blks.tl (Blks.tl (Blks.tl (Blks.tl (Blks.tl (Blks.tl (Blks.tl HK.out)))))))))))))
  have y0 := hg.c 0 rfl
  have y1 := hg.c 1 rfl
  have y2 := hg.c 2 rfl
  have y3 := hg.c 3 rfl
  have y4 := hg.c 4 rfl
  clear hg
  go_wp2_with fail
  clear y0 y1 y2 y3 y4
  refine (says_yes (obT [⟨#[106, 115, 111, 110, 114, 112, 99]⟩, ⟨#[105, 100]⟩, ⟨#[114, 101, 115, 117, 108, 116]⟩, ⟨#[101, 114, 114, 111, 114]⟩] [(txT ⟨#[50, 46, 48]⟩), (txT ⟨#[55]⟩), VT.nul, (obT [⟨#[99, 111, 100, 101]⟩, ⟨#[109, 101, 115, 115, 97, 103, 101]⟩] [(nmT ⟨#[45, 51, 50, 55, 48, 48]⟩), (txT ⟨#[120]⟩)])]) 0 (zNew 0) _ w49 (VAL.mono (fun b hb => ⟨Nat.zero_le _, hb⟩) (VAL.shut (by decide) (BL.TS (Blks.hd (Blks.tl (Blks.tl (Blks.tl (Blks.tl (Blks.tl (Blks.tl (Blks.tl (Blks.tl (Blks.tl (Blks.tl (Blks.tl (Blks.tl (Blks.tl (Blks.tl (Blks.tl HK.out)))))))))))))))) [⟨#[106, 115, 111, 110, 114, 112, 99]⟩, ⟨#[105, 100]⟩, ⟨#[114, 101, 115, 117, 108, 116]⟩, ⟨#[101, 114, 114, 111, 114]⟩] rfl) (BL.VS (Blks.hd (Blks.tl (Blks.tl (Blks.tl (Blks.tl (Blks.tl (Blks.tl (Blks.tl (Blks.tl (Blks.tl (Blks.tl (Blks.tl (Blks.tl (Blks.tl (Blks.tl HK.out))))))))))))))) [(txT ⟨#[50, 46, 48]⟩), (txT ⟨#[55]⟩), VT.nul, (obT [⟨#[99, 111, 100, 101]⟩, ⟨#[109, 101, 115, 115, 97, 103, 101]⟩] [(nmT ⟨#[45, 51, 50, 55, 48, 48]⟩), (txT ⟨#[120]⟩)])] (VR.cons (VAL.shut (by decide) (.inl rfl) (.inl rfl)) (VR.cons (VAL.shut (by decide) (.inl rfl) (.inl rfl)) (VR.cons (nul_VAL _ _) (VR.cons (VAL.shut (by decide) (BL.TS (Blks.hd (Blks.tl (Blks.tl (Blks.tl (Blks.tl (Blks.tl (Blks.tl (Blks.tl (Blks.tl (Blks.tl (Blks.tl (Blks.tl (Blks.tl (Blks.tl (Blks.tl (Blks.tl (Blks.tl (Blks.tl (Blks.tl (Blks.tl (Blks.tl (Blks.tl HK.out)))))))))))))))))))))) [⟨#[99, 111, 100, 101]⟩, ⟨#[109, 101, 115, 115, 97, 103, 101]⟩] rfl) (BL.VS (Blks.hd (Blks.tl (Blks.tl (Blks.tl (Blks.tl (Blks.tl (Blks.tl (Blks.tl (Blks.tl (Blks.tl (Blks.tl (Blks.tl (Blks.tl (Blks.tl (Blks.tl (Blks.tl (Blks.tl (Blks.tl (Blks.tl (Blks.tl (Blks.tl HK.out))))))))))))))))))))) [(nmT ⟨#[45, 51, 50, 55, 48, 48]⟩), (txT ⟨#[120]⟩)] (VR.cons (VAL.shut (by decide) (.inl rfl) (.inl rfl)) (VR.cons (VAL.shut (by decide) (.inl rfl) (.inl rfl)) (VR.none _ _))))) (VR.none _ _)))))))) HM.out (Nat.le_of_ble_eq_true (by kernel_rfl)) (by kernel_rfl) (.inr ⟨rfl, by kernel_rfl⟩)).mono ?_
  rintro e w50 ⟨rfl, hb⟩
  replace HM := Lib.hid (HM.out.on hb)
  replace HK := Lib.hid (HK.out.on hb)
  replace HB := Lib.hid (HB.out.trans (hb.mono HB.out.size))
  clear hb
  go_wp2_with fail
  refine (kNumber_any ⟨#[49]⟩ w50).mono ?_
  rintro e w51 ⟨rfl, hb⟩
  replace HM := Lib.hid (HM.out.on hb)
  replace HK := Lib.hid (HK.out.on hb)
  replace HB := Lib.hid (HB.out.trans (hb.mono HB.out.size))
  clear hb
  go_wp2_with fail
  refine (kNumber_any ⟨#[49, 46, 48]⟩ w51).mono ?_
  rintro e w52 ⟨rfl, hb⟩
  replace HM := Lib.hid (HM.out.on hb)
  replace HK := Lib.hid (HK.out.on hb)
  replace HB := Lib.hid (HB.out.trans (hb.mono HB.out.size))
  clear hb
  go_wp2_with fail
  have hC := sameId_any (nmT ⟨#[49]⟩) (nmT ⟨#[49, 46, 48]⟩) (zNew 0) (zNew 0) (.agg #[.int .i64 2, .bool false, .string ⟨#[49]⟩, .slice none 0 0, .slice none 0 0]) (.agg #[.int .i64 2, .bool false, .string ⟨#[49, 46, 48]⟩, .slice none 0 0, .slice none 0 0]) w52 (VAL.shut (by decide) (.inl rfl) (.inl rfl)) (VAL.shut (by decide) (.inl rfl) (.inl rfl)) HM.out (by decide) (by decide)
  rw [show ((nmT ⟨#[49]⟩)).sameId (nmT ⟨#[49, 46, 48]⟩) = true from by kernel_rfl] at hC
  refine hC.mono ?_
  clear hC
  rintro e w53 ⟨rfl, hb⟩
  replace HM := Lib.hid (HM.out.on hb)
  replace HK := Lib.hid (HK.out.on hb)
  replace HB := Lib.hid (HB.out.trans (hb.mono HB.out.size))
  clear hb
  go_wp2_with fail
  refine (kNumber_any ⟨#[49]⟩ w53).mono ?_
  rintro e w54 ⟨rfl, hb⟩
  replace HM := Lib.hid (HM.out.on hb)
  replace HK := Lib.hid (HK.out.on hb)
  replace HB := Lib.hid (HB.out.trans (hb.mono HB.out.size))
  clear hb
  go_wp2_with fail
  refine (kText_any ⟨#[49]⟩ w54).mono ?_
  rintro e w55 ⟨rfl, hb⟩
  replace HM := Lib.hid (HM.out.on hb)
  replace HK := Lib.hid (HK.out.on hb)
  replace HB := Lib.hid (HB.out.trans (hb.mono HB.out.size))
  clear hb
  go_wp2_with fail
  have hC := sameId_any (nmT ⟨#[49]⟩) (txT ⟨#[49]⟩) (zNew 0) (zNew 0) (.agg #[.int .i64 2, .bool false, .string ⟨#[49]⟩, .slice none 0 0, .slice none 0 0]) (.agg #[.int .i64 3, .bool false, .string ⟨#[49]⟩, .slice none 0 0, .slice none 0 0]) w55 (VAL.shut (by decide) (.inl rfl) (.inl rfl)) (VAL.shut (by decide) (.inl rfl) (.inl rfl)) HM.out (by decide) (by decide)
  rw [show ((nmT ⟨#[49]⟩)).sameId (txT ⟨#[49]⟩) = false from by kernel_rfl] at hC
  refine hC.mono ?_
  clear hC
  rintro e w56 ⟨rfl, hb⟩
  replace HM := Lib.hid (HM.out.on hb)
  replace HK := Lib.hid (HK.out.on hb)
  replace HB := Lib.hid (HB.out.trans (hb.mono HB.out.size))
  clear hb
  go_wp2
  go_ret
  exact ⟨rfl, HB.out⟩
end Go.Proofs.YtfploakafbnigaaGreatDoor
