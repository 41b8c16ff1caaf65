/-
  Layer 28, the walks: the laws' awake: the chapter's examples.
-/
import Derived.Test.YtfploakafbnigaaGreatDoorCPoolPP
namespace Go.Proofs.YtfploakafbnigaaGreatDoor
open Go.RowKit Val Pl YtfploakafbnigaaGreatDoorW.PrintLast
set_option linter.unusedVariables false
set_option linter.unusedSimpArgs false
set_option maxRecDepth 100000 in
set_option maxHeartbeats 16000000 in
theorem awake28_any (w : World) (hM : ML w) : Calls Tryz.prog 49 #[] w (Made (.bool true) w) := by
  obtain ⟨B, hB⟩ : ∃ B, B = w.heap.size := ⟨_, rfl⟩
  have HB2 : Hid (w.heap.size ≤ B) := Lib.hid (by omega)
  have HM := Lib.hid hM
  have HBE := Lib.hid hB
  clear hM hB
  go_enter Tryz.func49, Tryz.ntmps49
  go_wp2_with fail
  refine (New_ps 2 2 w rfl ⟨by omega, by omega⟩ HM.out).mono ?_
  rintro e w1 ⟨pb, rfl, hp, hb, -⟩
  rw [← HBE.out] at hp
  have HB := Lib.hid hb
  have HP : Hid (PPs B pb (fun _ => False) (⟨[], [none, none]⟩ : Pst ByteArray) w1) := Lib.hid hp
  clear hp hb
  go_wp2_with fail
  refine (id_any 1 1 w1 rfl (by omega)).mono ?_
  rintro e v1 ⟨rfl, hb⟩
  replace HB := Lib.hid (HB.out.trans (hb.mono HB.out.size))
  replace HP := Lib.hid (HP.out.on hb)
  clear hb
  go_wp2_with fail
  refine (Call_ps 1 ⟨#[97]⟩ v1 HP.out (by omega)).mono ?_
  rintro e v2 ⟨he, hp, hk⟩
  have hs : Pst.call (⟨[], [none, none]⟩ : Pst ByteArray) (numI 1) ⟨#[97]⟩ = (0, (⟨[⟨true, numI 1, ⟨#[]⟩, ⟨#[97]⟩, false⟩], [none, none]⟩ : Pst ByteArray)) := by kernel_rfl
  rw [hs] at he hp
  clear hs
  try dsimp only [doneV_s] at he
  subst he
  replace HB := Lib.hid (HB.out.trans (hk.below.mono HB2.out))
  have HP' : Hid (PPs B pb (fun _ => False) (⟨[⟨true, numI 1, ⟨#[]⟩, ⟨#[97]⟩, false⟩], [none, none]⟩ : Pst ByteArray) v2) := Lib.hid hp
  clear HP hp hk
  have HP := HP'
  clear HP'
  go_wp2_with fail
  refine (Note_ps ⟨#[117]⟩ ⟨#[98]⟩ v2 HP.out).mono ?_
  rintro e v3 ⟨he, hp, hk⟩
  have hs : Pst.note (⟨[⟨true, numI 1, ⟨#[]⟩, ⟨#[97]⟩, false⟩], [none, none]⟩ : Pst ByteArray) ⟨#[117]⟩ ⟨#[98]⟩ = (0, (⟨[⟨true, numI 1, ⟨#[]⟩, ⟨#[97]⟩, false⟩, ⟨false, ⟨0, ⟨#[]⟩⟩, ⟨#[117]⟩, ⟨#[98]⟩, false⟩], [none, none]⟩ : Pst ByteArray)) := by kernel_rfl
  rw [hs] at he hp
  clear hs
  try dsimp only [doneV_s] at he
  subst he
  replace HB := Lib.hid (HB.out.trans (hk.below.mono HB2.out))
  have HP' : Hid (PPs B pb (fun _ => False) (⟨[⟨true, numI 1, ⟨#[]⟩, ⟨#[97]⟩, false⟩, ⟨false, ⟨0, ⟨#[]⟩⟩, ⟨#[117]⟩, ⟨#[98]⟩, false⟩], [none, none]⟩ : Pst ByteArray) v3) := Lib.hid hp
  clear HP hp hk
  have HP := HP'
  clear HP'
  go_wp2_with fail
  refine (id_any 2 2 v3 rfl (by omega)).mono ?_
  rintro e v4 ⟨rfl, hb⟩
  replace HB := Lib.hid (HB.out.trans (hb.mono HB.out.size))
  replace HP := Lib.hid (HP.out.on hb)
  clear hb
  go_wp2_with fail
  refine (Call_ps 2 ⟨#[99]⟩ v4 HP.out (by omega)).mono ?_
  rintro e v5 ⟨he, hp, hk⟩
  have hs : Pst.call (⟨[⟨true, numI 1, ⟨#[]⟩, ⟨#[97]⟩, false⟩, ⟨false, ⟨0, ⟨#[]⟩⟩, ⟨#[117]⟩, ⟨#[98]⟩, false⟩], [none, none]⟩ : Pst ByteArray) (numI 2) ⟨#[99]⟩ = (0, (⟨[⟨true, numI 1, ⟨#[]⟩, ⟨#[97]⟩, false⟩, ⟨false, ⟨0, ⟨#[]⟩⟩, ⟨#[117]⟩, ⟨#[98]⟩, false⟩, ⟨true, numI 2, ⟨#[]⟩, ⟨#[99]⟩, false⟩], [none, none]⟩ : Pst ByteArray)) := by kernel_rfl
  rw [hs] at he hp
  clear hs
  try dsimp only [doneV_s] at he
  subst he
  replace HB := Lib.hid (HB.out.trans (hk.below.mono HB2.out))
  have HP' : Hid (PPs B pb (fun _ => False) (⟨[⟨true, numI 1, ⟨#[]⟩, ⟨#[97]⟩, false⟩, ⟨false, ⟨0, ⟨#[]⟩⟩, ⟨#[117]⟩, ⟨#[98]⟩, false⟩, ⟨true, numI 2, ⟨#[]⟩, ⟨#[99]⟩, false⟩], [none, none]⟩ : Pst ByteArray) v5) := Lib.hid hp
  clear HP hp hk
  have HP := HP'
  clear HP'
  go_wp2_with fail
  refine (Note_ps ⟨#[117]⟩ ⟨#[100]⟩ v5 HP.out).mono ?_
  rintro e v6 ⟨he, hp, hk⟩
  have hs : Pst.note (⟨[⟨true, numI 1, ⟨#[]⟩, ⟨#[97]⟩, false⟩, ⟨false, ⟨0, ⟨#[]⟩⟩, ⟨#[117]⟩, ⟨#[98]⟩, false⟩, ⟨true, numI 2, ⟨#[]⟩, ⟨#[99]⟩, false⟩], [none, none]⟩ : Pst ByteArray) ⟨#[117]⟩ ⟨#[100]⟩ = (0, (⟨[⟨true, numI 1, ⟨#[]⟩, ⟨#[97]⟩, false⟩, ⟨false, ⟨0, ⟨#[]⟩⟩, ⟨#[117]⟩, ⟨#[100]⟩, false⟩, ⟨true, numI 2, ⟨#[]⟩, ⟨#[99]⟩, false⟩], [none, none]⟩ : Pst ByteArray)) := by kernel_rfl
  rw [hs] at he hp
  clear hs
  try dsimp only [doneV_s] at he
  subst he
  replace HB := Lib.hid (HB.out.trans (hk.below.mono HB2.out))
  have HP' : Hid (PPs B pb (fun _ => False) (⟨[⟨true, numI 1, ⟨#[]⟩, ⟨#[97]⟩, false⟩, ⟨false, ⟨0, ⟨#[]⟩⟩, ⟨#[117]⟩, ⟨#[100]⟩, false⟩, ⟨true, numI 2, ⟨#[]⟩, ⟨#[99]⟩, false⟩], [none, none]⟩ : Pst ByteArray) v6) := Lib.hid hp
  clear HP hp hk
  have HP := HP'
  clear HP'
  go_wp2_with fail
  refine (Waits_ps v6 HP.out).mono ?_
  rintro e v_ ⟨rfl, rfl⟩
  have hs : (⟨[⟨true, numI 1, ⟨#[]⟩, ⟨#[97]⟩, false⟩, ⟨false, ⟨0, ⟨#[]⟩⟩, ⟨#[117]⟩, ⟨#[100]⟩, false⟩, ⟨true, numI 2, ⟨#[]⟩, ⟨#[99]⟩, false⟩], [none, none]⟩ : Pst ByteArray).q.length = 3 := by kernel_rfl
  rw [hs]
  clear hs
  go_wp2_with fail
  refine (Take_ps 0 0 v6 HP.out rfl (by decide)).mono ?_
  rintro e v7 ⟨he, hp, hk⟩
  have hs : Pst.take (⟨[⟨true, numI 1, ⟨#[]⟩, ⟨#[97]⟩, false⟩, ⟨false, ⟨0, ⟨#[]⟩⟩, ⟨#[117]⟩, ⟨#[100]⟩, false⟩, ⟨true, numI 2, ⟨#[]⟩, ⟨#[99]⟩, false⟩], [none, none]⟩ : Pst ByteArray) 0 = (true, (⟨[⟨false, ⟨0, ⟨#[]⟩⟩, ⟨#[117]⟩, ⟨#[100]⟩, false⟩, ⟨true, numI 2, ⟨#[]⟩, ⟨#[99]⟩, false⟩], [some ⟨true, numI 1, ⟨#[]⟩, ⟨#[97]⟩, false⟩, none]⟩ : Pst ByteArray)) := by kernel_rfl
  rw [hs] at he hp
  clear hs
  try dsimp only [doneV_s] at he
  subst he
  replace HB := Lib.hid (HB.out.trans (hk.below.mono HB2.out))
  have HP' : Hid (PPs B pb (fun _ => False) (⟨[⟨false, ⟨0, ⟨#[]⟩⟩, ⟨#[117]⟩, ⟨#[100]⟩, false⟩, ⟨true, numI 2, ⟨#[]⟩, ⟨#[99]⟩, false⟩], [some ⟨true, numI 1, ⟨#[]⟩, ⟨#[97]⟩, false⟩, none]⟩ : Pst ByteArray) v7) := Lib.hid hp
  clear HP hp hk
  have HP := HP'
  clear HP'
  go_wp2_with fail
  refine (Take_ps 0 0 v7 HP.out rfl (by decide)).mono ?_
  rintro e v8 ⟨he, hp, hk⟩
  have hs : Pst.take (⟨[⟨false, ⟨0, ⟨#[]⟩⟩, ⟨#[117]⟩, ⟨#[100]⟩, false⟩, ⟨true, numI 2, ⟨#[]⟩, ⟨#[99]⟩, false⟩], [some ⟨true, numI 1, ⟨#[]⟩, ⟨#[97]⟩, false⟩, none]⟩ : Pst ByteArray) 0 = (false, (⟨[⟨false, ⟨0, ⟨#[]⟩⟩, ⟨#[117]⟩, ⟨#[100]⟩, false⟩, ⟨true, numI 2, ⟨#[]⟩, ⟨#[99]⟩, false⟩], [some ⟨true, numI 1, ⟨#[]⟩, ⟨#[97]⟩, false⟩, none]⟩ : Pst ByteArray)) := by kernel_rfl
  rw [hs] at he hp
  clear hs
  try dsimp only [doneV_s] at he
  subst he
  replace HB := Lib.hid (HB.out.trans (hk.below.mono HB2.out))
  have HP' : Hid (PPs B pb (fun _ => False) (⟨[⟨false, ⟨0, ⟨#[]⟩⟩, ⟨#[117]⟩, ⟨#[100]⟩, false⟩, ⟨true, numI 2, ⟨#[]⟩, ⟨#[99]⟩, false⟩], [some ⟨true, numI 1, ⟨#[]⟩, ⟨#[97]⟩, false⟩, none]⟩ : Pst ByteArray) v8) := Lib.hid hp
  clear HP hp hk
  have HP := HP'
  clear HP'
  go_wp2_with fail
  refine (Take_ps 1 1 v8 HP.out rfl (by decide)).mono ?_
  rintro e v9 ⟨he, hp, hk⟩
  have hs : Pst.take (⟨[⟨false, ⟨0, ⟨#[]⟩⟩, ⟨#[117]⟩, ⟨#[100]⟩, false⟩, ⟨true, numI 2, ⟨#[]⟩, ⟨#[99]⟩, false⟩], [some ⟨true, numI 1, ⟨#[]⟩, ⟨#[97]⟩, false⟩, none]⟩ : Pst ByteArray) 1 = (true, (⟨[⟨true, numI 2, ⟨#[]⟩, ⟨#[99]⟩, false⟩], [some ⟨true, numI 1, ⟨#[]⟩, ⟨#[97]⟩, false⟩, some ⟨false, ⟨0, ⟨#[]⟩⟩, ⟨#[117]⟩, ⟨#[100]⟩, false⟩]⟩ : Pst ByteArray)) := by kernel_rfl
  rw [hs] at he hp
  clear hs
  try dsimp only [doneV_s] at he
  subst he
  replace HB := Lib.hid (HB.out.trans (hk.below.mono HB2.out))
  have HP' : Hid (PPs B pb (fun _ => False) (⟨[⟨true, numI 2, ⟨#[]⟩, ⟨#[99]⟩, false⟩], [some ⟨true, numI 1, ⟨#[]⟩, ⟨#[97]⟩, false⟩, some ⟨false, ⟨0, ⟨#[]⟩⟩, ⟨#[117]⟩, ⟨#[100]⟩, false⟩]⟩ : Pst ByteArray) v9) := Lib.hid hp
  clear HP hp hk
  have HP := HP'
  clear HP'
  go_wp2_with fail
  refine (id_any 1 1 v9 rfl (by omega)).mono ?_
  rintro e v10 ⟨rfl, hb⟩
  replace HB := Lib.hid (HB.out.trans (hb.mono HB.out.size))
  replace HP := Lib.hid (HP.out.on hb)
  clear hb
  go_wp2_with fail
  refine (Call_ps 1 ⟨#[120]⟩ v10 HP.out (by omega)).mono ?_
  rintro e v11 ⟨he, hp, hk⟩
  have hs : Pst.call (⟨[⟨true, numI 2, ⟨#[]⟩, ⟨#[99]⟩, false⟩], [some ⟨true, numI 1, ⟨#[]⟩, ⟨#[97]⟩, false⟩, some ⟨false, ⟨0, ⟨#[]⟩⟩, ⟨#[117]⟩, ⟨#[100]⟩, false⟩]⟩ : Pst ByteArray) (numI 1) ⟨#[120]⟩ = (2, (⟨[⟨true, numI 2, ⟨#[]⟩, ⟨#[99]⟩, false⟩], [some ⟨true, numI 1, ⟨#[]⟩, ⟨#[97]⟩, false⟩, some ⟨false, ⟨0, ⟨#[]⟩⟩, ⟨#[117]⟩, ⟨#[100]⟩, false⟩]⟩ : Pst ByteArray)) := by kernel_rfl
  rw [hs] at he hp
  clear hs
  try dsimp only [doneV_s] at he
  subst he
  replace HB := Lib.hid (HB.out.trans (hk.below.mono HB2.out))
  have HP' : Hid (PPs B pb (fun _ => False) (⟨[⟨true, numI 2, ⟨#[]⟩, ⟨#[99]⟩, false⟩], [some ⟨true, numI 1, ⟨#[]⟩, ⟨#[97]⟩, false⟩, some ⟨false, ⟨0, ⟨#[]⟩⟩, ⟨#[117]⟩, ⟨#[100]⟩, false⟩]⟩ : Pst ByteArray) v11) := Lib.hid hp
  clear HP hp hk
  have HP := HP'
  clear HP'
  go_wp2_with fail
  refine (Under_ps v11 HP.out).mono ?_
  rintro e v_ ⟨rfl, rfl⟩
  have hs : Pst.many (⟨[⟨true, numI 2, ⟨#[]⟩, ⟨#[99]⟩, false⟩], [some ⟨true, numI 1, ⟨#[]⟩, ⟨#[97]⟩, false⟩, some ⟨false, ⟨0, ⟨#[]⟩⟩, ⟨#[117]⟩, ⟨#[100]⟩, false⟩]⟩ : Pst ByteArray) = 2 := by kernel_rfl
  rw [hs]
  clear hs
  go_wp2_with fail
  refine (id_any 2 2 v11 rfl (by omega)).mono ?_
  rintro e v12 ⟨rfl, hb⟩
  replace HB := Lib.hid (HB.out.trans (hb.mono HB.out.size))
  replace HP := Lib.hid (HP.out.on hb)
  clear hb
  go_wp2_with fail
  refine (Cancel_ps 2 v12 HP.out (by omega)).mono ?_
  rintro e v13 ⟨he, hp, hk⟩
  have hs : Pst.cancel (⟨[⟨true, numI 2, ⟨#[]⟩, ⟨#[99]⟩, false⟩], [some ⟨true, numI 1, ⟨#[]⟩, ⟨#[97]⟩, false⟩, some ⟨false, ⟨0, ⟨#[]⟩⟩, ⟨#[117]⟩, ⟨#[100]⟩, false⟩]⟩ : Pst ByteArray) (numI 2) = (true, (⟨[], [some ⟨true, numI 1, ⟨#[]⟩, ⟨#[97]⟩, false⟩, some ⟨false, ⟨0, ⟨#[]⟩⟩, ⟨#[117]⟩, ⟨#[100]⟩, false⟩]⟩ : Pst ByteArray)) := by kernel_rfl
  rw [hs] at he hp
  clear hs
  try dsimp only [doneV_s] at he
  subst he
  replace HB := Lib.hid (HB.out.trans (hk.below.mono HB2.out))
  have HP' : Hid (PPs B pb (fun _ => False) (⟨[], [some ⟨true, numI 1, ⟨#[]⟩, ⟨#[97]⟩, false⟩, some ⟨false, ⟨0, ⟨#[]⟩⟩, ⟨#[117]⟩, ⟨#[100]⟩, false⟩]⟩ : Pst ByteArray) v13) := Lib.hid hp
  clear HP hp hk
  have HP := HP'
  clear HP'
  go_wp2_with fail
  refine (id_any 1 1 v13 rfl (by omega)).mono ?_
  rintro e v14 ⟨rfl, hb⟩
  replace HB := Lib.hid (HB.out.trans (hb.mono HB.out.size))
  replace HP := Lib.hid (HP.out.on hb)
  clear hb
  go_wp2_with fail
  refine (Cancel_ps 1 v14 HP.out (by omega)).mono ?_
  rintro e v15 ⟨he, hp, hk⟩
  have hs : Pst.cancel (⟨[], [some ⟨true, numI 1, ⟨#[]⟩, ⟨#[97]⟩, false⟩, some ⟨false, ⟨0, ⟨#[]⟩⟩, ⟨#[117]⟩, ⟨#[100]⟩, false⟩]⟩ : Pst ByteArray) (numI 1) = (false, (⟨[], [some ⟨true, numI 1, ⟨#[]⟩, ⟨#[97]⟩, true⟩, some ⟨false, ⟨0, ⟨#[]⟩⟩, ⟨#[117]⟩, ⟨#[100]⟩, false⟩]⟩ : Pst ByteArray)) := by kernel_rfl
  rw [hs] at he hp
  clear hs
  try dsimp only [doneV_s] at he
  subst he
  replace HB := Lib.hid (HB.out.trans (hk.below.mono HB2.out))
  have HP' : Hid (PPs B pb (fun _ => False) (⟨[], [some ⟨true, numI 1, ⟨#[]⟩, ⟨#[97]⟩, true⟩, some ⟨false, ⟨0, ⟨#[]⟩⟩, ⟨#[117]⟩, ⟨#[100]⟩, false⟩]⟩ : Pst ByteArray) v15) := Lib.hid hp
  clear HP hp hk
  have HP := HP'
  clear HP'
  go_wp2_with fail
  refine (id_any 7 7 v15 rfl (by omega)).mono ?_
  rintro e v16 ⟨rfl, hb⟩
  replace HB := Lib.hid (HB.out.trans (hb.mono HB.out.size))
  replace HP := Lib.hid (HP.out.on hb)
  clear hb
  go_wp2_with fail
  refine (Cancel_ps 7 v16 HP.out (by omega)).mono ?_
  rintro e v17 ⟨he, hp, hk⟩
  have hs : Pst.cancel (⟨[], [some ⟨true, numI 1, ⟨#[]⟩, ⟨#[97]⟩, true⟩, some ⟨false, ⟨0, ⟨#[]⟩⟩, ⟨#[117]⟩, ⟨#[100]⟩, false⟩]⟩ : Pst ByteArray) (numI 7) = (false, (⟨[], [some ⟨true, numI 1, ⟨#[]⟩, ⟨#[97]⟩, true⟩, some ⟨false, ⟨0, ⟨#[]⟩⟩, ⟨#[117]⟩, ⟨#[100]⟩, false⟩]⟩ : Pst ByteArray)) := by kernel_rfl
  rw [hs] at he hp
  clear hs
  try dsimp only [doneV_s] at he
  subst he
  replace HB := Lib.hid (HB.out.trans (hk.below.mono HB2.out))
  have HP' : Hid (PPs B pb (fun _ => False) (⟨[], [some ⟨true, numI 1, ⟨#[]⟩, ⟨#[97]⟩, true⟩, some ⟨false, ⟨0, ⟨#[]⟩⟩, ⟨#[117]⟩, ⟨#[100]⟩, false⟩]⟩ : Pst ByteArray) v17) := Lib.hid hp
  clear HP hp hk
  have HP := HP'
  clear HP'
  go_wp2_with fail
  refine (Done_ps 0 0 v17 HP.out rfl (by decide)).mono ?_
  rintro e v18 ⟨he, hp, hk⟩
  have hs : Pst.done (⟨[], [some ⟨true, numI 1, ⟨#[]⟩, ⟨#[97]⟩, true⟩, some ⟨false, ⟨0, ⟨#[]⟩⟩, ⟨#[117]⟩, ⟨#[100]⟩, false⟩]⟩ : Pst ByteArray) 0 = (some ⟨true, numI 1, ⟨#[]⟩, ⟨#[97]⟩, true⟩, (⟨[], [none, some ⟨false, ⟨0, ⟨#[]⟩⟩, ⟨#[117]⟩, ⟨#[100]⟩, false⟩]⟩ : Pst ByteArray)) := by kernel_rfl
  rw [hs] at he hp
  clear hs
  try dsimp only [doneV_s] at he
  subst he
  replace HB := Lib.hid (HB.out.trans (hk.below.mono HB2.out))
  have HP' : Hid (PPs B pb (fun _ => False) (⟨[], [none, some ⟨false, ⟨0, ⟨#[]⟩⟩, ⟨#[117]⟩, ⟨#[100]⟩, false⟩]⟩ : Pst ByteArray) v18) := Lib.hid hp
  clear HP hp hk
  have HP := HP'
  clear HP'
  go_wp2_with fail
  refine (Done_ps 1 1 v18 HP.out rfl (by decide)).mono ?_
  rintro e v19 ⟨he, hp, hk⟩
  have hs : Pst.done (⟨[], [none, some ⟨false, ⟨0, ⟨#[]⟩⟩, ⟨#[117]⟩, ⟨#[100]⟩, false⟩]⟩ : Pst ByteArray) 1 = (some ⟨false, ⟨0, ⟨#[]⟩⟩, ⟨#[117]⟩, ⟨#[100]⟩, false⟩, (⟨[], [none, none]⟩ : Pst ByteArray)) := by kernel_rfl
  rw [hs] at he hp
  clear hs
  try dsimp only [doneV_s] at he
  subst he
  replace HB := Lib.hid (HB.out.trans (hk.below.mono HB2.out))
  have HP' : Hid (PPs B pb (fun _ => False) (⟨[], [none, none]⟩ : Pst ByteArray) v19) := Lib.hid hp
  clear HP hp hk
  have HP := HP'
  clear HP'
  go_wp2_with fail
  refine (Done_ps 1 1 v19 HP.out rfl (by decide)).mono ?_
  rintro e v20 ⟨he, hp, hk⟩
  have hs : Pst.done (⟨[], [none, none]⟩ : Pst ByteArray) 1 = (none, (⟨[], [none, none]⟩ : Pst ByteArray)) := by kernel_rfl
  rw [hs] at he hp
  clear hs
  try dsimp only [doneV_s] at he
  subst he
  replace HB := Lib.hid (HB.out.trans (hk.below.mono HB2.out))
  have HP' : Hid (PPs B pb (fun _ => False) (⟨[], [none, none]⟩ : Pst ByteArray) v20) := Lib.hid hp
  clear HP hp hk
  have HP := HP'
  clear HP'
  go_wp2_with fail
  refine (Waits_ps v20 HP.out).mono ?_
  rintro e v_ ⟨rfl, rfl⟩
  have hs : (⟨[], [none, none]⟩ : Pst ByteArray).q.length = 0 := by kernel_rfl
  rw [hs]
  clear hs
  go_wp2_with fail
  refine (Under_ps v20 HP.out).mono ?_
  rintro e v_ ⟨rfl, rfl⟩
  have hs : Pst.many (⟨[], [none, none]⟩ : Pst ByteArray) = 0 := by kernel_rfl
  rw [hs]
  clear hs
  go_wp2
  go_ret
  exact ⟨rfl, HB.out⟩
end Go.Proofs.YtfploakafbnigaaGreatDoor
