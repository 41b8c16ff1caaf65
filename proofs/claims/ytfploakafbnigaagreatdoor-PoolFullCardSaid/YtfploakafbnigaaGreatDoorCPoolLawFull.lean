/-
  Layer 28, the walks: PoolFull.
-/
import Derived.Test.YtfploakafbnigaaGreatDoorCPoolAwake
import Derived.Deep.LoopGhost
import Derived.Test.YtfploakafbnigaaGreatDoorCPkNumA
namespace Go.Proofs.YtfploakafbnigaaGreatDoor
open Go.RowKit Val Pl YtfploakafbnigaaGreatDoorW.PrintLast
set_option linter.unusedVariables false
set_option linter.unusedSimpArgs false
set_option maxRecDepth 100000 in
set_option maxHeartbeats 16000000 in
theorem PoolFull_walk (n : Int) (w : World) (hi : I64 n) (hM : ML w) : Calls Tryz.prog 10 #[.int .i64 n] w (Made (.bool true) w) := by
  obtain ⟨B, hB⟩ : ∃ B, B = w.heap.size := ⟨_, rfl⟩
  have HB2 : Hid (w.heap.size ≤ B) := Lib.hid (by omega)
  have HBE := Lib.hid hB
  have HM := Lib.hid hM
  obtain ⟨k, hk, hk31⟩ : ∃ k : Nat, n % 31 = (k : Int) ∧ k < 31 := ⟨(n % 31).toNat, by have := Int.emod_nonneg n (show (31 : Int) ≠ 0 by omega); omega, by have := Int.emod_lt_of_pos n (show (0 : Int) < 31 by omega); have := Int.emod_nonneg n (show (31 : Int) ≠ 0 by omega); omega⟩
  have HBR := Lib.hid (fun W => Bring_any n 31 W hi (by omega))
  rw [hk] at HBR
  clear hM hB hi hk
  go_enter Tryz.func10, Tryz.ntmps10
  go_wp2_with fail
  refine (New_pi 2 2 w rfl ⟨by omega, by omega⟩ HM.out).mono ?_
  rintro e w1 ⟨pb, rfl, hp, hb, -⟩
  rw [← HBE.out] at hp
  have HB := Lib.hid hb
  have HP : Hid (PPi B pb (fun _ => False) (Pst.fullS k 0) w1) := Lib.hid hp
  clear hp hb
  go_wp2_with fail
  refine (HBR.out w1).mono ?_
  rintro e w2 ⟨rfl, rfl⟩
  go_wp2_with fail
  go_loopg [6, 7] 64 (fun q v _ wr => ∃ i : Nat, i + q = 64 ∧ v = .int .i64 i ∧ Hid (PPi B pb (fun _ => False) (Pst.fullS k i) wr) ∧ Hid (Below w.heap.size w wr))
  case atStart => exact ⟨0, rfl, rfl, HP, HB⟩
  case round =>
    clear HP HB
    obtain ⟨i, hi, rfl, HP, HB⟩ := hrel
    by_cases hlt : i < 64
    · have d0 : (i : Int) < 64 := by omega
      have i0 : (0 : Int) ≤ (i : Int) := by omega
      have HI := Lib.hid hi
      clear hi
      go_wp2_with fail
      refine (id_any i (i : Int) wr rfl (by omega)).mono ?_
      rintro e v1 ⟨rfl, hb⟩
      replace HB := Lib.hid (HB.out.trans (hb.mono HB.out.size))
      replace HP := Lib.hid (HP.out.on hb)
      clear hb
      go_wp2_with fail
      refine (Call_pi i (i : Int) v1 HP.out (by omega)).mono ?_
      rintro e v2 ⟨he, hp, hk⟩
      have hs := Pst.full_call (n := k) hlt
      rw [hs] at he hp
      clear hs
      subst he
      replace HB := Lib.hid (HB.out.trans (hk.below.mono HB2.out))
      have HP2 := Lib.hid hp
      clear hp hk HP
      by_cases hn : i < k
      · have d1 : (i : Int) < (k : Int) := by omega
        go_wp2_with fail
        refine (id_any i (i : Int) v2 rfl (by omega)).mono ?_
        rintro e v3 ⟨rfl, hb⟩
        replace HB := Lib.hid (HB.out.trans (hb.mono HB.out.size))
        replace HP2 := Lib.hid (HP2.out.on hb)
        clear hb
        go_wp2_with fail
        refine (Cancel_pi i v3 HP2.out (by omega)).mono ?_
        rintro e v4 ⟨he, hp, hk⟩
        have hs := Pst.full_cancel (n := k) hlt
        rw [hs] at he hp
        clear hs
        subst he
        replace HB := Lib.hid (HB.out.trans (hk.below.mono HB2.out))
        have HP := Lib.hid hp
        clear hp hk HP2
        have hcv := conv1 v4 (65 + (i : Int)) (65 + i) (by omega) (by omega)
        obtain ⟨nmx, hnx⟩ : ∃ x : ByteArray, x = ⟨#[UInt8.ofNat (65 + i)]⟩ := ⟨_, rfl⟩
        rw [← hnx] at hcv
        have HNX := Lib.hid hnx
        clear hnx
        go_wp2_with fail
        clear hcv
        have hb := made_end' v4 (.cells #[.int .u8 (65 + (i : Int))] 5)
        replace HB := Lib.hid (HB.out.trans (hb.mono HB.out.size))
        replace HP := Lib.hid (HP.out.on hb)
        clear hb
        generalize v4.alloc (.cells #[.int .u8 (65 + (i : Int))] 5) = v5 at *
        refine (Note_pi nmx (i : Int) v5 HP.out).mono ?_
        rintro e v6 ⟨he, hp, hk⟩
        have hs : Pst.note (Pst.fullS k i) nmx (i : Int) = (0, Pst.fullS k (i + 1)) := by rw [HNX.out]; exact Pst.full_note hn hlt
        rw [hs] at he hp
        clear hs
        subst he
        replace HB := Lib.hid (HB.out.trans (hk.below.mono HB2.out))
        have HP3 := Lib.hid hp
        clear hp hk HP
        go_wp2
        go_roundg (gk - 1)
        case measure => have := HI.out; omega
        case rel => exact ⟨i + 1, by have := HI.out; omega, by go_num, HP3, HB⟩
      · have d1 : ¬ (i : Int) < (k : Int) := by omega
        rw [Pst.full_next (by omega)] at HP2
        go_wp2
        go_roundg (gk - 1)
        case measure => have := HI.out; omega
        case rel => exact ⟨i + 1, by have := HI.out; omega, by go_num, HP2, HB⟩
    · have d0 : ¬ (i : Int) < 64 := by omega
      have hi64 : i = 64 := by omega
      subst hi64
      clear hi hlt
      have hE := Pst.full_e k
      go_wp2_with fail
      refine (id_any 90 90 wr rfl (by omega)).mono ?_
      rintro e z1 ⟨rfl, hb⟩
      replace HB := Lib.hid (HB.out.trans (hb.mono HB.out.size))
      replace HP := Lib.hid (HP.out.on hb)
      clear hb
      go_wp2_with fail
      refine (Call_pi 90 0 z1 HP.out (by omega)).mono ?_
      rintro e z2 ⟨he, hp, hk⟩
      rw [(congrArg Prod.fst (Pst.full_90 (n := k)))] at he
      subst he
      replace HB := Lib.hid (HB.out.trans (hk.below.mono HB2.out))
      have HP' := Lib.hid hp
      clear HP hp hk
      have HP := HP'
      clear HP'
      rw [congrArg Prod.snd (Pst.full_90 (n := k))] at HP
      go_wp2_with fail
      refine (Note_pi Pst.nmNew 0 z2 HP.out).mono ?_
      rintro e z3 ⟨he, hp, hk⟩
      rw [(congrArg Prod.fst (Pst.full_new (n := k)))] at he
      subst he
      replace HB := Lib.hid (HB.out.trans (hk.below.mono HB2.out))
      have HP' := Lib.hid hp
      clear HP hp hk
      have HP := HP'
      clear HP'
      rw [congrArg Prod.snd (Pst.full_new (n := k))] at HP
      dsimp only at HP
      by_cases hk0 : k = 0
      · subst hk0
        go_wp2_with fail
        generalize Pst.fullS 0 64 = st at HP hE
        obtain ⟨h1, h2, h3, h4⟩ := hE.end
        have hlen : 1 < st.us.length := by rw [hE.us]; decide
        have H2 := Lib.hid h2
        have H3 := Lib.hid h3
        have H4 := Lib.hid h4
        clear h2 h3 h4
        refine (Take_pi 1 1 z3 HP.out rfl hlen).mono ?_
        rintro e za ⟨he, hp, hk⟩
        rw [h1] at he
        subst he
        replace HB := Lib.hid (HB.out.trans (hk.below.mono HB2.out))
        have HP' := Lib.hid hp
        clear HP hp hk
        have HP := HP'
        clear HP'
        go_wp2_with fail
        clear h1 hlen hE
        refine (id_any 90 90 za rfl (by omega)).mono ?_
        rintro e zb ⟨rfl, hb⟩
        replace HB := Lib.hid (HB.out.trans (hb.mono HB.out.size))
        replace HP := Lib.hid (HP.out.on hb)
        clear hb
        go_wp2_with fail
        refine (Call_pi 90 0 zb HP.out (by omega)).mono ?_
        rintro e zc ⟨he, hp, hk⟩
        rw [H2.out] at he
        subst he
        replace HB := Lib.hid (HB.out.trans (hk.below.mono HB2.out))
        have HP' := Lib.hid hp
        clear HP hp hk
        have HP := HP'
        clear HP'
        go_wp2_with fail
        refine (Waits_pi zc HP.out).mono ?_
        rintro e zd ⟨rfl, rfl⟩
        rw [H3.out]
        go_wp2_with fail
        refine (Under_pi zc HP.out).mono ?_
        rintro e zd ⟨rfl, rfl⟩
        rw [H4.out]
        go_wp2_with fail
        refine (awake28_any zc HP.out.ml).mono ?_
        rintro e zd ⟨rfl, hb⟩
        replace HB := Lib.hid (HB.out.trans (hb.mono HB.out.size))
        clear hb HP
        go_wp2
        go_ret
        exact ⟨rfl, HB.out⟩
      · have q0 : ((k : Int) == 0) = false := by rw [beq_eq_false_iff_ne]; omega
        have hk0' : 0 < k := by omega
        have HA := Lib.hid (Pst.full_A hk0')
        go_wp2_with fail
        refine (Note_pi (Pst.nmA 0) 9 z3 HP.out).mono ?_
        rintro e zz ⟨he, hp, hk⟩
        rw [HA.out.1] at he
        subst he
        replace HB := Lib.hid (HB.out.trans (hk.below.mono HB2.out))
        have HP' := Lib.hid hp
        clear HP hp hk q0 hE
        have HP := HP'
        clear HP'
        have hE := HA.out.2
        clear HA
        generalize ((Pst.fullS k 64).note (Pst.nmA 0) 9).2 = st at HP hE
        go_wp2_with fail
        obtain ⟨h1, h2, h3, h4⟩ := hE.end
        have hlen : 1 < st.us.length := by rw [hE.us]; decide
        have H2 := Lib.hid h2
        have H3 := Lib.hid h3
        have H4 := Lib.hid h4
        clear h2 h3 h4
        refine (Take_pi 1 1 zz HP.out rfl hlen).mono ?_
        rintro e za ⟨he, hp, hk⟩
        rw [h1] at he
        subst he
        replace HB := Lib.hid (HB.out.trans (hk.below.mono HB2.out))
        have HP' := Lib.hid hp
        clear HP hp hk
        have HP := HP'
        clear HP'
        go_wp2_with fail
        clear h1 hlen hE
        refine (id_any 90 90 za rfl (by omega)).mono ?_
        rintro e zb ⟨rfl, hb⟩
        replace HB := Lib.hid (HB.out.trans (hb.mono HB.out.size))
        replace HP := Lib.hid (HP.out.on hb)
        clear hb
        go_wp2_with fail
        refine (Call_pi 90 0 zb HP.out (by omega)).mono ?_
        rintro e zc ⟨he, hp, hk⟩
        rw [H2.out] at he
        subst he
        replace HB := Lib.hid (HB.out.trans (hk.below.mono HB2.out))
        have HP' := Lib.hid hp
        clear HP hp hk
        have HP := HP'
        clear HP'
        go_wp2_with fail
        refine (Waits_pi zc HP.out).mono ?_
        rintro e zd ⟨rfl, rfl⟩
        rw [H3.out]
        go_wp2_with fail
        refine (Under_pi zc HP.out).mono ?_
        rintro e zd ⟨rfl, rfl⟩
        rw [H4.out]
        go_wp2_with fail
        refine (awake28_any zc HP.out.ml).mono ?_
        rintro e zd ⟨rfl, hb⟩
        replace HB := Lib.hid (HB.out.trans (hb.mono HB.out.size))
        clear hb HP
        go_wp2
        go_ret
        exact ⟨rfl, HB.out⟩
end Go.Proofs.YtfploakafbnigaaGreatDoor
