/-
  Layer 28, the walks: PoolOnce.
-/
import Derived.Test.YtfploakafbnigaaGreatDoorCPoolAwake
import Derived.Deep.LoopGhost
import Derived.Test.YtfploakafbnigaaGreatDoorCPkNumA
import Derived.Test.YtfploakafbnigaaGreatDoorCPoolArr
import Derived.Test.YtfploakafbnigaaGreatDoorCPoolRow
namespace Go.Proofs.YtfploakafbnigaaGreatDoor
open Go.RowKit Val Pl YtfploakafbnigaaGreatDoorW.PrintLast
set_option linter.unusedVariables false
set_option linter.unusedSimpArgs false
set_option maxRecDepth 100000 in
set_option maxHeartbeats 32000000 in
theorem PoolOnce_walk (A : Option Addr) (cap : Nat) (l : List (Int × Int)) (w : World) (hl : l.length ≤ 9223372036854775807) (hA : DB w w.heap.size A l) (hM : ML w) : Calls Tryz.prog 7 #[.slice A l.length cap] w (Made (.bool true) w) := by
  obtain ⟨B, hB⟩ : ∃ B, B = w.heap.size := ⟨_, rfl⟩
  have HB2 : Hid (w.heap.size ≤ B) := Lib.hid (by omega)
  have HBE := Lib.hid hB
  have HM := Lib.hid hM
  have HA := Lib.hid hA
  obtain ⟨L, hL⟩ : ∃ L, l.length = L := ⟨_, rfl⟩
  have HL0 := Lib.hid hL
  rw [hL] at hl ⊢
  obtain ⟨M, hMM⟩ : ∃ M, M = min L 150 := ⟨_, rfl⟩
  have HMM := Lib.hid hMM
  clear hM hB hA hL hMM
  go_enter Tryz.func7, Tryz.ntmps7
  go_wp2_with fail
  refine (New_pi 4 4 w rfl ⟨by omega, by omega⟩ HM.out).mono ?_
  rintro e w1 ⟨pb, rfl, hp, hb, -⟩
  rw [← HBE.out] at hp
  have HB := Lib.hid hb
  have HP0 := Lib.hid hp
  clear hp hb
  go_wp2_with fail
  have hz := arr_zero
  rw [← hz]
  clear hz
  have HL : Hid (BK _ w1.heap.size 60 (arr (fun _ => 0))) := Lib.hid (al2_0 w1 (.cells (arr (fun _ => 0)) 60) (.cells (arr (fun _ => 0)) 60))
  have HE : Hid (BK _ (w1.heap.size + 1) 60 (arr (fun _ => 0))) := Lib.hid (al2_1 w1 (.cells (arr (fun _ => 0)) 60) (.cells (arr (fun _ => 0)) 60))
  have hbw := al2_below w1 (.cells (arr (fun _ => 0)) 60) (.cells (arr (fun _ => 0)) 60)
  have HP := Lib.hid (HP0.out.new2 (K' := KA w1.heap.size (w1.heap.size + 1)) hbw (fun b hb => by
    rcases hb with rfl | rfl
    · exact ⟨Nat.le_refl _, HL.out.lt⟩
    · exact ⟨Nat.le_succ _, HE.out.lt⟩))
  replace HB := Lib.hid (HB.out.trans (hbw.mono HB.out.size))
  have HGL : Hid (B ≤ w1.heap.size) := Lib.hid HP0.out.B_le
  have HGE : Hid (B ≤ w1.heap.size + 1) := Lib.hid (Nat.le_succ_of_le HP0.out.B_le)
  have HGN : Hid (w1.heap.size ≠ w1.heap.size + 1) := Lib.hid (by omega)
  clear hbw HP0
  generalize ((w1.alloc (.cells (arr (fun _ => 0)) 60)).alloc (.cells (arr (fun _ => 0)) 60)) = w2 at *
  generalize w1.heap.size + 1 = ge at *
  generalize w1.heap.size = gl at *
  go_loopg [7, 8, 9] M (fun q v7 v8 _ wr => ∃ (s : Pst Int) (laid ended : Nat → Nat) (i : Nat), i + q = M ∧ v8 = .int .i64 i ∧ v7 = .bool true ∧ Hid (Pst.Once s laid ended) ∧ Hid (PPi B pb (KA gl ge) s wr) ∧ Hid (BK wr gl 60 (arr laid)) ∧ Hid (BK wr ge 60 (arr ended)) ∧ Hid (∀ j, j < 40 → laid j ≤ i) ∧ Hid (Below w.heap.size w wr))
  case atStart => exact ⟨_, _, _, 0, by omega, rfl, rfl, Lib.hid Pst.Once.new, HP, HL, HE, Lib.hid (fun j _ => Nat.le_refl _), HB⟩
  case round =>
    clear HP HL HE HB
    obtain ⟨s, laid, ended, i, hi, rfl, rfl, HO, HP, HL, HE, HLB0, HB⟩ := hrel
    have HMI : Hid (i ≤ L ∧ i ≤ 150) := Lib.hid (by have := HMM.out; omega)
    have HI := Lib.hid hi
    clear hi
    by_cases hlt : i < L
    · by_cases h150 : i < 150
      · have d0 : (i : Int) < (L : Int) := by omega
        have d1 : (i : Int) < 150 := by omega
        have i0 : (0 : Int) ≤ (i : Int) := by omega
        have hgk : 0 < gk := by have := HMM.out; have := HI.out; omega
        obtain ⟨⟨x1, x2⟩, hx⟩ : ∃ x, l[i]? = some x := ⟨_, List.getElem?_eq_getElem (by rw [HL0.out]; exact hlt)⟩
        rcases HA.out with h0 | ⟨b, off, rfl, hb, hc⟩
        · rw [h0] at hx; cases hx
        obtain ⟨hc1, hc2, hr1, hr2⟩ := hc i _ hx
        dsimp only at hc1 hc2 hr1 hr2
        have hcell1 := (HB.out.cell (p := ⟨b, off + i * 2, none⟩) hb).trans hc1
        have hcell2 := (HB.out.cell (p := ⟨b, off + i * 2 + 1, none⟩) hb).trans hc2
        obtain ⟨k, hk, hk40⟩ : ∃ k : Nat, x2 % 40 = (k : Int) ∧ k < 40 := ⟨(x2 % 40).toNat, by omega, by omega⟩
        have HBN := Lib.hid (fun W => Bring_any x2 40 W hr2 (by omega))
        have HBK := Lib.hid (fun W => Bring_any x1 5 W hr1 (by omega))
        rw [hk] at HBN
        have ik0 : (0 : Int) ≤ (k : Int) := by omega
        have ik1 : (k : Int) < 40 := by omega
        have h5 : x1 % 5 = 0 ∨ x1 % 5 = 1 ∨ x1 % 5 = 2 ∨ x1 % 5 = 3 ∨ x1 % 5 = 4 := by omega
        clear hc hc1 hc2 hr1 hr2 hx hk hb
        rcases h5 with hc5 | hc5 | hc5 | hc5 | hc5
        · rw [hc5] at HBK
          go_wp2_with fail
          refine (HBN.out wr).mono ?_
          rintro e w_ ⟨rfl, rfl⟩
          go_wp2_with fail
          refine (HBK.out wr).mono ?_
          rintro e w_ ⟨rfl, rfl⟩
          clear hcell1 hcell2 hc5
          go_wp2_with fail
          refine (id_any k (k : Int) wr rfl (by omega)).mono ?_
          rintro e v1 ⟨rfl, hb⟩
          replace HB := Lib.hid (HB.out.trans (hb.mono HB.out.size))
          replace HP := Lib.hid (HP.out.on hb)
          replace HL := Lib.hid (HL.out.on hb)
          replace HE := Lib.hid (HE.out.on hb)
          clear hb
          go_wp2_with fail
          refine (Call_pi k (k : Int) v1 HP.out (by omega)).mono ?_
          rintro e v2 ⟨he, hp, hk⟩
          replace HB := Lib.hid (HB.out.trans (hk.below.mono HB2.out))
          replace HL := Lib.hid (hk.bk HL.out (.inl rfl))
          replace HE := Lib.hid (hk.bk HE.out (.inr rfl))
          have HPn := Lib.hid hp
          clear hp hk HP
          have HP := HPn
          clear HPn
          obtain ⟨r, hr⟩ : ∃ r, (s.call (numI k) (k : Int)).1 = r := ⟨_, rfl⟩
          rw [hr] at he
          subst he
          rcases HO.out.lay hk40 with ⟨h1, h2⟩ | ⟨h1, h2⟩
          · have hr0 : r = 0 := by rw [← hr]; exact h1
            subst hr0
            have HO2 := Lib.hid h2
            clear h1 h2 hr HO
            obtain ⟨S_, hS_⟩ : ∃ x, x = (s.call (numI k) (k : Int)).2 := ⟨_, rfl⟩
            rw [← hS_] at HO2 HP
            clear hS_
            have HO := HO2
            clear HO2
            obtain ⟨F_, hF_⟩ : ∃ e, laid k = e := ⟨_, rfl⟩
            have HFK : Hid ((laid k : Int) = (F_ : Int)) := Lib.hid (by rw [hF_])
            have hFb : F_ ≤ 150 := by have := HLB0.out k hk40; omega
            have xl : v2.cell? ⟨gl, k, none⟩ = some (.int .i64 (F_ : Int)) := by rw [← HFK.out]; exact HL.out.c k (arr_get laid hk40)
            have fl := HL.out.fr k
            go_upto_region 26 with (fail)
            clear xl fl
            have hbt : But gl v2 (v2.setCell ⟨gl, k, none⟩ (.int .i64 ((F_ : Int) + 1))) := setCell_but _ _ _ _
            have hst : BK (v2.setCell ⟨gl, k, none⟩ (.int .i64 ((F_ : Int) + 1))) gl 60 (arr (Pst.up laid k)) := HL.out.set k _ (arr_up laid k _ (by rw [HFK.out]))
            replace HP := Lib.hid (HP.out.but hbt (.inl rfl) HGL.out)
            replace HE := Lib.hid (HE.out.but hbt HGN.out.symm)
            replace HB := Lib.hid (hbt.below HB.out (by have := HGL.out; have := HB2.out; omega) HB.out.size)
            clear hbt HL
            have HL := Lib.hid hst
            clear hst
            generalize v2.setCell ⟨gl, k, none⟩ (.int .i64 ((F_ : Int) + 1)) = v3 at *
            have HLB : Hid (∀ j, j < 40 → (Pst.up laid k) j ≤ i + 1) := Lib.hid (fun j hj => by have := HLB0.out j hj; unfold Pst.up; split <;> omega)
            generalize (Pst.up laid k) = Lf at *
            generalize (ended) = Ef at *
            clear hF_ HFK hFb
            go_upto_region 26 with (fail)
            have hhs := HO.out.has hk40
            have hle := HO.out.le' hk40
            obtain ⟨E_, hE_⟩ : ∃ e, Ef k = e := ⟨_, rfl⟩
            obtain ⟨L_, hL_⟩ : ∃ e, Lf k = e := ⟨_, rfl⟩
            rw [hE_, hL_] at hhs hle
            have HEK : Hid ((Ef k : Int) = (E_ : Int)) := Lib.hid (by rw [hE_])
            have HLK : Hid ((Lf k : Int) = (L_ : Int)) := Lib.hid (by rw [hL_])
            obtain ⟨bb, hbb⟩ : ∃ b, decide (E_ < L_) = b := ⟨_, rfl⟩
            rw [hbb] at hhs
            have HHS := Lib.hid hhs
            have hb1 : decide ((E_ : Int) < (L_ : Int)) = bb := by rw [← hbb]; simp
            have hb3 : decide ((L_ : Int) < (E_ : Int)) = false := by simp; omega
            have hb4 : decide (L_ < E_) = false := by simp; omega
            clear hhs hle hE_ hL_
            have hb2 := hbb
            clear hbb
            refine start_ (n := 21) (S := (fun W => BK W gl 60 (arr Lf) ∧ BK W ge 60 (arr Ef))) (ds := []) #[false, false, false, false, false, false, false, false, false, false, false, false, false, false, false, false, false, false, false, false, false] (by kernel_rfl) rfl rfl ⟨HL.out.on (Below.refl _ _).drew, HE.out.on (Below.refl _ _).drew⟩ (fun hHeld => ?_)
            have hbd := (Below.refl v3.heap.size v3).drew
            replace HP := Lib.hid (HP.out.on hbd)
            replace HL := Lib.hid (HL.out.on hbd)
            replace HE := Lib.hid (HE.out.on hbd)
            replace HB := Lib.hid (HB.out.trans (hbd.mono HB.out.size))
            clear hbd
            generalize v3.drew = v3d at *
            refine pure_ (i := 0) (N := some 128) (v := ?_) (a' := ?_) #[true, false, false, false, false, false, false, false, false, false, false, false, false, false, false, false, false, false, false, false, false] rfl rfl (by kernel_rfl) (fun _ _ _ h => h) (Or.inl ⟨by rfl, ?_⟩) ?_ ?_
            rotate_left
            · intro w'; go_simp; with_reducible rfl
            rotate_left
            · simp only [Act.put, List.setIfInBounds_toArray, List.set_cons_zero, List.set_cons_succ, i64_w, i32_w]; rfl
            refine pure_ (i := 1) (N := some 129) (v := ?_) (a' := ?_) #[true, true, false, false, false, false, false, false, false, false, false, false, false, false, false, false, false, false, false, false, false] rfl rfl (by kernel_rfl) (fun _ _ _ h => h) (Or.inl ⟨by rfl, ?_⟩) ?_ ?_
            rotate_left
            · intro w'; go_simp; with_reducible rfl
            rotate_left
            · simp only [Act.put, List.setIfInBounds_toArray, List.set_cons_zero, List.set_cons_succ, i64_w, i32_w]; rfl
            refine pure_ (i := 3) (N := some 131) (v := ?_) (a' := ?_) #[true, true, false, true, false, false, false, false, false, false, false, false, false, false, false, false, false, false, false, false, false] rfl rfl (by kernel_rfl) (fun _ _ _ h => h) (Or.inl ⟨by rfl, ?_⟩) ?_ ?_
            rotate_left
            · intro w'; go_simp; with_reducible rfl
            rotate_left
            · simp only [Act.put, List.setIfInBounds_toArray, List.set_cons_zero, List.set_cons_succ, i64_w, i32_w]; rfl
            refine pure_ (i := 4) (N := some 132) (v := ?_) (a' := ?_) #[true, true, false, true, true, false, false, false, false, false, false, false, false, false, false, false, false, false, false, false, false] rfl rfl (by kernel_rfl) (fun _ _ _ h => h) (Or.inl ⟨by rfl, ?_⟩) ?_ ?_
            rotate_left
            · intro w'; go_simp; with_reducible rfl
            rotate_left
            · simp only [Act.put, List.setIfInBounds_toArray, List.set_cons_zero, List.set_cons_succ, i64_w, i32_w]; rfl
            refine take_ (i := 2) (N := some 130) (v := ?_) (a' := ?_) #[true, true, true, true, true, false, false, false, false, false, false, false, false, false, false, false, false, false, false, false, false] rfl rfl (by kernel_rfl) (fun _ _ _ h => h) (Or.inl ⟨by rfl, ?_⟩) hHeld ?_ ?_
            rotate_left
            · intro w' hh; have t := BK.c hh.2 k (arr_get Ef hk40); rw [HEK.out] at t; clear hh; go_simp; with_reducible rfl
            rotate_left
            · simp only [Act.put, List.setIfInBounds_toArray, List.set_cons_zero, List.set_cons_succ, i64_w, i32_w]; rfl
            refine take_ (i := 5) (N := some 133) (v := ?_) (a' := ?_) #[true, true, true, true, true, true, false, false, false, false, false, false, false, false, false, false, false, false, false, false, false] rfl rfl (by kernel_rfl) (fun _ _ _ h => h) (Or.inl ⟨by rfl, ?_⟩) hHeld ?_ ?_
            rotate_left
            · intro w' hh; have t := BK.c hh.1 k (arr_get Lf hk40); rw [HLK.out] at t; clear hh; go_simp; with_reducible rfl
            rotate_left
            · simp only [Act.put, List.setIfInBounds_toArray, List.set_cons_zero, List.set_cons_succ, i64_w, i32_w]; rfl
            refine pure_ (i := 6) (N := some 134) (v := ?_) (a' := ?_) #[true, true, true, true, true, true, true, false, false, false, false, false, false, false, false, false, false, false, false, false, false] rfl rfl (by kernel_rfl) (fun _ _ _ h => h) (Or.inl ⟨by rfl, ?_⟩) ?_ ?_
            rotate_left
            · intro w'; go_simp; with_reducible rfl
            rotate_left
            · simp only [Act.put, List.setIfInBounds_toArray, List.set_cons_zero, List.set_cons_succ, i64_w, i32_w]; rfl
            refine pure_ (i := 7) (N := some 135) (v := ?_) (a' := ?_) #[true, true, true, true, true, true, true, true, false, false, false, false, false, false, false, false, false, false, false, false, false] rfl rfl (by kernel_rfl) (fun _ _ _ h => h) (Or.inl ⟨by rfl, ?_⟩) ?_ ?_
            rotate_left
            · intro w'; go_simp; with_reducible rfl
            rotate_left
            · simp only [Act.put, List.setIfInBounds_toArray, List.set_cons_zero, List.set_cons_succ, i64_w, i32_w]; rfl
            refine pure_ (i := 8) (N := some 136) (v := ?_) (a' := ?_) #[true, true, true, true, true, true, true, true, true, false, false, false, false, false, false, false, false, false, false, false, false] rfl rfl (by kernel_rfl) (fun _ _ _ h => h) (Or.inl ⟨by rfl, ?_⟩) ?_ ?_
            rotate_left
            · intro w'; go_simp; with_reducible rfl
            rotate_left
            · simp only [Act.put, List.setIfInBounds_toArray, List.set_cons_zero, List.set_cons_succ, i64_w, i32_w]; rfl
            refine pure_ (i := 9) (N := some 137) (v := ?_) (a' := ?_) #[true, true, true, true, true, true, true, true, true, true, false, false, false, false, false, false, false, false, false, false, false] rfl rfl (by kernel_rfl) (fun _ _ _ h => h) (Or.inl ⟨by rfl, ?_⟩) ?_ ?_
            rotate_left
            · intro w'; go_simp; with_reducible rfl
            rotate_left
            · simp only [Act.put, List.setIfInBounds_toArray, List.set_cons_zero, List.set_cons_succ, i64_w, i32_w]; rfl
            refine pure_ (i := 12) (N := some 140) (v := ?_) (a' := ?_) #[true, true, true, true, true, true, true, true, true, true, false, false, true, false, false, false, false, false, false, false, false] rfl rfl (by kernel_rfl) (fun _ _ _ h => h) (Or.inl ⟨by rfl, ?_⟩) ?_ ?_
            rotate_left
            · intro w'; go_simp; with_reducible rfl
            rotate_left
            · simp only [Act.put, List.setIfInBounds_toArray, List.set_cons_zero, List.set_cons_succ, i64_w, i32_w]; rfl
            refine pure_ (i := 13) (N := some 141) (v := ?_) (a' := ?_) #[true, true, true, true, true, true, true, true, true, true, false, false, true, true, false, false, false, false, false, false, false] rfl rfl (by kernel_rfl) (fun _ _ _ h => h) (Or.inl ⟨by rfl, ?_⟩) ?_ ?_
            rotate_left
            · intro w'; go_simp; with_reducible rfl
            rotate_left
            · simp only [Act.put, List.setIfInBounds_toArray, List.set_cons_zero, List.set_cons_succ, i64_w, i32_w]; rfl
            refine pure_ (i := 15) (N := some 143) (v := ?_) (a' := ?_) #[true, true, true, true, true, true, true, true, true, true, false, false, true, true, false, true, false, false, false, false, false] rfl rfl (by kernel_rfl) (fun _ _ _ h => h) (Or.inl ⟨by rfl, ?_⟩) ?_ ?_
            rotate_left
            · intro w'; go_simp; with_reducible rfl
            rotate_left
            · simp only [Act.put, List.setIfInBounds_toArray, List.set_cons_zero, List.set_cons_succ, i64_w, i32_w]; rfl
            refine pure_ (i := 16) (N := some 144) (v := ?_) (a' := ?_) #[true, true, true, true, true, true, true, true, true, true, false, false, true, true, false, true, true, false, false, false, false] rfl rfl (by kernel_rfl) (fun _ _ _ h => h) (Or.inl ⟨by rfl, ?_⟩) ?_ ?_
            rotate_left
            · intro w'; go_simp; with_reducible rfl
            rotate_left
            · simp only [Act.put, List.setIfInBounds_toArray, List.set_cons_zero, List.set_cons_succ, i64_w, i32_w]; rfl
            refine take_ (i := 14) (N := some 142) (v := ?_) (a' := ?_) #[true, true, true, true, true, true, true, true, true, true, false, false, true, true, true, true, true, false, false, false, false] rfl rfl (by kernel_rfl) (fun _ _ _ h => h) (Or.inl ⟨by rfl, ?_⟩) hHeld ?_ ?_
            rotate_left
            · intro w' hh; have t := BK.c hh.2 k (arr_get Ef hk40); rw [HEK.out] at t; clear hh; go_simp; with_reducible rfl
            rotate_left
            · simp only [Act.put, List.setIfInBounds_toArray, List.set_cons_zero, List.set_cons_succ, i64_w, i32_w]; rfl
            refine take_ (i := 17) (N := some 145) (v := ?_) (a' := ?_) #[true, true, true, true, true, true, true, true, true, true, false, false, true, true, true, true, true, true, false, false, false] rfl rfl (by kernel_rfl) (fun _ _ _ h => h) (Or.inl ⟨by rfl, ?_⟩) hHeld ?_ ?_
            rotate_left
            · intro w' hh; have t := BK.c hh.1 k (arr_get Lf hk40); rw [HLK.out] at t; clear hh; go_simp; with_reducible rfl
            rotate_left
            · simp only [Act.put, List.setIfInBounds_toArray, List.set_cons_zero, List.set_cons_succ, i64_w, i32_w]; rfl
            refine pure_ (i := 18) (N := some 146) (v := ?_) (a' := ?_) #[true, true, true, true, true, true, true, true, true, true, false, false, true, true, true, true, true, true, true, false, false] rfl rfl (by kernel_rfl) (fun _ _ _ h => h) (Or.inl ⟨by rfl, ?_⟩) ?_ ?_
            rotate_left
            · intro w'; go_simp; with_reducible rfl
            rotate_left
            · simp only [Act.put, List.setIfInBounds_toArray, List.set_cons_zero, List.set_cons_succ, i64_w, i32_w]; rfl
            refine one_ (i := 10) (N := some 138) #[true, true, true, true, true, true, true, true, true, true, true, false, true, true, true, true, true, true, true, false, false] rfl rfl (by kernel_rfl) (by decide) (fun K hK => ?_)
            refine goes_ Tryz.func42 (by kernel_rfl) rfl #[.int .i64 (k : Int)] (by rfl) rfl rfl (by (try simp only [List.map_toArray, List.map_cons, List.map_nil]); first | done | rfl) ?_
            refine (id_any k (k : Int) v3d rfl (by omega)).mono ?_
            rintro e w_i ⟨rfl, hb⟩
            refine ⟨_, rfl, ?_⟩
            refine hK.out _ _ ⟨hHeld.1.on hb, hHeld.2.on hb⟩ (fun hHeld2 => ?_)
            clear hK K hHeld
            have hHeld := hHeld2
            clear hHeld2
            replace HP := Lib.hid (HP.out.on hb)
            replace HL := Lib.hid (HL.out.on hb)
            replace HE := Lib.hid (HE.out.on hb)
            replace HB := Lib.hid (HB.out.trans (hb.mono HB.out.size))
            clear hb
            refine norm_ (a' := ?_) ?_ ?_
            rotate_left
            · show Act.put _ (some 138) _ = _; simp only [Act.put, List.setIfInBounds_toArray, List.set_cons_zero, List.set_cons_succ, i64_w, i32_w]; rfl
            refine one_ (i := 11) (N := some 139) #[true, true, true, true, true, true, true, true, true, true, true, true, true, true, true, true, true, true, true, false, false] rfl rfl (by kernel_rfl) (by decide) (fun K hK => ?_)
            refine goes_ Tryz.func47 (by kernel_rfl) rfl #[.pointer (some ⟨pb, 0, none⟩), .agg (LId.cells (numI k)).toArray] (by rfl) rfl rfl (by (try simp only [List.map_toArray, List.map_cons, List.map_nil]); first | done | rfl) ?_
            refine (Has_pi k w_i HP.out (by omega)).mono ?_
            rintro e w_h ⟨rfl, hb⟩
            rw [HHS.out]
            refine ⟨_, rfl, ?_⟩
            refine hK.out _ _ ⟨hHeld.1.on hb, hHeld.2.on hb⟩ (fun hHeld2 => ?_)
            clear hK K hHeld hHeld2
            replace HP := Lib.hid (HP.out.on hb)
            replace HL := Lib.hid (HL.out.on hb)
            replace HE := Lib.hid (HE.out.on hb)
            replace HB := Lib.hid (HB.out.trans (hb.mono HB.out.size))
            clear hb
            refine norm_ (a' := ?_) ?_ ?_
            rotate_left
            · show Act.put _ (some 139) _ = _; simp only [Act.put, List.setIfInBounds_toArray, List.set_cons_zero, List.set_cons_succ, i64_w, i32_w]; rfl
            refine pure_ (i := 19) (N := some 147) (v := ?_) (a' := ?_) #[true, true, true, true, true, true, true, true, true, true, true, true, true, true, true, true, true, true, true, true, false] rfl rfl (by kernel_rfl) (fun _ _ _ h => h) (Or.inl ⟨by rfl, ?_⟩) ?_ ?_
            rotate_left
            · intro w'; go_simp; with_reducible rfl
            rotate_left
            · simp only [Act.put, List.setIfInBounds_toArray, List.set_cons_zero, List.set_cons_succ, i64_w, i32_w]; rfl
            refine pure_ (i := 20) (N := some 148) (v := ?_) (a' := ?_) #[true, true, true, true, true, true, true, true, true, true, true, true, true, true, true, true, true, true, true, true, true] rfl rfl (by kernel_rfl) (fun _ _ _ h => h) (Or.inl ⟨by rfl, ?_⟩) ?_ ?_
            rotate_left
            · intro w'; go_simp; with_reducible rfl
            rotate_left
            · simp only [Act.put, List.setIfInBounds_toArray, List.set_cons_zero, List.set_cons_succ, i64_w, i32_w]; rfl
            refine done_ (by kernel_rfl) ?_
            clear hb1 hb2 hb3 hb4 HHS HEK HLK
            go_wp2
            go_roundg (gk - 1)
            case measure => omega
            case rel => exact ⟨S_, Lf, Ef, i + 1, by have := HI.out; omega, by go_num, rfl, HO, HP, HL, HE, HLB, HB⟩
          · have q0 : (r == 0) = false := by rw [beq_eq_false_iff_ne, ← hr]; exact h1
            rw [h2] at HP
            clear h1 h2 hr
            obtain ⟨S_, hS_⟩ : ∃ x, x = s := ⟨_, rfl⟩
            rw [← hS_] at HO HP
            clear hS_
            have HLB : Hid (∀ j, j < 40 → (laid) j ≤ i + 1) := Lib.hid (fun j hj => Nat.le_succ_of_le (HLB0.out j hj))
            generalize (laid) = Lf at *
            generalize (ended) = Ef at *
            go_upto_region 26 with (fail)
            have hhs := HO.out.has hk40
            have hle := HO.out.le' hk40
            obtain ⟨E_, hE_⟩ : ∃ e, Ef k = e := ⟨_, rfl⟩
            obtain ⟨L_, hL_⟩ : ∃ e, Lf k = e := ⟨_, rfl⟩
            rw [hE_, hL_] at hhs hle
            have HEK : Hid ((Ef k : Int) = (E_ : Int)) := Lib.hid (by rw [hE_])
            have HLK : Hid ((Lf k : Int) = (L_ : Int)) := Lib.hid (by rw [hL_])
            obtain ⟨bb, hbb⟩ : ∃ b, decide (E_ < L_) = b := ⟨_, rfl⟩
            rw [hbb] at hhs
            have HHS := Lib.hid hhs
            have hb1 : decide ((E_ : Int) < (L_ : Int)) = bb := by rw [← hbb]; simp
            have hb3 : decide ((L_ : Int) < (E_ : Int)) = false := by simp; omega
            have hb4 : decide (L_ < E_) = false := by simp; omega
            clear hhs hle hE_ hL_
            have hb2 := hbb
            clear hbb
            refine start_ (n := 21) (S := (fun W => BK W gl 60 (arr Lf) ∧ BK W ge 60 (arr Ef))) (ds := []) #[false, false, false, false, false, false, false, false, false, false, false, false, false, false, false, false, false, false, false, false, false] (by kernel_rfl) rfl rfl ⟨HL.out.on (Below.refl _ _).drew, HE.out.on (Below.refl _ _).drew⟩ (fun hHeld => ?_)
            have hbd := (Below.refl v2.heap.size v2).drew
            replace HP := Lib.hid (HP.out.on hbd)
            replace HL := Lib.hid (HL.out.on hbd)
            replace HE := Lib.hid (HE.out.on hbd)
            replace HB := Lib.hid (HB.out.trans (hbd.mono HB.out.size))
            clear hbd
            generalize v2.drew = v2d at *
            refine pure_ (i := 0) (N := some 128) (v := ?_) (a' := ?_) #[true, false, false, false, false, false, false, false, false, false, false, false, false, false, false, false, false, false, false, false, false] rfl rfl (by kernel_rfl) (fun _ _ _ h => h) (Or.inl ⟨by rfl, ?_⟩) ?_ ?_
            rotate_left
            · intro w'; go_simp; with_reducible rfl
            rotate_left
            · simp only [Act.put, List.setIfInBounds_toArray, List.set_cons_zero, List.set_cons_succ, i64_w, i32_w]; rfl
            refine pure_ (i := 1) (N := some 129) (v := ?_) (a' := ?_) #[true, true, false, false, false, false, false, false, false, false, false, false, false, false, false, false, false, false, false, false, false] rfl rfl (by kernel_rfl) (fun _ _ _ h => h) (Or.inl ⟨by rfl, ?_⟩) ?_ ?_
            rotate_left
            · intro w'; go_simp; with_reducible rfl
            rotate_left
            · simp only [Act.put, List.setIfInBounds_toArray, List.set_cons_zero, List.set_cons_succ, i64_w, i32_w]; rfl
            refine pure_ (i := 3) (N := some 131) (v := ?_) (a' := ?_) #[true, true, false, true, false, false, false, false, false, false, false, false, false, false, false, false, false, false, false, false, false] rfl rfl (by kernel_rfl) (fun _ _ _ h => h) (Or.inl ⟨by rfl, ?_⟩) ?_ ?_
            rotate_left
            · intro w'; go_simp; with_reducible rfl
            rotate_left
            · simp only [Act.put, List.setIfInBounds_toArray, List.set_cons_zero, List.set_cons_succ, i64_w, i32_w]; rfl
            refine pure_ (i := 4) (N := some 132) (v := ?_) (a' := ?_) #[true, true, false, true, true, false, false, false, false, false, false, false, false, false, false, false, false, false, false, false, false] rfl rfl (by kernel_rfl) (fun _ _ _ h => h) (Or.inl ⟨by rfl, ?_⟩) ?_ ?_
            rotate_left
            · intro w'; go_simp; with_reducible rfl
            rotate_left
            · simp only [Act.put, List.setIfInBounds_toArray, List.set_cons_zero, List.set_cons_succ, i64_w, i32_w]; rfl
            refine take_ (i := 2) (N := some 130) (v := ?_) (a' := ?_) #[true, true, true, true, true, false, false, false, false, false, false, false, false, false, false, false, false, false, false, false, false] rfl rfl (by kernel_rfl) (fun _ _ _ h => h) (Or.inl ⟨by rfl, ?_⟩) hHeld ?_ ?_
            rotate_left
            · intro w' hh; have t := BK.c hh.2 k (arr_get Ef hk40); rw [HEK.out] at t; clear hh; go_simp; with_reducible rfl
            rotate_left
            · simp only [Act.put, List.setIfInBounds_toArray, List.set_cons_zero, List.set_cons_succ, i64_w, i32_w]; rfl
            refine take_ (i := 5) (N := some 133) (v := ?_) (a' := ?_) #[true, true, true, true, true, true, false, false, false, false, false, false, false, false, false, false, false, false, false, false, false] rfl rfl (by kernel_rfl) (fun _ _ _ h => h) (Or.inl ⟨by rfl, ?_⟩) hHeld ?_ ?_
            rotate_left
            · intro w' hh; have t := BK.c hh.1 k (arr_get Lf hk40); rw [HLK.out] at t; clear hh; go_simp; with_reducible rfl
            rotate_left
            · simp only [Act.put, List.setIfInBounds_toArray, List.set_cons_zero, List.set_cons_succ, i64_w, i32_w]; rfl
            refine pure_ (i := 6) (N := some 134) (v := ?_) (a' := ?_) #[true, true, true, true, true, true, true, false, false, false, false, false, false, false, false, false, false, false, false, false, false] rfl rfl (by kernel_rfl) (fun _ _ _ h => h) (Or.inl ⟨by rfl, ?_⟩) ?_ ?_
            rotate_left
            · intro w'; go_simp; with_reducible rfl
            rotate_left
            · simp only [Act.put, List.setIfInBounds_toArray, List.set_cons_zero, List.set_cons_succ, i64_w, i32_w]; rfl
            refine pure_ (i := 7) (N := some 135) (v := ?_) (a' := ?_) #[true, true, true, true, true, true, true, true, false, false, false, false, false, false, false, false, false, false, false, false, false] rfl rfl (by kernel_rfl) (fun _ _ _ h => h) (Or.inl ⟨by rfl, ?_⟩) ?_ ?_
            rotate_left
            · intro w'; go_simp; with_reducible rfl
            rotate_left
            · simp only [Act.put, List.setIfInBounds_toArray, List.set_cons_zero, List.set_cons_succ, i64_w, i32_w]; rfl
            refine pure_ (i := 8) (N := some 136) (v := ?_) (a' := ?_) #[true, true, true, true, true, true, true, true, true, false, false, false, false, false, false, false, false, false, false, false, false] rfl rfl (by kernel_rfl) (fun _ _ _ h => h) (Or.inl ⟨by rfl, ?_⟩) ?_ ?_
            rotate_left
            · intro w'; go_simp; with_reducible rfl
            rotate_left
            · simp only [Act.put, List.setIfInBounds_toArray, List.set_cons_zero, List.set_cons_succ, i64_w, i32_w]; rfl
            refine pure_ (i := 9) (N := some 137) (v := ?_) (a' := ?_) #[true, true, true, true, true, true, true, true, true, true, false, false, false, false, false, false, false, false, false, false, false] rfl rfl (by kernel_rfl) (fun _ _ _ h => h) (Or.inl ⟨by rfl, ?_⟩) ?_ ?_
            rotate_left
            · intro w'; go_simp; with_reducible rfl
            rotate_left
            · simp only [Act.put, List.setIfInBounds_toArray, List.set_cons_zero, List.set_cons_succ, i64_w, i32_w]; rfl
            refine pure_ (i := 12) (N := some 140) (v := ?_) (a' := ?_) #[true, true, true, true, true, true, true, true, true, true, false, false, true, false, false, false, false, false, false, false, false] rfl rfl (by kernel_rfl) (fun _ _ _ h => h) (Or.inl ⟨by rfl, ?_⟩) ?_ ?_
            rotate_left
            · intro w'; go_simp; with_reducible rfl
            rotate_left
            · simp only [Act.put, List.setIfInBounds_toArray, List.set_cons_zero, List.set_cons_succ, i64_w, i32_w]; rfl
            refine pure_ (i := 13) (N := some 141) (v := ?_) (a' := ?_) #[true, true, true, true, true, true, true, true, true, true, false, false, true, true, false, false, false, false, false, false, false] rfl rfl (by kernel_rfl) (fun _ _ _ h => h) (Or.inl ⟨by rfl, ?_⟩) ?_ ?_
            rotate_left
            · intro w'; go_simp; with_reducible rfl
            rotate_left
            · simp only [Act.put, List.setIfInBounds_toArray, List.set_cons_zero, List.set_cons_succ, i64_w, i32_w]; rfl
            refine pure_ (i := 15) (N := some 143) (v := ?_) (a' := ?_) #[true, true, true, true, true, true, true, true, true, true, false, false, true, true, false, true, false, false, false, false, false] rfl rfl (by kernel_rfl) (fun _ _ _ h => h) (Or.inl ⟨by rfl, ?_⟩) ?_ ?_
            rotate_left
            · intro w'; go_simp; with_reducible rfl
            rotate_left
            · simp only [Act.put, List.setIfInBounds_toArray, List.set_cons_zero, List.set_cons_succ, i64_w, i32_w]; rfl
            refine pure_ (i := 16) (N := some 144) (v := ?_) (a' := ?_) #[true, true, true, true, true, true, true, true, true, true, false, false, true, true, false, true, true, false, false, false, false] rfl rfl (by kernel_rfl) (fun _ _ _ h => h) (Or.inl ⟨by rfl, ?_⟩) ?_ ?_
            rotate_left
            · intro w'; go_simp; with_reducible rfl
            rotate_left
            · simp only [Act.put, List.setIfInBounds_toArray, List.set_cons_zero, List.set_cons_succ, i64_w, i32_w]; rfl
            refine take_ (i := 14) (N := some 142) (v := ?_) (a' := ?_) #[true, true, true, true, true, true, true, true, true, true, false, false, true, true, true, true, true, false, false, false, false] rfl rfl (by kernel_rfl) (fun _ _ _ h => h) (Or.inl ⟨by rfl, ?_⟩) hHeld ?_ ?_
            rotate_left
            · intro w' hh; have t := BK.c hh.2 k (arr_get Ef hk40); rw [HEK.out] at t; clear hh; go_simp; with_reducible rfl
            rotate_left
            · simp only [Act.put, List.setIfInBounds_toArray, List.set_cons_zero, List.set_cons_succ, i64_w, i32_w]; rfl
            refine take_ (i := 17) (N := some 145) (v := ?_) (a' := ?_) #[true, true, true, true, true, true, true, true, true, true, false, false, true, true, true, true, true, true, false, false, false] rfl rfl (by kernel_rfl) (fun _ _ _ h => h) (Or.inl ⟨by rfl, ?_⟩) hHeld ?_ ?_
            rotate_left
            · intro w' hh; have t := BK.c hh.1 k (arr_get Lf hk40); rw [HLK.out] at t; clear hh; go_simp; with_reducible rfl
            rotate_left
            · simp only [Act.put, List.setIfInBounds_toArray, List.set_cons_zero, List.set_cons_succ, i64_w, i32_w]; rfl
            refine pure_ (i := 18) (N := some 146) (v := ?_) (a' := ?_) #[true, true, true, true, true, true, true, true, true, true, false, false, true, true, true, true, true, true, true, false, false] rfl rfl (by kernel_rfl) (fun _ _ _ h => h) (Or.inl ⟨by rfl, ?_⟩) ?_ ?_
            rotate_left
            · intro w'; go_simp; with_reducible rfl
            rotate_left
            · simp only [Act.put, List.setIfInBounds_toArray, List.set_cons_zero, List.set_cons_succ, i64_w, i32_w]; rfl
            refine one_ (i := 10) (N := some 138) #[true, true, true, true, true, true, true, true, true, true, true, false, true, true, true, true, true, true, true, false, false] rfl rfl (by kernel_rfl) (by decide) (fun K hK => ?_)
            refine goes_ Tryz.func42 (by kernel_rfl) rfl #[.int .i64 (k : Int)] (by rfl) rfl rfl (by (try simp only [List.map_toArray, List.map_cons, List.map_nil]); first | done | rfl) ?_
            refine (id_any k (k : Int) v2d rfl (by omega)).mono ?_
            rintro e w_i ⟨rfl, hb⟩
            refine ⟨_, rfl, ?_⟩
            refine hK.out _ _ ⟨hHeld.1.on hb, hHeld.2.on hb⟩ (fun hHeld2 => ?_)
            clear hK K hHeld
            have hHeld := hHeld2
            clear hHeld2
            replace HP := Lib.hid (HP.out.on hb)
            replace HL := Lib.hid (HL.out.on hb)
            replace HE := Lib.hid (HE.out.on hb)
            replace HB := Lib.hid (HB.out.trans (hb.mono HB.out.size))
            clear hb
            refine norm_ (a' := ?_) ?_ ?_
            rotate_left
            · show Act.put _ (some 138) _ = _; simp only [Act.put, List.setIfInBounds_toArray, List.set_cons_zero, List.set_cons_succ, i64_w, i32_w]; rfl
            refine one_ (i := 11) (N := some 139) #[true, true, true, true, true, true, true, true, true, true, true, true, true, true, true, true, true, true, true, false, false] rfl rfl (by kernel_rfl) (by decide) (fun K hK => ?_)
            refine goes_ Tryz.func47 (by kernel_rfl) rfl #[.pointer (some ⟨pb, 0, none⟩), .agg (LId.cells (numI k)).toArray] (by rfl) rfl rfl (by (try simp only [List.map_toArray, List.map_cons, List.map_nil]); first | done | rfl) ?_
            refine (Has_pi k w_i HP.out (by omega)).mono ?_
            rintro e w_h ⟨rfl, hb⟩
            rw [HHS.out]
            refine ⟨_, rfl, ?_⟩
            refine hK.out _ _ ⟨hHeld.1.on hb, hHeld.2.on hb⟩ (fun hHeld2 => ?_)
            clear hK K hHeld hHeld2
            replace HP := Lib.hid (HP.out.on hb)
            replace HL := Lib.hid (HL.out.on hb)
            replace HE := Lib.hid (HE.out.on hb)
            replace HB := Lib.hid (HB.out.trans (hb.mono HB.out.size))
            clear hb
            refine norm_ (a' := ?_) ?_ ?_
            rotate_left
            · show Act.put _ (some 139) _ = _; simp only [Act.put, List.setIfInBounds_toArray, List.set_cons_zero, List.set_cons_succ, i64_w, i32_w]; rfl
            refine pure_ (i := 19) (N := some 147) (v := ?_) (a' := ?_) #[true, true, true, true, true, true, true, true, true, true, true, true, true, true, true, true, true, true, true, true, false] rfl rfl (by kernel_rfl) (fun _ _ _ h => h) (Or.inl ⟨by rfl, ?_⟩) ?_ ?_
            rotate_left
            · intro w'; go_simp; with_reducible rfl
            rotate_left
            · simp only [Act.put, List.setIfInBounds_toArray, List.set_cons_zero, List.set_cons_succ, i64_w, i32_w]; rfl
            refine pure_ (i := 20) (N := some 148) (v := ?_) (a' := ?_) #[true, true, true, true, true, true, true, true, true, true, true, true, true, true, true, true, true, true, true, true, true] rfl rfl (by kernel_rfl) (fun _ _ _ h => h) (Or.inl ⟨by rfl, ?_⟩) ?_ ?_
            rotate_left
            · intro w'; go_simp; with_reducible rfl
            rotate_left
            · simp only [Act.put, List.setIfInBounds_toArray, List.set_cons_zero, List.set_cons_succ, i64_w, i32_w]; rfl
            refine done_ (by kernel_rfl) ?_
            clear hb1 hb2 hb3 hb4 HHS HEK HLK
            go_wp2
            go_roundg (gk - 1)
            case measure => omega
            case rel => exact ⟨S_, Lf, Ef, i + 1, by have := HI.out; omega, by go_num, rfl, HO, HP, HL, HE, HLB, HB⟩
        · rw [hc5] at HBK
          go_wp2_with fail
          refine (HBN.out wr).mono ?_
          rintro e w_ ⟨rfl, rfl⟩
          go_wp2_with fail
          refine (HBK.out wr).mono ?_
          rintro e w_ ⟨rfl, rfl⟩
          clear hcell1 hcell2 hc5
          obtain ⟨m5, hm5⟩ : ∃ m, k % 5 = m := ⟨_, rfl⟩
          have hm55 : m5 < 5 := by omega
          have ht5 : (k : Int).tmod 5 = (m5 : Int) := by rw [Int.tmod_eq_emod_of_nonneg (by omega)]; omega
          have ht6 : (k : Int) % 5 = (m5 : Int) := by omega
          obtain ⟨nmx, hnx⟩ : ∃ x : ByteArray, x = ⟨#[UInt8.ofNat (97 + m5)]⟩ := ⟨_, rfl⟩
          have hcv := conv1 wr (97 + (m5 : Int)) (97 + m5) (by omega) (by omega)
          rw [← hnx] at hcv
          clear hnx hm5
          go_wp2_with fail
          clear hcv ht5 ht6
          have hb := made_end' wr (.cells #[.int .u8 (97 + (m5 : Int))] 5)
          replace HB := Lib.hid (HB.out.trans (hb.mono HB.out.size))
          replace HP := Lib.hid (HP.out.on hb)
          replace HL := Lib.hid (HL.out.on hb)
          replace HE := Lib.hid (HE.out.on hb)
          clear hb
          generalize wr.alloc (.cells #[.int .u8 (97 + (m5 : Int))] 5) = v1 at *
          refine (Note_pi nmx (100 + (k : Int)) v1 HP.out).mono ?_
          rintro e v2 ⟨rfl, hp, hk⟩
          replace HB := Lib.hid (HB.out.trans (hk.below.mono HB2.out))
          replace HL := Lib.hid (hk.bk HL.out (.inl rfl))
          replace HE := Lib.hid (hk.bk HE.out (.inr rfl))
          have HPn := Lib.hid hp
          clear hp hk HP
          have HP := HPn
          clear HPn
          have HO2 := Lib.hid (HO.out.note nmx (show (100 : Int) ≤ 100 + (k : Int) by omega) (show 100 + (k : Int) < 140 by omega))
          obtain ⟨S_, hS_⟩ : ∃ x, x = (s.note nmx (100 + (k : Int))).2 := ⟨_, rfl⟩
          rw [← hS_] at HO2 HP
          clear hS_ HO
          have HO := HO2
          clear HO2
          have HLB : Hid (∀ j, j < 40 → (laid) j ≤ i + 1) := Lib.hid (fun j hj => Nat.le_succ_of_le (HLB0.out j hj))
          generalize (laid) = Lf at *
          generalize (ended) = Ef at *
          generalize (Pst.note s nmx (100 + (k : Int))).1 = r_ at *
          go_upto_region 26 with (fail)
          have hhs := HO.out.has hk40
          have hle := HO.out.le' hk40
          obtain ⟨E_, hE_⟩ : ∃ e, Ef k = e := ⟨_, rfl⟩
          obtain ⟨L_, hL_⟩ : ∃ e, Lf k = e := ⟨_, rfl⟩
          rw [hE_, hL_] at hhs hle
          have HEK : Hid ((Ef k : Int) = (E_ : Int)) := Lib.hid (by rw [hE_])
          have HLK : Hid ((Lf k : Int) = (L_ : Int)) := Lib.hid (by rw [hL_])
          obtain ⟨bb, hbb⟩ : ∃ b, decide (E_ < L_) = b := ⟨_, rfl⟩
          rw [hbb] at hhs
          have HHS := Lib.hid hhs
          have hb1 : decide ((E_ : Int) < (L_ : Int)) = bb := by rw [← hbb]; simp
          have hb3 : decide ((L_ : Int) < (E_ : Int)) = false := by simp; omega
          have hb4 : decide (L_ < E_) = false := by simp; omega
          clear hhs hle hE_ hL_
          have hb2 := hbb
          clear hbb
          refine start_ (n := 21) (S := (fun W => BK W gl 60 (arr Lf) ∧ BK W ge 60 (arr Ef))) (ds := []) #[false, false, false, false, false, false, false, false, false, false, false, false, false, false, false, false, false, false, false, false, false] (by kernel_rfl) rfl rfl ⟨HL.out.on (Below.refl _ _).drew, HE.out.on (Below.refl _ _).drew⟩ (fun hHeld => ?_)
          have hbd := (Below.refl v2.heap.size v2).drew
          replace HP := Lib.hid (HP.out.on hbd)
          replace HL := Lib.hid (HL.out.on hbd)
          replace HE := Lib.hid (HE.out.on hbd)
          replace HB := Lib.hid (HB.out.trans (hbd.mono HB.out.size))
          clear hbd
          generalize v2.drew = v2d at *
          refine pure_ (i := 0) (N := some 128) (v := ?_) (a' := ?_) #[true, false, false, false, false, false, false, false, false, false, false, false, false, false, false, false, false, false, false, false, false] rfl rfl (by kernel_rfl) (fun _ _ _ h => h) (Or.inl ⟨by rfl, ?_⟩) ?_ ?_
          rotate_left
          · intro w'; go_simp; with_reducible rfl
          rotate_left
          · simp only [Act.put, List.setIfInBounds_toArray, List.set_cons_zero, List.set_cons_succ, i64_w, i32_w]; rfl
          refine pure_ (i := 1) (N := some 129) (v := ?_) (a' := ?_) #[true, true, false, false, false, false, false, false, false, false, false, false, false, false, false, false, false, false, false, false, false] rfl rfl (by kernel_rfl) (fun _ _ _ h => h) (Or.inl ⟨by rfl, ?_⟩) ?_ ?_
          rotate_left
          · intro w'; go_simp; with_reducible rfl
          rotate_left
          · simp only [Act.put, List.setIfInBounds_toArray, List.set_cons_zero, List.set_cons_succ, i64_w, i32_w]; rfl
          refine pure_ (i := 3) (N := some 131) (v := ?_) (a' := ?_) #[true, true, false, true, false, false, false, false, false, false, false, false, false, false, false, false, false, false, false, false, false] rfl rfl (by kernel_rfl) (fun _ _ _ h => h) (Or.inl ⟨by rfl, ?_⟩) ?_ ?_
          rotate_left
          · intro w'; go_simp; with_reducible rfl
          rotate_left
          · simp only [Act.put, List.setIfInBounds_toArray, List.set_cons_zero, List.set_cons_succ, i64_w, i32_w]; rfl
          refine pure_ (i := 4) (N := some 132) (v := ?_) (a' := ?_) #[true, true, false, true, true, false, false, false, false, false, false, false, false, false, false, false, false, false, false, false, false] rfl rfl (by kernel_rfl) (fun _ _ _ h => h) (Or.inl ⟨by rfl, ?_⟩) ?_ ?_
          rotate_left
          · intro w'; go_simp; with_reducible rfl
          rotate_left
          · simp only [Act.put, List.setIfInBounds_toArray, List.set_cons_zero, List.set_cons_succ, i64_w, i32_w]; rfl
          refine take_ (i := 2) (N := some 130) (v := ?_) (a' := ?_) #[true, true, true, true, true, false, false, false, false, false, false, false, false, false, false, false, false, false, false, false, false] rfl rfl (by kernel_rfl) (fun _ _ _ h => h) (Or.inl ⟨by rfl, ?_⟩) hHeld ?_ ?_
          rotate_left
          · intro w' hh; have t := BK.c hh.2 k (arr_get Ef hk40); rw [HEK.out] at t; clear hh; go_simp; with_reducible rfl
          rotate_left
          · simp only [Act.put, List.setIfInBounds_toArray, List.set_cons_zero, List.set_cons_succ, i64_w, i32_w]; rfl
          refine take_ (i := 5) (N := some 133) (v := ?_) (a' := ?_) #[true, true, true, true, true, true, false, false, false, false, false, false, false, false, false, false, false, false, false, false, false] rfl rfl (by kernel_rfl) (fun _ _ _ h => h) (Or.inl ⟨by rfl, ?_⟩) hHeld ?_ ?_
          rotate_left
          · intro w' hh; have t := BK.c hh.1 k (arr_get Lf hk40); rw [HLK.out] at t; clear hh; go_simp; with_reducible rfl
          rotate_left
          · simp only [Act.put, List.setIfInBounds_toArray, List.set_cons_zero, List.set_cons_succ, i64_w, i32_w]; rfl
          refine pure_ (i := 6) (N := some 134) (v := ?_) (a' := ?_) #[true, true, true, true, true, true, true, false, false, false, false, false, false, false, false, false, false, false, false, false, false] rfl rfl (by kernel_rfl) (fun _ _ _ h => h) (Or.inl ⟨by rfl, ?_⟩) ?_ ?_
          rotate_left
          · intro w'; go_simp; with_reducible rfl
          rotate_left
          · simp only [Act.put, List.setIfInBounds_toArray, List.set_cons_zero, List.set_cons_succ, i64_w, i32_w]; rfl
          refine pure_ (i := 7) (N := some 135) (v := ?_) (a' := ?_) #[true, true, true, true, true, true, true, true, false, false, false, false, false, false, false, false, false, false, false, false, false] rfl rfl (by kernel_rfl) (fun _ _ _ h => h) (Or.inl ⟨by rfl, ?_⟩) ?_ ?_
          rotate_left
          · intro w'; go_simp; with_reducible rfl
          rotate_left
          · simp only [Act.put, List.setIfInBounds_toArray, List.set_cons_zero, List.set_cons_succ, i64_w, i32_w]; rfl
          refine pure_ (i := 8) (N := some 136) (v := ?_) (a' := ?_) #[true, true, true, true, true, true, true, true, true, false, false, false, false, false, false, false, false, false, false, false, false] rfl rfl (by kernel_rfl) (fun _ _ _ h => h) (Or.inl ⟨by rfl, ?_⟩) ?_ ?_
          rotate_left
          · intro w'; go_simp; with_reducible rfl
          rotate_left
          · simp only [Act.put, List.setIfInBounds_toArray, List.set_cons_zero, List.set_cons_succ, i64_w, i32_w]; rfl
          refine pure_ (i := 9) (N := some 137) (v := ?_) (a' := ?_) #[true, true, true, true, true, true, true, true, true, true, false, false, false, false, false, false, false, false, false, false, false] rfl rfl (by kernel_rfl) (fun _ _ _ h => h) (Or.inl ⟨by rfl, ?_⟩) ?_ ?_
          rotate_left
          · intro w'; go_simp; with_reducible rfl
          rotate_left
          · simp only [Act.put, List.setIfInBounds_toArray, List.set_cons_zero, List.set_cons_succ, i64_w, i32_w]; rfl
          refine pure_ (i := 12) (N := some 140) (v := ?_) (a' := ?_) #[true, true, true, true, true, true, true, true, true, true, false, false, true, false, false, false, false, false, false, false, false] rfl rfl (by kernel_rfl) (fun _ _ _ h => h) (Or.inl ⟨by rfl, ?_⟩) ?_ ?_
          rotate_left
          · intro w'; go_simp; with_reducible rfl
          rotate_left
          · simp only [Act.put, List.setIfInBounds_toArray, List.set_cons_zero, List.set_cons_succ, i64_w, i32_w]; rfl
          refine pure_ (i := 13) (N := some 141) (v := ?_) (a' := ?_) #[true, true, true, true, true, true, true, true, true, true, false, false, true, true, false, false, false, false, false, false, false] rfl rfl (by kernel_rfl) (fun _ _ _ h => h) (Or.inl ⟨by rfl, ?_⟩) ?_ ?_
          rotate_left
          · intro w'; go_simp; with_reducible rfl
          rotate_left
          · simp only [Act.put, List.setIfInBounds_toArray, List.set_cons_zero, List.set_cons_succ, i64_w, i32_w]; rfl
          refine pure_ (i := 15) (N := some 143) (v := ?_) (a' := ?_) #[true, true, true, true, true, true, true, true, true, true, false, false, true, true, false, true, false, false, false, false, false] rfl rfl (by kernel_rfl) (fun _ _ _ h => h) (Or.inl ⟨by rfl, ?_⟩) ?_ ?_
          rotate_left
          · intro w'; go_simp; with_reducible rfl
          rotate_left
          · simp only [Act.put, List.setIfInBounds_toArray, List.set_cons_zero, List.set_cons_succ, i64_w, i32_w]; rfl
          refine pure_ (i := 16) (N := some 144) (v := ?_) (a' := ?_) #[true, true, true, true, true, true, true, true, true, true, false, false, true, true, false, true, true, false, false, false, false] rfl rfl (by kernel_rfl) (fun _ _ _ h => h) (Or.inl ⟨by rfl, ?_⟩) ?_ ?_
          rotate_left
          · intro w'; go_simp; with_reducible rfl
          rotate_left
          · simp only [Act.put, List.setIfInBounds_toArray, List.set_cons_zero, List.set_cons_succ, i64_w, i32_w]; rfl
          refine take_ (i := 14) (N := some 142) (v := ?_) (a' := ?_) #[true, true, true, true, true, true, true, true, true, true, false, false, true, true, true, true, true, false, false, false, false] rfl rfl (by kernel_rfl) (fun _ _ _ h => h) (Or.inl ⟨by rfl, ?_⟩) hHeld ?_ ?_
          rotate_left
          · intro w' hh; have t := BK.c hh.2 k (arr_get Ef hk40); rw [HEK.out] at t; clear hh; go_simp; with_reducible rfl
          rotate_left
          · simp only [Act.put, List.setIfInBounds_toArray, List.set_cons_zero, List.set_cons_succ, i64_w, i32_w]; rfl
          refine take_ (i := 17) (N := some 145) (v := ?_) (a' := ?_) #[true, true, true, true, true, true, true, true, true, true, false, false, true, true, true, true, true, true, false, false, false] rfl rfl (by kernel_rfl) (fun _ _ _ h => h) (Or.inl ⟨by rfl, ?_⟩) hHeld ?_ ?_
          rotate_left
          · intro w' hh; have t := BK.c hh.1 k (arr_get Lf hk40); rw [HLK.out] at t; clear hh; go_simp; with_reducible rfl
          rotate_left
          · simp only [Act.put, List.setIfInBounds_toArray, List.set_cons_zero, List.set_cons_succ, i64_w, i32_w]; rfl
          refine pure_ (i := 18) (N := some 146) (v := ?_) (a' := ?_) #[true, true, true, true, true, true, true, true, true, true, false, false, true, true, true, true, true, true, true, false, false] rfl rfl (by kernel_rfl) (fun _ _ _ h => h) (Or.inl ⟨by rfl, ?_⟩) ?_ ?_
          rotate_left
          · intro w'; go_simp; with_reducible rfl
          rotate_left
          · simp only [Act.put, List.setIfInBounds_toArray, List.set_cons_zero, List.set_cons_succ, i64_w, i32_w]; rfl
          refine one_ (i := 10) (N := some 138) #[true, true, true, true, true, true, true, true, true, true, true, false, true, true, true, true, true, true, true, false, false] rfl rfl (by kernel_rfl) (by decide) (fun K hK => ?_)
          refine goes_ Tryz.func42 (by kernel_rfl) rfl #[.int .i64 (k : Int)] (by rfl) rfl rfl (by (try simp only [List.map_toArray, List.map_cons, List.map_nil]); first | done | rfl) ?_
          refine (id_any k (k : Int) v2d rfl (by omega)).mono ?_
          rintro e w_i ⟨rfl, hb⟩
          refine ⟨_, rfl, ?_⟩
          refine hK.out _ _ ⟨hHeld.1.on hb, hHeld.2.on hb⟩ (fun hHeld2 => ?_)
          clear hK K hHeld
          have hHeld := hHeld2
          clear hHeld2
          replace HP := Lib.hid (HP.out.on hb)
          replace HL := Lib.hid (HL.out.on hb)
          replace HE := Lib.hid (HE.out.on hb)
          replace HB := Lib.hid (HB.out.trans (hb.mono HB.out.size))
          clear hb
          refine norm_ (a' := ?_) ?_ ?_
          rotate_left
          · show Act.put _ (some 138) _ = _; simp only [Act.put, List.setIfInBounds_toArray, List.set_cons_zero, List.set_cons_succ, i64_w, i32_w]; rfl
          refine one_ (i := 11) (N := some 139) #[true, true, true, true, true, true, true, true, true, true, true, true, true, true, true, true, true, true, true, false, false] rfl rfl (by kernel_rfl) (by decide) (fun K hK => ?_)
          refine goes_ Tryz.func47 (by kernel_rfl) rfl #[.pointer (some ⟨pb, 0, none⟩), .agg (LId.cells (numI k)).toArray] (by rfl) rfl rfl (by (try simp only [List.map_toArray, List.map_cons, List.map_nil]); first | done | rfl) ?_
          refine (Has_pi k w_i HP.out (by omega)).mono ?_
          rintro e w_h ⟨rfl, hb⟩
          rw [HHS.out]
          refine ⟨_, rfl, ?_⟩
          refine hK.out _ _ ⟨hHeld.1.on hb, hHeld.2.on hb⟩ (fun hHeld2 => ?_)
          clear hK K hHeld hHeld2
          replace HP := Lib.hid (HP.out.on hb)
          replace HL := Lib.hid (HL.out.on hb)
          replace HE := Lib.hid (HE.out.on hb)
          replace HB := Lib.hid (HB.out.trans (hb.mono HB.out.size))
          clear hb
          refine norm_ (a' := ?_) ?_ ?_
          rotate_left
          · show Act.put _ (some 139) _ = _; simp only [Act.put, List.setIfInBounds_toArray, List.set_cons_zero, List.set_cons_succ, i64_w, i32_w]; rfl
          refine pure_ (i := 19) (N := some 147) (v := ?_) (a' := ?_) #[true, true, true, true, true, true, true, true, true, true, true, true, true, true, true, true, true, true, true, true, false] rfl rfl (by kernel_rfl) (fun _ _ _ h => h) (Or.inl ⟨by rfl, ?_⟩) ?_ ?_
          rotate_left
          · intro w'; go_simp; with_reducible rfl
          rotate_left
          · simp only [Act.put, List.setIfInBounds_toArray, List.set_cons_zero, List.set_cons_succ, i64_w, i32_w]; rfl
          refine pure_ (i := 20) (N := some 148) (v := ?_) (a' := ?_) #[true, true, true, true, true, true, true, true, true, true, true, true, true, true, true, true, true, true, true, true, true] rfl rfl (by kernel_rfl) (fun _ _ _ h => h) (Or.inl ⟨by rfl, ?_⟩) ?_ ?_
          rotate_left
          · intro w'; go_simp; with_reducible rfl
          rotate_left
          · simp only [Act.put, List.setIfInBounds_toArray, List.set_cons_zero, List.set_cons_succ, i64_w, i32_w]; rfl
          refine done_ (by kernel_rfl) ?_
          clear hb1 hb2 hb3 hb4 HHS HEK HLK
          go_wp2
          go_roundg (gk - 1)
          case measure => omega
          case rel => exact ⟨S_, Lf, Ef, i + 1, by have := HI.out; omega, by go_num, rfl, HO, HP, HL, HE, HLB, HB⟩
        · rw [hc5] at HBK
          go_wp2_with fail
          refine (HBN.out wr).mono ?_
          rintro e w_ ⟨rfl, rfl⟩
          go_wp2_with fail
          refine (HBK.out wr).mono ?_
          rintro e w_ ⟨rfl, rfl⟩
          clear hcell1 hcell2 hc5
          obtain ⟨m4, hm4⟩ : ∃ m, k % 4 = m := ⟨_, rfl⟩
          have hm44 : m4 < 4 := by omega
          have ht5 : (k : Int).tmod 4 = (m4 : Int) := by rw [Int.tmod_eq_emod_of_nonneg (by omega)]; omega
          have ht6 : (k : Int) % 4 = (m4 : Int) := by omega
          clear hm4
          go_wp2_with fail
          clear ht5 ht6
          refine (Take_pi m4 (m4 : Int) wr HP.out rfl (by rw [HO.out.len]; exact hm44)).mono ?_
          rintro e v2 ⟨rfl, hp, hk⟩
          replace HB := Lib.hid (HB.out.trans (hk.below.mono HB2.out))
          replace HL := Lib.hid (hk.bk HL.out (.inl rfl))
          replace HE := Lib.hid (hk.bk HE.out (.inr rfl))
          have HPn := Lib.hid hp
          clear hp hk HP
          have HP := HPn
          clear HPn
          have HO2 := Lib.hid (HO.out.take m4)
          obtain ⟨S_, hS_⟩ : ∃ x, x = (s.take m4).2 := ⟨_, rfl⟩
          rw [← hS_] at HO2 HP
          clear hS_ HO
          have HO := HO2
          clear HO2
          have HLB : Hid (∀ j, j < 40 → (laid) j ≤ i + 1) := Lib.hid (fun j hj => Nat.le_succ_of_le (HLB0.out j hj))
          generalize (laid) = Lf at *
          generalize (ended) = Ef at *
          generalize (s.take m4).1 = r_ at *
          go_upto_region 26 with (fail)
          have hhs := HO.out.has hk40
          have hle := HO.out.le' hk40
          obtain ⟨E_, hE_⟩ : ∃ e, Ef k = e := ⟨_, rfl⟩
          obtain ⟨L_, hL_⟩ : ∃ e, Lf k = e := ⟨_, rfl⟩
          rw [hE_, hL_] at hhs hle
          have HEK : Hid ((Ef k : Int) = (E_ : Int)) := Lib.hid (by rw [hE_])
          have HLK : Hid ((Lf k : Int) = (L_ : Int)) := Lib.hid (by rw [hL_])
          obtain ⟨bb, hbb⟩ : ∃ b, decide (E_ < L_) = b := ⟨_, rfl⟩
          rw [hbb] at hhs
          have HHS := Lib.hid hhs
          have hb1 : decide ((E_ : Int) < (L_ : Int)) = bb := by rw [← hbb]; simp
          have hb3 : decide ((L_ : Int) < (E_ : Int)) = false := by simp; omega
          have hb4 : decide (L_ < E_) = false := by simp; omega
          clear hhs hle hE_ hL_
          have hb2 := hbb
          clear hbb
          refine start_ (n := 21) (S := (fun W => BK W gl 60 (arr Lf) ∧ BK W ge 60 (arr Ef))) (ds := []) #[false, false, false, false, false, false, false, false, false, false, false, false, false, false, false, false, false, false, false, false, false] (by kernel_rfl) rfl rfl ⟨HL.out.on (Below.refl _ _).drew, HE.out.on (Below.refl _ _).drew⟩ (fun hHeld => ?_)
          have hbd := (Below.refl v2.heap.size v2).drew
          replace HP := Lib.hid (HP.out.on hbd)
          replace HL := Lib.hid (HL.out.on hbd)
          replace HE := Lib.hid (HE.out.on hbd)
          replace HB := Lib.hid (HB.out.trans (hbd.mono HB.out.size))
          clear hbd
          generalize v2.drew = v2d at *
          refine pure_ (i := 0) (N := some 128) (v := ?_) (a' := ?_) #[true, false, false, false, false, false, false, false, false, false, false, false, false, false, false, false, false, false, false, false, false] rfl rfl (by kernel_rfl) (fun _ _ _ h => h) (Or.inl ⟨by rfl, ?_⟩) ?_ ?_
          rotate_left
          · intro w'; go_simp; with_reducible rfl
          rotate_left
          · simp only [Act.put, List.setIfInBounds_toArray, List.set_cons_zero, List.set_cons_succ, i64_w, i32_w]; rfl
          refine pure_ (i := 1) (N := some 129) (v := ?_) (a' := ?_) #[true, true, false, false, false, false, false, false, false, false, false, false, false, false, false, false, false, false, false, false, false] rfl rfl (by kernel_rfl) (fun _ _ _ h => h) (Or.inl ⟨by rfl, ?_⟩) ?_ ?_
          rotate_left
          · intro w'; go_simp; with_reducible rfl
          rotate_left
          · simp only [Act.put, List.setIfInBounds_toArray, List.set_cons_zero, List.set_cons_succ, i64_w, i32_w]; rfl
          refine pure_ (i := 3) (N := some 131) (v := ?_) (a' := ?_) #[true, true, false, true, false, false, false, false, false, false, false, false, false, false, false, false, false, false, false, false, false] rfl rfl (by kernel_rfl) (fun _ _ _ h => h) (Or.inl ⟨by rfl, ?_⟩) ?_ ?_
          rotate_left
          · intro w'; go_simp; with_reducible rfl
          rotate_left
          · simp only [Act.put, List.setIfInBounds_toArray, List.set_cons_zero, List.set_cons_succ, i64_w, i32_w]; rfl
          refine pure_ (i := 4) (N := some 132) (v := ?_) (a' := ?_) #[true, true, false, true, true, false, false, false, false, false, false, false, false, false, false, false, false, false, false, false, false] rfl rfl (by kernel_rfl) (fun _ _ _ h => h) (Or.inl ⟨by rfl, ?_⟩) ?_ ?_
          rotate_left
          · intro w'; go_simp; with_reducible rfl
          rotate_left
          · simp only [Act.put, List.setIfInBounds_toArray, List.set_cons_zero, List.set_cons_succ, i64_w, i32_w]; rfl
          refine take_ (i := 2) (N := some 130) (v := ?_) (a' := ?_) #[true, true, true, true, true, false, false, false, false, false, false, false, false, false, false, false, false, false, false, false, false] rfl rfl (by kernel_rfl) (fun _ _ _ h => h) (Or.inl ⟨by rfl, ?_⟩) hHeld ?_ ?_
          rotate_left
          · intro w' hh; have t := BK.c hh.2 k (arr_get Ef hk40); rw [HEK.out] at t; clear hh; go_simp; with_reducible rfl
          rotate_left
          · simp only [Act.put, List.setIfInBounds_toArray, List.set_cons_zero, List.set_cons_succ, i64_w, i32_w]; rfl
          refine take_ (i := 5) (N := some 133) (v := ?_) (a' := ?_) #[true, true, true, true, true, true, false, false, false, false, false, false, false, false, false, false, false, false, false, false, false] rfl rfl (by kernel_rfl) (fun _ _ _ h => h) (Or.inl ⟨by rfl, ?_⟩) hHeld ?_ ?_
          rotate_left
          · intro w' hh; have t := BK.c hh.1 k (arr_get Lf hk40); rw [HLK.out] at t; clear hh; go_simp; with_reducible rfl
          rotate_left
          · simp only [Act.put, List.setIfInBounds_toArray, List.set_cons_zero, List.set_cons_succ, i64_w, i32_w]; rfl
          refine pure_ (i := 6) (N := some 134) (v := ?_) (a' := ?_) #[true, true, true, true, true, true, true, false, false, false, false, false, false, false, false, false, false, false, false, false, false] rfl rfl (by kernel_rfl) (fun _ _ _ h => h) (Or.inl ⟨by rfl, ?_⟩) ?_ ?_
          rotate_left
          · intro w'; go_simp; with_reducible rfl
          rotate_left
          · simp only [Act.put, List.setIfInBounds_toArray, List.set_cons_zero, List.set_cons_succ, i64_w, i32_w]; rfl
          refine pure_ (i := 7) (N := some 135) (v := ?_) (a' := ?_) #[true, true, true, true, true, true, true, true, false, false, false, false, false, false, false, false, false, false, false, false, false] rfl rfl (by kernel_rfl) (fun _ _ _ h => h) (Or.inl ⟨by rfl, ?_⟩) ?_ ?_
          rotate_left
          · intro w'; go_simp; with_reducible rfl
          rotate_left
          · simp only [Act.put, List.setIfInBounds_toArray, List.set_cons_zero, List.set_cons_succ, i64_w, i32_w]; rfl
          refine pure_ (i := 8) (N := some 136) (v := ?_) (a' := ?_) #[true, true, true, true, true, true, true, true, true, false, false, false, false, false, false, false, false, false, false, false, false] rfl rfl (by kernel_rfl) (fun _ _ _ h => h) (Or.inl ⟨by rfl, ?_⟩) ?_ ?_
          rotate_left
          · intro w'; go_simp; with_reducible rfl
          rotate_left
          · simp only [Act.put, List.setIfInBounds_toArray, List.set_cons_zero, List.set_cons_succ, i64_w, i32_w]; rfl
          refine pure_ (i := 9) (N := some 137) (v := ?_) (a' := ?_) #[true, true, true, true, true, true, true, true, true, true, false, false, false, false, false, false, false, false, false, false, false] rfl rfl (by kernel_rfl) (fun _ _ _ h => h) (Or.inl ⟨by rfl, ?_⟩) ?_ ?_
          rotate_left
          · intro w'; go_simp; with_reducible rfl
          rotate_left
          · simp only [Act.put, List.setIfInBounds_toArray, List.set_cons_zero, List.set_cons_succ, i64_w, i32_w]; rfl
          refine pure_ (i := 12) (N := some 140) (v := ?_) (a' := ?_) #[true, true, true, true, true, true, true, true, true, true, false, false, true, false, false, false, false, false, false, false, false] rfl rfl (by kernel_rfl) (fun _ _ _ h => h) (Or.inl ⟨by rfl, ?_⟩) ?_ ?_
          rotate_left
          · intro w'; go_simp; with_reducible rfl
          rotate_left
          · simp only [Act.put, List.setIfInBounds_toArray, List.set_cons_zero, List.set_cons_succ, i64_w, i32_w]; rfl
          refine pure_ (i := 13) (N := some 141) (v := ?_) (a' := ?_) #[true, true, true, true, true, true, true, true, true, true, false, false, true, true, false, false, false, false, false, false, false] rfl rfl (by kernel_rfl) (fun _ _ _ h => h) (Or.inl ⟨by rfl, ?_⟩) ?_ ?_
          rotate_left
          · intro w'; go_simp; with_reducible rfl
          rotate_left
          · simp only [Act.put, List.setIfInBounds_toArray, List.set_cons_zero, List.set_cons_succ, i64_w, i32_w]; rfl
          refine pure_ (i := 15) (N := some 143) (v := ?_) (a' := ?_) #[true, true, true, true, true, true, true, true, true, true, false, false, true, true, false, true, false, false, false, false, false] rfl rfl (by kernel_rfl) (fun _ _ _ h => h) (Or.inl ⟨by rfl, ?_⟩) ?_ ?_
          rotate_left
          · intro w'; go_simp; with_reducible rfl
          rotate_left
          · simp only [Act.put, List.setIfInBounds_toArray, List.set_cons_zero, List.set_cons_succ, i64_w, i32_w]; rfl
          refine pure_ (i := 16) (N := some 144) (v := ?_) (a' := ?_) #[true, true, true, true, true, true, true, true, true, true, false, false, true, true, false, true, true, false, false, false, false] rfl rfl (by kernel_rfl) (fun _ _ _ h => h) (Or.inl ⟨by rfl, ?_⟩) ?_ ?_
          rotate_left
          · intro w'; go_simp; with_reducible rfl
          rotate_left
          · simp only [Act.put, List.setIfInBounds_toArray, List.set_cons_zero, List.set_cons_succ, i64_w, i32_w]; rfl
          refine take_ (i := 14) (N := some 142) (v := ?_) (a' := ?_) #[true, true, true, true, true, true, true, true, true, true, false, false, true, true, true, true, true, false, false, false, false] rfl rfl (by kernel_rfl) (fun _ _ _ h => h) (Or.inl ⟨by rfl, ?_⟩) hHeld ?_ ?_
          rotate_left
          · intro w' hh; have t := BK.c hh.2 k (arr_get Ef hk40); rw [HEK.out] at t; clear hh; go_simp; with_reducible rfl
          rotate_left
          · simp only [Act.put, List.setIfInBounds_toArray, List.set_cons_zero, List.set_cons_succ, i64_w, i32_w]; rfl
          refine take_ (i := 17) (N := some 145) (v := ?_) (a' := ?_) #[true, true, true, true, true, true, true, true, true, true, false, false, true, true, true, true, true, true, false, false, false] rfl rfl (by kernel_rfl) (fun _ _ _ h => h) (Or.inl ⟨by rfl, ?_⟩) hHeld ?_ ?_
          rotate_left
          · intro w' hh; have t := BK.c hh.1 k (arr_get Lf hk40); rw [HLK.out] at t; clear hh; go_simp; with_reducible rfl
          rotate_left
          · simp only [Act.put, List.setIfInBounds_toArray, List.set_cons_zero, List.set_cons_succ, i64_w, i32_w]; rfl
          refine pure_ (i := 18) (N := some 146) (v := ?_) (a' := ?_) #[true, true, true, true, true, true, true, true, true, true, false, false, true, true, true, true, true, true, true, false, false] rfl rfl (by kernel_rfl) (fun _ _ _ h => h) (Or.inl ⟨by rfl, ?_⟩) ?_ ?_
          rotate_left
          · intro w'; go_simp; with_reducible rfl
          rotate_left
          · simp only [Act.put, List.setIfInBounds_toArray, List.set_cons_zero, List.set_cons_succ, i64_w, i32_w]; rfl
          refine one_ (i := 10) (N := some 138) #[true, true, true, true, true, true, true, true, true, true, true, false, true, true, true, true, true, true, true, false, false] rfl rfl (by kernel_rfl) (by decide) (fun K hK => ?_)
          refine goes_ Tryz.func42 (by kernel_rfl) rfl #[.int .i64 (k : Int)] (by rfl) rfl rfl (by (try simp only [List.map_toArray, List.map_cons, List.map_nil]); first | done | rfl) ?_
          refine (id_any k (k : Int) v2d rfl (by omega)).mono ?_
          rintro e w_i ⟨rfl, hb⟩
          refine ⟨_, rfl, ?_⟩
          refine hK.out _ _ ⟨hHeld.1.on hb, hHeld.2.on hb⟩ (fun hHeld2 => ?_)
          clear hK K hHeld
          have hHeld := hHeld2
          clear hHeld2
          replace HP := Lib.hid (HP.out.on hb)
          replace HL := Lib.hid (HL.out.on hb)
          replace HE := Lib.hid (HE.out.on hb)
          replace HB := Lib.hid (HB.out.trans (hb.mono HB.out.size))
          clear hb
          refine norm_ (a' := ?_) ?_ ?_
          rotate_left
          · show Act.put _ (some 138) _ = _; simp only [Act.put, List.setIfInBounds_toArray, List.set_cons_zero, List.set_cons_succ, i64_w, i32_w]; rfl
          refine one_ (i := 11) (N := some 139) #[true, true, true, true, true, true, true, true, true, true, true, true, true, true, true, true, true, true, true, false, false] rfl rfl (by kernel_rfl) (by decide) (fun K hK => ?_)
          refine goes_ Tryz.func47 (by kernel_rfl) rfl #[.pointer (some ⟨pb, 0, none⟩), .agg (LId.cells (numI k)).toArray] (by rfl) rfl rfl (by (try simp only [List.map_toArray, List.map_cons, List.map_nil]); first | done | rfl) ?_
          refine (Has_pi k w_i HP.out (by omega)).mono ?_
          rintro e w_h ⟨rfl, hb⟩
          rw [HHS.out]
          refine ⟨_, rfl, ?_⟩
          refine hK.out _ _ ⟨hHeld.1.on hb, hHeld.2.on hb⟩ (fun hHeld2 => ?_)
          clear hK K hHeld hHeld2
          replace HP := Lib.hid (HP.out.on hb)
          replace HL := Lib.hid (HL.out.on hb)
          replace HE := Lib.hid (HE.out.on hb)
          replace HB := Lib.hid (HB.out.trans (hb.mono HB.out.size))
          clear hb
          refine norm_ (a' := ?_) ?_ ?_
          rotate_left
          · show Act.put _ (some 139) _ = _; simp only [Act.put, List.setIfInBounds_toArray, List.set_cons_zero, List.set_cons_succ, i64_w, i32_w]; rfl
          refine pure_ (i := 19) (N := some 147) (v := ?_) (a' := ?_) #[true, true, true, true, true, true, true, true, true, true, true, true, true, true, true, true, true, true, true, true, false] rfl rfl (by kernel_rfl) (fun _ _ _ h => h) (Or.inl ⟨by rfl, ?_⟩) ?_ ?_
          rotate_left
          · intro w'; go_simp; with_reducible rfl
          rotate_left
          · simp only [Act.put, List.setIfInBounds_toArray, List.set_cons_zero, List.set_cons_succ, i64_w, i32_w]; rfl
          refine pure_ (i := 20) (N := some 148) (v := ?_) (a' := ?_) #[true, true, true, true, true, true, true, true, true, true, true, true, true, true, true, true, true, true, true, true, true] rfl rfl (by kernel_rfl) (fun _ _ _ h => h) (Or.inl ⟨by rfl, ?_⟩) ?_ ?_
          rotate_left
          · intro w'; go_simp; with_reducible rfl
          rotate_left
          · simp only [Act.put, List.setIfInBounds_toArray, List.set_cons_zero, List.set_cons_succ, i64_w, i32_w]; rfl
          refine done_ (by kernel_rfl) ?_
          clear hb1 hb2 hb3 hb4 HHS HEK HLK
          go_wp2
          go_roundg (gk - 1)
          case measure => omega
          case rel => exact ⟨S_, Lf, Ef, i + 1, by have := HI.out; omega, by go_num, rfl, HO, HP, HL, HE, HLB, HB⟩
        · rw [hc5] at HBK
          go_wp2_with fail
          refine (HBN.out wr).mono ?_
          rintro e w_ ⟨rfl, rfl⟩
          go_wp2_with fail
          refine (HBK.out wr).mono ?_
          rintro e w_ ⟨rfl, rfl⟩
          clear hcell1 hcell2 hc5
          obtain ⟨m4, hm4⟩ : ∃ m, k % 4 = m := ⟨_, rfl⟩
          have hm44 : m4 < 4 := by omega
          have ht5 : (k : Int).tmod 4 = (m4 : Int) := by rw [Int.tmod_eq_emod_of_nonneg (by omega)]; omega
          have ht6 : (k : Int) % 4 = (m4 : Int) := by omega
          clear hm4
          go_wp2_with fail
          clear ht5 ht6
          refine (Done_pi m4 (m4 : Int) wr HP.out rfl (by rw [HO.out.len]; exact hm44)).mono ?_
          rintro e v2 ⟨he, hp, hk⟩
          replace HB := Lib.hid (HB.out.trans (hk.below.mono HB2.out))
          replace HL := Lib.hid (hk.bk HL.out (.inl rfl))
          replace HE := Lib.hid (hk.bk HE.out (.inr rfl))
          have HPn := Lib.hid hp
          clear hp hk HP
          have HP := HPn
          clear HPn
          have hcas := HO.out.done m4
          obtain ⟨od, hod⟩ : ∃ o, (s.done m4).1 = o := ⟨_, rfl⟩
          rw [hod] at he hcas
          clear hod
          rcases hcas with ⟨h1, h2⟩ | ⟨J, h1, h2, h3, h4⟩ | ⟨J, k', h1, h2, h3, h4⟩
          · subst h1
            dsimp only [doneV_i] at he
            subst he
            rw [h2] at HP
            clear h2
            obtain ⟨S_, hS_⟩ : ∃ x, x = s := ⟨_, rfl⟩
            rw [← hS_] at HO HP
            clear hS_
            have HLB : Hid (∀ j, j < 40 → (laid) j ≤ i + 1) := Lib.hid (fun j hj => Nat.le_succ_of_le (HLB0.out j hj))
            generalize (laid) = Lf at *
            generalize (ended) = Ef at *
            go_upto_region 26 with (fail)
            have hhs := HO.out.has hk40
            have hle := HO.out.le' hk40
            obtain ⟨E_, hE_⟩ : ∃ e, Ef k = e := ⟨_, rfl⟩
            obtain ⟨L_, hL_⟩ : ∃ e, Lf k = e := ⟨_, rfl⟩
            rw [hE_, hL_] at hhs hle
            have HEK : Hid ((Ef k : Int) = (E_ : Int)) := Lib.hid (by rw [hE_])
            have HLK : Hid ((Lf k : Int) = (L_ : Int)) := Lib.hid (by rw [hL_])
            obtain ⟨bb, hbb⟩ : ∃ b, decide (E_ < L_) = b := ⟨_, rfl⟩
            rw [hbb] at hhs
            have HHS := Lib.hid hhs
            have hb1 : decide ((E_ : Int) < (L_ : Int)) = bb := by rw [← hbb]; simp
            have hb3 : decide ((L_ : Int) < (E_ : Int)) = false := by simp; omega
            have hb4 : decide (L_ < E_) = false := by simp; omega
            clear hhs hle hE_ hL_
            have hb2 := hbb
            clear hbb
            refine start_ (n := 21) (S := (fun W => BK W gl 60 (arr Lf) ∧ BK W ge 60 (arr Ef))) (ds := []) #[false, false, false, false, false, false, false, false, false, false, false, false, false, false, false, false, false, false, false, false, false] (by kernel_rfl) rfl rfl ⟨HL.out.on (Below.refl _ _).drew, HE.out.on (Below.refl _ _).drew⟩ (fun hHeld => ?_)
            have hbd := (Below.refl v2.heap.size v2).drew
            replace HP := Lib.hid (HP.out.on hbd)
            replace HL := Lib.hid (HL.out.on hbd)
            replace HE := Lib.hid (HE.out.on hbd)
            replace HB := Lib.hid (HB.out.trans (hbd.mono HB.out.size))
            clear hbd
            generalize v2.drew = v2d at *
            refine pure_ (i := 0) (N := some 128) (v := ?_) (a' := ?_) #[true, false, false, false, false, false, false, false, false, false, false, false, false, false, false, false, false, false, false, false, false] rfl rfl (by kernel_rfl) (fun _ _ _ h => h) (Or.inl ⟨by rfl, ?_⟩) ?_ ?_
            rotate_left
            · intro w'; go_simp; with_reducible rfl
            rotate_left
            · simp only [Act.put, List.setIfInBounds_toArray, List.set_cons_zero, List.set_cons_succ, i64_w, i32_w]; rfl
            refine pure_ (i := 1) (N := some 129) (v := ?_) (a' := ?_) #[true, true, false, false, false, false, false, false, false, false, false, false, false, false, false, false, false, false, false, false, false] rfl rfl (by kernel_rfl) (fun _ _ _ h => h) (Or.inl ⟨by rfl, ?_⟩) ?_ ?_
            rotate_left
            · intro w'; go_simp; with_reducible rfl
            rotate_left
            · simp only [Act.put, List.setIfInBounds_toArray, List.set_cons_zero, List.set_cons_succ, i64_w, i32_w]; rfl
            refine pure_ (i := 3) (N := some 131) (v := ?_) (a' := ?_) #[true, true, false, true, false, false, false, false, false, false, false, false, false, false, false, false, false, false, false, false, false] rfl rfl (by kernel_rfl) (fun _ _ _ h => h) (Or.inl ⟨by rfl, ?_⟩) ?_ ?_
            rotate_left
            · intro w'; go_simp; with_reducible rfl
            rotate_left
            · simp only [Act.put, List.setIfInBounds_toArray, List.set_cons_zero, List.set_cons_succ, i64_w, i32_w]; rfl
            refine pure_ (i := 4) (N := some 132) (v := ?_) (a' := ?_) #[true, true, false, true, true, false, false, false, false, false, false, false, false, false, false, false, false, false, false, false, false] rfl rfl (by kernel_rfl) (fun _ _ _ h => h) (Or.inl ⟨by rfl, ?_⟩) ?_ ?_
            rotate_left
            · intro w'; go_simp; with_reducible rfl
            rotate_left
            · simp only [Act.put, List.setIfInBounds_toArray, List.set_cons_zero, List.set_cons_succ, i64_w, i32_w]; rfl
            refine take_ (i := 2) (N := some 130) (v := ?_) (a' := ?_) #[true, true, true, true, true, false, false, false, false, false, false, false, false, false, false, false, false, false, false, false, false] rfl rfl (by kernel_rfl) (fun _ _ _ h => h) (Or.inl ⟨by rfl, ?_⟩) hHeld ?_ ?_
            rotate_left
            · intro w' hh; have t := BK.c hh.2 k (arr_get Ef hk40); rw [HEK.out] at t; clear hh; go_simp; with_reducible rfl
            rotate_left
            · simp only [Act.put, List.setIfInBounds_toArray, List.set_cons_zero, List.set_cons_succ, i64_w, i32_w]; rfl
            refine take_ (i := 5) (N := some 133) (v := ?_) (a' := ?_) #[true, true, true, true, true, true, false, false, false, false, false, false, false, false, false, false, false, false, false, false, false] rfl rfl (by kernel_rfl) (fun _ _ _ h => h) (Or.inl ⟨by rfl, ?_⟩) hHeld ?_ ?_
            rotate_left
            · intro w' hh; have t := BK.c hh.1 k (arr_get Lf hk40); rw [HLK.out] at t; clear hh; go_simp; with_reducible rfl
            rotate_left
            · simp only [Act.put, List.setIfInBounds_toArray, List.set_cons_zero, List.set_cons_succ, i64_w, i32_w]; rfl
            refine pure_ (i := 6) (N := some 134) (v := ?_) (a' := ?_) #[true, true, true, true, true, true, true, false, false, false, false, false, false, false, false, false, false, false, false, false, false] rfl rfl (by kernel_rfl) (fun _ _ _ h => h) (Or.inl ⟨by rfl, ?_⟩) ?_ ?_
            rotate_left
            · intro w'; go_simp; with_reducible rfl
            rotate_left
            · simp only [Act.put, List.setIfInBounds_toArray, List.set_cons_zero, List.set_cons_succ, i64_w, i32_w]; rfl
            refine pure_ (i := 7) (N := some 135) (v := ?_) (a' := ?_) #[true, true, true, true, true, true, true, true, false, false, false, false, false, false, false, false, false, false, false, false, false] rfl rfl (by kernel_rfl) (fun _ _ _ h => h) (Or.inl ⟨by rfl, ?_⟩) ?_ ?_
            rotate_left
            · intro w'; go_simp; with_reducible rfl
            rotate_left
            · simp only [Act.put, List.setIfInBounds_toArray, List.set_cons_zero, List.set_cons_succ, i64_w, i32_w]; rfl
            refine pure_ (i := 8) (N := some 136) (v := ?_) (a' := ?_) #[true, true, true, true, true, true, true, true, true, false, false, false, false, false, false, false, false, false, false, false, false] rfl rfl (by kernel_rfl) (fun _ _ _ h => h) (Or.inl ⟨by rfl, ?_⟩) ?_ ?_
            rotate_left
            · intro w'; go_simp; with_reducible rfl
            rotate_left
            · simp only [Act.put, List.setIfInBounds_toArray, List.set_cons_zero, List.set_cons_succ, i64_w, i32_w]; rfl
            refine pure_ (i := 9) (N := some 137) (v := ?_) (a' := ?_) #[true, true, true, true, true, true, true, true, true, true, false, false, false, false, false, false, false, false, false, false, false] rfl rfl (by kernel_rfl) (fun _ _ _ h => h) (Or.inl ⟨by rfl, ?_⟩) ?_ ?_
            rotate_left
            · intro w'; go_simp; with_reducible rfl
            rotate_left
            · simp only [Act.put, List.setIfInBounds_toArray, List.set_cons_zero, List.set_cons_succ, i64_w, i32_w]; rfl
            refine pure_ (i := 12) (N := some 140) (v := ?_) (a' := ?_) #[true, true, true, true, true, true, true, true, true, true, false, false, true, false, false, false, false, false, false, false, false] rfl rfl (by kernel_rfl) (fun _ _ _ h => h) (Or.inl ⟨by rfl, ?_⟩) ?_ ?_
            rotate_left
            · intro w'; go_simp; with_reducible rfl
            rotate_left
            · simp only [Act.put, List.setIfInBounds_toArray, List.set_cons_zero, List.set_cons_succ, i64_w, i32_w]; rfl
            refine pure_ (i := 13) (N := some 141) (v := ?_) (a' := ?_) #[true, true, true, true, true, true, true, true, true, true, false, false, true, true, false, false, false, false, false, false, false] rfl rfl (by kernel_rfl) (fun _ _ _ h => h) (Or.inl ⟨by rfl, ?_⟩) ?_ ?_
            rotate_left
            · intro w'; go_simp; with_reducible rfl
            rotate_left
            · simp only [Act.put, List.setIfInBounds_toArray, List.set_cons_zero, List.set_cons_succ, i64_w, i32_w]; rfl
            refine pure_ (i := 15) (N := some 143) (v := ?_) (a' := ?_) #[true, true, true, true, true, true, true, true, true, true, false, false, true, true, false, true, false, false, false, false, false] rfl rfl (by kernel_rfl) (fun _ _ _ h => h) (Or.inl ⟨by rfl, ?_⟩) ?_ ?_
            rotate_left
            · intro w'; go_simp; with_reducible rfl
            rotate_left
            · simp only [Act.put, List.setIfInBounds_toArray, List.set_cons_zero, List.set_cons_succ, i64_w, i32_w]; rfl
            refine pure_ (i := 16) (N := some 144) (v := ?_) (a' := ?_) #[true, true, true, true, true, true, true, true, true, true, false, false, true, true, false, true, true, false, false, false, false] rfl rfl (by kernel_rfl) (fun _ _ _ h => h) (Or.inl ⟨by rfl, ?_⟩) ?_ ?_
            rotate_left
            · intro w'; go_simp; with_reducible rfl
            rotate_left
            · simp only [Act.put, List.setIfInBounds_toArray, List.set_cons_zero, List.set_cons_succ, i64_w, i32_w]; rfl
            refine take_ (i := 14) (N := some 142) (v := ?_) (a' := ?_) #[true, true, true, true, true, true, true, true, true, true, false, false, true, true, true, true, true, false, false, false, false] rfl rfl (by kernel_rfl) (fun _ _ _ h => h) (Or.inl ⟨by rfl, ?_⟩) hHeld ?_ ?_
            rotate_left
            · intro w' hh; have t := BK.c hh.2 k (arr_get Ef hk40); rw [HEK.out] at t; clear hh; go_simp; with_reducible rfl
            rotate_left
            · simp only [Act.put, List.setIfInBounds_toArray, List.set_cons_zero, List.set_cons_succ, i64_w, i32_w]; rfl
            refine take_ (i := 17) (N := some 145) (v := ?_) (a' := ?_) #[true, true, true, true, true, true, true, true, true, true, false, false, true, true, true, true, true, true, false, false, false] rfl rfl (by kernel_rfl) (fun _ _ _ h => h) (Or.inl ⟨by rfl, ?_⟩) hHeld ?_ ?_
            rotate_left
            · intro w' hh; have t := BK.c hh.1 k (arr_get Lf hk40); rw [HLK.out] at t; clear hh; go_simp; with_reducible rfl
            rotate_left
            · simp only [Act.put, List.setIfInBounds_toArray, List.set_cons_zero, List.set_cons_succ, i64_w, i32_w]; rfl
            refine pure_ (i := 18) (N := some 146) (v := ?_) (a' := ?_) #[true, true, true, true, true, true, true, true, true, true, false, false, true, true, true, true, true, true, true, false, false] rfl rfl (by kernel_rfl) (fun _ _ _ h => h) (Or.inl ⟨by rfl, ?_⟩) ?_ ?_
            rotate_left
            · intro w'; go_simp; with_reducible rfl
            rotate_left
            · simp only [Act.put, List.setIfInBounds_toArray, List.set_cons_zero, List.set_cons_succ, i64_w, i32_w]; rfl
            refine one_ (i := 10) (N := some 138) #[true, true, true, true, true, true, true, true, true, true, true, false, true, true, true, true, true, true, true, false, false] rfl rfl (by kernel_rfl) (by decide) (fun K hK => ?_)
            refine goes_ Tryz.func42 (by kernel_rfl) rfl #[.int .i64 (k : Int)] (by rfl) rfl rfl (by (try simp only [List.map_toArray, List.map_cons, List.map_nil]); first | done | rfl) ?_
            refine (id_any k (k : Int) v2d rfl (by omega)).mono ?_
            rintro e w_i ⟨rfl, hb⟩
            refine ⟨_, rfl, ?_⟩
            refine hK.out _ _ ⟨hHeld.1.on hb, hHeld.2.on hb⟩ (fun hHeld2 => ?_)
            clear hK K hHeld
            have hHeld := hHeld2
            clear hHeld2
            replace HP := Lib.hid (HP.out.on hb)
            replace HL := Lib.hid (HL.out.on hb)
            replace HE := Lib.hid (HE.out.on hb)
            replace HB := Lib.hid (HB.out.trans (hb.mono HB.out.size))
            clear hb
            refine norm_ (a' := ?_) ?_ ?_
            rotate_left
            · show Act.put _ (some 138) _ = _; simp only [Act.put, List.setIfInBounds_toArray, List.set_cons_zero, List.set_cons_succ, i64_w, i32_w]; rfl
            refine one_ (i := 11) (N := some 139) #[true, true, true, true, true, true, true, true, true, true, true, true, true, true, true, true, true, true, true, false, false] rfl rfl (by kernel_rfl) (by decide) (fun K hK => ?_)
            refine goes_ Tryz.func47 (by kernel_rfl) rfl #[.pointer (some ⟨pb, 0, none⟩), .agg (LId.cells (numI k)).toArray] (by rfl) rfl rfl (by (try simp only [List.map_toArray, List.map_cons, List.map_nil]); first | done | rfl) ?_
            refine (Has_pi k w_i HP.out (by omega)).mono ?_
            rintro e w_h ⟨rfl, hb⟩
            rw [HHS.out]
            refine ⟨_, rfl, ?_⟩
            refine hK.out _ _ ⟨hHeld.1.on hb, hHeld.2.on hb⟩ (fun hHeld2 => ?_)
            clear hK K hHeld hHeld2
            replace HP := Lib.hid (HP.out.on hb)
            replace HL := Lib.hid (HL.out.on hb)
            replace HE := Lib.hid (HE.out.on hb)
            replace HB := Lib.hid (HB.out.trans (hb.mono HB.out.size))
            clear hb
            refine norm_ (a' := ?_) ?_ ?_
            rotate_left
            · show Act.put _ (some 139) _ = _; simp only [Act.put, List.setIfInBounds_toArray, List.set_cons_zero, List.set_cons_succ, i64_w, i32_w]; rfl
            refine pure_ (i := 19) (N := some 147) (v := ?_) (a' := ?_) #[true, true, true, true, true, true, true, true, true, true, true, true, true, true, true, true, true, true, true, true, false] rfl rfl (by kernel_rfl) (fun _ _ _ h => h) (Or.inl ⟨by rfl, ?_⟩) ?_ ?_
            rotate_left
            · intro w'; go_simp; with_reducible rfl
            rotate_left
            · simp only [Act.put, List.setIfInBounds_toArray, List.set_cons_zero, List.set_cons_succ, i64_w, i32_w]; rfl
            refine pure_ (i := 20) (N := some 148) (v := ?_) (a' := ?_) #[true, true, true, true, true, true, true, true, true, true, true, true, true, true, true, true, true, true, true, true, true] rfl rfl (by kernel_rfl) (fun _ _ _ h => h) (Or.inl ⟨by rfl, ?_⟩) ?_ ?_
            rotate_left
            · intro w'; go_simp; with_reducible rfl
            rotate_left
            · simp only [Act.put, List.setIfInBounds_toArray, List.set_cons_zero, List.set_cons_succ, i64_w, i32_w]; rfl
            refine done_ (by kernel_rfl) ?_
            clear hb1 hb2 hb3 hb4 HHS HEK HLK
            go_wp2
            go_roundg (gk - 1)
            case measure => omega
            case rel => exact ⟨S_, Lf, Ef, i + 1, by have := HI.out; omega, by go_num, rfl, HO, HP, HL, HE, HLB, HB⟩
          · subst h1
            dsimp only [doneV_i] at he
            subst he
            have q0 : ¬ J.x < 100 := by omega
            have q1 : decide (J.x < 100) = false := by simp; omega
            have HO2 := Lib.hid h4
            clear h2 h3 h4
            generalize J.x = X at *
            generalize J.can = cn at *
            obtain ⟨S_, hS_⟩ : ∃ x, x = (s.done m4).2 := ⟨_, rfl⟩
            rw [← hS_] at HO2 HP
            clear hS_ HO
            have HO := HO2
            clear HO2
            have HLB : Hid (∀ j, j < 40 → (laid) j ≤ i + 1) := Lib.hid (fun j hj => Nat.le_succ_of_le (HLB0.out j hj))
            generalize (laid) = Lf at *
            generalize (ended) = Ef at *
            go_upto_region 26 with (fail)
            have hhs := HO.out.has hk40
            have hle := HO.out.le' hk40
            obtain ⟨E_, hE_⟩ : ∃ e, Ef k = e := ⟨_, rfl⟩
            obtain ⟨L_, hL_⟩ : ∃ e, Lf k = e := ⟨_, rfl⟩
            rw [hE_, hL_] at hhs hle
            have HEK : Hid ((Ef k : Int) = (E_ : Int)) := Lib.hid (by rw [hE_])
            have HLK : Hid ((Lf k : Int) = (L_ : Int)) := Lib.hid (by rw [hL_])
            obtain ⟨bb, hbb⟩ : ∃ b, decide (E_ < L_) = b := ⟨_, rfl⟩
            rw [hbb] at hhs
            have HHS := Lib.hid hhs
            have hb1 : decide ((E_ : Int) < (L_ : Int)) = bb := by rw [← hbb]; simp
            have hb3 : decide ((L_ : Int) < (E_ : Int)) = false := by simp; omega
            have hb4 : decide (L_ < E_) = false := by simp; omega
            clear hhs hle hE_ hL_
            have hb2 := hbb
            clear hbb
            refine start_ (n := 21) (S := (fun W => BK W gl 60 (arr Lf) ∧ BK W ge 60 (arr Ef))) (ds := []) #[false, false, false, false, false, false, false, false, false, false, false, false, false, false, false, false, false, false, false, false, false] (by kernel_rfl) rfl rfl ⟨HL.out.on (Below.refl _ _).drew, HE.out.on (Below.refl _ _).drew⟩ (fun hHeld => ?_)
            have hbd := (Below.refl v2.heap.size v2).drew
            replace HP := Lib.hid (HP.out.on hbd)
            replace HL := Lib.hid (HL.out.on hbd)
            replace HE := Lib.hid (HE.out.on hbd)
            replace HB := Lib.hid (HB.out.trans (hbd.mono HB.out.size))
            clear hbd
            generalize v2.drew = v2d at *
            refine pure_ (i := 0) (N := some 128) (v := ?_) (a' := ?_) #[true, false, false, false, false, false, false, false, false, false, false, false, false, false, false, false, false, false, false, false, false] rfl rfl (by kernel_rfl) (fun _ _ _ h => h) (Or.inl ⟨by rfl, ?_⟩) ?_ ?_
            rotate_left
            · intro w'; go_simp; with_reducible rfl
            rotate_left
            · simp only [Act.put, List.setIfInBounds_toArray, List.set_cons_zero, List.set_cons_succ, i64_w, i32_w]; rfl
            refine pure_ (i := 1) (N := some 129) (v := ?_) (a' := ?_) #[true, true, false, false, false, false, false, false, false, false, false, false, false, false, false, false, false, false, false, false, false] rfl rfl (by kernel_rfl) (fun _ _ _ h => h) (Or.inl ⟨by rfl, ?_⟩) ?_ ?_
            rotate_left
            · intro w'; go_simp; with_reducible rfl
            rotate_left
            · simp only [Act.put, List.setIfInBounds_toArray, List.set_cons_zero, List.set_cons_succ, i64_w, i32_w]; rfl
            refine pure_ (i := 3) (N := some 131) (v := ?_) (a' := ?_) #[true, true, false, true, false, false, false, false, false, false, false, false, false, false, false, false, false, false, false, false, false] rfl rfl (by kernel_rfl) (fun _ _ _ h => h) (Or.inl ⟨by rfl, ?_⟩) ?_ ?_
            rotate_left
            · intro w'; go_simp; with_reducible rfl
            rotate_left
            · simp only [Act.put, List.setIfInBounds_toArray, List.set_cons_zero, List.set_cons_succ, i64_w, i32_w]; rfl
            refine pure_ (i := 4) (N := some 132) (v := ?_) (a' := ?_) #[true, true, false, true, true, false, false, false, false, false, false, false, false, false, false, false, false, false, false, false, false] rfl rfl (by kernel_rfl) (fun _ _ _ h => h) (Or.inl ⟨by rfl, ?_⟩) ?_ ?_
            rotate_left
            · intro w'; go_simp; with_reducible rfl
            rotate_left
            · simp only [Act.put, List.setIfInBounds_toArray, List.set_cons_zero, List.set_cons_succ, i64_w, i32_w]; rfl
            refine take_ (i := 2) (N := some 130) (v := ?_) (a' := ?_) #[true, true, true, true, true, false, false, false, false, false, false, false, false, false, false, false, false, false, false, false, false] rfl rfl (by kernel_rfl) (fun _ _ _ h => h) (Or.inl ⟨by rfl, ?_⟩) hHeld ?_ ?_
            rotate_left
            · intro w' hh; have t := BK.c hh.2 k (arr_get Ef hk40); rw [HEK.out] at t; clear hh; go_simp; with_reducible rfl
            rotate_left
            · simp only [Act.put, List.setIfInBounds_toArray, List.set_cons_zero, List.set_cons_succ, i64_w, i32_w]; rfl
            refine take_ (i := 5) (N := some 133) (v := ?_) (a' := ?_) #[true, true, true, true, true, true, false, false, false, false, false, false, false, false, false, false, false, false, false, false, false] rfl rfl (by kernel_rfl) (fun _ _ _ h => h) (Or.inl ⟨by rfl, ?_⟩) hHeld ?_ ?_
            rotate_left
            · intro w' hh; have t := BK.c hh.1 k (arr_get Lf hk40); rw [HLK.out] at t; clear hh; go_simp; with_reducible rfl
            rotate_left
            · simp only [Act.put, List.setIfInBounds_toArray, List.set_cons_zero, List.set_cons_succ, i64_w, i32_w]; rfl
            refine pure_ (i := 6) (N := some 134) (v := ?_) (a' := ?_) #[true, true, true, true, true, true, true, false, false, false, false, false, false, false, false, false, false, false, false, false, false] rfl rfl (by kernel_rfl) (fun _ _ _ h => h) (Or.inl ⟨by rfl, ?_⟩) ?_ ?_
            rotate_left
            · intro w'; go_simp; with_reducible rfl
            rotate_left
            · simp only [Act.put, List.setIfInBounds_toArray, List.set_cons_zero, List.set_cons_succ, i64_w, i32_w]; rfl
            refine pure_ (i := 7) (N := some 135) (v := ?_) (a' := ?_) #[true, true, true, true, true, true, true, true, false, false, false, false, false, false, false, false, false, false, false, false, false] rfl rfl (by kernel_rfl) (fun _ _ _ h => h) (Or.inl ⟨by rfl, ?_⟩) ?_ ?_
            rotate_left
            · intro w'; go_simp; with_reducible rfl
            rotate_left
            · simp only [Act.put, List.setIfInBounds_toArray, List.set_cons_zero, List.set_cons_succ, i64_w, i32_w]; rfl
            refine pure_ (i := 8) (N := some 136) (v := ?_) (a' := ?_) #[true, true, true, true, true, true, true, true, true, false, false, false, false, false, false, false, false, false, false, false, false] rfl rfl (by kernel_rfl) (fun _ _ _ h => h) (Or.inl ⟨by rfl, ?_⟩) ?_ ?_
            rotate_left
            · intro w'; go_simp; with_reducible rfl
            rotate_left
            · simp only [Act.put, List.setIfInBounds_toArray, List.set_cons_zero, List.set_cons_succ, i64_w, i32_w]; rfl
            refine pure_ (i := 9) (N := some 137) (v := ?_) (a' := ?_) #[true, true, true, true, true, true, true, true, true, true, false, false, false, false, false, false, false, false, false, false, false] rfl rfl (by kernel_rfl) (fun _ _ _ h => h) (Or.inl ⟨by rfl, ?_⟩) ?_ ?_
            rotate_left
            · intro w'; go_simp; with_reducible rfl
            rotate_left
            · simp only [Act.put, List.setIfInBounds_toArray, List.set_cons_zero, List.set_cons_succ, i64_w, i32_w]; rfl
            refine pure_ (i := 12) (N := some 140) (v := ?_) (a' := ?_) #[true, true, true, true, true, true, true, true, true, true, false, false, true, false, false, false, false, false, false, false, false] rfl rfl (by kernel_rfl) (fun _ _ _ h => h) (Or.inl ⟨by rfl, ?_⟩) ?_ ?_
            rotate_left
            · intro w'; go_simp; with_reducible rfl
            rotate_left
            · simp only [Act.put, List.setIfInBounds_toArray, List.set_cons_zero, List.set_cons_succ, i64_w, i32_w]; rfl
            refine pure_ (i := 13) (N := some 141) (v := ?_) (a' := ?_) #[true, true, true, true, true, true, true, true, true, true, false, false, true, true, false, false, false, false, false, false, false] rfl rfl (by kernel_rfl) (fun _ _ _ h => h) (Or.inl ⟨by rfl, ?_⟩) ?_ ?_
            rotate_left
            · intro w'; go_simp; with_reducible rfl
            rotate_left
            · simp only [Act.put, List.setIfInBounds_toArray, List.set_cons_zero, List.set_cons_succ, i64_w, i32_w]; rfl
            refine pure_ (i := 15) (N := some 143) (v := ?_) (a' := ?_) #[true, true, true, true, true, true, true, true, true, true, false, false, true, true, false, true, false, false, false, false, false] rfl rfl (by kernel_rfl) (fun _ _ _ h => h) (Or.inl ⟨by rfl, ?_⟩) ?_ ?_
            rotate_left
            · intro w'; go_simp; with_reducible rfl
            rotate_left
            · simp only [Act.put, List.setIfInBounds_toArray, List.set_cons_zero, List.set_cons_succ, i64_w, i32_w]; rfl
            refine pure_ (i := 16) (N := some 144) (v := ?_) (a' := ?_) #[true, true, true, true, true, true, true, true, true, true, false, false, true, true, false, true, true, false, false, false, false] rfl rfl (by kernel_rfl) (fun _ _ _ h => h) (Or.inl ⟨by rfl, ?_⟩) ?_ ?_
            rotate_left
            · intro w'; go_simp; with_reducible rfl
            rotate_left
            · simp only [Act.put, List.setIfInBounds_toArray, List.set_cons_zero, List.set_cons_succ, i64_w, i32_w]; rfl
            refine take_ (i := 14) (N := some 142) (v := ?_) (a' := ?_) #[true, true, true, true, true, true, true, true, true, true, false, false, true, true, true, true, true, false, false, false, false] rfl rfl (by kernel_rfl) (fun _ _ _ h => h) (Or.inl ⟨by rfl, ?_⟩) hHeld ?_ ?_
            rotate_left
            · intro w' hh; have t := BK.c hh.2 k (arr_get Ef hk40); rw [HEK.out] at t; clear hh; go_simp; with_reducible rfl
            rotate_left
            · simp only [Act.put, List.setIfInBounds_toArray, List.set_cons_zero, List.set_cons_succ, i64_w, i32_w]; rfl
            refine take_ (i := 17) (N := some 145) (v := ?_) (a' := ?_) #[true, true, true, true, true, true, true, true, true, true, false, false, true, true, true, true, true, true, false, false, false] rfl rfl (by kernel_rfl) (fun _ _ _ h => h) (Or.inl ⟨by rfl, ?_⟩) hHeld ?_ ?_
            rotate_left
            · intro w' hh; have t := BK.c hh.1 k (arr_get Lf hk40); rw [HLK.out] at t; clear hh; go_simp; with_reducible rfl
            rotate_left
            · simp only [Act.put, List.setIfInBounds_toArray, List.set_cons_zero, List.set_cons_succ, i64_w, i32_w]; rfl
            refine pure_ (i := 18) (N := some 146) (v := ?_) (a' := ?_) #[true, true, true, true, true, true, true, true, true, true, false, false, true, true, true, true, true, true, true, false, false] rfl rfl (by kernel_rfl) (fun _ _ _ h => h) (Or.inl ⟨by rfl, ?_⟩) ?_ ?_
            rotate_left
            · intro w'; go_simp; with_reducible rfl
            rotate_left
            · simp only [Act.put, List.setIfInBounds_toArray, List.set_cons_zero, List.set_cons_succ, i64_w, i32_w]; rfl
            refine one_ (i := 10) (N := some 138) #[true, true, true, true, true, true, true, true, true, true, true, false, true, true, true, true, true, true, true, false, false] rfl rfl (by kernel_rfl) (by decide) (fun K hK => ?_)
            refine goes_ Tryz.func42 (by kernel_rfl) rfl #[.int .i64 (k : Int)] (by rfl) rfl rfl (by (try simp only [List.map_toArray, List.map_cons, List.map_nil]); first | done | rfl) ?_
            refine (id_any k (k : Int) v2d rfl (by omega)).mono ?_
            rintro e w_i ⟨rfl, hb⟩
            refine ⟨_, rfl, ?_⟩
            refine hK.out _ _ ⟨hHeld.1.on hb, hHeld.2.on hb⟩ (fun hHeld2 => ?_)
            clear hK K hHeld
            have hHeld := hHeld2
            clear hHeld2
            replace HP := Lib.hid (HP.out.on hb)
            replace HL := Lib.hid (HL.out.on hb)
            replace HE := Lib.hid (HE.out.on hb)
            replace HB := Lib.hid (HB.out.trans (hb.mono HB.out.size))
            clear hb
            refine norm_ (a' := ?_) ?_ ?_
            rotate_left
            · show Act.put _ (some 138) _ = _; simp only [Act.put, List.setIfInBounds_toArray, List.set_cons_zero, List.set_cons_succ, i64_w, i32_w]; rfl
            refine one_ (i := 11) (N := some 139) #[true, true, true, true, true, true, true, true, true, true, true, true, true, true, true, true, true, true, true, false, false] rfl rfl (by kernel_rfl) (by decide) (fun K hK => ?_)
            refine goes_ Tryz.func47 (by kernel_rfl) rfl #[.pointer (some ⟨pb, 0, none⟩), .agg (LId.cells (numI k)).toArray] (by rfl) rfl rfl (by (try simp only [List.map_toArray, List.map_cons, List.map_nil]); first | done | rfl) ?_
            refine (Has_pi k w_i HP.out (by omega)).mono ?_
            rintro e w_h ⟨rfl, hb⟩
            rw [HHS.out]
            refine ⟨_, rfl, ?_⟩
            refine hK.out _ _ ⟨hHeld.1.on hb, hHeld.2.on hb⟩ (fun hHeld2 => ?_)
            clear hK K hHeld hHeld2
            replace HP := Lib.hid (HP.out.on hb)
            replace HL := Lib.hid (HL.out.on hb)
            replace HE := Lib.hid (HE.out.on hb)
            replace HB := Lib.hid (HB.out.trans (hb.mono HB.out.size))
            clear hb
            refine norm_ (a' := ?_) ?_ ?_
            rotate_left
            · show Act.put _ (some 139) _ = _; simp only [Act.put, List.setIfInBounds_toArray, List.set_cons_zero, List.set_cons_succ, i64_w, i32_w]; rfl
            refine pure_ (i := 19) (N := some 147) (v := ?_) (a' := ?_) #[true, true, true, true, true, true, true, true, true, true, true, true, true, true, true, true, true, true, true, true, false] rfl rfl (by kernel_rfl) (fun _ _ _ h => h) (Or.inl ⟨by rfl, ?_⟩) ?_ ?_
            rotate_left
            · intro w'; go_simp; with_reducible rfl
            rotate_left
            · simp only [Act.put, List.setIfInBounds_toArray, List.set_cons_zero, List.set_cons_succ, i64_w, i32_w]; rfl
            refine pure_ (i := 20) (N := some 148) (v := ?_) (a' := ?_) #[true, true, true, true, true, true, true, true, true, true, true, true, true, true, true, true, true, true, true, true, true] rfl rfl (by kernel_rfl) (fun _ _ _ h => h) (Or.inl ⟨by rfl, ?_⟩) ?_ ?_
            rotate_left
            · intro w'; go_simp; with_reducible rfl
            rotate_left
            · simp only [Act.put, List.setIfInBounds_toArray, List.set_cons_zero, List.set_cons_succ, i64_w, i32_w]; rfl
            refine done_ (by kernel_rfl) ?_
            clear hb1 hb2 hb3 hb4 HHS HEK HLK
            go_wp2
            go_roundg (gk - 1)
            case measure => omega
            case rel => exact ⟨S_, Lf, Ef, i + 1, by have := HI.out; omega, by go_num, rfl, HO, HP, HL, HE, HLB, HB⟩
          · subst h1
            dsimp only [doneV_i] at he
            rw [h2] at he
            subst he
            have HO2 := Lib.hid h4
            have q1 : (k' : Int) < 100 := by omega
            have q2 : (k' : Int) < 40 := by omega
            have q3 : (0 : Int) ≤ (k' : Int) := by omega
            have HBQ := Lib.hid (fun W => Bring_any (k' : Int) 40 W (by omega) (by omega))
            rw [show (k' : Int) % 40 = (k' : Int) by omega] at HBQ
            clear h2 h4
            generalize J.can = cn at *
            obtain ⟨S_, hS_⟩ : ∃ x, x = (s.done m4).2 := ⟨_, rfl⟩
            rw [← hS_] at HO2 HP
            clear hS_ HO
            have HO := HO2
            clear HO2
            obtain ⟨F_, hF_⟩ : ∃ e, ended k' = e := ⟨_, rfl⟩
            have HFK : Hid ((ended k' : Int) = (F_ : Int)) := Lib.hid (by rw [hF_])
            have hFb : F_ ≤ 160 := by have h5 := HO.out.le' h3; have := HLB0.out k' h3; unfold Pst.up at h5; rw [if_pos rfl] at h5; omega
            have xl : v2.cell? ⟨ge, k', none⟩ = some (.int .i64 (F_ : Int)) := by rw [← HFK.out]; exact HE.out.c k' (arr_get ended h3)
            have fl := HE.out.fr k'
            go_wp2_with fail
            refine (HBQ.out v2).mono ?_
            rintro e w_ ⟨rfl, rfl⟩
            go_wp2_with fail
            refine (HBQ.out v2).mono ?_
            rintro e w_ ⟨rfl, rfl⟩
            go_upto_region 26 with (fail)
            clear xl fl HBQ
            have hbt : But ge v2 (v2.setCell ⟨ge, k', none⟩ (.int .i64 ((F_ : Int) + 1))) := setCell_but _ _ _ _
            have hst : BK (v2.setCell ⟨ge, k', none⟩ (.int .i64 ((F_ : Int) + 1))) ge 60 (arr (Pst.up ended k')) := HE.out.set k' _ (arr_up ended k' _ (by rw [HFK.out]))
            replace HP := Lib.hid (HP.out.but hbt (.inr rfl) HGE.out)
            replace HL := Lib.hid (HL.out.but hbt HGN.out)
            replace HB := Lib.hid (hbt.below HB.out (by have := HGE.out; have := HB2.out; omega) HB.out.size)
            clear hbt HE
            have HE := Lib.hid hst
            clear hst
            generalize v2.setCell ⟨ge, k', none⟩ (.int .i64 ((F_ : Int) + 1)) = v3 at *
            have HLB : Hid (∀ j, j < 40 → (laid) j ≤ i + 1) := Lib.hid (fun j hj => Nat.le_succ_of_le (HLB0.out j hj))
            generalize (laid) = Lf at *
            generalize (Pst.up ended k') = Ef at *
            clear hF_ HFK hFb
            go_upto_region 26 with (fail)
            have hhs := HO.out.has hk40
            have hle := HO.out.le' hk40
            obtain ⟨E_, hE_⟩ : ∃ e, Ef k = e := ⟨_, rfl⟩
            obtain ⟨L_, hL_⟩ : ∃ e, Lf k = e := ⟨_, rfl⟩
            rw [hE_, hL_] at hhs hle
            have HEK : Hid ((Ef k : Int) = (E_ : Int)) := Lib.hid (by rw [hE_])
            have HLK : Hid ((Lf k : Int) = (L_ : Int)) := Lib.hid (by rw [hL_])
            obtain ⟨bb, hbb⟩ : ∃ b, decide (E_ < L_) = b := ⟨_, rfl⟩
            rw [hbb] at hhs
            have HHS := Lib.hid hhs
            have hb1 : decide ((E_ : Int) < (L_ : Int)) = bb := by rw [← hbb]; simp
            have hb3 : decide ((L_ : Int) < (E_ : Int)) = false := by simp; omega
            have hb4 : decide (L_ < E_) = false := by simp; omega
            clear hhs hle hE_ hL_
            have hb2 := hbb
            clear hbb
            refine start_ (n := 21) (S := (fun W => BK W gl 60 (arr Lf) ∧ BK W ge 60 (arr Ef))) (ds := []) #[false, false, false, false, false, false, false, false, false, false, false, false, false, false, false, false, false, false, false, false, false] (by kernel_rfl) rfl rfl ⟨HL.out.on (Below.refl _ _).drew, HE.out.on (Below.refl _ _).drew⟩ (fun hHeld => ?_)
            have hbd := (Below.refl v3.heap.size v3).drew
            replace HP := Lib.hid (HP.out.on hbd)
            replace HL := Lib.hid (HL.out.on hbd)
            replace HE := Lib.hid (HE.out.on hbd)
            replace HB := Lib.hid (HB.out.trans (hbd.mono HB.out.size))
            clear hbd
            generalize v3.drew = v3d at *
            refine pure_ (i := 0) (N := some 128) (v := ?_) (a' := ?_) #[true, false, false, false, false, false, false, false, false, false, false, false, false, false, false, false, false, false, false, false, false] rfl rfl (by kernel_rfl) (fun _ _ _ h => h) (Or.inl ⟨by rfl, ?_⟩) ?_ ?_
            rotate_left
            · intro w'; go_simp; with_reducible rfl
            rotate_left
            · simp only [Act.put, List.setIfInBounds_toArray, List.set_cons_zero, List.set_cons_succ, i64_w, i32_w]; rfl
            refine pure_ (i := 1) (N := some 129) (v := ?_) (a' := ?_) #[true, true, false, false, false, false, false, false, false, false, false, false, false, false, false, false, false, false, false, false, false] rfl rfl (by kernel_rfl) (fun _ _ _ h => h) (Or.inl ⟨by rfl, ?_⟩) ?_ ?_
            rotate_left
            · intro w'; go_simp; with_reducible rfl
            rotate_left
            · simp only [Act.put, List.setIfInBounds_toArray, List.set_cons_zero, List.set_cons_succ, i64_w, i32_w]; rfl
            refine pure_ (i := 3) (N := some 131) (v := ?_) (a' := ?_) #[true, true, false, true, false, false, false, false, false, false, false, false, false, false, false, false, false, false, false, false, false] rfl rfl (by kernel_rfl) (fun _ _ _ h => h) (Or.inl ⟨by rfl, ?_⟩) ?_ ?_
            rotate_left
            · intro w'; go_simp; with_reducible rfl
            rotate_left
            · simp only [Act.put, List.setIfInBounds_toArray, List.set_cons_zero, List.set_cons_succ, i64_w, i32_w]; rfl
            refine pure_ (i := 4) (N := some 132) (v := ?_) (a' := ?_) #[true, true, false, true, true, false, false, false, false, false, false, false, false, false, false, false, false, false, false, false, false] rfl rfl (by kernel_rfl) (fun _ _ _ h => h) (Or.inl ⟨by rfl, ?_⟩) ?_ ?_
            rotate_left
            · intro w'; go_simp; with_reducible rfl
            rotate_left
            · simp only [Act.put, List.setIfInBounds_toArray, List.set_cons_zero, List.set_cons_succ, i64_w, i32_w]; rfl
            refine take_ (i := 2) (N := some 130) (v := ?_) (a' := ?_) #[true, true, true, true, true, false, false, false, false, false, false, false, false, false, false, false, false, false, false, false, false] rfl rfl (by kernel_rfl) (fun _ _ _ h => h) (Or.inl ⟨by rfl, ?_⟩) hHeld ?_ ?_
            rotate_left
            · intro w' hh; have t := BK.c hh.2 k (arr_get Ef hk40); rw [HEK.out] at t; clear hh; go_simp; with_reducible rfl
            rotate_left
            · simp only [Act.put, List.setIfInBounds_toArray, List.set_cons_zero, List.set_cons_succ, i64_w, i32_w]; rfl
            refine take_ (i := 5) (N := some 133) (v := ?_) (a' := ?_) #[true, true, true, true, true, true, false, false, false, false, false, false, false, false, false, false, false, false, false, false, false] rfl rfl (by kernel_rfl) (fun _ _ _ h => h) (Or.inl ⟨by rfl, ?_⟩) hHeld ?_ ?_
            rotate_left
            · intro w' hh; have t := BK.c hh.1 k (arr_get Lf hk40); rw [HLK.out] at t; clear hh; go_simp; with_reducible rfl
            rotate_left
            · simp only [Act.put, List.setIfInBounds_toArray, List.set_cons_zero, List.set_cons_succ, i64_w, i32_w]; rfl
            refine pure_ (i := 6) (N := some 134) (v := ?_) (a' := ?_) #[true, true, true, true, true, true, true, false, false, false, false, false, false, false, false, false, false, false, false, false, false] rfl rfl (by kernel_rfl) (fun _ _ _ h => h) (Or.inl ⟨by rfl, ?_⟩) ?_ ?_
            rotate_left
            · intro w'; go_simp; with_reducible rfl
            rotate_left
            · simp only [Act.put, List.setIfInBounds_toArray, List.set_cons_zero, List.set_cons_succ, i64_w, i32_w]; rfl
            refine pure_ (i := 7) (N := some 135) (v := ?_) (a' := ?_) #[true, true, true, true, true, true, true, true, false, false, false, false, false, false, false, false, false, false, false, false, false] rfl rfl (by kernel_rfl) (fun _ _ _ h => h) (Or.inl ⟨by rfl, ?_⟩) ?_ ?_
            rotate_left
            · intro w'; go_simp; with_reducible rfl
            rotate_left
            · simp only [Act.put, List.setIfInBounds_toArray, List.set_cons_zero, List.set_cons_succ, i64_w, i32_w]; rfl
            refine pure_ (i := 8) (N := some 136) (v := ?_) (a' := ?_) #[true, true, true, true, true, true, true, true, true, false, false, false, false, false, false, false, false, false, false, false, false] rfl rfl (by kernel_rfl) (fun _ _ _ h => h) (Or.inl ⟨by rfl, ?_⟩) ?_ ?_
            rotate_left
            · intro w'; go_simp; with_reducible rfl
            rotate_left
            · simp only [Act.put, List.setIfInBounds_toArray, List.set_cons_zero, List.set_cons_succ, i64_w, i32_w]; rfl
            refine pure_ (i := 9) (N := some 137) (v := ?_) (a' := ?_) #[true, true, true, true, true, true, true, true, true, true, false, false, false, false, false, false, false, false, false, false, false] rfl rfl (by kernel_rfl) (fun _ _ _ h => h) (Or.inl ⟨by rfl, ?_⟩) ?_ ?_
            rotate_left
            · intro w'; go_simp; with_reducible rfl
            rotate_left
            · simp only [Act.put, List.setIfInBounds_toArray, List.set_cons_zero, List.set_cons_succ, i64_w, i32_w]; rfl
            refine pure_ (i := 12) (N := some 140) (v := ?_) (a' := ?_) #[true, true, true, true, true, true, true, true, true, true, false, false, true, false, false, false, false, false, false, false, false] rfl rfl (by kernel_rfl) (fun _ _ _ h => h) (Or.inl ⟨by rfl, ?_⟩) ?_ ?_
            rotate_left
            · intro w'; go_simp; with_reducible rfl
            rotate_left
            · simp only [Act.put, List.setIfInBounds_toArray, List.set_cons_zero, List.set_cons_succ, i64_w, i32_w]; rfl
            refine pure_ (i := 13) (N := some 141) (v := ?_) (a' := ?_) #[true, true, true, true, true, true, true, true, true, true, false, false, true, true, false, false, false, false, false, false, false] rfl rfl (by kernel_rfl) (fun _ _ _ h => h) (Or.inl ⟨by rfl, ?_⟩) ?_ ?_
            rotate_left
            · intro w'; go_simp; with_reducible rfl
            rotate_left
            · simp only [Act.put, List.setIfInBounds_toArray, List.set_cons_zero, List.set_cons_succ, i64_w, i32_w]; rfl
            refine pure_ (i := 15) (N := some 143) (v := ?_) (a' := ?_) #[true, true, true, true, true, true, true, true, true, true, false, false, true, true, false, true, false, false, false, false, false] rfl rfl (by kernel_rfl) (fun _ _ _ h => h) (Or.inl ⟨by rfl, ?_⟩) ?_ ?_
            rotate_left
            · intro w'; go_simp; with_reducible rfl
            rotate_left
            · simp only [Act.put, List.setIfInBounds_toArray, List.set_cons_zero, List.set_cons_succ, i64_w, i32_w]; rfl
            refine pure_ (i := 16) (N := some 144) (v := ?_) (a' := ?_) #[true, true, true, true, true, true, true, true, true, true, false, false, true, true, false, true, true, false, false, false, false] rfl rfl (by kernel_rfl) (fun _ _ _ h => h) (Or.inl ⟨by rfl, ?_⟩) ?_ ?_
            rotate_left
            · intro w'; go_simp; with_reducible rfl
            rotate_left
            · simp only [Act.put, List.setIfInBounds_toArray, List.set_cons_zero, List.set_cons_succ, i64_w, i32_w]; rfl
            refine take_ (i := 14) (N := some 142) (v := ?_) (a' := ?_) #[true, true, true, true, true, true, true, true, true, true, false, false, true, true, true, true, true, false, false, false, false] rfl rfl (by kernel_rfl) (fun _ _ _ h => h) (Or.inl ⟨by rfl, ?_⟩) hHeld ?_ ?_
            rotate_left
            · intro w' hh; have t := BK.c hh.2 k (arr_get Ef hk40); rw [HEK.out] at t; clear hh; go_simp; with_reducible rfl
            rotate_left
            · simp only [Act.put, List.setIfInBounds_toArray, List.set_cons_zero, List.set_cons_succ, i64_w, i32_w]; rfl
            refine take_ (i := 17) (N := some 145) (v := ?_) (a' := ?_) #[true, true, true, true, true, true, true, true, true, true, false, false, true, true, true, true, true, true, false, false, false] rfl rfl (by kernel_rfl) (fun _ _ _ h => h) (Or.inl ⟨by rfl, ?_⟩) hHeld ?_ ?_
            rotate_left
            · intro w' hh; have t := BK.c hh.1 k (arr_get Lf hk40); rw [HLK.out] at t; clear hh; go_simp; with_reducible rfl
            rotate_left
            · simp only [Act.put, List.setIfInBounds_toArray, List.set_cons_zero, List.set_cons_succ, i64_w, i32_w]; rfl
            refine pure_ (i := 18) (N := some 146) (v := ?_) (a' := ?_) #[true, true, true, true, true, true, true, true, true, true, false, false, true, true, true, true, true, true, true, false, false] rfl rfl (by kernel_rfl) (fun _ _ _ h => h) (Or.inl ⟨by rfl, ?_⟩) ?_ ?_
            rotate_left
            · intro w'; go_simp; with_reducible rfl
            rotate_left
            · simp only [Act.put, List.setIfInBounds_toArray, List.set_cons_zero, List.set_cons_succ, i64_w, i32_w]; rfl
            refine one_ (i := 10) (N := some 138) #[true, true, true, true, true, true, true, true, true, true, true, false, true, true, true, true, true, true, true, false, false] rfl rfl (by kernel_rfl) (by decide) (fun K hK => ?_)
            refine goes_ Tryz.func42 (by kernel_rfl) rfl #[.int .i64 (k : Int)] (by rfl) rfl rfl (by (try simp only [List.map_toArray, List.map_cons, List.map_nil]); first | done | rfl) ?_
            refine (id_any k (k : Int) v3d rfl (by omega)).mono ?_
            rintro e w_i ⟨rfl, hb⟩
            refine ⟨_, rfl, ?_⟩
            refine hK.out _ _ ⟨hHeld.1.on hb, hHeld.2.on hb⟩ (fun hHeld2 => ?_)
            clear hK K hHeld
            have hHeld := hHeld2
            clear hHeld2
            replace HP := Lib.hid (HP.out.on hb)
            replace HL := Lib.hid (HL.out.on hb)
            replace HE := Lib.hid (HE.out.on hb)
            replace HB := Lib.hid (HB.out.trans (hb.mono HB.out.size))
            clear hb
            refine norm_ (a' := ?_) ?_ ?_
            rotate_left
            · show Act.put _ (some 138) _ = _; simp only [Act.put, List.setIfInBounds_toArray, List.set_cons_zero, List.set_cons_succ, i64_w, i32_w]; rfl
            refine one_ (i := 11) (N := some 139) #[true, true, true, true, true, true, true, true, true, true, true, true, true, true, true, true, true, true, true, false, false] rfl rfl (by kernel_rfl) (by decide) (fun K hK => ?_)
            refine goes_ Tryz.func47 (by kernel_rfl) rfl #[.pointer (some ⟨pb, 0, none⟩), .agg (LId.cells (numI k)).toArray] (by rfl) rfl rfl (by (try simp only [List.map_toArray, List.map_cons, List.map_nil]); first | done | rfl) ?_
            refine (Has_pi k w_i HP.out (by omega)).mono ?_
            rintro e w_h ⟨rfl, hb⟩
            rw [HHS.out]
            refine ⟨_, rfl, ?_⟩
            refine hK.out _ _ ⟨hHeld.1.on hb, hHeld.2.on hb⟩ (fun hHeld2 => ?_)
            clear hK K hHeld hHeld2
            replace HP := Lib.hid (HP.out.on hb)
            replace HL := Lib.hid (HL.out.on hb)
            replace HE := Lib.hid (HE.out.on hb)
            replace HB := Lib.hid (HB.out.trans (hb.mono HB.out.size))
            clear hb
            refine norm_ (a' := ?_) ?_ ?_
            rotate_left
            · show Act.put _ (some 139) _ = _; simp only [Act.put, List.setIfInBounds_toArray, List.set_cons_zero, List.set_cons_succ, i64_w, i32_w]; rfl
            refine pure_ (i := 19) (N := some 147) (v := ?_) (a' := ?_) #[true, true, true, true, true, true, true, true, true, true, true, true, true, true, true, true, true, true, true, true, false] rfl rfl (by kernel_rfl) (fun _ _ _ h => h) (Or.inl ⟨by rfl, ?_⟩) ?_ ?_
            rotate_left
            · intro w'; go_simp; with_reducible rfl
            rotate_left
            · simp only [Act.put, List.setIfInBounds_toArray, List.set_cons_zero, List.set_cons_succ, i64_w, i32_w]; rfl
            refine pure_ (i := 20) (N := some 148) (v := ?_) (a' := ?_) #[true, true, true, true, true, true, true, true, true, true, true, true, true, true, true, true, true, true, true, true, true] rfl rfl (by kernel_rfl) (fun _ _ _ h => h) (Or.inl ⟨by rfl, ?_⟩) ?_ ?_
            rotate_left
            · intro w'; go_simp; with_reducible rfl
            rotate_left
            · simp only [Act.put, List.setIfInBounds_toArray, List.set_cons_zero, List.set_cons_succ, i64_w, i32_w]; rfl
            refine done_ (by kernel_rfl) ?_
            clear hb1 hb2 hb3 hb4 HHS HEK HLK
            go_wp2
            go_roundg (gk - 1)
            case measure => omega
            case rel => exact ⟨S_, Lf, Ef, i + 1, by have := HI.out; omega, by go_num, rfl, HO, HP, HL, HE, HLB, HB⟩
        · rw [hc5] at HBK
          go_wp2_with fail
          refine (HBN.out wr).mono ?_
          rintro e w_ ⟨rfl, rfl⟩
          go_wp2_with fail
          refine (HBK.out wr).mono ?_
          rintro e w_ ⟨rfl, rfl⟩
          clear hcell1 hcell2 hc5
          go_wp2_with fail
          refine (id_any k (k : Int) wr rfl (by omega)).mono ?_
          rintro e v1 ⟨rfl, hb⟩
          replace HB := Lib.hid (HB.out.trans (hb.mono HB.out.size))
          replace HP := Lib.hid (HP.out.on hb)
          replace HL := Lib.hid (HL.out.on hb)
          replace HE := Lib.hid (HE.out.on hb)
          clear hb
          go_wp2_with fail
          refine (Cancel_pi k v1 HP.out (by omega)).mono ?_
          rintro e v2 ⟨he, hp, hk⟩
          replace HB := Lib.hid (HB.out.trans (hk.below.mono HB2.out))
          replace HL := Lib.hid (hk.bk HL.out (.inl rfl))
          replace HE := Lib.hid (hk.bk HE.out (.inr rfl))
          have HPn := Lib.hid hp
          clear hp hk HP
          have HP := HPn
          clear HPn
          rcases HO.out.cancel hk40 with ⟨h1, h2⟩ | ⟨h1, h2⟩
          · rw [h1] at he
            subst he
            have HO2 := Lib.hid h2
            clear h1 h2 HO
            obtain ⟨S_, hS_⟩ : ∃ x, x = (s.cancel (numI k)).2 := ⟨_, rfl⟩
            rw [← hS_] at HO2 HP
            clear hS_
            have HO := HO2
            clear HO2
            have HLB : Hid (∀ j, j < 40 → (laid) j ≤ i + 1) := Lib.hid (fun j hj => Nat.le_succ_of_le (HLB0.out j hj))
            generalize (laid) = Lf at *
            generalize (ended) = Ef at *
            go_upto_region 26 with (fail)
            have hhs := HO.out.has hk40
            have hle := HO.out.le' hk40
            obtain ⟨E_, hE_⟩ : ∃ e, Ef k = e := ⟨_, rfl⟩
            obtain ⟨L_, hL_⟩ : ∃ e, Lf k = e := ⟨_, rfl⟩
            rw [hE_, hL_] at hhs hle
            have HEK : Hid ((Ef k : Int) = (E_ : Int)) := Lib.hid (by rw [hE_])
            have HLK : Hid ((Lf k : Int) = (L_ : Int)) := Lib.hid (by rw [hL_])
            obtain ⟨bb, hbb⟩ : ∃ b, decide (E_ < L_) = b := ⟨_, rfl⟩
            rw [hbb] at hhs
            have HHS := Lib.hid hhs
            have hb1 : decide ((E_ : Int) < (L_ : Int)) = bb := by rw [← hbb]; simp
            have hb3 : decide ((L_ : Int) < (E_ : Int)) = false := by simp; omega
            have hb4 : decide (L_ < E_) = false := by simp; omega
            clear hhs hle hE_ hL_
            have hb2 := hbb
            clear hbb
            refine start_ (n := 21) (S := (fun W => BK W gl 60 (arr Lf) ∧ BK W ge 60 (arr Ef))) (ds := []) #[false, false, false, false, false, false, false, false, false, false, false, false, false, false, false, false, false, false, false, false, false] (by kernel_rfl) rfl rfl ⟨HL.out.on (Below.refl _ _).drew, HE.out.on (Below.refl _ _).drew⟩ (fun hHeld => ?_)
            have hbd := (Below.refl v2.heap.size v2).drew
            replace HP := Lib.hid (HP.out.on hbd)
            replace HL := Lib.hid (HL.out.on hbd)
            replace HE := Lib.hid (HE.out.on hbd)
            replace HB := Lib.hid (HB.out.trans (hbd.mono HB.out.size))
            clear hbd
            generalize v2.drew = v2d at *
            refine pure_ (i := 0) (N := some 128) (v := ?_) (a' := ?_) #[true, false, false, false, false, false, false, false, false, false, false, false, false, false, false, false, false, false, false, false, false] rfl rfl (by kernel_rfl) (fun _ _ _ h => h) (Or.inl ⟨by rfl, ?_⟩) ?_ ?_
            rotate_left
            · intro w'; go_simp; with_reducible rfl
            rotate_left
            · simp only [Act.put, List.setIfInBounds_toArray, List.set_cons_zero, List.set_cons_succ, i64_w, i32_w]; rfl
            refine pure_ (i := 1) (N := some 129) (v := ?_) (a' := ?_) #[true, true, false, false, false, false, false, false, false, false, false, false, false, false, false, false, false, false, false, false, false] rfl rfl (by kernel_rfl) (fun _ _ _ h => h) (Or.inl ⟨by rfl, ?_⟩) ?_ ?_
            rotate_left
            · intro w'; go_simp; with_reducible rfl
            rotate_left
            · simp only [Act.put, List.setIfInBounds_toArray, List.set_cons_zero, List.set_cons_succ, i64_w, i32_w]; rfl
            refine pure_ (i := 3) (N := some 131) (v := ?_) (a' := ?_) #[true, true, false, true, false, false, false, false, false, false, false, false, false, false, false, false, false, false, false, false, false] rfl rfl (by kernel_rfl) (fun _ _ _ h => h) (Or.inl ⟨by rfl, ?_⟩) ?_ ?_
            rotate_left
            · intro w'; go_simp; with_reducible rfl
            rotate_left
            · simp only [Act.put, List.setIfInBounds_toArray, List.set_cons_zero, List.set_cons_succ, i64_w, i32_w]; rfl
            refine pure_ (i := 4) (N := some 132) (v := ?_) (a' := ?_) #[true, true, false, true, true, false, false, false, false, false, false, false, false, false, false, false, false, false, false, false, false] rfl rfl (by kernel_rfl) (fun _ _ _ h => h) (Or.inl ⟨by rfl, ?_⟩) ?_ ?_
            rotate_left
            · intro w'; go_simp; with_reducible rfl
            rotate_left
            · simp only [Act.put, List.setIfInBounds_toArray, List.set_cons_zero, List.set_cons_succ, i64_w, i32_w]; rfl
            refine take_ (i := 2) (N := some 130) (v := ?_) (a' := ?_) #[true, true, true, true, true, false, false, false, false, false, false, false, false, false, false, false, false, false, false, false, false] rfl rfl (by kernel_rfl) (fun _ _ _ h => h) (Or.inl ⟨by rfl, ?_⟩) hHeld ?_ ?_
            rotate_left
            · intro w' hh; have t := BK.c hh.2 k (arr_get Ef hk40); rw [HEK.out] at t; clear hh; go_simp; with_reducible rfl
            rotate_left
            · simp only [Act.put, List.setIfInBounds_toArray, List.set_cons_zero, List.set_cons_succ, i64_w, i32_w]; rfl
            refine take_ (i := 5) (N := some 133) (v := ?_) (a' := ?_) #[true, true, true, true, true, true, false, false, false, false, false, false, false, false, false, false, false, false, false, false, false] rfl rfl (by kernel_rfl) (fun _ _ _ h => h) (Or.inl ⟨by rfl, ?_⟩) hHeld ?_ ?_
            rotate_left
            · intro w' hh; have t := BK.c hh.1 k (arr_get Lf hk40); rw [HLK.out] at t; clear hh; go_simp; with_reducible rfl
            rotate_left
            · simp only [Act.put, List.setIfInBounds_toArray, List.set_cons_zero, List.set_cons_succ, i64_w, i32_w]; rfl
            refine pure_ (i := 6) (N := some 134) (v := ?_) (a' := ?_) #[true, true, true, true, true, true, true, false, false, false, false, false, false, false, false, false, false, false, false, false, false] rfl rfl (by kernel_rfl) (fun _ _ _ h => h) (Or.inl ⟨by rfl, ?_⟩) ?_ ?_
            rotate_left
            · intro w'; go_simp; with_reducible rfl
            rotate_left
            · simp only [Act.put, List.setIfInBounds_toArray, List.set_cons_zero, List.set_cons_succ, i64_w, i32_w]; rfl
            refine pure_ (i := 7) (N := some 135) (v := ?_) (a' := ?_) #[true, true, true, true, true, true, true, true, false, false, false, false, false, false, false, false, false, false, false, false, false] rfl rfl (by kernel_rfl) (fun _ _ _ h => h) (Or.inl ⟨by rfl, ?_⟩) ?_ ?_
            rotate_left
            · intro w'; go_simp; with_reducible rfl
            rotate_left
            · simp only [Act.put, List.setIfInBounds_toArray, List.set_cons_zero, List.set_cons_succ, i64_w, i32_w]; rfl
            refine pure_ (i := 8) (N := some 136) (v := ?_) (a' := ?_) #[true, true, true, true, true, true, true, true, true, false, false, false, false, false, false, false, false, false, false, false, false] rfl rfl (by kernel_rfl) (fun _ _ _ h => h) (Or.inl ⟨by rfl, ?_⟩) ?_ ?_
            rotate_left
            · intro w'; go_simp; with_reducible rfl
            rotate_left
            · simp only [Act.put, List.setIfInBounds_toArray, List.set_cons_zero, List.set_cons_succ, i64_w, i32_w]; rfl
            refine pure_ (i := 9) (N := some 137) (v := ?_) (a' := ?_) #[true, true, true, true, true, true, true, true, true, true, false, false, false, false, false, false, false, false, false, false, false] rfl rfl (by kernel_rfl) (fun _ _ _ h => h) (Or.inl ⟨by rfl, ?_⟩) ?_ ?_
            rotate_left
            · intro w'; go_simp; with_reducible rfl
            rotate_left
            · simp only [Act.put, List.setIfInBounds_toArray, List.set_cons_zero, List.set_cons_succ, i64_w, i32_w]; rfl
            refine pure_ (i := 12) (N := some 140) (v := ?_) (a' := ?_) #[true, true, true, true, true, true, true, true, true, true, false, false, true, false, false, false, false, false, false, false, false] rfl rfl (by kernel_rfl) (fun _ _ _ h => h) (Or.inl ⟨by rfl, ?_⟩) ?_ ?_
            rotate_left
            · intro w'; go_simp; with_reducible rfl
            rotate_left
            · simp only [Act.put, List.setIfInBounds_toArray, List.set_cons_zero, List.set_cons_succ, i64_w, i32_w]; rfl
            refine pure_ (i := 13) (N := some 141) (v := ?_) (a' := ?_) #[true, true, true, true, true, true, true, true, true, true, false, false, true, true, false, false, false, false, false, false, false] rfl rfl (by kernel_rfl) (fun _ _ _ h => h) (Or.inl ⟨by rfl, ?_⟩) ?_ ?_
            rotate_left
            · intro w'; go_simp; with_reducible rfl
            rotate_left
            · simp only [Act.put, List.setIfInBounds_toArray, List.set_cons_zero, List.set_cons_succ, i64_w, i32_w]; rfl
            refine pure_ (i := 15) (N := some 143) (v := ?_) (a' := ?_) #[true, true, true, true, true, true, true, true, true, true, false, false, true, true, false, true, false, false, false, false, false] rfl rfl (by kernel_rfl) (fun _ _ _ h => h) (Or.inl ⟨by rfl, ?_⟩) ?_ ?_
            rotate_left
            · intro w'; go_simp; with_reducible rfl
            rotate_left
            · simp only [Act.put, List.setIfInBounds_toArray, List.set_cons_zero, List.set_cons_succ, i64_w, i32_w]; rfl
            refine pure_ (i := 16) (N := some 144) (v := ?_) (a' := ?_) #[true, true, true, true, true, true, true, true, true, true, false, false, true, true, false, true, true, false, false, false, false] rfl rfl (by kernel_rfl) (fun _ _ _ h => h) (Or.inl ⟨by rfl, ?_⟩) ?_ ?_
            rotate_left
            · intro w'; go_simp; with_reducible rfl
            rotate_left
            · simp only [Act.put, List.setIfInBounds_toArray, List.set_cons_zero, List.set_cons_succ, i64_w, i32_w]; rfl
            refine take_ (i := 14) (N := some 142) (v := ?_) (a' := ?_) #[true, true, true, true, true, true, true, true, true, true, false, false, true, true, true, true, true, false, false, false, false] rfl rfl (by kernel_rfl) (fun _ _ _ h => h) (Or.inl ⟨by rfl, ?_⟩) hHeld ?_ ?_
            rotate_left
            · intro w' hh; have t := BK.c hh.2 k (arr_get Ef hk40); rw [HEK.out] at t; clear hh; go_simp; with_reducible rfl
            rotate_left
            · simp only [Act.put, List.setIfInBounds_toArray, List.set_cons_zero, List.set_cons_succ, i64_w, i32_w]; rfl
            refine take_ (i := 17) (N := some 145) (v := ?_) (a' := ?_) #[true, true, true, true, true, true, true, true, true, true, false, false, true, true, true, true, true, true, false, false, false] rfl rfl (by kernel_rfl) (fun _ _ _ h => h) (Or.inl ⟨by rfl, ?_⟩) hHeld ?_ ?_
            rotate_left
            · intro w' hh; have t := BK.c hh.1 k (arr_get Lf hk40); rw [HLK.out] at t; clear hh; go_simp; with_reducible rfl
            rotate_left
            · simp only [Act.put, List.setIfInBounds_toArray, List.set_cons_zero, List.set_cons_succ, i64_w, i32_w]; rfl
            refine pure_ (i := 18) (N := some 146) (v := ?_) (a' := ?_) #[true, true, true, true, true, true, true, true, true, true, false, false, true, true, true, true, true, true, true, false, false] rfl rfl (by kernel_rfl) (fun _ _ _ h => h) (Or.inl ⟨by rfl, ?_⟩) ?_ ?_
            rotate_left
            · intro w'; go_simp; with_reducible rfl
            rotate_left
            · simp only [Act.put, List.setIfInBounds_toArray, List.set_cons_zero, List.set_cons_succ, i64_w, i32_w]; rfl
            refine one_ (i := 10) (N := some 138) #[true, true, true, true, true, true, true, true, true, true, true, false, true, true, true, true, true, true, true, false, false] rfl rfl (by kernel_rfl) (by decide) (fun K hK => ?_)
            refine goes_ Tryz.func42 (by kernel_rfl) rfl #[.int .i64 (k : Int)] (by rfl) rfl rfl (by (try simp only [List.map_toArray, List.map_cons, List.map_nil]); first | done | rfl) ?_
            refine (id_any k (k : Int) v2d rfl (by omega)).mono ?_
            rintro e w_i ⟨rfl, hb⟩
            refine ⟨_, rfl, ?_⟩
            refine hK.out _ _ ⟨hHeld.1.on hb, hHeld.2.on hb⟩ (fun hHeld2 => ?_)
            clear hK K hHeld
            have hHeld := hHeld2
            clear hHeld2
            replace HP := Lib.hid (HP.out.on hb)
            replace HL := Lib.hid (HL.out.on hb)
            replace HE := Lib.hid (HE.out.on hb)
            replace HB := Lib.hid (HB.out.trans (hb.mono HB.out.size))
            clear hb
            refine norm_ (a' := ?_) ?_ ?_
            rotate_left
            · show Act.put _ (some 138) _ = _; simp only [Act.put, List.setIfInBounds_toArray, List.set_cons_zero, List.set_cons_succ, i64_w, i32_w]; rfl
            refine one_ (i := 11) (N := some 139) #[true, true, true, true, true, true, true, true, true, true, true, true, true, true, true, true, true, true, true, false, false] rfl rfl (by kernel_rfl) (by decide) (fun K hK => ?_)
            refine goes_ Tryz.func47 (by kernel_rfl) rfl #[.pointer (some ⟨pb, 0, none⟩), .agg (LId.cells (numI k)).toArray] (by rfl) rfl rfl (by (try simp only [List.map_toArray, List.map_cons, List.map_nil]); first | done | rfl) ?_
            refine (Has_pi k w_i HP.out (by omega)).mono ?_
            rintro e w_h ⟨rfl, hb⟩
            rw [HHS.out]
            refine ⟨_, rfl, ?_⟩
            refine hK.out _ _ ⟨hHeld.1.on hb, hHeld.2.on hb⟩ (fun hHeld2 => ?_)
            clear hK K hHeld hHeld2
            replace HP := Lib.hid (HP.out.on hb)
            replace HL := Lib.hid (HL.out.on hb)
            replace HE := Lib.hid (HE.out.on hb)
            replace HB := Lib.hid (HB.out.trans (hb.mono HB.out.size))
            clear hb
            refine norm_ (a' := ?_) ?_ ?_
            rotate_left
            · show Act.put _ (some 139) _ = _; simp only [Act.put, List.setIfInBounds_toArray, List.set_cons_zero, List.set_cons_succ, i64_w, i32_w]; rfl
            refine pure_ (i := 19) (N := some 147) (v := ?_) (a' := ?_) #[true, true, true, true, true, true, true, true, true, true, true, true, true, true, true, true, true, true, true, true, false] rfl rfl (by kernel_rfl) (fun _ _ _ h => h) (Or.inl ⟨by rfl, ?_⟩) ?_ ?_
            rotate_left
            · intro w'; go_simp; with_reducible rfl
            rotate_left
            · simp only [Act.put, List.setIfInBounds_toArray, List.set_cons_zero, List.set_cons_succ, i64_w, i32_w]; rfl
            refine pure_ (i := 20) (N := some 148) (v := ?_) (a' := ?_) #[true, true, true, true, true, true, true, true, true, true, true, true, true, true, true, true, true, true, true, true, true] rfl rfl (by kernel_rfl) (fun _ _ _ h => h) (Or.inl ⟨by rfl, ?_⟩) ?_ ?_
            rotate_left
            · intro w'; go_simp; with_reducible rfl
            rotate_left
            · simp only [Act.put, List.setIfInBounds_toArray, List.set_cons_zero, List.set_cons_succ, i64_w, i32_w]; rfl
            refine done_ (by kernel_rfl) ?_
            clear hb1 hb2 hb3 hb4 HHS HEK HLK
            go_wp2
            go_roundg (gk - 1)
            case measure => omega
            case rel => exact ⟨S_, Lf, Ef, i + 1, by have := HI.out; omega, by go_num, rfl, HO, HP, HL, HE, HLB, HB⟩
          · rw [h1] at he
            subst he
            have HO2 := Lib.hid h2
            clear h1 h2 HO
            obtain ⟨S_, hS_⟩ : ∃ x, x = (s.cancel (numI k)).2 := ⟨_, rfl⟩
            rw [← hS_] at HO2 HP
            clear hS_
            have HO := HO2
            clear HO2
            obtain ⟨F_, hF_⟩ : ∃ e, ended k = e := ⟨_, rfl⟩
            have HFK : Hid ((ended k : Int) = (F_ : Int)) := Lib.hid (by rw [hF_])
            have hFb : F_ ≤ 160 := by have h5 := HO.out.le' hk40; have := HLB0.out k hk40; unfold Pst.up at h5; rw [if_pos rfl] at h5; omega
            have xl : v2.cell? ⟨ge, k, none⟩ = some (.int .i64 (F_ : Int)) := by rw [← HFK.out]; exact HE.out.c k (arr_get ended hk40)
            have fl := HE.out.fr k
            go_upto_region 26 with (fail)
            clear xl fl
            have hbt : But ge v2 (v2.setCell ⟨ge, k, none⟩ (.int .i64 ((F_ : Int) + 1))) := setCell_but _ _ _ _
            have hst : BK (v2.setCell ⟨ge, k, none⟩ (.int .i64 ((F_ : Int) + 1))) ge 60 (arr (Pst.up ended k)) := HE.out.set k _ (arr_up ended k _ (by rw [HFK.out]))
            replace HP := Lib.hid (HP.out.but hbt (.inr rfl) HGE.out)
            replace HL := Lib.hid (HL.out.but hbt HGN.out)
            replace HB := Lib.hid (hbt.below HB.out (by have := HGE.out; have := HB2.out; omega) HB.out.size)
            clear hbt HE
            have HE := Lib.hid hst
            clear hst
            generalize v2.setCell ⟨ge, k, none⟩ (.int .i64 ((F_ : Int) + 1)) = v3 at *
            have HLB : Hid (∀ j, j < 40 → (laid) j ≤ i + 1) := Lib.hid (fun j hj => Nat.le_succ_of_le (HLB0.out j hj))
            generalize (laid) = Lf at *
            generalize (Pst.up ended k) = Ef at *
            clear hF_ HFK hFb
            go_upto_region 26 with (fail)
            have hhs := HO.out.has hk40
            have hle := HO.out.le' hk40
            obtain ⟨E_, hE_⟩ : ∃ e, Ef k = e := ⟨_, rfl⟩
            obtain ⟨L_, hL_⟩ : ∃ e, Lf k = e := ⟨_, rfl⟩
            rw [hE_, hL_] at hhs hle
            have HEK : Hid ((Ef k : Int) = (E_ : Int)) := Lib.hid (by rw [hE_])
            have HLK : Hid ((Lf k : Int) = (L_ : Int)) := Lib.hid (by rw [hL_])
            obtain ⟨bb, hbb⟩ : ∃ b, decide (E_ < L_) = b := ⟨_, rfl⟩
            rw [hbb] at hhs
            have HHS := Lib.hid hhs
            have hb1 : decide ((E_ : Int) < (L_ : Int)) = bb := by rw [← hbb]; simp
            have hb3 : decide ((L_ : Int) < (E_ : Int)) = false := by simp; omega
            have hb4 : decide (L_ < E_) = false := by simp; omega
            clear hhs hle hE_ hL_
            have hb2 := hbb
            clear hbb
            refine start_ (n := 21) (S := (fun W => BK W gl 60 (arr Lf) ∧ BK W ge 60 (arr Ef))) (ds := []) #[false, false, false, false, false, false, false, false, false, false, false, false, false, false, false, false, false, false, false, false, false] (by kernel_rfl) rfl rfl ⟨HL.out.on (Below.refl _ _).drew, HE.out.on (Below.refl _ _).drew⟩ (fun hHeld => ?_)
            have hbd := (Below.refl v3.heap.size v3).drew
            replace HP := Lib.hid (HP.out.on hbd)
            replace HL := Lib.hid (HL.out.on hbd)
            replace HE := Lib.hid (HE.out.on hbd)
            replace HB := Lib.hid (HB.out.trans (hbd.mono HB.out.size))
            clear hbd
            generalize v3.drew = v3d at *
            refine pure_ (i := 0) (N := some 128) (v := ?_) (a' := ?_) #[true, false, false, false, false, false, false, false, false, false, false, false, false, false, false, false, false, false, false, false, false] rfl rfl (by kernel_rfl) (fun _ _ _ h => h) (Or.inl ⟨by rfl, ?_⟩) ?_ ?_
            rotate_left
            · intro w'; go_simp; with_reducible rfl
            rotate_left
            · simp only [Act.put, List.setIfInBounds_toArray, List.set_cons_zero, List.set_cons_succ, i64_w, i32_w]; rfl
            refine pure_ (i := 1) (N := some 129) (v := ?_) (a' := ?_) #[true, true, false, false, false, false, false, false, false, false, false, false, false, false, false, false, false, false, false, false, false] rfl rfl (by kernel_rfl) (fun _ _ _ h => h) (Or.inl ⟨by rfl, ?_⟩) ?_ ?_
            rotate_left
            · intro w'; go_simp; with_reducible rfl
            rotate_left
            · simp only [Act.put, List.setIfInBounds_toArray, List.set_cons_zero, List.set_cons_succ, i64_w, i32_w]; rfl
            refine pure_ (i := 3) (N := some 131) (v := ?_) (a' := ?_) #[true, true, false, true, false, false, false, false, false, false, false, false, false, false, false, false, false, false, false, false, false] rfl rfl (by kernel_rfl) (fun _ _ _ h => h) (Or.inl ⟨by rfl, ?_⟩) ?_ ?_
            rotate_left
            · intro w'; go_simp; with_reducible rfl
            rotate_left
            · simp only [Act.put, List.setIfInBounds_toArray, List.set_cons_zero, List.set_cons_succ, i64_w, i32_w]; rfl
            refine pure_ (i := 4) (N := some 132) (v := ?_) (a' := ?_) #[true, true, false, true, true, false, false, false, false, false, false, false, false, false, false, false, false, false, false, false, false] rfl rfl (by kernel_rfl) (fun _ _ _ h => h) (Or.inl ⟨by rfl, ?_⟩) ?_ ?_
            rotate_left
            · intro w'; go_simp; with_reducible rfl
            rotate_left
            · simp only [Act.put, List.setIfInBounds_toArray, List.set_cons_zero, List.set_cons_succ, i64_w, i32_w]; rfl
            refine take_ (i := 2) (N := some 130) (v := ?_) (a' := ?_) #[true, true, true, true, true, false, false, false, false, false, false, false, false, false, false, false, false, false, false, false, false] rfl rfl (by kernel_rfl) (fun _ _ _ h => h) (Or.inl ⟨by rfl, ?_⟩) hHeld ?_ ?_
            rotate_left
            · intro w' hh; have t := BK.c hh.2 k (arr_get Ef hk40); rw [HEK.out] at t; clear hh; go_simp; with_reducible rfl
            rotate_left
            · simp only [Act.put, List.setIfInBounds_toArray, List.set_cons_zero, List.set_cons_succ, i64_w, i32_w]; rfl
            refine take_ (i := 5) (N := some 133) (v := ?_) (a' := ?_) #[true, true, true, true, true, true, false, false, false, false, false, false, false, false, false, false, false, false, false, false, false] rfl rfl (by kernel_rfl) (fun _ _ _ h => h) (Or.inl ⟨by rfl, ?_⟩) hHeld ?_ ?_
            rotate_left
            · intro w' hh; have t := BK.c hh.1 k (arr_get Lf hk40); rw [HLK.out] at t; clear hh; go_simp; with_reducible rfl
            rotate_left
            · simp only [Act.put, List.setIfInBounds_toArray, List.set_cons_zero, List.set_cons_succ, i64_w, i32_w]; rfl
            refine pure_ (i := 6) (N := some 134) (v := ?_) (a' := ?_) #[true, true, true, true, true, true, true, false, false, false, false, false, false, false, false, false, false, false, false, false, false] rfl rfl (by kernel_rfl) (fun _ _ _ h => h) (Or.inl ⟨by rfl, ?_⟩) ?_ ?_
            rotate_left
            · intro w'; go_simp; with_reducible rfl
            rotate_left
            · simp only [Act.put, List.setIfInBounds_toArray, List.set_cons_zero, List.set_cons_succ, i64_w, i32_w]; rfl
            refine pure_ (i := 7) (N := some 135) (v := ?_) (a' := ?_) #[true, true, true, true, true, true, true, true, false, false, false, false, false, false, false, false, false, false, false, false, false] rfl rfl (by kernel_rfl) (fun _ _ _ h => h) (Or.inl ⟨by rfl, ?_⟩) ?_ ?_
            rotate_left
            · intro w'; go_simp; with_reducible rfl
            rotate_left
            · simp only [Act.put, List.setIfInBounds_toArray, List.set_cons_zero, List.set_cons_succ, i64_w, i32_w]; rfl
            refine pure_ (i := 8) (N := some 136) (v := ?_) (a' := ?_) #[true, true, true, true, true, true, true, true, true, false, false, false, false, false, false, false, false, false, false, false, false] rfl rfl (by kernel_rfl) (fun _ _ _ h => h) (Or.inl ⟨by rfl, ?_⟩) ?_ ?_
            rotate_left
            · intro w'; go_simp; with_reducible rfl
            rotate_left
            · simp only [Act.put, List.setIfInBounds_toArray, List.set_cons_zero, List.set_cons_succ, i64_w, i32_w]; rfl
            refine pure_ (i := 9) (N := some 137) (v := ?_) (a' := ?_) #[true, true, true, true, true, true, true, true, true, true, false, false, false, false, false, false, false, false, false, false, false] rfl rfl (by kernel_rfl) (fun _ _ _ h => h) (Or.inl ⟨by rfl, ?_⟩) ?_ ?_
            rotate_left
            · intro w'; go_simp; with_reducible rfl
            rotate_left
            · simp only [Act.put, List.setIfInBounds_toArray, List.set_cons_zero, List.set_cons_succ, i64_w, i32_w]; rfl
            refine pure_ (i := 12) (N := some 140) (v := ?_) (a' := ?_) #[true, true, true, true, true, true, true, true, true, true, false, false, true, false, false, false, false, false, false, false, false] rfl rfl (by kernel_rfl) (fun _ _ _ h => h) (Or.inl ⟨by rfl, ?_⟩) ?_ ?_
            rotate_left
            · intro w'; go_simp; with_reducible rfl
            rotate_left
            · simp only [Act.put, List.setIfInBounds_toArray, List.set_cons_zero, List.set_cons_succ, i64_w, i32_w]; rfl
            refine pure_ (i := 13) (N := some 141) (v := ?_) (a' := ?_) #[true, true, true, true, true, true, true, true, true, true, false, false, true, true, false, false, false, false, false, false, false] rfl rfl (by kernel_rfl) (fun _ _ _ h => h) (Or.inl ⟨by rfl, ?_⟩) ?_ ?_
            rotate_left
            · intro w'; go_simp; with_reducible rfl
            rotate_left
            · simp only [Act.put, List.setIfInBounds_toArray, List.set_cons_zero, List.set_cons_succ, i64_w, i32_w]; rfl
            refine pure_ (i := 15) (N := some 143) (v := ?_) (a' := ?_) #[true, true, true, true, true, true, true, true, true, true, false, false, true, true, false, true, false, false, false, false, false] rfl rfl (by kernel_rfl) (fun _ _ _ h => h) (Or.inl ⟨by rfl, ?_⟩) ?_ ?_
            rotate_left
            · intro w'; go_simp; with_reducible rfl
            rotate_left
            · simp only [Act.put, List.setIfInBounds_toArray, List.set_cons_zero, List.set_cons_succ, i64_w, i32_w]; rfl
            refine pure_ (i := 16) (N := some 144) (v := ?_) (a' := ?_) #[true, true, true, true, true, true, true, true, true, true, false, false, true, true, false, true, true, false, false, false, false] rfl rfl (by kernel_rfl) (fun _ _ _ h => h) (Or.inl ⟨by rfl, ?_⟩) ?_ ?_
            rotate_left
            · intro w'; go_simp; with_reducible rfl
            rotate_left
            · simp only [Act.put, List.setIfInBounds_toArray, List.set_cons_zero, List.set_cons_succ, i64_w, i32_w]; rfl
            refine take_ (i := 14) (N := some 142) (v := ?_) (a' := ?_) #[true, true, true, true, true, true, true, true, true, true, false, false, true, true, true, true, true, false, false, false, false] rfl rfl (by kernel_rfl) (fun _ _ _ h => h) (Or.inl ⟨by rfl, ?_⟩) hHeld ?_ ?_
            rotate_left
            · intro w' hh; have t := BK.c hh.2 k (arr_get Ef hk40); rw [HEK.out] at t; clear hh; go_simp; with_reducible rfl
            rotate_left
            · simp only [Act.put, List.setIfInBounds_toArray, List.set_cons_zero, List.set_cons_succ, i64_w, i32_w]; rfl
            refine take_ (i := 17) (N := some 145) (v := ?_) (a' := ?_) #[true, true, true, true, true, true, true, true, true, true, false, false, true, true, true, true, true, true, false, false, false] rfl rfl (by kernel_rfl) (fun _ _ _ h => h) (Or.inl ⟨by rfl, ?_⟩) hHeld ?_ ?_
            rotate_left
            · intro w' hh; have t := BK.c hh.1 k (arr_get Lf hk40); rw [HLK.out] at t; clear hh; go_simp; with_reducible rfl
            rotate_left
            · simp only [Act.put, List.setIfInBounds_toArray, List.set_cons_zero, List.set_cons_succ, i64_w, i32_w]; rfl
            refine pure_ (i := 18) (N := some 146) (v := ?_) (a' := ?_) #[true, true, true, true, true, true, true, true, true, true, false, false, true, true, true, true, true, true, true, false, false] rfl rfl (by kernel_rfl) (fun _ _ _ h => h) (Or.inl ⟨by rfl, ?_⟩) ?_ ?_
            rotate_left
            · intro w'; go_simp; with_reducible rfl
            rotate_left
            · simp only [Act.put, List.setIfInBounds_toArray, List.set_cons_zero, List.set_cons_succ, i64_w, i32_w]; rfl
            refine one_ (i := 10) (N := some 138) #[true, true, true, true, true, true, true, true, true, true, true, false, true, true, true, true, true, true, true, false, false] rfl rfl (by kernel_rfl) (by decide) (fun K hK => ?_)
            refine goes_ Tryz.func42 (by kernel_rfl) rfl #[.int .i64 (k : Int)] (by rfl) rfl rfl (by (try simp only [List.map_toArray, List.map_cons, List.map_nil]); first | done | rfl) ?_
            refine (id_any k (k : Int) v3d rfl (by omega)).mono ?_
            rintro e w_i ⟨rfl, hb⟩
            refine ⟨_, rfl, ?_⟩
            refine hK.out _ _ ⟨hHeld.1.on hb, hHeld.2.on hb⟩ (fun hHeld2 => ?_)
            clear hK K hHeld
            have hHeld := hHeld2
            clear hHeld2
            replace HP := Lib.hid (HP.out.on hb)
            replace HL := Lib.hid (HL.out.on hb)
            replace HE := Lib.hid (HE.out.on hb)
            replace HB := Lib.hid (HB.out.trans (hb.mono HB.out.size))
            clear hb
            refine norm_ (a' := ?_) ?_ ?_
            rotate_left
            · show Act.put _ (some 138) _ = _; simp only [Act.put, List.setIfInBounds_toArray, List.set_cons_zero, List.set_cons_succ, i64_w, i32_w]; rfl
            refine one_ (i := 11) (N := some 139) #[true, true, true, true, true, true, true, true, true, true, true, true, true, true, true, true, true, true, true, false, false] rfl rfl (by kernel_rfl) (by decide) (fun K hK => ?_)
            refine goes_ Tryz.func47 (by kernel_rfl) rfl #[.pointer (some ⟨pb, 0, none⟩), .agg (LId.cells (numI k)).toArray] (by rfl) rfl rfl (by (try simp only [List.map_toArray, List.map_cons, List.map_nil]); first | done | rfl) ?_
            refine (Has_pi k w_i HP.out (by omega)).mono ?_
            rintro e w_h ⟨rfl, hb⟩
            rw [HHS.out]
            refine ⟨_, rfl, ?_⟩
            refine hK.out _ _ ⟨hHeld.1.on hb, hHeld.2.on hb⟩ (fun hHeld2 => ?_)
            clear hK K hHeld hHeld2
            replace HP := Lib.hid (HP.out.on hb)
            replace HL := Lib.hid (HL.out.on hb)
            replace HE := Lib.hid (HE.out.on hb)
            replace HB := Lib.hid (HB.out.trans (hb.mono HB.out.size))
            clear hb
            refine norm_ (a' := ?_) ?_ ?_
            rotate_left
            · show Act.put _ (some 139) _ = _; simp only [Act.put, List.setIfInBounds_toArray, List.set_cons_zero, List.set_cons_succ, i64_w, i32_w]; rfl
            refine pure_ (i := 19) (N := some 147) (v := ?_) (a' := ?_) #[true, true, true, true, true, true, true, true, true, true, true, true, true, true, true, true, true, true, true, true, false] rfl rfl (by kernel_rfl) (fun _ _ _ h => h) (Or.inl ⟨by rfl, ?_⟩) ?_ ?_
            rotate_left
            · intro w'; go_simp; with_reducible rfl
            rotate_left
            · simp only [Act.put, List.setIfInBounds_toArray, List.set_cons_zero, List.set_cons_succ, i64_w, i32_w]; rfl
            refine pure_ (i := 20) (N := some 148) (v := ?_) (a' := ?_) #[true, true, true, true, true, true, true, true, true, true, true, true, true, true, true, true, true, true, true, true, true] rfl rfl (by kernel_rfl) (fun _ _ _ h => h) (Or.inl ⟨by rfl, ?_⟩) ?_ ?_
            rotate_left
            · intro w'; go_simp; with_reducible rfl
            rotate_left
            · simp only [Act.put, List.setIfInBounds_toArray, List.set_cons_zero, List.set_cons_succ, i64_w, i32_w]; rfl
            refine done_ (by kernel_rfl) ?_
            clear hb1 hb2 hb3 hb4 HHS HEK HLK
            go_wp2
            go_roundg (gk - 1)
            case measure => omega
            case rel => exact ⟨S_, Lf, Ef, i + 1, by have := HI.out; omega, by go_num, rfl, HO, HP, HL, HE, HLB, HB⟩
      · have d0 : (i : Int) < (L : Int) := by omega
        have d1 : ¬ (i : Int) < 150 := by omega
        have HLB : Hid (∀ j, j < 40 → laid j ≤ 150) := Lib.hid (fun j hj => Nat.le_trans (HLB0.out j hj) HMI.out.2)
        have HEB := Lib.hid HO.out.ebb
        clear HLB0
        go_wp2_with fail
        clear d0 d1
        obtain ⟨wo, rfl⟩ : ∃ wo : World, wo = wr := ⟨_, rfl⟩
        go_loopg [16] 200 (fun q v16 wr => ∃ (s : Pst Int) (ended : Nat → Nat) (j : Nat), j + q = 200 ∧ v16 = .int .i64 j ∧ Hid (Pst.Once s laid ended) ∧ Hid (Pst.Ebb s j) ∧ Hid (PPi B pb (KA gl ge) s wr) ∧ Hid (BK wr gl 60 (arr laid)) ∧ Hid (BK wr ge 60 (arr ended)) ∧ Hid (Below w.heap.size w wr))
        case atStart => exact ⟨s, ended, 0, rfl, rfl, HO, HEB, HP, HL, HE, HB⟩
        case round =>
          clear HP HL HE HB HO HEB HI
          obtain ⟨s, ended, j, hj, rfl, HO, HEB, HP, HL, HE, HB⟩ := hrel
          have HI := Lib.hid hj
          by_cases hlt2 : j < 200
          · have d2 : (j : Int) < 200 := by omega
            have j0 : (0 : Int) ≤ (j : Int) := by omega
            have hgk : 0 < gk := by omega
            obtain ⟨m4, hm4⟩ : ∃ m, j % 4 = m := ⟨_, rfl⟩
            have hm44 : m4 < 4 := by omega
            have ht5 : (j : Int).tmod 4 = (m4 : Int) := by rw [Int.tmod_eq_emod_of_nonneg (by omega)]; omega
            have ht6 : (j : Int) % 4 = (m4 : Int) := by omega
            have HEB2 := Lib.hid (HEB.out.step HO.out.len)
            rw [hm4] at HEB2
            clear hm4 hj HEB
            go_wp2_with fail
            refine (Done_pi m4 (m4 : Int) wr HP.out rfl (by rw [HO.out.len]; exact hm44)).mono ?_
            rintro e v2 ⟨he, hp, hk⟩
            replace HB := Lib.hid (HB.out.trans (hk.below.mono HB2.out))
            replace HL := Lib.hid (hk.bk HL.out (.inl rfl))
            replace HE := Lib.hid (hk.bk HE.out (.inr rfl))
            have HPn := Lib.hid hp
            clear hp hk HP
            have HP := HPn
            clear HPn
            have hcas := HO.out.done m4
            obtain ⟨od, hod⟩ : ∃ o, (s.done m4).1 = o := ⟨_, rfl⟩
            rw [hod] at he hcas
            clear hod
            rcases hcas with ⟨h1, h2⟩ | ⟨J, h1, h2, h3, h4⟩ | ⟨J, k', h1, h2, h3, h4⟩
            · subst h1
              dsimp only [doneV_i] at he
              subst he
              rw [h2] at HP HEB2
              clear h2
              obtain ⟨S_, hS_⟩ : ∃ x, x = s := ⟨_, rfl⟩
              rw [← hS_] at HO HP HEB2
              clear hS_
              generalize ended = Ef at *
              go_wp2_with fail
              clear ht5 ht6
              refine (Take_pi m4 (m4 : Int) v2 HP.out rfl (by rw [HO.out.len]; exact hm44)).mono ?_
              rintro e v9 ⟨rfl, hp, hk⟩
              replace HB := Lib.hid (HB.out.trans (hk.below.mono HB2.out))
              replace HL := Lib.hid (hk.bk HL.out (.inl rfl))
              replace HE := Lib.hid (hk.bk HE.out (.inr rfl))
              have HPn := Lib.hid hp
              clear hp hk HP
              have HP := HPn
              clear HPn
              have HO9 := Lib.hid (HO.out.take m4)
              generalize (S_.take m4).1 = r_ at *
              generalize (S_.take m4).2 = S9 at *
              go_wp2
              go_roundg (gk - 1)
              case measure => omega
              case rel => exact ⟨S9, Ef, j + 1, by have := HI.out; omega, by go_num, HO9, HEB2, HP, HL, HE, HB⟩
            · subst h1
              dsimp only [doneV_i] at he
              subst he
              have q0 : ¬ J.x < 100 := by omega
              have q1 : decide (J.x < 100) = false := by simp; omega
              have HO2 := Lib.hid h4
              clear h2 h3 h4
              generalize J.x = X at *
              generalize J.can = cn at *
              obtain ⟨S_, hS_⟩ : ∃ x, x = (s.done m4).2 := ⟨_, rfl⟩
              rw [← hS_] at HO2 HP HEB2
              clear hS_ HO
              have HO := HO2
              clear HO2
              generalize ended = Ef at *
              go_wp2_with fail
              clear ht5 ht6
              refine (Take_pi m4 (m4 : Int) v2 HP.out rfl (by rw [HO.out.len]; exact hm44)).mono ?_
              rintro e v9 ⟨rfl, hp, hk⟩
              replace HB := Lib.hid (HB.out.trans (hk.below.mono HB2.out))
              replace HL := Lib.hid (hk.bk HL.out (.inl rfl))
              replace HE := Lib.hid (hk.bk HE.out (.inr rfl))
              have HPn := Lib.hid hp
              clear hp hk HP
              have HP := HPn
              clear HPn
              have HO9 := Lib.hid (HO.out.take m4)
              generalize (S_.take m4).1 = r_ at *
              generalize (S_.take m4).2 = S9 at *
              go_wp2
              go_roundg (gk - 1)
              case measure => omega
              case rel => exact ⟨S9, Ef, j + 1, by have := HI.out; omega, by go_num, HO9, HEB2, HP, HL, HE, HB⟩
            · subst h1
              dsimp only [doneV_i] at he
              rw [h2] at he
              subst he
              have HO2 := Lib.hid h4
              have q1 : (k' : Int) < 100 := by omega
              have q3 : (0 : Int) ≤ (k' : Int) := by omega
              have q2 : (k' : Int) < 40 := by omega
              have HBQ := Lib.hid (fun W => Bring_any (k' : Int) 40 W (by omega) (by omega))
              rw [show (k' : Int) % 40 = (k' : Int) by omega] at HBQ
              clear h2 h4
              generalize J.can = cn at *
              obtain ⟨S_, hS_⟩ : ∃ x, x = (s.done m4).2 := ⟨_, rfl⟩
              rw [← hS_] at HO2 HP HEB2
              clear hS_ HO
              have HO := HO2
              clear HO2
              obtain ⟨F_, hF_⟩ : ∃ e, ended k' = e := ⟨_, rfl⟩
              have HFK : Hid ((ended k' : Int) = (F_ : Int)) := Lib.hid (by rw [hF_])
              have hFb : F_ ≤ 160 := by have h5 := HO.out.le' h3; have := HLB.out k' h3; unfold Pst.up at h5; rw [if_pos rfl] at h5; omega
              have xl : v2.cell? ⟨ge, k', none⟩ = some (.int .i64 (F_ : Int)) := by rw [← HFK.out]; exact HE.out.c k' (arr_get ended h3)
              have fl := HE.out.fr k'
              go_wp2_with fail
              refine (HBQ.out v2).mono ?_
              rintro e w_ ⟨rfl, rfl⟩
              go_wp2_with fail
              refine (HBQ.out v2).mono ?_
              rintro e w_ ⟨rfl, rfl⟩
              go_upto_region 34 with (fail)
              clear xl fl HBQ
              have hbt : But ge v2 (v2.setCell ⟨ge, k', none⟩ (.int .i64 ((F_ : Int) + 1))) := setCell_but _ _ _ _
              have hst : BK (v2.setCell ⟨ge, k', none⟩ (.int .i64 ((F_ : Int) + 1))) ge 60 (arr (Pst.up ended k')) := HE.out.set k' _ (arr_up ended k' _ (by rw [HFK.out]))
              replace HP := Lib.hid (HP.out.but hbt (.inr rfl) HGE.out)
              replace HL := Lib.hid (HL.out.but hbt HGN.out)
              replace HB := Lib.hid (hbt.below HB.out (by have := HGE.out; have := HB2.out; omega) HB.out.size)
              clear hbt HE
              have HE := Lib.hid hst
              clear hst
              generalize v2.setCell ⟨ge, k', none⟩ (.int .i64 ((F_ : Int) + 1)) = v3 at *
              generalize Pst.up ended k' = Ef at *
              clear hF_ HFK hFb
              go_wp2_with fail
              clear ht5 ht6
              refine (Take_pi m4 (m4 : Int) v3 HP.out rfl (by rw [HO.out.len]; exact hm44)).mono ?_
              rintro e v9 ⟨rfl, hp, hk⟩
              replace HB := Lib.hid (HB.out.trans (hk.below.mono HB2.out))
              replace HL := Lib.hid (hk.bk HL.out (.inl rfl))
              replace HE := Lib.hid (hk.bk HE.out (.inr rfl))
              have HPn := Lib.hid hp
              clear hp hk HP
              have HP := HPn
              clear HPn
              have HO9 := Lib.hid (HO.out.take m4)
              generalize (S_.take m4).1 = r_ at *
              generalize (S_.take m4).2 = S9 at *
              go_wp2
              go_roundg (gk - 1)
              case measure => omega
              case rel => exact ⟨S9, Ef, j + 1, by have := HI.out; omega, by go_num, HO9, HEB2, HP, HL, HE, HB⟩
          · have d2 : ¬ (j : Int) < 200 := by omega
            have hj2 : j = 200 := by omega
            subst hj2
            clear hj hlt2
            obtain ⟨hq, hend⟩ := HO.out.end HEB.out
            have hql : s.q.length = 0 := by rw [hq]; rfl
            have ha : arr laid = arr ended := arr_ext (fun k hk => (hend k hk).symm)
            rw [ha] at HL
            have heq := eq_arr ended
            have heq0 := eq_arr0 ended
            have heg : Tryz.prog.eqGuardType Tryz.prog.depth 60 = false := by kernel_rfl
            have HQL := Lib.hid hql
            clear hq hend ha hql
            go_wp2_with (first
              | (refine load_arr (by rfl) (.tmp 6) rfl ge rfl HE.out ?_)
              | (refine load_arr (by rfl) (.tmp 5) rfl gl rfl HL.out ?_))
            refine (Waits_pi wr HP.out).mono ?_
            rintro e w_ ⟨rfl, rfl⟩
            rw [HQL.out]
            go_wp2_with fail
            refine (awake28_any wr HP.out.ml).mono ?_
            rintro e v9 ⟨rfl, hb⟩
            replace HB := Lib.hid (HB.out.trans (hb.mono HB.out.size))
            clear hb HP
            go_wp2
            go_ret
            exact ⟨rfl, HB.out⟩
    · have d0 : ¬ (i : Int) < (L : Int) := by omega
      have HLB : Hid (∀ j, j < 40 → laid j ≤ 150) := Lib.hid (fun j hj => Nat.le_trans (HLB0.out j hj) HMI.out.2)
      have HEB := Lib.hid HO.out.ebb
      clear HLB0
      go_wp2_with fail
      clear d0
      obtain ⟨wo, rfl⟩ : ∃ wo : World, wo = wr := ⟨_, rfl⟩
      go_loopg [16] 200 (fun q v16 wr => ∃ (s : Pst Int) (ended : Nat → Nat) (j : Nat), j + q = 200 ∧ v16 = .int .i64 j ∧ Hid (Pst.Once s laid ended) ∧ Hid (Pst.Ebb s j) ∧ Hid (PPi B pb (KA gl ge) s wr) ∧ Hid (BK wr gl 60 (arr laid)) ∧ Hid (BK wr ge 60 (arr ended)) ∧ Hid (Below w.heap.size w wr))
      case atStart => exact ⟨s, ended, 0, rfl, rfl, HO, HEB, HP, HL, HE, HB⟩
      case round =>
        clear HP HL HE HB HO HEB HI
        obtain ⟨s, ended, j, hj, rfl, HO, HEB, HP, HL, HE, HB⟩ := hrel
        have HI := Lib.hid hj
        by_cases hlt2 : j < 200
        · have d2 : (j : Int) < 200 := by omega
          have j0 : (0 : Int) ≤ (j : Int) := by omega
          have hgk : 0 < gk := by omega
          obtain ⟨m4, hm4⟩ : ∃ m, j % 4 = m := ⟨_, rfl⟩
          have hm44 : m4 < 4 := by omega
          have ht5 : (j : Int).tmod 4 = (m4 : Int) := by rw [Int.tmod_eq_emod_of_nonneg (by omega)]; omega
          have ht6 : (j : Int) % 4 = (m4 : Int) := by omega
          have HEB2 := Lib.hid (HEB.out.step HO.out.len)
          rw [hm4] at HEB2
          clear hm4 hj HEB
          go_wp2_with fail
          refine (Done_pi m4 (m4 : Int) wr HP.out rfl (by rw [HO.out.len]; exact hm44)).mono ?_
          rintro e v2 ⟨he, hp, hk⟩
          replace HB := Lib.hid (HB.out.trans (hk.below.mono HB2.out))
          replace HL := Lib.hid (hk.bk HL.out (.inl rfl))
          replace HE := Lib.hid (hk.bk HE.out (.inr rfl))
          have HPn := Lib.hid hp
          clear hp hk HP
          have HP := HPn
          clear HPn
          have hcas := HO.out.done m4
          obtain ⟨od, hod⟩ : ∃ o, (s.done m4).1 = o := ⟨_, rfl⟩
          rw [hod] at he hcas
          clear hod
          rcases hcas with ⟨h1, h2⟩ | ⟨J, h1, h2, h3, h4⟩ | ⟨J, k', h1, h2, h3, h4⟩
          · subst h1
            dsimp only [doneV_i] at he
            subst he
            rw [h2] at HP HEB2
            clear h2
            obtain ⟨S_, hS_⟩ : ∃ x, x = s := ⟨_, rfl⟩
            rw [← hS_] at HO HP HEB2
            clear hS_
            generalize ended = Ef at *
            go_wp2_with fail
            clear ht5 ht6
            refine (Take_pi m4 (m4 : Int) v2 HP.out rfl (by rw [HO.out.len]; exact hm44)).mono ?_
            rintro e v9 ⟨rfl, hp, hk⟩
            replace HB := Lib.hid (HB.out.trans (hk.below.mono HB2.out))
            replace HL := Lib.hid (hk.bk HL.out (.inl rfl))
            replace HE := Lib.hid (hk.bk HE.out (.inr rfl))
            have HPn := Lib.hid hp
            clear hp hk HP
            have HP := HPn
            clear HPn
            have HO9 := Lib.hid (HO.out.take m4)
            generalize (S_.take m4).1 = r_ at *
            generalize (S_.take m4).2 = S9 at *
            go_wp2
            go_roundg (gk - 1)
            case measure => omega
            case rel => exact ⟨S9, Ef, j + 1, by have := HI.out; omega, by go_num, HO9, HEB2, HP, HL, HE, HB⟩
          · subst h1
            dsimp only [doneV_i] at he
            subst he
            have q0 : ¬ J.x < 100 := by omega
            have q1 : decide (J.x < 100) = false := by simp; omega
            have HO2 := Lib.hid h4
            clear h2 h3 h4
            generalize J.x = X at *
            generalize J.can = cn at *
            obtain ⟨S_, hS_⟩ : ∃ x, x = (s.done m4).2 := ⟨_, rfl⟩
            rw [← hS_] at HO2 HP HEB2
            clear hS_ HO
            have HO := HO2
            clear HO2
            generalize ended = Ef at *
            go_wp2_with fail
            clear ht5 ht6
            refine (Take_pi m4 (m4 : Int) v2 HP.out rfl (by rw [HO.out.len]; exact hm44)).mono ?_
            rintro e v9 ⟨rfl, hp, hk⟩
            replace HB := Lib.hid (HB.out.trans (hk.below.mono HB2.out))
            replace HL := Lib.hid (hk.bk HL.out (.inl rfl))
            replace HE := Lib.hid (hk.bk HE.out (.inr rfl))
            have HPn := Lib.hid hp
            clear hp hk HP
            have HP := HPn
            clear HPn
            have HO9 := Lib.hid (HO.out.take m4)
            generalize (S_.take m4).1 = r_ at *
            generalize (S_.take m4).2 = S9 at *
            go_wp2
            go_roundg (gk - 1)
            case measure => omega
            case rel => exact ⟨S9, Ef, j + 1, by have := HI.out; omega, by go_num, HO9, HEB2, HP, HL, HE, HB⟩
          · subst h1
            dsimp only [doneV_i] at he
            rw [h2] at he
            subst he
            have HO2 := Lib.hid h4
            have q1 : (k' : Int) < 100 := by omega
            have q3 : (0 : Int) ≤ (k' : Int) := by omega
            have q2 : (k' : Int) < 40 := by omega
            have HBQ := Lib.hid (fun W => Bring_any (k' : Int) 40 W (by omega) (by omega))
            rw [show (k' : Int) % 40 = (k' : Int) by omega] at HBQ
            clear h2 h4
            generalize J.can = cn at *
            obtain ⟨S_, hS_⟩ : ∃ x, x = (s.done m4).2 := ⟨_, rfl⟩
            rw [← hS_] at HO2 HP HEB2
            clear hS_ HO
            have HO := HO2
            clear HO2
            obtain ⟨F_, hF_⟩ : ∃ e, ended k' = e := ⟨_, rfl⟩
            have HFK : Hid ((ended k' : Int) = (F_ : Int)) := Lib.hid (by rw [hF_])
            have hFb : F_ ≤ 160 := by have h5 := HO.out.le' h3; have := HLB.out k' h3; unfold Pst.up at h5; rw [if_pos rfl] at h5; omega
            have xl : v2.cell? ⟨ge, k', none⟩ = some (.int .i64 (F_ : Int)) := by rw [← HFK.out]; exact HE.out.c k' (arr_get ended h3)
            have fl := HE.out.fr k'
            go_wp2_with fail
            refine (HBQ.out v2).mono ?_
            rintro e w_ ⟨rfl, rfl⟩
            go_wp2_with fail
            refine (HBQ.out v2).mono ?_
            rintro e w_ ⟨rfl, rfl⟩
            go_upto_region 34 with (fail)
            clear xl fl HBQ
            have hbt : But ge v2 (v2.setCell ⟨ge, k', none⟩ (.int .i64 ((F_ : Int) + 1))) := setCell_but _ _ _ _
            have hst : BK (v2.setCell ⟨ge, k', none⟩ (.int .i64 ((F_ : Int) + 1))) ge 60 (arr (Pst.up ended k')) := HE.out.set k' _ (arr_up ended k' _ (by rw [HFK.out]))
            replace HP := Lib.hid (HP.out.but hbt (.inr rfl) HGE.out)
            replace HL := Lib.hid (HL.out.but hbt HGN.out)
            replace HB := Lib.hid (hbt.below HB.out (by have := HGE.out; have := HB2.out; omega) HB.out.size)
            clear hbt HE
            have HE := Lib.hid hst
            clear hst
            generalize v2.setCell ⟨ge, k', none⟩ (.int .i64 ((F_ : Int) + 1)) = v3 at *
            generalize Pst.up ended k' = Ef at *
            clear hF_ HFK hFb
            go_wp2_with fail
            clear ht5 ht6
            refine (Take_pi m4 (m4 : Int) v3 HP.out rfl (by rw [HO.out.len]; exact hm44)).mono ?_
            rintro e v9 ⟨rfl, hp, hk⟩
            replace HB := Lib.hid (HB.out.trans (hk.below.mono HB2.out))
            replace HL := Lib.hid (hk.bk HL.out (.inl rfl))
            replace HE := Lib.hid (hk.bk HE.out (.inr rfl))
            have HPn := Lib.hid hp
            clear hp hk HP
            have HP := HPn
            clear HPn
            have HO9 := Lib.hid (HO.out.take m4)
            generalize (S_.take m4).1 = r_ at *
            generalize (S_.take m4).2 = S9 at *
            go_wp2
            go_roundg (gk - 1)
            case measure => omega
            case rel => exact ⟨S9, Ef, j + 1, by have := HI.out; omega, by go_num, HO9, HEB2, HP, HL, HE, HB⟩
        · have d2 : ¬ (j : Int) < 200 := by omega
          have hj2 : j = 200 := by omega
          subst hj2
          clear hj hlt2
          obtain ⟨hq, hend⟩ := HO.out.end HEB.out
          have hql : s.q.length = 0 := by rw [hq]; rfl
          have ha : arr laid = arr ended := arr_ext (fun k hk => (hend k hk).symm)
          rw [ha] at HL
          have heq := eq_arr ended
          have heq0 := eq_arr0 ended
          have heg : Tryz.prog.eqGuardType Tryz.prog.depth 60 = false := by kernel_rfl
          have HQL := Lib.hid hql
          clear hq hend ha hql
          go_wp2_with (first
            | (refine load_arr (by rfl) (.tmp 6) rfl ge rfl HE.out ?_)
            | (refine load_arr (by rfl) (.tmp 5) rfl gl rfl HL.out ?_))
          refine (Waits_pi wr HP.out).mono ?_
          rintro e w_ ⟨rfl, rfl⟩
          rw [HQL.out]
          go_wp2_with fail
          refine (awake28_any wr HP.out.ml).mono ?_
          rintro e v9 ⟨rfl, hb⟩
          replace HB := Lib.hid (HB.out.trans (hb.mono HB.out.size))
          clear hb HP
          go_wp2
          go_ret
          exact ⟨rfl, HB.out⟩
end Go.Proofs.YtfploakafbnigaaGreatDoor
