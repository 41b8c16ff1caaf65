/-
  Layer 28, the walks: PoolOrder.
-/
import Derived.Test.YtfploakafbnigaaGreatDoorCPoolAwake
import Derived.Deep.LoopGhost
import Derived.Test.YtfploakafbnigaaGreatDoorCPkNumA
import Derived.Test.YtfploakafbnigaaGreatDoorCPoolWant
namespace Go.Proofs.YtfploakafbnigaaGreatDoor
open Go.RowKit Val Pl YtfploakafbnigaaGreatDoorW.PrintLast
set_option linter.unusedVariables false
set_option linter.unusedSimpArgs false
set_option maxRecDepth 100000 in
set_option maxHeartbeats 32000000 in
theorem PoolOrder_walk (A : Option Addr) (cap : Nat) (l : List UInt8) (w : World) (hl : l.length ≤ 140737488351232) (hA : RB w w.heap.size A l) (hM : ML w) : Calls Tryz.prog 8 #[.slice A l.length cap] w (Made (.bool true) w) := by
  obtain ⟨B, hB⟩ : ∃ B, B = w.heap.size := ⟨_, rfl⟩
  have HB2 : Hid (w.heap.size ≤ B) := Lib.hid (by omega)
  have HBE := Lib.hid hB
  have HM := Lib.hid hM
  have HA := Lib.hid hA
  obtain ⟨L, hL⟩ : ∃ L, l.length = L := ⟨_, rfl⟩
  have HL := Lib.hid hL
  rw [hL] at hl ⊢
  obtain ⟨M, hMM⟩ : ∃ M, M = min L 60 := ⟨_, rfl⟩
  have HMM := Lib.hid hMM
  obtain ⟨j0, hj0, hy0, hy1, hy2⟩ := info_parts info28
  have HJ0 := Lib.hid hj0
  have HJZ0 := Lib.hid hy0
  have HJZ1 := Lib.hid hy1
  have HJZ2 := Lib.hid hy2
  clear hM hB hA hL hMM hj0 hy0 hy1 hy2
  go_enter Tryz.func8, Tryz.ntmps8
  go_wp2_with fail
  refine (New_pi 1 1 w rfl ⟨by omega, by omega⟩ HM.out).mono ?_
  rintro e w1 ⟨pb, rfl, hp, hb, -⟩
  rw [← HBE.out] at hp
  have HB := Lib.hid hb
  have HP := Lib.hid hp
  clear hp hb
  go_wp2_with (
    refine store_fld rfl rfl 76 (.tmp 6) (.tmp 24) rfl w1.heap.size 0 (.agg #[.int .i64 (-1), .int .i64 (-1), .int .i64 (-1)]) [.int .i64 (-1), .int .i64 (-1), .int .i64 (-1)] rfl rfl rfl #[.int .i64 (-1), .int .i64 (-1), .int .i64 (-1)] (BK.new w1 _ _) (by kernel_rfl) (Nat.le_of_ble_eq_true rfl) (by simp [Value.oneCell']) rfl ?_
    intro w2 hS hbt hsz)
  have hbw : Below w1.heap.size w1 w2 := hbt.below (made_end' w1 _) (Nat.le_refl _) (by simp)
  have HP2 := Lib.hid ((HP.out.add hbw (Nat.le_refl _) hS.lt).few (K' := KW w1.heap.size (.slice none 0 0)) (fun b hb => by
    rcases hb with h1 | h1
    · exact .inr h1
    · cases h1))
  replace HB := Lib.hid (HB.out.trans (hbw.mono HB.out.size))
  have HGB : Hid (B ≤ w1.heap.size) := Lib.hid HP.out.B_le
  have HPL := Lib.hid hS
  clear hS hbt hsz hbw HP
  have HP := HP2
  clear HP2
  generalize w1.heap.size = gp at *
  obtain ⟨w0, hw0⟩ : ∃ x, x = w := ⟨_, rfl⟩
  clear hw0 w0
  go_loopg [5, 7, 8] M (fun q v5 v7 _ wr => ∃ (s : Pst Int) (i : Nat) (want : List Int) (place : Nat → Int) (wv : Value), i + q = M ∧ v7 = .int .i64 i ∧ wv = v5 ∧ Hid (Pst.Ord s i want place) ∧ Hid (PPi B pb (KW gp wv) s wr) ∧ Hid (BK wr gp 76 #[.int .i64 (place 0), .int .i64 (place 1), .int .i64 (place 2)]) ∧ Hid (wr.ownsRow B 3 1 wv want.length (wantL want)) ∧ Hid (wv.ownBlock ≠ some gp) ∧ Hid (Below w.heap.size w wr))
  case atStart => exact ⟨_, 0, [], fun _ => -1, .slice none 0 0, by omega, rfl, rfl, Lib.hid Pst.Ord.new, HP, HPL, Lib.hid (World.ownsRow_nil _ _ _ _), Lib.hid (fun e => by cases e), HB⟩
  case round =>
    clear HP HPL HB
    obtain ⟨s, i, want, place, wv, hi, rfl, rfl, HO, HP, HPL, HW, HNE, HB⟩ := hrel
    obtain ⟨N, hN⟩ : ∃ N, want.length = N := ⟨_, rfl⟩
    have HNL := Lib.hid hN
    have hNi : N ≤ i := by rw [← hN, ← HO.out.q, List.length_map]; exact HO.out.le
    rw [hN] at HW
    clear hN
    have HMI : Hid (i ≤ L ∧ i ≤ 60) := Lib.hid (by have := HMM.out; omega)
    have HWL : Hid (N ≤ 60) := Lib.hid (by have := HMI.out; omega)
    have HI := Lib.hid hi
    clear hi
    by_cases hlt : i < L
    · by_cases h60 : i < 60
      · have d0 : (i : Int) < (L : Int) := by omega
        have d1 : (i : Int) < 60 := by omega
        have i0 : (0 : Int) ≤ (i : Int) := by omega
        obtain ⟨b, off, rfl, hcell0⟩ := HA.out.get i (by rw [HL.out]; exact hlt)
        have hcell1 : wr.cell? ⟨b, off + i, none⟩ = w.cell? ⟨b, off + i, none⟩ := HB.out.cell (p := ⟨b, off + i, none⟩) (World.block_lt_of_cell? w _ hcell0)
        have hcell := hcell1.trans hcell0
        clear hcell0 hcell1
        obtain ⟨y, hy⟩ : ∃ y : Int, ((l[i]'(by rw [HL.out]; exact hlt)).toNat : Int) = y := ⟨_, rfl⟩
        have hgk : 0 < gk := by have := HMM.out; have := HI.out; omega
        have hy0 : 0 ≤ y := by omega
        have hy1 : y < 256 := by rw [← hy]; have := (l[i]'(by rw [HL.out]; exact hlt)).toNat_lt; omega
        rw [hy] at hcell
        have hq0 : True := trivial
        clear hy
        have HME : Hid True := Lib.hid trivial
        rcases (show y % 4 = 0 ∨ y % 4 = 1 ∨ y % 4 = 2 ∨ y % 4 = 3 by omega) with hc4 | hc4 | hc4 | hc4
        · have ht4 : y.tmod 4 = 0 := by rw [Int.tmod_eq_emod_of_nonneg hy0]; exact hc4
          clear hq0
          obtain ⟨nmx, hnx⟩ : ∃ x : ByteArray, x = Pst.nm 0 := ⟨_, rfl⟩
          have hcv := conv1 wr 97 (97 + 0) (by omega) (by omega)
          have hnx2 : (⟨#[UInt8.ofNat (97 + 0)]⟩ : ByteArray) = nmx := hnx.symm
          rw [hnx2] at hcv
          have HNX := Lib.hid hnx
          clear hnx hnx2
          go_wp2_with fail
          clear hcv hcell ht4 hc4
          have hb := made_end' wr (.cells #[.int .u8 97] 5)
          replace HB := Lib.hid (HB.out.trans (hb.mono HB.out.size))
          replace HP := Lib.hid (HP.out.on hb)
          replace HPL := Lib.hid (HPL.out.on hb)
          replace HW := Lib.hid (own_on HW.out hb)
          clear hb
          generalize wr.alloc (.cells #[.int .u8 97] 5) = v1 at *
          refine (Note_pi nmx (i : Int) v1 HP.out).mono ?_
          rintro e v2 ⟨he, hp, hk⟩
          rw [HNX.out] at he hp
          replace HB := Lib.hid (HB.out.trans (hk.below.mono HB2.out))
          replace HPL := Lib.hid (hk.bk HPL.out (.inl rfl))
          replace HW := Lib.hid (own_same HW.out (fun g hg => hk.same g (.inr hg)))
          have HP2 := Lib.hid hp
          clear hp hk HP
          have hl3 : v2.cell? ⟨gp, 0, none⟩ = some (.int .i64 (place 0)) := HPL.out.c 0 rfl
          have hf3 := HPL.out.fr 0
          by_cases hpn : place 0 < 0
          · have hfr := HO.out.fresh (by omega) (show 0 < 3 by omega) hpn
            have HFR := Lib.hid hfr
            rw [hfr.1] at he
            subst he
            clear hfr
            have HP := HP2
            clear HP2
            obtain ⟨S_, hS_⟩ : ∃ x, x = (s.note (Pst.nm 0) (i : Int)).2 := ⟨_, rfl⟩
            rw [← hS_] at HP HFR
            clear hS_
            obtain ⟨A5, c5, hwv, -⟩ := want_form HW.out
            subst hwv
            obtain ⟨wv, hwv⟩ : ∃ x, x = Value.slice A5 N c5 := ⟨_, rfl⟩
            go_upto_region 18 with (fail)
            have hbt : But gp v2 (v2.setCell ⟨gp, 0, none⟩ (.int .i64 (N : Int))) := setCell_but v2 _ _ _
            have HPL2 : Hid (BK (v2.setCell ⟨gp, 0, none⟩ (.int .i64 (N : Int))) gp 76 #[.int .i64 (N : Int), .int .i64 (place 1), .int .i64 (place 2)]) := Lib.hid (HPL.out.set 0 _ rfl)
            replace HP := Lib.hid (HP.out.but hbt (.inl rfl) HGB.out)
            replace HW := Lib.hid (own_same HW.out (fun g hg => hbt.block g (own_lt HW.out hg).2 (fun e => HNE.out (e ▸ hg))) : (v2.setCell ⟨gp, 0, none⟩ (.int .i64 (N : Int))).ownsRow B 3 1 (.slice A5 N c5) N (wantL want))
            replace HB := Lib.hid (hbt.below HB.out (by have := HGB.out; have := HB2.out; omega) HB.out.size)
            clear hbt HPL hl3 hf3
            have HPL : Hid (BK (v2.setCell ⟨gp, 0, none⟩ (.int .i64 (N : Int))) gp 76 #[.int .i64 (Pst.upI place 0 N 0), .int .i64 (Pst.upI place 0 N 1), .int .i64 (Pst.upI place 0 N 2)]) := HPL2
            clear HPL2
            generalize v2.setCell ⟨gp, 0, none⟩ (.int .i64 (N : Int)) = v3 at *
            obtain ⟨place0, hp0⟩ : ∃ f, f = place := ⟨_, rfl⟩
            have hpu : Pst.upI place 0 N 0 = (N : Int) := rfl
            have HPU := Lib.hid hpu
            rw [HNL.out] at HFR
            clear hpu hp0
            generalize Pst.upI place 0 N = place2 at *
            clear place0
            obtain ⟨place, hpl⟩ : ∃ f, f = place2 := ⟨_, rfl⟩
            subst hpl
            rw [← hwv] at HP HW HNE ⊢
            go_upto_region 19 with (
              refine isAp (.tmp 70) (.tmp 72) 75 rfl ?_
              have hba := (Below.refl v3.heap.size v3).alloc (Nat.le_refl _) (.cells #[.int .i64 (i : Int)] 3)
              have Hq := Lib.hid (BK.new v3 3 #[.int .i64 (i : Int)])
              replace HB := Lib.hid (HB.out.trans (hba.mono HB.out.size))
              replace HP := Lib.hid (HP.out.on hba)
              replace HW := Lib.hid (own_on HW.out hba)
              replace HPL := Lib.hid (HPL.out.on hba)
              clear hba
              generalize (v3.alloc (.cells #[.int .i64 (i : Int)] 3)) = w_q at *
              generalize v3.heap.size = q_ at *
              refine wpList_append_lies _ rfl (.tmp 70) (.tmp 72) 75 rfl B 3 j0 _ 1 8 Tryz.underlying75 HJ0.out HJZ0.out HJZ1.out HJZ2.out rfl (by omega) wv N (wantL want) (by rfl) HW.out ⟨q_, 0, none⟩ 1 1 [.int .i64 (i : Int)] (by rfl) (by rfl) (World.news_of_block Hq.out) (by intro u hu; simp only [List.mem_singleton] at hu; subst hu; rfl) (by omega)
                (by unfold maxLen; have := HWL.out; omega) (by have := HWL.out; omega) HP.out.B_le _ rfl ?_
              intro gw cw w_a hown hgrow hat hlt
              have HX := Lib.hid hown
              have HPX : Hid (PPi B pb (KW gp (.slice (some ⟨gw, 0, none⟩) (N + 1) cw)) S_ w_a) := Lib.hid (HP.out.grown hgrow (fun b hb => (own_lt HW.out hb).1) (fun b hb => by
                have e : gw = b := by simpa [Value.ownBlock] using hb
                subst e
                exact ⟨hat, hlt⟩))
              have HPLX : Hid (BK w_a gp 76 #[.int .i64 (place 0), .int .i64 (place 1), .int .i64 (place 2)]) := Lib.hid ((hgrow.block gp HPL.out.lt (fun e => HNE.out e.symm)).trans HPL.out)
              replace HB := Lib.hid (HB.out.grown hgrow HB.out.size (fun k hk => (by have := (own_lt HW.out hk).1; have := HB2.out; omega)))
              have HGN : Hid (gw ≠ gp) := Lib.hid (fun e => by
                subst e
                rcases hat with h1 | h1
                · exact HNE.out h1
                · have := HPL.out.lt; omega)
              clear hown hgrow hat hlt Hq HP HPL HW HNE)
            have hl4 : w_a.cell? ⟨gp, 0, none⟩ = some (.int .i64 (N : Int)) := by rw [← HPU.out]; exact HPLX.out.c 0 rfl
            have hlast : (wantL want ++ [Value.int .i64 (i : Int)])[N]? = some (Value.int .i64 (i : Int)) := by rw [List.getElem?_append_right (by rw [wantL_len, HNL.out]; exact Nat.le_refl _), wantL_len, HNL.out]; simp
            have hc9 : w_a.cell? ⟨gw, N, none⟩ = some (.int .i64 (i : Int)) := want_cell HX.out hlast
            have hf9 := own_fr HX.out N
            have i9 : (N : Int) < (N : Int) + 1 := by omega
            have i8 : (0 : Int) ≤ (N : Int) := by omega
            clear hlast
            go_wp2
            have hbt : But gw w_a (w_a.setCell ⟨gw, N, none⟩ (.int .i64 (i : Int))) := setCell_but w_a _ _ _
            have hset : (wantL want ++ [Value.int .i64 (i : Int)]).set N (Value.int .i64 (i : Int)) = wantL (want ++ [(i : Int)]) := by
              rw [List.set_append_right _ _ (by rw [wantL_len, HNL.out]; exact Nat.le_refl _), wantL_len, HNL.out]; simp [wantL]
            have hW2 := want_put HX.out (k := N) (by omega) (.int .i64 (i : Int))
            rw [hset] at hW2
            go_roundg (gk - 1)
            case measure => have := HI.out; omega
            case rel => exact ⟨_, i + 1, want ++ [(i : Int)], place, _, by have := HI.out; omega, by go_num, rfl, Lib.hid HFR.out.2, Lib.hid (HPX.out.but hbt (.inr rfl) (own_lt HX.out rfl).1), Lib.hid (HPLX.out.but hbt (fun e => HGN.out e.symm)), Lib.hid (by rw [List.length_append, HNL.out]; exact hW2), Lib.hid (fun e => HGN.out (by simpa [Value.ownBlock] using e)), Lib.hid (hbt.below HB.out (by have := (own_lt (b := gw) HX.out rfl).1; have := HB2.out; omega) HB.out.size)⟩
          · obtain ⟨k, hk⟩ : ∃ k : Nat, place 0 = (k : Int) := ⟨(place 0).toNat, by omega⟩
            have hol := HO.out.old (i := i) (show 0 < 3 by omega) hk
            have HOL := Lib.hid hol
            rw [hol.1] at he
            subst he
            have hkN : k < N := by rw [← HNL.out]; exact hol.2.1
            clear hol
            have HP := HP2
            clear HP2
            rw [hk] at hl3
            obtain ⟨A5, c5, hwv, hA5⟩ := want_form HW.out
            obtain ⟨g5, rfl⟩ := hA5 (by omega)
            subst hwv
            have hW := HW.out
            have hck : ∃ u, (wantL want)[k]? = some u := ⟨_, List.getElem?_eq_getElem (by rw [wantL_len, HNL.out]; exact hkN)⟩
            obtain ⟨u, hu⟩ := hck
            have hc9 := want_cell hW hu
            have hf9 := own_fr hW k
            have i9 : (k : Int) < (N : Int) := by omega
            have i8 : (0 : Int) ≤ (k : Int) := by omega
            have i7 : ¬ (k : Int) < 0 := by omega
            have HHK := Lib.hid hk
            clear hu hpn hk hW
            go_wp2
            have hbt : But g5 v2 (v2.setCell ⟨g5, k, none⟩ (.int .i64 (i : Int))) := setCell_but v2 _ _ _
            have hset : (wantL want).set k (.int .i64 (i : Int)) = wantL (want.set k (i : Int)) := by unfold wantL; rw [List.map_set]
            have hW2 := want_put HW.out hkN (.int .i64 (i : Int))
            rw [hset] at hW2
            go_roundg (gk - 1)
            case measure => have := HI.out; omega
            case rel => exact ⟨_, i + 1, want.set k (i : Int), place, _, by have := HI.out; omega, by go_num, rfl, Lib.hid HOL.out.2.2, Lib.hid (HP.out.but hbt (.inr rfl) (own_lt HW.out rfl).1), Lib.hid (HPL.out.but hbt (fun e => HNE.out (by rw [← e]; rfl))), Lib.hid (by rw [List.length_set, HNL.out]; exact hW2), HNE, Lib.hid (hbt.below HB.out (by have := (own_lt (b := g5) HW.out rfl).1; have := HB2.out; omega) HB.out.size)⟩
        · have ht4 : y.tmod 4 = 1 := by rw [Int.tmod_eq_emod_of_nonneg hy0]; exact hc4
          clear hq0
          obtain ⟨nmx, hnx⟩ : ∃ x : ByteArray, x = Pst.nm 1 := ⟨_, rfl⟩
          have hcv := conv1 wr 98 (97 + 1) (by omega) (by omega)
          have hnx2 : (⟨#[UInt8.ofNat (97 + 1)]⟩ : ByteArray) = nmx := hnx.symm
          rw [hnx2] at hcv
          have HNX := Lib.hid hnx
          clear hnx hnx2
          go_wp2_with fail
          clear hcv hcell ht4 hc4
          have hb := made_end' wr (.cells #[.int .u8 98] 5)
          replace HB := Lib.hid (HB.out.trans (hb.mono HB.out.size))
          replace HP := Lib.hid (HP.out.on hb)
          replace HPL := Lib.hid (HPL.out.on hb)
          replace HW := Lib.hid (own_on HW.out hb)
          clear hb
          generalize wr.alloc (.cells #[.int .u8 98] 5) = v1 at *
          refine (Note_pi nmx (i : Int) v1 HP.out).mono ?_
          rintro e v2 ⟨he, hp, hk⟩
          rw [HNX.out] at he hp
          replace HB := Lib.hid (HB.out.trans (hk.below.mono HB2.out))
          replace HPL := Lib.hid (hk.bk HPL.out (.inl rfl))
          replace HW := Lib.hid (own_same HW.out (fun g hg => hk.same g (.inr hg)))
          have HP2 := Lib.hid hp
          clear hp hk HP
          have hl3 : v2.cell? ⟨gp, 1, none⟩ = some (.int .i64 (place 1)) := HPL.out.c 1 rfl
          have hf3 := HPL.out.fr 1
          by_cases hpn : place 1 < 0
          · have hfr := HO.out.fresh (by omega) (show 1 < 3 by omega) hpn
            have HFR := Lib.hid hfr
            rw [hfr.1] at he
            subst he
            clear hfr
            have HP := HP2
            clear HP2
            obtain ⟨S_, hS_⟩ : ∃ x, x = (s.note (Pst.nm 1) (i : Int)).2 := ⟨_, rfl⟩
            rw [← hS_] at HP HFR
            clear hS_
            obtain ⟨A5, c5, hwv, -⟩ := want_form HW.out
            subst hwv
            obtain ⟨wv, hwv⟩ : ∃ x, x = Value.slice A5 N c5 := ⟨_, rfl⟩
            go_upto_region 18 with (fail)
            have hbt : But gp v2 (v2.setCell ⟨gp, 1, none⟩ (.int .i64 (N : Int))) := setCell_but v2 _ _ _
            have HPL2 : Hid (BK (v2.setCell ⟨gp, 1, none⟩ (.int .i64 (N : Int))) gp 76 #[.int .i64 (place 0), .int .i64 (N : Int), .int .i64 (place 2)]) := Lib.hid (HPL.out.set 1 _ rfl)
            replace HP := Lib.hid (HP.out.but hbt (.inl rfl) HGB.out)
            replace HW := Lib.hid (own_same HW.out (fun g hg => hbt.block g (own_lt HW.out hg).2 (fun e => HNE.out (e ▸ hg))) : (v2.setCell ⟨gp, 1, none⟩ (.int .i64 (N : Int))).ownsRow B 3 1 (.slice A5 N c5) N (wantL want))
            replace HB := Lib.hid (hbt.below HB.out (by have := HGB.out; have := HB2.out; omega) HB.out.size)
            clear hbt HPL hl3 hf3
            have HPL : Hid (BK (v2.setCell ⟨gp, 1, none⟩ (.int .i64 (N : Int))) gp 76 #[.int .i64 (Pst.upI place 1 N 0), .int .i64 (Pst.upI place 1 N 1), .int .i64 (Pst.upI place 1 N 2)]) := HPL2
            clear HPL2
            generalize v2.setCell ⟨gp, 1, none⟩ (.int .i64 (N : Int)) = v3 at *
            obtain ⟨place0, hp0⟩ : ∃ f, f = place := ⟨_, rfl⟩
            have hpu : Pst.upI place 1 N 1 = (N : Int) := rfl
            have HPU := Lib.hid hpu
            rw [HNL.out] at HFR
            clear hpu hp0
            generalize Pst.upI place 1 N = place2 at *
            clear place0
            obtain ⟨place, hpl⟩ : ∃ f, f = place2 := ⟨_, rfl⟩
            subst hpl
            rw [← hwv] at HP HW HNE ⊢
            go_upto_region 19 with (
              refine isAp (.tmp 70) (.tmp 72) 75 rfl ?_
              have hba := (Below.refl v3.heap.size v3).alloc (Nat.le_refl _) (.cells #[.int .i64 (i : Int)] 3)
              have Hq := Lib.hid (BK.new v3 3 #[.int .i64 (i : Int)])
              replace HB := Lib.hid (HB.out.trans (hba.mono HB.out.size))
              replace HP := Lib.hid (HP.out.on hba)
              replace HW := Lib.hid (own_on HW.out hba)
              replace HPL := Lib.hid (HPL.out.on hba)
              clear hba
              generalize (v3.alloc (.cells #[.int .i64 (i : Int)] 3)) = w_q at *
              generalize v3.heap.size = q_ at *
              refine wpList_append_lies _ rfl (.tmp 70) (.tmp 72) 75 rfl B 3 j0 _ 1 8 Tryz.underlying75 HJ0.out HJZ0.out HJZ1.out HJZ2.out rfl (by omega) wv N (wantL want) (by rfl) HW.out ⟨q_, 0, none⟩ 1 1 [.int .i64 (i : Int)] (by rfl) (by rfl) (World.news_of_block Hq.out) (by intro u hu; simp only [List.mem_singleton] at hu; subst hu; rfl) (by omega)
                (by unfold maxLen; have := HWL.out; omega) (by have := HWL.out; omega) HP.out.B_le _ rfl ?_
              intro gw cw w_a hown hgrow hat hlt
              have HX := Lib.hid hown
              have HPX : Hid (PPi B pb (KW gp (.slice (some ⟨gw, 0, none⟩) (N + 1) cw)) S_ w_a) := Lib.hid (HP.out.grown hgrow (fun b hb => (own_lt HW.out hb).1) (fun b hb => by
                have e : gw = b := by simpa [Value.ownBlock] using hb
                subst e
                exact ⟨hat, hlt⟩))
              have HPLX : Hid (BK w_a gp 76 #[.int .i64 (place 0), .int .i64 (place 1), .int .i64 (place 2)]) := Lib.hid ((hgrow.block gp HPL.out.lt (fun e => HNE.out e.symm)).trans HPL.out)
              replace HB := Lib.hid (HB.out.grown hgrow HB.out.size (fun k hk => (by have := (own_lt HW.out hk).1; have := HB2.out; omega)))
              have HGN : Hid (gw ≠ gp) := Lib.hid (fun e => by
                subst e
                rcases hat with h1 | h1
                · exact HNE.out h1
                · have := HPL.out.lt; omega)
              clear hown hgrow hat hlt Hq HP HPL HW HNE)
            have hl4 : w_a.cell? ⟨gp, 1, none⟩ = some (.int .i64 (N : Int)) := by rw [← HPU.out]; exact HPLX.out.c 1 rfl
            have hlast : (wantL want ++ [Value.int .i64 (i : Int)])[N]? = some (Value.int .i64 (i : Int)) := by rw [List.getElem?_append_right (by rw [wantL_len, HNL.out]; exact Nat.le_refl _), wantL_len, HNL.out]; simp
            have hc9 : w_a.cell? ⟨gw, N, none⟩ = some (.int .i64 (i : Int)) := want_cell HX.out hlast
            have hf9 := own_fr HX.out N
            have i9 : (N : Int) < (N : Int) + 1 := by omega
            have i8 : (0 : Int) ≤ (N : Int) := by omega
            clear hlast
            go_wp2
            have hbt : But gw w_a (w_a.setCell ⟨gw, N, none⟩ (.int .i64 (i : Int))) := setCell_but w_a _ _ _
            have hset : (wantL want ++ [Value.int .i64 (i : Int)]).set N (Value.int .i64 (i : Int)) = wantL (want ++ [(i : Int)]) := by
              rw [List.set_append_right _ _ (by rw [wantL_len, HNL.out]; exact Nat.le_refl _), wantL_len, HNL.out]; simp [wantL]
            have hW2 := want_put HX.out (k := N) (by omega) (.int .i64 (i : Int))
            rw [hset] at hW2
            go_roundg (gk - 1)
            case measure => have := HI.out; omega
            case rel => exact ⟨_, i + 1, want ++ [(i : Int)], place, _, by have := HI.out; omega, by go_num, rfl, Lib.hid HFR.out.2, Lib.hid (HPX.out.but hbt (.inr rfl) (own_lt HX.out rfl).1), Lib.hid (HPLX.out.but hbt (fun e => HGN.out e.symm)), Lib.hid (by rw [List.length_append, HNL.out]; exact hW2), Lib.hid (fun e => HGN.out (by simpa [Value.ownBlock] using e)), Lib.hid (hbt.below HB.out (by have := (own_lt (b := gw) HX.out rfl).1; have := HB2.out; omega) HB.out.size)⟩
          · obtain ⟨k, hk⟩ : ∃ k : Nat, place 1 = (k : Int) := ⟨(place 1).toNat, by omega⟩
            have hol := HO.out.old (i := i) (show 1 < 3 by omega) hk
            have HOL := Lib.hid hol
            rw [hol.1] at he
            subst he
            have hkN : k < N := by rw [← HNL.out]; exact hol.2.1
            clear hol
            have HP := HP2
            clear HP2
            rw [hk] at hl3
            obtain ⟨A5, c5, hwv, hA5⟩ := want_form HW.out
            obtain ⟨g5, rfl⟩ := hA5 (by omega)
            subst hwv
            have hW := HW.out
            have hck : ∃ u, (wantL want)[k]? = some u := ⟨_, List.getElem?_eq_getElem (by rw [wantL_len, HNL.out]; exact hkN)⟩
            obtain ⟨u, hu⟩ := hck
            have hc9 := want_cell hW hu
            have hf9 := own_fr hW k
            have i9 : (k : Int) < (N : Int) := by omega
            have i8 : (0 : Int) ≤ (k : Int) := by omega
            have i7 : ¬ (k : Int) < 0 := by omega
            have HHK := Lib.hid hk
            clear hu hpn hk hW
            go_wp2
            have hbt : But g5 v2 (v2.setCell ⟨g5, k, none⟩ (.int .i64 (i : Int))) := setCell_but v2 _ _ _
            have hset : (wantL want).set k (.int .i64 (i : Int)) = wantL (want.set k (i : Int)) := by unfold wantL; rw [List.map_set]
            have hW2 := want_put HW.out hkN (.int .i64 (i : Int))
            rw [hset] at hW2
            go_roundg (gk - 1)
            case measure => have := HI.out; omega
            case rel => exact ⟨_, i + 1, want.set k (i : Int), place, _, by have := HI.out; omega, by go_num, rfl, Lib.hid HOL.out.2.2, Lib.hid (HP.out.but hbt (.inr rfl) (own_lt HW.out rfl).1), Lib.hid (HPL.out.but hbt (fun e => HNE.out (by rw [← e]; rfl))), Lib.hid (by rw [List.length_set, HNL.out]; exact hW2), HNE, Lib.hid (hbt.below HB.out (by have := (own_lt (b := g5) HW.out rfl).1; have := HB2.out; omega) HB.out.size)⟩
        · have ht4 : y.tmod 4 = 2 := by rw [Int.tmod_eq_emod_of_nonneg hy0]; exact hc4
          clear hq0
          obtain ⟨nmx, hnx⟩ : ∃ x : ByteArray, x = Pst.nm 2 := ⟨_, rfl⟩
          have hcv := conv1 wr 99 (97 + 2) (by omega) (by omega)
          have hnx2 : (⟨#[UInt8.ofNat (97 + 2)]⟩ : ByteArray) = nmx := hnx.symm
          rw [hnx2] at hcv
          have HNX := Lib.hid hnx
          clear hnx hnx2
          go_wp2_with fail
          clear hcv hcell ht4 hc4
          have hb := made_end' wr (.cells #[.int .u8 99] 5)
          replace HB := Lib.hid (HB.out.trans (hb.mono HB.out.size))
          replace HP := Lib.hid (HP.out.on hb)
          replace HPL := Lib.hid (HPL.out.on hb)
          replace HW := Lib.hid (own_on HW.out hb)
          clear hb
          generalize wr.alloc (.cells #[.int .u8 99] 5) = v1 at *
          refine (Note_pi nmx (i : Int) v1 HP.out).mono ?_
          rintro e v2 ⟨he, hp, hk⟩
          rw [HNX.out] at he hp
          replace HB := Lib.hid (HB.out.trans (hk.below.mono HB2.out))
          replace HPL := Lib.hid (hk.bk HPL.out (.inl rfl))
          replace HW := Lib.hid (own_same HW.out (fun g hg => hk.same g (.inr hg)))
          have HP2 := Lib.hid hp
          clear hp hk HP
          have hl3 : v2.cell? ⟨gp, 2, none⟩ = some (.int .i64 (place 2)) := HPL.out.c 2 rfl
          have hf3 := HPL.out.fr 2
          by_cases hpn : place 2 < 0
          · have hfr := HO.out.fresh (by omega) (show 2 < 3 by omega) hpn
            have HFR := Lib.hid hfr
            rw [hfr.1] at he
            subst he
            clear hfr
            have HP := HP2
            clear HP2
            obtain ⟨S_, hS_⟩ : ∃ x, x = (s.note (Pst.nm 2) (i : Int)).2 := ⟨_, rfl⟩
            rw [← hS_] at HP HFR
            clear hS_
            obtain ⟨A5, c5, hwv, -⟩ := want_form HW.out
            subst hwv
            obtain ⟨wv, hwv⟩ : ∃ x, x = Value.slice A5 N c5 := ⟨_, rfl⟩
            go_upto_region 18 with (fail)
            have hbt : But gp v2 (v2.setCell ⟨gp, 2, none⟩ (.int .i64 (N : Int))) := setCell_but v2 _ _ _
            have HPL2 : Hid (BK (v2.setCell ⟨gp, 2, none⟩ (.int .i64 (N : Int))) gp 76 #[.int .i64 (place 0), .int .i64 (place 1), .int .i64 (N : Int)]) := Lib.hid (HPL.out.set 2 _ rfl)
            replace HP := Lib.hid (HP.out.but hbt (.inl rfl) HGB.out)
            replace HW := Lib.hid (own_same HW.out (fun g hg => hbt.block g (own_lt HW.out hg).2 (fun e => HNE.out (e ▸ hg))) : (v2.setCell ⟨gp, 2, none⟩ (.int .i64 (N : Int))).ownsRow B 3 1 (.slice A5 N c5) N (wantL want))
            replace HB := Lib.hid (hbt.below HB.out (by have := HGB.out; have := HB2.out; omega) HB.out.size)
            clear hbt HPL hl3 hf3
            have HPL : Hid (BK (v2.setCell ⟨gp, 2, none⟩ (.int .i64 (N : Int))) gp 76 #[.int .i64 (Pst.upI place 2 N 0), .int .i64 (Pst.upI place 2 N 1), .int .i64 (Pst.upI place 2 N 2)]) := HPL2
            clear HPL2
            generalize v2.setCell ⟨gp, 2, none⟩ (.int .i64 (N : Int)) = v3 at *
            obtain ⟨place0, hp0⟩ : ∃ f, f = place := ⟨_, rfl⟩
            have hpu : Pst.upI place 2 N 2 = (N : Int) := rfl
            have HPU := Lib.hid hpu
            rw [HNL.out] at HFR
            clear hpu hp0
            generalize Pst.upI place 2 N = place2 at *
            clear place0
            obtain ⟨place, hpl⟩ : ∃ f, f = place2 := ⟨_, rfl⟩
            subst hpl
            rw [← hwv] at HP HW HNE ⊢
            go_upto_region 19 with (
              refine isAp (.tmp 70) (.tmp 72) 75 rfl ?_
              have hba := (Below.refl v3.heap.size v3).alloc (Nat.le_refl _) (.cells #[.int .i64 (i : Int)] 3)
              have Hq := Lib.hid (BK.new v3 3 #[.int .i64 (i : Int)])
              replace HB := Lib.hid (HB.out.trans (hba.mono HB.out.size))
              replace HP := Lib.hid (HP.out.on hba)
              replace HW := Lib.hid (own_on HW.out hba)
              replace HPL := Lib.hid (HPL.out.on hba)
              clear hba
              generalize (v3.alloc (.cells #[.int .i64 (i : Int)] 3)) = w_q at *
              generalize v3.heap.size = q_ at *
              refine wpList_append_lies _ rfl (.tmp 70) (.tmp 72) 75 rfl B 3 j0 _ 1 8 Tryz.underlying75 HJ0.out HJZ0.out HJZ1.out HJZ2.out rfl (by omega) wv N (wantL want) (by rfl) HW.out ⟨q_, 0, none⟩ 1 1 [.int .i64 (i : Int)] (by rfl) (by rfl) (World.news_of_block Hq.out) (by intro u hu; simp only [List.mem_singleton] at hu; subst hu; rfl) (by omega)
                (by unfold maxLen; have := HWL.out; omega) (by have := HWL.out; omega) HP.out.B_le _ rfl ?_
              intro gw cw w_a hown hgrow hat hlt
              have HX := Lib.hid hown
              have HPX : Hid (PPi B pb (KW gp (.slice (some ⟨gw, 0, none⟩) (N + 1) cw)) S_ w_a) := Lib.hid (HP.out.grown hgrow (fun b hb => (own_lt HW.out hb).1) (fun b hb => by
                have e : gw = b := by simpa [Value.ownBlock] using hb
                subst e
                exact ⟨hat, hlt⟩))
              have HPLX : Hid (BK w_a gp 76 #[.int .i64 (place 0), .int .i64 (place 1), .int .i64 (place 2)]) := Lib.hid ((hgrow.block gp HPL.out.lt (fun e => HNE.out e.symm)).trans HPL.out)
              replace HB := Lib.hid (HB.out.grown hgrow HB.out.size (fun k hk => (by have := (own_lt HW.out hk).1; have := HB2.out; omega)))
              have HGN : Hid (gw ≠ gp) := Lib.hid (fun e => by
                subst e
                rcases hat with h1 | h1
                · exact HNE.out h1
                · have := HPL.out.lt; omega)
              clear hown hgrow hat hlt Hq HP HPL HW HNE)
            have hl4 : w_a.cell? ⟨gp, 2, none⟩ = some (.int .i64 (N : Int)) := by rw [← HPU.out]; exact HPLX.out.c 2 rfl
            have hlast : (wantL want ++ [Value.int .i64 (i : Int)])[N]? = some (Value.int .i64 (i : Int)) := by rw [List.getElem?_append_right (by rw [wantL_len, HNL.out]; exact Nat.le_refl _), wantL_len, HNL.out]; simp
            have hc9 : w_a.cell? ⟨gw, N, none⟩ = some (.int .i64 (i : Int)) := want_cell HX.out hlast
            have hf9 := own_fr HX.out N
            have i9 : (N : Int) < (N : Int) + 1 := by omega
            have i8 : (0 : Int) ≤ (N : Int) := by omega
            clear hlast
            go_wp2
            have hbt : But gw w_a (w_a.setCell ⟨gw, N, none⟩ (.int .i64 (i : Int))) := setCell_but w_a _ _ _
            have hset : (wantL want ++ [Value.int .i64 (i : Int)]).set N (Value.int .i64 (i : Int)) = wantL (want ++ [(i : Int)]) := by
              rw [List.set_append_right _ _ (by rw [wantL_len, HNL.out]; exact Nat.le_refl _), wantL_len, HNL.out]; simp [wantL]
            have hW2 := want_put HX.out (k := N) (by omega) (.int .i64 (i : Int))
            rw [hset] at hW2
            go_roundg (gk - 1)
            case measure => have := HI.out; omega
            case rel => exact ⟨_, i + 1, want ++ [(i : Int)], place, _, by have := HI.out; omega, by go_num, rfl, Lib.hid HFR.out.2, Lib.hid (HPX.out.but hbt (.inr rfl) (own_lt HX.out rfl).1), Lib.hid (HPLX.out.but hbt (fun e => HGN.out e.symm)), Lib.hid (by rw [List.length_append, HNL.out]; exact hW2), Lib.hid (fun e => HGN.out (by simpa [Value.ownBlock] using e)), Lib.hid (hbt.below HB.out (by have := (own_lt (b := gw) HX.out rfl).1; have := HB2.out; omega) HB.out.size)⟩
          · obtain ⟨k, hk⟩ : ∃ k : Nat, place 2 = (k : Int) := ⟨(place 2).toNat, by omega⟩
            have hol := HO.out.old (i := i) (show 2 < 3 by omega) hk
            have HOL := Lib.hid hol
            rw [hol.1] at he
            subst he
            have hkN : k < N := by rw [← HNL.out]; exact hol.2.1
            clear hol
            have HP := HP2
            clear HP2
            rw [hk] at hl3
            obtain ⟨A5, c5, hwv, hA5⟩ := want_form HW.out
            obtain ⟨g5, rfl⟩ := hA5 (by omega)
            subst hwv
            have hW := HW.out
            have hck : ∃ u, (wantL want)[k]? = some u := ⟨_, List.getElem?_eq_getElem (by rw [wantL_len, HNL.out]; exact hkN)⟩
            obtain ⟨u, hu⟩ := hck
            have hc9 := want_cell hW hu
            have hf9 := own_fr hW k
            have i9 : (k : Int) < (N : Int) := by omega
            have i8 : (0 : Int) ≤ (k : Int) := by omega
            have i7 : ¬ (k : Int) < 0 := by omega
            have HHK := Lib.hid hk
            clear hu hpn hk hW
            go_wp2
            have hbt : But g5 v2 (v2.setCell ⟨g5, k, none⟩ (.int .i64 (i : Int))) := setCell_but v2 _ _ _
            have hset : (wantL want).set k (.int .i64 (i : Int)) = wantL (want.set k (i : Int)) := by unfold wantL; rw [List.map_set]
            have hW2 := want_put HW.out hkN (.int .i64 (i : Int))
            rw [hset] at hW2
            go_roundg (gk - 1)
            case measure => have := HI.out; omega
            case rel => exact ⟨_, i + 1, want.set k (i : Int), place, _, by have := HI.out; omega, by go_num, rfl, Lib.hid HOL.out.2.2, Lib.hid (HP.out.but hbt (.inr rfl) (own_lt HW.out rfl).1), Lib.hid (HPL.out.but hbt (fun e => HNE.out (by rw [← e]; rfl))), Lib.hid (by rw [List.length_set, HNL.out]; exact hW2), HNE, Lib.hid (hbt.below HB.out (by have := (own_lt (b := g5) HW.out rfl).1; have := HB2.out; omega) HB.out.size)⟩
        · have ht4 : y.tmod 4 = 3 := by rw [Int.tmod_eq_emod_of_nonneg hy0]; exact hc4
          clear hq0
          go_wp2_with fail
          clear hcell ht4 hc4
          refine (id_any i (i : Int) wr rfl (by omega)).mono ?_
          rintro e v1 ⟨rfl, hb⟩
          replace HB := Lib.hid (HB.out.trans (hb.mono HB.out.size))
          replace HP := Lib.hid (HP.out.on hb)
          replace HPL := Lib.hid (HPL.out.on hb)
          replace HW := Lib.hid (own_on HW.out hb)
          clear hb
          go_wp2_with fail
          refine (Call_pi i (i : Int) v1 HP.out (by omega)).mono ?_
          rintro e v2 ⟨he, hp, hk⟩
          have HLY := Lib.hid (HO.out.lay (by omega))
          rw [HLY.out.1] at he
          subst he
          replace HB := Lib.hid (HB.out.trans (hk.below.mono HB2.out))
          replace HPL := Lib.hid (hk.bk HPL.out (.inl rfl))
          replace HW := Lib.hid (own_same HW.out (fun g hg => hk.same g (.inr hg)))
          have HP2 := Lib.hid hp
          clear hp hk HP
          have HP := HP2
          clear HP2
          obtain ⟨S_, hS_⟩ : ∃ x, x = (s.call (numI i) (i : Int)).2 := ⟨_, rfl⟩
          rw [← hS_] at HP HLY
          clear hS_
          go_wp2_with (
            refine isAp (.tmp 49) (.tmp 51) 75 rfl ?_
            have hba := (Below.refl v2.heap.size v2).alloc (Nat.le_refl _) (.cells #[.int .i64 (i : Int)] 3)
            have Hq := Lib.hid (BK.new v2 3 #[.int .i64 (i : Int)])
            replace HB := Lib.hid (HB.out.trans (hba.mono HB.out.size))
            replace HP := Lib.hid (HP.out.on hba)
            replace HW := Lib.hid (own_on HW.out hba)
            replace HPL := Lib.hid (HPL.out.on hba)
            clear hba
            generalize (v2.alloc (.cells #[.int .i64 (i : Int)] 3)) = w_q at *
            generalize v2.heap.size = q_ at *
            refine wpList_append_lies _ rfl (.tmp 49) (.tmp 51) 75 rfl B 3 j0 _ 1 8 Tryz.underlying75 HJ0.out HJZ0.out HJZ1.out HJZ2.out rfl (by omega) wv N (wantL want) (by rfl) HW.out ⟨q_, 0, none⟩ 1 1 [.int .i64 (i : Int)] (by rfl) (by rfl) (World.news_of_block Hq.out) (by intro u hu; simp only [List.mem_singleton] at hu; subst hu; rfl) (by omega)
              (by unfold maxLen; have := HWL.out; omega) (by have := HWL.out; omega) HP.out.B_le _ rfl ?_
            intro gw cw w_a hown hgrow hat hlt
            have HX := Lib.hid hown
            have HPX : Hid (PPi B pb (KW gp (.slice (some ⟨gw, 0, none⟩) (N + 1) cw)) S_ w_a) := Lib.hid (HP.out.grown hgrow (fun b hb => (own_lt HW.out hb).1) (fun b hb => by
              have e : gw = b := by simpa [Value.ownBlock] using hb
              subst e
              exact ⟨hat, hlt⟩))
            have HPLX : Hid (BK w_a gp 76 #[.int .i64 (place 0), .int .i64 (place 1), .int .i64 (place 2)]) := Lib.hid ((hgrow.block gp HPL.out.lt (fun e => HNE.out e.symm)).trans HPL.out)
            replace HB := Lib.hid (HB.out.grown hgrow HB.out.size (fun k hk => (by have := (own_lt HW.out hk).1; have := HB2.out; omega)))
            have HGN : Hid (gw ≠ gp) := Lib.hid (fun e => by
              subst e
              rcases hat with h1 | h1
              · exact HNE.out h1
              · have := HPL.out.lt; omega)
            clear hown hgrow hat hlt Hq HP HPL HW HNE)
          go_roundg (gk - 1)
          case measure => have := HI.out; omega
          case rel => exact ⟨_, i + 1, want ++ [(i : Int)], place, _, by have := HI.out; omega, by go_num, rfl, Lib.hid HLY.out.2, HPX, HPLX, Lib.hid (by have h9 := HX.out; rw [List.length_append, HNL.out]; rw [show wantL (want ++ [(i : Int)]) = wantL want ++ [.int .i64 (i : Int)] by simp [wantL]]; exact h9), Lib.hid (fun e => HGN.out (by simpa [Value.ownBlock] using e)), HB⟩
      · have d0 : (i : Int) < (L : Int) := by omega
        have d1 : ¬ (i : Int) < 60 := by omega
        have hU := HO.out.us
        have hQ := HO.out.q
        have hCan := HO.out.can
        obtain ⟨Q, hQ0⟩ : ∃ Q, s.q = Q := ⟨_, rfl⟩
        rw [hQ0] at hQ hCan
        have HOUT : Hid (Pst.Out s (Q.drop 0)) := Lib.hid ⟨hU, by rw [hQ0]; rfl⟩
        have HQ := Lib.hid hQ
        have HCAN := Lib.hid hCan
        clear hU hQ hCan hQ0 HO HI HMI
        obtain ⟨A5, c5, hwv, hA5⟩ := want_form HW.out
        have HA5 := Lib.hid hA5
        subst hwv
        clear hA5 hNi hlt h60
        go_wp2_with fail
        obtain ⟨wo, rfl⟩ : ∃ wo : World, wo = wr := ⟨_, rfl⟩
        go_loopg [9] N (fun q v9 wr => ∃ (s : Pst Int) (j : Nat), j + q = N ∧ v9 = .int .i64 j ∧ Hid (Pst.Out s (Q.drop j)) ∧ Hid (PPi B pb (KW gp (.slice A5 N c5)) s wr) ∧ Hid (wr.ownsRow B 3 1 (.slice A5 N c5) N (wantL want)) ∧ Hid (Below w.heap.size w wr))
        case atStart => exact ⟨s, 0, by omega, rfl, HOUT, HP, HW, HB⟩
        case round =>
          clear HP HW HB HOUT HPL HNE d0 d1
          obtain ⟨s, j, hj, rfl, HOUT, HP, HW, HB⟩ := hrel
          have HI := Lib.hid hj
          by_cases hlt : j < N
          · have d0 : (j : Int) < (N : Int) := by omega
            have i0 : (0 : Int) ≤ (j : Int) := by omega
            have hgk : 0 < gk := by omega
            clear hj
            have hql : j < Q.length := by have h1 := congrArg List.length HQ.out; rw [List.length_map, HNL.out] at h1; omega
            obtain ⟨J, hJ⟩ : ∃ J, Q[j]? = some J := ⟨_, List.getElem?_eq_getElem hql⟩
            have hdr : Q.drop j = J :: Q.drop (j + 1) := by
              rw [List.drop_eq_getElem_cons hql, (List.getElem?_eq_some_iff.1 hJ).2]
            have hcan : J.can = false := HCAN.out J (List.mem_iff_getElem?.2 ⟨j, hJ⟩)
            have hwx : want[j]? = some J.x := by rw [← HQ.out, List.getElem?_map, hJ]; rfl
            have ho := HOUT.out
            rw [hdr] at ho
            obtain ⟨o1, o2, o3⟩ := ho.step
            have HO1 := Lib.hid o1
            have HO2 := Lib.hid o2
            have HO3 := Lib.hid o3
            have hlen : 0 < s.us.length := by rw [ho.us]; decide
            have hlen2 : 0 < (s.take 0).2.us.length := by
              obtain ⟨q5, us5⟩ := s
              have h5 : us5 = [none] := ho.us
              have h6 : q5 = J :: Q.drop (j + 1) := ho.q
              subst h5 h6
              show 0 < 1
              omega
            obtain ⟨g5, hg5⟩ := HA5.out (by omega)
            have hwl : (wantL want)[j]? = some (.int .i64 J.x) := by unfold wantL; rw [List.getElem?_map, hwx]; rfl
            have HWX := Lib.hid hwl
            have HG5 := Lib.hid hg5
            have HCJ := Lib.hid hcan
            clear o1 o2 o3 ho hdr hwl hwx hcan hJ hql hg5
            go_wp2_with fail
            refine (Take_pi 0 0 wr HP.out rfl hlen).mono ?_
            rintro e v1 ⟨he, hp, hk⟩
            rw [HO1.out] at he
            subst he
            replace HB := Lib.hid (HB.out.trans (hk.below.mono HB2.out))
            have HW1 := Lib.hid (own_same HW.out (fun g hg => hk.same g (.inr hg)))
            have HP1 := Lib.hid hp
            clear hp hk HP HW
            go_wp2_with fail
            refine (Done_pi 0 0 v1 HP1.out rfl hlen2).mono ?_
            rintro e v2 ⟨he, hp, hk⟩
            rw [HO2.out] at he
            dsimp only [doneV_i] at he
            rw [HCJ.out] at he
            subst he
            replace HB := Lib.hid (HB.out.trans (hk.below.mono HB2.out))
            have HW := Lib.hid (own_same HW1.out (fun g hg => hk.same g (.inr hg)))
            have HP := Lib.hid hp
            clear hp hk HP1 HW1 hlen hlen2
            have hW := HW.out
            rw [HG5.out] at hW
            have hcx := want_cell hW HWX.out
            have HWW := Lib.hid hW
            clear hW
            generalize J.x = X at *
            have hA := HG5.out
            subst hA
            have hj60 : (j : Int) ≤ 60 := by have := HWL.out; omega
            go_wp2
            go_roundg (gk - 1)
            case measure => omega
            case rel => exact ⟨_, j + 1, by have := HI.out; omega, by go_num, HO3, HP, HW, HB⟩
          · have d0 : ¬ (j : Int) < (N : Int) := by omega
            have hjN : N ≤ j := by omega
            have hq0 : Q.drop j = [] := List.drop_of_length_le (by have h1 := congrArg List.length HQ.out; rw [List.length_map, HNL.out] at h1; omega)
            have ho := HOUT.out
            rw [hq0] at ho
            have hl := ho.last
            have hlen : 0 < s.us.length := by rw [ho.us]; decide
            have HLA := Lib.hid hl
            clear hl ho hq0 hj hlt hjN
            go_wp2_with fail
            refine (Take_pi 0 0 wr HP.out rfl hlen).mono ?_
            rintro e v1 ⟨he, hp, hk⟩
            rw [HLA.out] at he
            subst he
            replace HB := Lib.hid (HB.out.trans (hk.below.mono HB2.out))
            have HP1 := Lib.hid hp
            clear hp hk HP HW hlen
            go_wp2_with fail
            refine (awake28_any v1 HP1.out.ml).mono ?_
            rintro e v2 ⟨rfl, hb⟩
            replace HB := Lib.hid (HB.out.trans (hb.mono HB.out.size))
            clear hb HP1
            go_wp2
            go_ret
            exact ⟨rfl, HB.out⟩
    · have d0 : ¬ (i : Int) < (L : Int) := by omega
      have hU := HO.out.us
      have hQ := HO.out.q
      have hCan := HO.out.can
      obtain ⟨Q, hQ0⟩ : ∃ Q, s.q = Q := ⟨_, rfl⟩
      rw [hQ0] at hQ hCan
      have HOUT : Hid (Pst.Out s (Q.drop 0)) := Lib.hid ⟨hU, by rw [hQ0]; rfl⟩
      have HQ := Lib.hid hQ
      have HCAN := Lib.hid hCan
      clear hU hQ hCan hQ0 HO HI HMI
      obtain ⟨A5, c5, hwv, hA5⟩ := want_form HW.out
      have HA5 := Lib.hid hA5
      subst hwv
      clear hA5 hNi hlt
      go_wp2_with fail
      obtain ⟨wo, rfl⟩ : ∃ wo : World, wo = wr := ⟨_, rfl⟩
      go_loopg [9] N (fun q v9 wr => ∃ (s : Pst Int) (j : Nat), j + q = N ∧ v9 = .int .i64 j ∧ Hid (Pst.Out s (Q.drop j)) ∧ Hid (PPi B pb (KW gp (.slice A5 N c5)) s wr) ∧ Hid (wr.ownsRow B 3 1 (.slice A5 N c5) N (wantL want)) ∧ Hid (Below w.heap.size w wr))
      case atStart => exact ⟨s, 0, by omega, rfl, HOUT, HP, HW, HB⟩
      case round =>
        clear HP HW HB HOUT HPL HNE d0
        obtain ⟨s, j, hj, rfl, HOUT, HP, HW, HB⟩ := hrel
        have HI := Lib.hid hj
        by_cases hlt : j < N
        · have d0 : (j : Int) < (N : Int) := by omega
          have i0 : (0 : Int) ≤ (j : Int) := by omega
          have hgk : 0 < gk := by omega
          clear hj
          have hql : j < Q.length := by have h1 := congrArg List.length HQ.out; rw [List.length_map, HNL.out] at h1; omega
          obtain ⟨J, hJ⟩ : ∃ J, Q[j]? = some J := ⟨_, List.getElem?_eq_getElem hql⟩
          have hdr : Q.drop j = J :: Q.drop (j + 1) := by
            rw [List.drop_eq_getElem_cons hql, (List.getElem?_eq_some_iff.1 hJ).2]
          have hcan : J.can = false := HCAN.out J (List.mem_iff_getElem?.2 ⟨j, hJ⟩)
          have hwx : want[j]? = some J.x := by rw [← HQ.out, List.getElem?_map, hJ]; rfl
          have ho := HOUT.out
          rw [hdr] at ho
          obtain ⟨o1, o2, o3⟩ := ho.step
          have HO1 := Lib.hid o1
          have HO2 := Lib.hid o2
          have HO3 := Lib.hid o3
          have hlen : 0 < s.us.length := by rw [ho.us]; decide
          have hlen2 : 0 < (s.take 0).2.us.length := by
            obtain ⟨q5, us5⟩ := s
            have h5 : us5 = [none] := ho.us
            have h6 : q5 = J :: Q.drop (j + 1) := ho.q
            subst h5 h6
            show 0 < 1
            omega
          obtain ⟨g5, hg5⟩ := HA5.out (by omega)
          have hwl : (wantL want)[j]? = some (.int .i64 J.x) := by unfold wantL; rw [List.getElem?_map, hwx]; rfl
          have HWX := Lib.hid hwl
          have HG5 := Lib.hid hg5
          have HCJ := Lib.hid hcan
          clear o1 o2 o3 ho hdr hwl hwx hcan hJ hql hg5
          go_wp2_with fail
          refine (Take_pi 0 0 wr HP.out rfl hlen).mono ?_
          rintro e v1 ⟨he, hp, hk⟩
          rw [HO1.out] at he
          subst he
          replace HB := Lib.hid (HB.out.trans (hk.below.mono HB2.out))
          have HW1 := Lib.hid (own_same HW.out (fun g hg => hk.same g (.inr hg)))
          have HP1 := Lib.hid hp
          clear hp hk HP HW
          go_wp2_with fail
          refine (Done_pi 0 0 v1 HP1.out rfl hlen2).mono ?_
          rintro e v2 ⟨he, hp, hk⟩
          rw [HO2.out] at he
          dsimp only [doneV_i] at he
          rw [HCJ.out] at he
          subst he
          replace HB := Lib.hid (HB.out.trans (hk.below.mono HB2.out))
          have HW := Lib.hid (own_same HW1.out (fun g hg => hk.same g (.inr hg)))
          have HP := Lib.hid hp
          clear hp hk HP1 HW1 hlen hlen2
          have hW := HW.out
          rw [HG5.out] at hW
          have hcx := want_cell hW HWX.out
          have HWW := Lib.hid hW
          clear hW
          generalize J.x = X at *
          have hA := HG5.out
          subst hA
          have hj60 : (j : Int) ≤ 60 := by have := HWL.out; omega
          go_wp2
          go_roundg (gk - 1)
          case measure => omega
          case rel => exact ⟨_, j + 1, by have := HI.out; omega, by go_num, HO3, HP, HW, HB⟩
        · have d0 : ¬ (j : Int) < (N : Int) := by omega
          have hjN : N ≤ j := by omega
          have hq0 : Q.drop j = [] := List.drop_of_length_le (by have h1 := congrArg List.length HQ.out; rw [List.length_map, HNL.out] at h1; omega)
          have ho := HOUT.out
          rw [hq0] at ho
          have hl := ho.last
          have hlen : 0 < s.us.length := by rw [ho.us]; decide
          have HLA := Lib.hid hl
          clear hl ho hq0 hj hlt hjN
          go_wp2_with fail
          refine (Take_pi 0 0 wr HP.out rfl hlen).mono ?_
          rintro e v1 ⟨he, hp, hk⟩
          rw [HLA.out] at he
          subst he
          replace HB := Lib.hid (HB.out.trans (hk.below.mono HB2.out))
          have HP1 := Lib.hid hp
          clear hp hk HP HW hlen
          go_wp2_with fail
          refine (awake28_any v1 HP1.out.ml).mono ?_
          rintro e v2 ⟨rfl, hb⟩
          replace HB := Lib.hid (HB.out.trans (hb.mono HB.out.size))
          clear hb HP1
          go_wp2
          go_ret
          exact ⟨rfl, HB.out⟩
end Go.Proofs.YtfploakafbnigaaGreatDoor
