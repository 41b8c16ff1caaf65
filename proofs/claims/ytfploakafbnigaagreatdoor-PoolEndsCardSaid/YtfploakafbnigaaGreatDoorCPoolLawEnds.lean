/-
  Layer 28, the walks: PoolEnds.
-/
import Derived.Test.YtfploakafbnigaaGreatDoorCPoolAwake
import Derived.Deep.LoopGhost
import Derived.Test.YtfploakafbnigaaGreatDoorCPkNumA
import Derived.Test.YtfploakafbnigaaGreatDoorCPoolRow
namespace Go.Proofs.YtfploakafbnigaaGreatDoor
open Go.RowKit Val Pl YtfploakafbnigaaGreatDoorW.PrintLast
set_option linter.unusedVariables false
set_option linter.unusedSimpArgs false
set_option maxRecDepth 100000 in
set_option maxHeartbeats 16000000 in
theorem PoolEnds_walk (a0 a1 : Int) (A : Option Addr) (cap : Nat) (l : List Int) (w : World) (h0 : I64 a0) (h1 : I64 a1) (hl : l.length ≤ 9223372036854775807) (hA : IB w w.heap.size A l) (hM : ML w) : Calls Tryz.prog 9 #[.int .i64 a0, .int .i64 a1, .slice A l.length cap] w (Made (.bool true) w) := by
  obtain ⟨B, hB⟩ : ∃ B, B = w.heap.size := ⟨_, rfl⟩
  have HB2 : Hid (w.heap.size ≤ B) := Lib.hid (by omega)
  have HBE := Lib.hid hB
  have HM := Lib.hid hM
  have HA := Lib.hid hA
  obtain ⟨k, hk, hk4⟩ : ∃ k : Nat, a0 % 4 = (k : Int) ∧ k < 4 := ⟨(a0 % 4).toNat, by omega, by omega⟩
  obtain ⟨m, hm, hm65⟩ : ∃ m : Nat, a1 % 65 = (m : Int) ∧ m < 65 := ⟨(a1 % 65).toNat, by omega, by omega⟩
  have HBR := Lib.hid (fun W => Bring_any a0 4 W h0 (by omega))
  have HBS := Lib.hid (fun W => Bring_any a1 65 W h1 (by omega))
  rw [hk] at HBR
  rw [hm] at HBS
  obtain ⟨L, hL⟩ : ∃ L, l.length = L := ⟨_, rfl⟩
  have HL := Lib.hid hL
  rw [hL] at hl ⊢
  obtain ⟨n, hn⟩ : ∃ n, n = k + 1 := ⟨_, rfl⟩
  have HNK : Hid ((1 : Int) + (k : Int) = (n : Int)) := Lib.hid (by omega)
  have hn0 : 0 < n := by omega
  have hn4 : n ≤ 4 := by omega
  clear hM hB hA hk hm h0 h1 hL hn
  go_enter Tryz.func9, Tryz.ntmps9
  go_wp2_with fail
  refine (HBR.out w).mono ?_
  rintro e w_ ⟨rfl, rfl⟩
  go_wp2_with fail
  refine (HBS.out w).mono ?_
  rintro e w_ ⟨rfl, rfl⟩
  go_wp2_with fail
  rw [HNK.out]
  refine (New_pi n (n : Int) w rfl ⟨by omega, hn4⟩ HM.out).mono ?_
  rintro e w1 ⟨pb, rfl, hp, hb, -⟩
  rw [← HBE.out] at hp
  have HB := Lib.hid hb
  have HP := Lib.hid hp
  clear hp hb hk4
  go_wp2_with fail
  go_loopg [11] m (fun q v wr => ∃ (s : Pst Int) (i : Nat), i + q = m ∧ v = .int .i64 i ∧ Hid (Pst.Laid s n i) ∧ Hid (PPi B pb (fun _ => False) s wr) ∧ Hid (Below w.heap.size w wr))
  case atStart => exact ⟨_, 0, by omega, rfl, Lib.hid (Pst.Laid.new n), HP, HB⟩
  case round =>
    clear HP HB
    obtain ⟨s, i, hi, rfl, HLD, HP, HB⟩ := hrel
    by_cases hlt : i < m
    · have d0 : (i : Int) < (m : Int) := by omega
      have i0 : (0 : Int) ≤ (i : Int) := by omega
      have HI := Lib.hid hi
      clear hi
      have hls := HLD.out.step (by omega)
      have HLS := Lib.hid hls
      clear hls
      go_wp2_with fail
      refine (id_any i (i : Int) wr rfl (by omega)).mono ?_
      rintro e v1 ⟨rfl, hb⟩
      replace HB := Lib.hid (HB.out.trans (hb.mono HB.out.size))
      replace HP := Lib.hid (HP.out.on hb)
      clear hb
      go_wp2_with fail
      refine (Call_pi i (i : Int) v1 HP.out (by omega)).mono ?_
      rintro e v2 ⟨he, hp, hk⟩
      rw [HLS.out.1] at he
      subst he
      replace HB := Lib.hid (HB.out.trans (hk.below.mono HB2.out))
      have HP2 := Lib.hid hp
      clear hp hk HP
      go_wp2
      go_roundg (gk - 1)
      case measure => have := HI.out; omega
      case rel => exact ⟨_, i + 1, by have := HI.out; omega, by go_num, Lib.hid HLS.out.2, HP2, HB⟩
    · have d0 : ¬ (i : Int) < (m : Int) := by omega
      have him : i = m := by omega
      subst him
      have HGO0 := Lib.hid HLD.out.goes
      clear hi hlt HLD
      go_wp2_with fail
      obtain ⟨wo, rfl⟩ : ∃ wo : World, wo = wr := ⟨_, rfl⟩
      go_loopg [12, 13] 2000 (fun q v12 v13 wr => ∃ (s : Pst Int) (j st : Nat), j + q = 2000 ∧ v13 = .int .i64 j ∧ v12 = .int .i64 st ∧ Hid (Pst.Goes s n i j st) ∧ Hid (PPi B pb (fun _ => False) s wr) ∧ Hid (Below w.heap.size w wr))
      case atStart => exact ⟨s, 0, 0, rfl, rfl, rfl, HGO0, HP, HB⟩
      case round =>
        clear HP HB HGO0 d0
        obtain ⟨m, rfl⟩ : ∃ m, m = i := ⟨_, rfl⟩
        obtain ⟨s, i, st, hi, rfl, rfl, HGO, HP, HB⟩ := hrel
        have hst : st ≤ 200 := by have := HGO.out.sum; omega
        obtain ⟨ql, hql⟩ : ∃ q, s.q.length = q := ⟨_, rfl⟩
        obtain ⟨mn, hmn⟩ : ∃ q, s.many = q := ⟨_, rfl⟩
        have hpq : s.pot = 2 * ql + mn := by rw [← hql, ← hmn]; rfl
        have hb1 : ql ≤ 200 := by have := HGO.out.sum; omega
        have hb2 : mn ≤ 200 := by have := HGO.out.sum; omega
        have HQL := Lib.hid hql
        have HMN := Lib.hid hmn
        have HPQ := Lib.hid hpq
        clear hql hmn hpq
        by_cases hlt : i < 2000
        · have d0 : (i : Int) < 2000 := by omega
          have i0 : (0 : Int) ≤ (i : Int) := by omega
          by_cases hpot0 : ql + mn = 0
          · have d1 : (ql : Int) + (mn : Int) = 0 := by omega
            have hz : s.pot = 0 := by rw [HPQ.out]; omega
            have hs2 : st = 2 * m := by have := HGO.out.sum; omega
            subst hs2
            have q0 : ql = 0 := by omega
            have q1 : mn = 0 := by omega
            subst q0 q1
            clear hi hz d1 HPQ HGO hlt hpot0
            go_wp2_with fail
            refine (Waits_pi wr HP.out).mono ?_
            rintro e v_ ⟨rfl, rfl⟩
            rw [HQL.out]
            go_wp2_with fail
            refine (Under_pi wr HP.out).mono ?_
            rintro e v_ ⟨rfl, rfl⟩
            rw [HMN.out]
            go_wp2_with fail
            refine (Waits_pi wr HP.out).mono ?_
            rintro e v_ ⟨rfl, rfl⟩
            rw [HQL.out]
            go_wp2_with fail
            refine (Under_pi wr HP.out).mono ?_
            rintro e v_ ⟨rfl, rfl⟩
            rw [HMN.out]
            go_wp2_with fail
            refine (awake28_any wr HP.out.ml).mono ?_
            rintro e v_ ⟨rfl, hb⟩
            replace HB := Lib.hid (HB.out.trans (hb.mono HB.out.size))
            clear hb HP
            go_wp2
            go_ret
            exact ⟨rfl, HB.out⟩
          · have d1 : (0 : Int) < (ql : Int) + (mn : Int) := by omega
            have hpot : 0 < s.pot := by rw [HPQ.out]; omega
            have HI := Lib.hid hi
            clear hi
            go_wp2_with fail
            refine (Waits_pi wr HP.out).mono ?_
            rintro e v_ ⟨rfl, rfl⟩
            rw [HQL.out]
            go_wp2_with fail
            refine (Under_pi wr HP.out).mono ?_
            rintro e v_ ⟨rfl, rfl⟩
            rw [HMN.out]
            clear hpot0
            have hmod : (i : Int).tmod (n : Int) = ((i % n : Nat) : Int) := by rw [Int.tmod_eq_emod_of_nonneg (by omega)]; simp
            obtain ⟨kk, hkk⟩ : ∃ k, i % n = k := ⟨_, rfl⟩
            have hkn0 : kk < n := by rw [← hkk]; exact Nat.mod_lt _ hn0
            have HKK := Lib.hid hkk
            rw [hkk] at hmod
            have hnz : ¬ (n : Int) = 0 := by omega
            clear hkk
            by_cases hin : i < L ∧ i < 500
            · obtain ⟨hin1, hin2⟩ := hin
              have e1 : (i : Int) < (L : Int) := by omega
              have e2 : (i : Int) < 500 := by omega
              obtain ⟨x, hx⟩ : ∃ x, l[i]? = some x := ⟨_, List.getElem?_eq_getElem (by rw [HL.out]; exact hin1)⟩
              rcases HA.out with h0 | ⟨b, off, rfl, hb, hc⟩
              · rw [h0] at hx; cases hx
              · obtain ⟨hcx, hxi⟩ := hc i x hx
                have hcx2 : wr.cell? ⟨b, off + i, none⟩ = some (.int .i64 x) := (HB.out.cell (p := ⟨b, off + i, none⟩) hb).trans hcx
                obtain ⟨k1, hk1, hk1n⟩ : ∃ k1 : Nat, x % (n : Int) = (k1 : Int) ∧ k1 < n := ⟨(x % (n : Int)).toNat, by have := Int.emod_nonneg x hnz; omega, by have := Int.emod_lt_of_pos x (show (0 : Int) < (n : Int) by omega); have := Int.emod_nonneg x hnz; omega⟩
                have HBX := Lib.hid (Bring_any x (n : Int) wr hxi (by omega))
                rw [hk1] at HBX
                have HK_ := Lib.hid hk1n
                have hid5 := Lib.hid (show 500 ≤ i → k1 = i % n from fun h => by omega)
                clear hc hx hcx hk1 hk1n hxi hkn0
                go_wp2_with fail
                refine HBX.out.mono ?_
                rintro e v_ ⟨rfl, rfl⟩
                clear hcx2 HBX
                go_wp2_with fail
                have hkn : k1 < s.us.length := by rw [HGO.out.len]; exact HK_.out
                have hgo := HGO.out.step hn0 hn4 hpot HK_.out (hid5.out)
                obtain ⟨od, hod⟩ : ∃ o, (s.done k1).1 = o := ⟨_, rfl⟩
                refine (Done_pi k1 (k1 : Int) wr HP.out rfl hkn).mono ?_
                rintro e v3 ⟨he, hp, hk⟩
                rw [hod] at he
                replace HB := Lib.hid (HB.out.trans (hk.below.mono HB2.out))
                have HP3 := Lib.hid hp
                clear hp hk HP
                cases od with
                | some j =>
                  have hr : s.round k1 = (true, (s.done k1).2) := by unfold Pst.round; rw [hod]
                  rw [hr] at hgo
                  have hgo' : Pst.Goes (s.done k1).2 n m (i + 1) (st + 1) := hgo
                  have HGN := Lib.hid hgo'
                  dsimp only [doneV_i] at he
                  subst he
                  clear hgo hgo' hr hod hkn hpot
                  go_wp2
                  go_roundg (gk - 1)
                  case measure => have := HI.out; omega
                  case rel => exact ⟨_, i + 1, st + 1, by have := HI.out; omega, by go_num, by go_num, HGN, HP3, HB⟩
                | none =>
                  have hr : s.round k1 = (s.done k1).2.take k1 := by unfold Pst.round; rw [hod]
                  rw [hr] at hgo
                  dsimp only [doneV_i] at he
                  subst he
                  have hus : (s.done k1).2.us.length = s.us.length := by unfold Pst.done; split <;> simp
                  generalize (s.done k1).2 = s2 at *
                  have hkn2 : k1 < s2.us.length := by rw [hus]; exact hkn
                  clear hr hod hkn hus
                  go_wp2_with fail
                  refine (Take_pi k1 (k1 : Int) v3 HP3.out rfl hkn2).mono ?_
                  rintro e v4 ⟨he, hp, hk⟩
                  replace HB := Lib.hid (HB.out.trans (hk.below.mono HB2.out))
                  have HP4 := Lib.hid hp
                  clear hp hk HP3 hkn2
                  obtain ⟨ot, hot⟩ : ∃ b, (s2.take k1).1 = b := ⟨_, rfl⟩
                  rw [hot] at he hgo
                  clear hot
                  subst he
                  cases ot
                  · have hgo' : Pst.Goes (s2.take k1).2 n m (i + 1) st := hgo
                    have HGN := Lib.hid hgo'
                    clear hgo hgo' hpot
                    go_wp2
                    go_roundg (gk - 1)
                    case measure => have := HI.out; omega
                    case rel => exact ⟨_, i + 1, st, by have := HI.out; omega, by go_num, rfl, HGN, HP4, HB⟩
                  · have hgo' : Pst.Goes (s2.take k1).2 n m (i + 1) (st + 1) := hgo
                    have HGN := Lib.hid hgo'
                    clear hgo hgo' hpot
                    go_wp2
                    go_roundg (gk - 1)
                    case measure => have := HI.out; omega
                    case rel => exact ⟨_, i + 1, st + 1, by have := HI.out; omega, by go_num, by go_num, HGN, HP4, HB⟩
            · have HK_ := Lib.hid hkn0
              have hid5 := Lib.hid (show 500 ≤ i → kk = i % n from fun h => HKK.out.symm)
              clear hkn0
              by_cases hin1 : i < L
              · have e1 : (i : Int) < (L : Int) := by omega
                have e2 : ¬ (i : Int) < 500 := by omega
                clear hin
                go_wp2_with fail
                have hkn : kk < s.us.length := by rw [HGO.out.len]; exact HK_.out
                have hgo := HGO.out.step hn0 hn4 hpot HK_.out (hid5.out)
                obtain ⟨od, hod⟩ : ∃ o, (s.done kk).1 = o := ⟨_, rfl⟩
                refine (Done_pi kk (kk : Int) wr HP.out rfl hkn).mono ?_
                rintro e v3 ⟨he, hp, hk⟩
                rw [hod] at he
                replace HB := Lib.hid (HB.out.trans (hk.below.mono HB2.out))
                have HP3 := Lib.hid hp
                clear hp hk HP
                cases od with
                | some j =>
                  have hr : s.round kk = (true, (s.done kk).2) := by unfold Pst.round; rw [hod]
                  rw [hr] at hgo
                  have hgo' : Pst.Goes (s.done kk).2 n m (i + 1) (st + 1) := hgo
                  have HGN := Lib.hid hgo'
                  dsimp only [doneV_i] at he
                  subst he
                  clear hgo hgo' hr hod hkn hpot
                  go_wp2
                  go_roundg (gk - 1)
                  case measure => have := HI.out; omega
                  case rel => exact ⟨_, i + 1, st + 1, by have := HI.out; omega, by go_num, by go_num, HGN, HP3, HB⟩
                | none =>
                  have hr : s.round kk = (s.done kk).2.take kk := by unfold Pst.round; rw [hod]
                  rw [hr] at hgo
                  dsimp only [doneV_i] at he
                  subst he
                  have hus : (s.done kk).2.us.length = s.us.length := by unfold Pst.done; split <;> simp
                  generalize (s.done kk).2 = s2 at *
                  have hkn2 : kk < s2.us.length := by rw [hus]; exact hkn
                  clear hr hod hkn hus
                  go_wp2_with fail
                  refine (Take_pi kk (kk : Int) v3 HP3.out rfl hkn2).mono ?_
                  rintro e v4 ⟨he, hp, hk⟩
                  replace HB := Lib.hid (HB.out.trans (hk.below.mono HB2.out))
                  have HP4 := Lib.hid hp
                  clear hp hk HP3 hkn2
                  obtain ⟨ot, hot⟩ : ∃ b, (s2.take kk).1 = b := ⟨_, rfl⟩
                  rw [hot] at he hgo
                  clear hot
                  subst he
                  cases ot
                  · have hgo' : Pst.Goes (s2.take kk).2 n m (i + 1) st := hgo
                    have HGN := Lib.hid hgo'
                    clear hgo hgo' hpot
                    go_wp2
                    go_roundg (gk - 1)
                    case measure => have := HI.out; omega
                    case rel => exact ⟨_, i + 1, st, by have := HI.out; omega, by go_num, rfl, HGN, HP4, HB⟩
                  · have hgo' : Pst.Goes (s2.take kk).2 n m (i + 1) (st + 1) := hgo
                    have HGN := Lib.hid hgo'
                    clear hgo hgo' hpot
                    go_wp2
                    go_roundg (gk - 1)
                    case measure => have := HI.out; omega
                    case rel => exact ⟨_, i + 1, st + 1, by have := HI.out; omega, by go_num, by go_num, HGN, HP4, HB⟩
              · have e1 : ¬ (i : Int) < (L : Int) := by omega
                clear hin
                go_wp2_with fail
                have hkn : kk < s.us.length := by rw [HGO.out.len]; exact HK_.out
                have hgo := HGO.out.step hn0 hn4 hpot HK_.out (hid5.out)
                obtain ⟨od, hod⟩ : ∃ o, (s.done kk).1 = o := ⟨_, rfl⟩
                refine (Done_pi kk (kk : Int) wr HP.out rfl hkn).mono ?_
                rintro e v3 ⟨he, hp, hk⟩
                rw [hod] at he
                replace HB := Lib.hid (HB.out.trans (hk.below.mono HB2.out))
                have HP3 := Lib.hid hp
                clear hp hk HP
                cases od with
                | some j =>
                  have hr : s.round kk = (true, (s.done kk).2) := by unfold Pst.round; rw [hod]
                  rw [hr] at hgo
                  have hgo' : Pst.Goes (s.done kk).2 n m (i + 1) (st + 1) := hgo
                  have HGN := Lib.hid hgo'
                  dsimp only [doneV_i] at he
                  subst he
                  clear hgo hgo' hr hod hkn hpot
                  go_wp2
                  go_roundg (gk - 1)
                  case measure => have := HI.out; omega
                  case rel => exact ⟨_, i + 1, st + 1, by have := HI.out; omega, by go_num, by go_num, HGN, HP3, HB⟩
                | none =>
                  have hr : s.round kk = (s.done kk).2.take kk := by unfold Pst.round; rw [hod]
                  rw [hr] at hgo
                  dsimp only [doneV_i] at he
                  subst he
                  have hus : (s.done kk).2.us.length = s.us.length := by unfold Pst.done; split <;> simp
                  generalize (s.done kk).2 = s2 at *
                  have hkn2 : kk < s2.us.length := by rw [hus]; exact hkn
                  clear hr hod hkn hus
                  go_wp2_with fail
                  refine (Take_pi kk (kk : Int) v3 HP3.out rfl hkn2).mono ?_
                  rintro e v4 ⟨he, hp, hk⟩
                  replace HB := Lib.hid (HB.out.trans (hk.below.mono HB2.out))
                  have HP4 := Lib.hid hp
                  clear hp hk HP3 hkn2
                  obtain ⟨ot, hot⟩ : ∃ b, (s2.take kk).1 = b := ⟨_, rfl⟩
                  rw [hot] at he hgo
                  clear hot
                  subst he
                  cases ot
                  · have hgo' : Pst.Goes (s2.take kk).2 n m (i + 1) st := hgo
                    have HGN := Lib.hid hgo'
                    clear hgo hgo' hpot
                    go_wp2
                    go_roundg (gk - 1)
                    case measure => have := HI.out; omega
                    case rel => exact ⟨_, i + 1, st, by have := HI.out; omega, by go_num, rfl, HGN, HP4, HB⟩
                  · have hgo' : Pst.Goes (s2.take kk).2 n m (i + 1) (st + 1) := hgo
                    have HGN := Lib.hid hgo'
                    clear hgo hgo' hpot
                    go_wp2
                    go_roundg (gk - 1)
                    case measure => have := HI.out; omega
                    case rel => exact ⟨_, i + 1, st + 1, by have := HI.out; omega, by go_num, by go_num, HGN, HP4, HB⟩
        · have d0 : ¬ (i : Int) < 2000 := by omega
          have hz : s.pot = 0 := HGO.out.end hn0 hn4 (by omega) (by omega)
          have d1 : (ql : Int) + (mn : Int) = 0 := by have := HPQ.out; omega
          have hs2 : st = 2 * m := by have := HGO.out.sum; omega
          subst hs2
          have q0 : ql = 0 := by omega
          have q1 : mn = 0 := by omega
          subst q0 q1
          clear hi hz d1 HPQ HGO hlt
          go_wp2_with fail
          refine (Waits_pi wr HP.out).mono ?_
          rintro e v_ ⟨rfl, rfl⟩
          rw [HQL.out]
          go_wp2_with fail
          refine (Under_pi wr HP.out).mono ?_
          rintro e v_ ⟨rfl, rfl⟩
          rw [HMN.out]
          go_wp2_with fail
          refine (awake28_any wr HP.out.ml).mono ?_
          rintro e v_ ⟨rfl, hb⟩
          replace HB := Lib.hid (HB.out.trans (hb.mono HB.out.size))
          clear hb HP
          go_wp2
          go_ret
          exact ⟨rfl, HB.out⟩
end Go.Proofs.YtfploakafbnigaaGreatDoor
