/-
  Layer 9 (number), the walks: the document's answer: colophonref09.Check.
-/
import Derived.Test.YthndgekjccclnaaGreatDoorNumRef
import Derived.WalkKit
import Derived.WalkSpells
import Derived.WalkLawsBesides
import Derived.BigQuiet
import Derived.Deep.QuietTactic
import Derived.Deep.DeepCutAuto
import Derived.Lib.Hide
namespace Go.Proofs.YthndgekjccclnaaGreatDoor
open Go.RowKit Num
set_option linter.unusedVariables false
set_option linter.unusedSimpArgs false

theorem digErr_of (l : List UInt8) (i : Nat) (h : i ≤ l.length) : digErr l i = if digAt l i then 0 else if l.length ≤ i then 3 else 90 := by
  have e := digAt_run l i 0 (Nat.zero_le _)
  rw [Nat.add_zero] at e
  rw [e]
  unfold digErr
  by_cases h1 : 0 < run (l.drop i)
  · simp [h1]
  · simp only [h1, if_false, decide_false, Bool.false_eq_true]
    by_cases h2 : i = l.length
    · rw [if_pos h2, if_pos (by omega)]
    · rw [if_neg h2, if_neg (by omega)]
theorem sign_two (l : List UInt8) (i : Nat) (x : UInt8) : hasAt l i [x, x] = hasAt l i [x] := by
  unfold hasAt
  cases l[i]? with
  | none => rfl
  | some c => simp

/-- what is wrong where more must come -/
def shE (n i : Nat) : Int := if n ≤ i then 3 else 90
def fin (p : Nat × Int) : Nat × Int := if p.2 = 0 then (p.1, 0) else (0, p.2)
theorem fin_ok (p : Nat) : fin (p, 0) = (p, 0) := rfl
theorem fin_bad (p : Nat) (e : Int) (h : e ≠ 0) : fin (p, e) = (0, e) := by unfold fin; rw [if_neg h]
theorem digErr_no {l : List UInt8} {i : Nat} (h : i ≤ l.length) (hd : digAt l i = false) : digErr l i = shE l.length i := by rw [digErr_of l i h, hd]; rfl
theorem digErr_yes {l : List UInt8} {i : Nat} (h : i ≤ l.length) (hd : digAt l i = true) : digErr l i = 0 := by rw [digErr_of l i h, hd]; rfl
theorem short_ne (n i : Nat) : shE n i ≠ 0 := by unfold shE; split <;> decide
theorem hasAt_nought {l : List UInt8} {i : Nat} (h : digAt l i = false) : hasAt l i [48] = false := by
  unfold hasAt; unfold digAt at h
  cases e : l[i]? with
  | none => rfl
  | some c =>
    rw [e] at h
    cases hc : [48].contains c
    · exact hc
    · have : c = 48 := by simpa using hc
      subst this; cases h
theorem numT_no {l : List UInt8} {j : Nat} (h : j ≤ l.length) (hd : digAt l j = false) : fin (numT l j) = (0, shE l.length j) := by
  unfold numT
  rw [hasAt_nought hd, digErr_no h hd]
  simp only [Bool.false_eq_true, if_false, short_ne]
  exact fin_bad _ _ (short_ne _ _)
def headTo (l : List UInt8) (j : Nat) : Nat := if hasAt l j [48] then j + 1 else digTo l j
theorem numT_yes {l : List UInt8} {j : Nat} (h : j ≤ l.length) (hd : digAt l j = true) : numT l j = frac l (headTo l j) := by
  unfold numT headTo
  rw [digErr_yes h hd]
  cases hasAt l j [48] <;> simp
theorem digAt_lt {l : List UInt8} {i : Nat} (h : digAt l i = true) : i < l.length := by
  by_cases k : i < l.length
  · exact k
  · rw [digAt_ge k] at h; cases h
theorem headTo_le {l : List UInt8} {j : Nat} (hd : digAt l j = true) : headTo l j ≤ l.length := by
  have h := digAt_lt hd
  unfold headTo; split
  · omega
  · exact digTo_le l j (by omega)
def fracTo (l : List UInt8) (k : Nat) (v : Bool) : Nat := if v then digTo l (k + 1) else k
def Ok (l : List UInt8) (k : Nat) (v : Bool) : Prop := v = true → digAt l k = true
theorem frac_ok {l : List UInt8} {k : Nat} {v : Bool} (hv : hasAt l k [46, 46] = v) (h : Ok l (k + 1) v) (hk : k ≤ l.length) : frac l k = expo l (fracTo l k v) := by
  unfold frac fracTo
  rw [← sign_two, hv]
  cases v
  · rfl
  · have := hasAt_lt hv
    simp only [if_true]
    rw [digErr_yes (by omega) (h rfl), if_pos rfl]
theorem frac_bad {l : List UInt8} {k : Nat} (hv : hasAt l k [46, 46] = true) (h : digAt l (k + 1) = false) : fin (frac l k) = (0, shE l.length (k + 1)) := by
  unfold frac
  have := hasAt_lt hv
  rw [← sign_two, hv, if_pos rfl, digErr_no (by omega) h, if_neg (short_ne _ _)]
  exact fin_bad _ _ (short_ne _ _)
theorem fracTo_le {l : List UInt8} {k : Nat} {v : Bool} (hv : hasAt l k [46, 46] = v) (hk : k ≤ l.length) : fracTo l k v ≤ l.length := by
  unfold fracTo
  cases v
  · exact hk
  · have := hasAt_lt hv
    exact digTo_le l _ (by omega)
def expTo (l : List UInt8) (m : Nat) (v : Bool) : Nat := if v then digTo l (skipTo l (m + 1) [43, 45]) else m
theorem expo_ok {l : List UInt8} {m : Nat} {v : Bool} (hv : hasAt l m [101, 69] = v) (h : Ok l (skipTo l (m + 1) [43, 45]) v) : fin (expo l m) = (expTo l m v, 0) := by
  unfold expo expTo
  rw [hv]
  cases v
  · rfl
  · have := hasAt_lt hv
    simp only [if_true]
    rw [digErr_yes (skipTo_le l _ _ (by omega)) (h rfl)]
    rfl
theorem expo_bad {l : List UInt8} {m : Nat} (hv : hasAt l m [101, 69] = true) (h : digAt l (skipTo l (m + 1) [43, 45]) = false) : fin (expo l m) = (0, shE l.length (skipTo l (m + 1) [43, 45])) := by
  unfold expo
  have := hasAt_lt hv
  rw [hv, if_pos rfl, digErr_no (skipTo_le l _ _ (by omega)) h]
  exact fin_bad _ _ (short_ne _ _)

set_option maxRecDepth 100000 in
set_option maxHeartbeats 4000000 in
theorem refCheck_in (c B i : Nat) (A : Option Addr) (l : List UInt8) (w : World) (hr : RB w B A l) (hi : i ≤ l.length) (hn : l.length ≤ 9223372036854775800) :
    Calls Tryz.prog 59 #[.slice A l.length c, .int .i64 i] w fun e w' => e = .returned (.tuple #[.int .i64 (checkN l i).1, .int .i64 (checkN l i).2]) ∧ w = w' := by
  have HSm : Hid (∀ (v : Bool) (p : Nat), p ≤ l.length + 1 → hasAt l p [45, 45] = v → Calls Tryz.prog 98 #[.slice A l.length c, .int .i64 p, .int .u8 45, .int .u8 45] w fun e w' => e = .returned (.bool v) ∧ w = w') :=
    Lib.hid fun v p hp hv => by subst hv; exact ref_sign A c B p 45 45 l w hr (by omega) (by omega)
  have HSd : Hid (∀ (v : Bool) (p : Nat), p ≤ l.length + 1 → hasAt l p [46, 46] = v → Calls Tryz.prog 98 #[.slice A l.length c, .int .i64 p, .int .u8 46, .int .u8 46] w fun e w' => e = .returned (.bool v) ∧ w = w') :=
    Lib.hid fun v p hp hv => by subst hv; exact ref_sign A c B p 46 46 l w hr (by omega) (by omega)
  have HSe : Hid (∀ (v : Bool) (p : Nat), p ≤ l.length + 1 → hasAt l p [101, 69] = v → Calls Tryz.prog 98 #[.slice A l.length c, .int .i64 p, .int .u8 101, .int .u8 69] w fun e w' => e = .returned (.bool v) ∧ w = w') :=
    Lib.hid fun v p hp hv => by subst hv; exact ref_sign A c B p 101 69 l w hr (by omega) (by omega)
  have HSs : Hid (∀ (v : Bool) (p : Nat), p ≤ l.length + 1 → hasAt l p [43, 45] = v → Calls Tryz.prog 98 #[.slice A l.length c, .int .i64 p, .int .u8 43, .int .u8 45] w fun e w' => e = .returned (.bool v) ∧ w = w') :=
    Lib.hid fun v p hp hv => by subst hv; exact ref_sign A c B p 43 45 l w hr (by omega) (by omega)
  have HD : Hid (∀ (v : Bool) (p : Nat), p ≤ l.length + 1 → digAt l p = v → Calls Tryz.prog 99 #[.slice A l.length c, .int .i64 p] w fun e w' => e = .returned (.bool v) ∧ w = w') :=
    Lib.hid fun v p hp hv => by subst hv; exact ref_digit A c B p l w hr (by omega) (by omega)
  have HR : Hid (∀ (p : Nat), p ≤ l.length → Calls Tryz.prog 101 #[.slice A l.length c, .int .i64 p] w fun e w' => e = .returned (.int .i64 (digTo l p)) ∧ w = w') :=
    Lib.hid fun p hp => ref_run A c B p l w hr hn hp
  have HT : Hid (∀ (p : Nat), Calls Tryz.prog 100 #[.slice A l.length c, .int .i64 p] w fun e w' => e = .returned (.int .i64 (shE l.length p)) ∧ w = w') :=
    Lib.hid fun p => ref_short A c p l.length w
  have HB := Lib.hid hr
  have hj := skipTo_le l i [45] hi
  have HE : Hid (checkN l i = fin (numT l (skipTo l i [45]))) := Lib.hid rfl
  have HJ : Hid (skipTo l i [45] = if hasAt l i [45, 45] then i + 1 else i) := Lib.hid (by rw [sign_two]; rfl)
  clear hr
  generalize skipTo l i [45] = j at *
  generalize checkN l i = K at *
  have hi9 : (i : Int) ≤ 9223372036854775800 := by omega
  have hd2 : decide (l.length < i) = false := by simp; omega
  have hd3 : decide ((l.length : Int) < (i : Int)) = false := by simp; omega
  obtain ⟨v0, hv0⟩ : ∃ v0, hasAt l i [45, 45] = v0 := ⟨_, rfl⟩
  have HV0 := Lib.hid hv0
  clear hv0
  go_enter Tryz.func59, Tryz.ntmps59
  go_upto_if 18 with ((go_at_call 98; (with_reducible refine (HSm.out v0 i (by omega) HV0.out).mono ?_); rintro e w' ⟨rfl, rfl⟩))
  go_cut [6] (fun s6 wx => s6 = .int .i64 j ∧ wx = w)
  case first =>
    cases v0
    · have hji : j = i := by rw [HJ.out, HV0.out]; rfl
      have HY := Lib.hid hji
      clear hji
      go_wp2
      all_goals go_meet
      all_goals exact ⟨by rw [HY.out], rfl⟩
    · have hji : j = i + 1 := by rw [HJ.out, HV0.out]; rfl
      have HY := Lib.hid hji
      clear hji
      go_wp2
      all_goals go_meet
      all_goals exact ⟨by rw [HY.out]; go_num, rfl⟩
  case rest =>
    obtain ⟨rfl, rfl⟩ := hcut
    have hj9 : (j : Int) ≤ 9223372036854775801 := by omega
    obtain ⟨v1, hv1⟩ : ∃ v1, digAt l j = v1 := ⟨_, rfl⟩
    cases v1
    · have hK : K = (0, shE l.length j) := by rw [HE.out, numT_no hj hv1]
      subst hK
      have HV := Lib.hid hv1
      clear hv1
      go_wp2_with (first | (go_at_call 99; (with_reducible refine (HD.out false j (by omega) HV.out).mono ?_); rintro e w' ⟨rfl, rfl⟩) | (go_at_call 100; (with_reducible refine (HT.out j).mono ?_); rintro e w' ⟨rfl, rfl⟩))
      go_ret2
      exact ⟨rfl, rfl⟩
    · have hk : headTo l j ≤ l.length := headTo_le hv1
      have HF : Hid (K = fin (frac l (headTo l j))) := Lib.hid (by rw [HE.out, numT_yes hj hv1])
      have hlt := digAt_lt hv1
      rcases HB.out with h0 | ⟨b, off, rfl, -, hc⟩
      · subst h0; simp at hlt
      have hcell := hc j hlt
      have HH : Hid (headTo l j = if l[j].toNat = 48 then j + 1 else digTo l j) := by
        refine Lib.hid ?_
        unfold headTo hasAt
        rw [List.getElem?_eq_getElem hlt]
        by_cases e : l[j].toNat = 48
        · have e2 : l[j] = 48 := UInt8.toNat_inj.1 e
          rw [if_pos e, if_pos (by rw [e2]; rfl)]
        · have e2 : ¬ l[j] = 48 := fun k => e (by rw [k]; rfl)
          rw [if_neg e, if_neg (by simp [e2])]
      have HV := Lib.hid hv1
      clear hc hv1
      generalize l[j].toNat = x at *
      generalize headTo l j = k at *
      have hj0 : (0 : Int) ≤ j := by omega
      have hjl : (j : Int) < (l.length : Int) := by omega
      go_upto_if 32 with ((go_at_call 99; (with_reducible refine (HD.out true j (by omega) HV.out).mono ?_); rintro e w' ⟨rfl, rfl⟩))
      go_cut [6] (fun s6 wx => s6 = .int .i64 k ∧ wx = wc)
      case first =>
        by_cases hx : x = 48
        · have hx1 : ((x : Int) == 48) = true := by simp [hx]
          have HY := Lib.hid (show k = j + 1 by rw [HH.out, if_pos hx])
          clear hx
          go_wp2
          all_goals go_meet
          all_goals exact ⟨by rw [HY.out]; go_num, rfl⟩
        · have hx1 : ((x : Int) == 48) = false := by simp; omega
          have HY := Lib.hid (show k = digTo l j by rw [HH.out, if_neg hx])
          clear hx
          go_wp2_with (go_at_call 101; (with_reducible refine (HR.out j (by omega)).mono ?_); rintro e w' ⟨rfl, rfl⟩)
          all_goals go_meet
          all_goals exact ⟨by rw [HY.out], rfl⟩
      case rest =>
        obtain ⟨rfl, rfl⟩ := hcut
        obtain ⟨v2, hv2⟩ : ∃ v2, hasAt l k [46, 46] = v2 := ⟨_, rfl⟩
        have hm := fracTo_le hv2 hk
        have HM : Hid (fracTo l k v2 = if v2 then digTo l (k + 1) else k) := Lib.hid rfl
        have HV2 := Lib.hid hv2
        have hk9 : (k : Int) ≤ 9223372036854775801 := by omega
        clear hv2 hcell hlt hjl
        generalize fracTo l k v2 = m at *
        go_upto_if 40 with (go_at_call 98; (with_reducible refine (HSd.out v2 k (by omega) HV2.out).mono ?_); rintro e w' ⟨rfl, rfl⟩)
        go_cut [6] (fun s6 wx => s6 = .int .i64 m ∧ wx = wc ∧ Ok l (k + 1) v2)
        case first =>
          cases v2
          · have HY := Lib.hid (show m = k from HM.out)
            go_wp2
            all_goals go_meet
            all_goals exact ⟨by rw [HY.out], rfl, fun h => by cases h⟩
          · have HY := Lib.hid (show m = digTo l (k + 1) from HM.out)
            have hkl := hasAt_lt HV2.out
            obtain ⟨v3, hv3⟩ : ∃ v3, digAt l (k + 1) = v3 := ⟨_, rfl⟩
            have HD2 := Lib.hid (HD.out v3 (k + 1) (by omega) hv3)
            have HT2 := Lib.hid (HT.out (k + 1))
            have HR2 := Lib.hid (HR.out (k + 1) (by omega))
            have HV3 := Lib.hid hv3
            have eK : ((k + 1 : Nat) : Int) = (k : Int) + 1 := by omega
            rw [eK] at HD2 HT2 HR2
            clear hv3 hkl eK
            cases v3
            · have hK : K = (0, shE l.length (k + 1)) := by rw [HF.out, frac_bad HV2.out HV3.out]
              subst hK
              go_wp2_with (first | (go_at_call 99; (with_reducible refine (HD2.out).mono ?_); rintro e w' ⟨rfl, rfl⟩) | (go_at_call 100; (with_reducible refine (HT2.out).mono ?_); rintro e w' ⟨rfl, rfl⟩))
              go_ret2
              exact ⟨rfl, rfl⟩
            · go_wp2_with (first | (go_at_call 99; (with_reducible refine (HD2.out).mono ?_); rintro e w' ⟨rfl, rfl⟩) | (go_at_call 101; (with_reducible refine (HR2.out).mono ?_); rintro e w' ⟨rfl, rfl⟩))
              all_goals go_meet
              all_goals exact ⟨by rw [HY.out], rfl, fun _ => HV3.out⟩
        case rest =>
          obtain ⟨rfl, rfl, hok⟩ := hcut
          have HF2 : Hid (K = fin (expo l (fracTo l k v2))) := Lib.hid (by rw [HF.out, frac_ok HV2.out hok hk])
          have e : fracTo l k v2 = m := HM.out.symm
          rw [e] at HF2
          clear e
          obtain ⟨v4, hv4⟩ : ∃ v4, hasAt l m [101, 69] = v4 := ⟨_, rfl⟩
          have HV4 := Lib.hid hv4
          clear hv4 hok
          cases v4
          · have hK : K = (m, 0) := by rw [HF2.out, expo_ok HV4.out (fun h => by cases h)]; rfl
            subst hK
            go_wp2_with (go_at_call 98; (with_reducible refine (HSe.out false m (by omega) HV4.out).mono ?_); rintro e w' ⟨rfl, rfl⟩)
            go_ret2
            exact ⟨rfl, rfl⟩
          · have hml := hasAt_lt HV4.out
            have hq := skipTo_le l (m + 1) [43, 45] (by omega)
            obtain ⟨v5, hv5⟩ : ∃ v5, hasAt l (m + 1) [43, 45] = v5 := ⟨_, rfl⟩
            have HS5 := Lib.hid (HSs.out v5 (m + 1) (by omega) hv5)
            have eM : ((m + 1 : Nat) : Int) = (m : Int) + 1 := by omega
            rw [eM] at HS5
            have HQ : Hid (skipTo l (m + 1) [43, 45] = if v5 then m + 1 + 1 else m + 1) := Lib.hid (by unfold skipTo; rw [hv5])
            have HB1 := Lib.hid (fun h => expo_bad (l := l) HV4.out h)
            have HB2 := Lib.hid (fun h => expo_ok (l := l) HV4.out h)
            have HB3 : Hid (expTo l m true = digTo l (skipTo l (m + 1) [43, 45])) := Lib.hid rfl
            clear hv5 eM
            generalize skipTo l (m + 1) [43, 45] = q at *
            obtain ⟨v6, hv6⟩ : ∃ v6, digAt l q = v6 := ⟨_, rfl⟩
            have HD6 := Lib.hid (HD.out v6 q (by omega) hv6)
            have HV6 := Lib.hid hv6
            have HT6 := Lib.hid (HT.out q)
            have HR6 := Lib.hid (HR.out q hq)
            have hm9 : (m : Int) ≤ 9223372036854775800 := by omega
            clear hv6 hq hml
            cases v6
            · have hK : K = (0, shE l.length q) := by rw [HF2.out, HB1.out HV6.out]
              subst hK
              cases v5
              · obtain rfl : q = m + 1 := HQ.out
                rw [show ((m + 1 : Nat) : Int) = (m : Int) + 1 by omega] at HD6 HT6
                go_wp2_with (first | (go_at_call 98; (with_reducible refine (HSe.out true m (by omega) HV4.out).mono ?_); rintro e w' ⟨rfl, rfl⟩) | (go_at_call 98; (with_reducible refine (HS5.out).mono ?_); rintro e w' ⟨rfl, rfl⟩) | (go_at_call 99; (with_reducible refine (HD6.out).mono ?_); rintro e w' ⟨rfl, rfl⟩) | (go_at_call 100; (with_reducible refine (HT6.out).mono ?_); rintro e w' ⟨rfl, rfl⟩))
                go_ret2
                exact ⟨rfl, rfl⟩
              · obtain rfl : q = m + 1 + 1 := HQ.out
                rw [show ((m + 1 + 1 : Nat) : Int) = (m : Int) + 1 + 1 by omega] at HD6 HT6
                go_wp2_with (first | (go_at_call 98; (with_reducible refine (HSe.out true m (by omega) HV4.out).mono ?_); rintro e w' ⟨rfl, rfl⟩) | (go_at_call 98; (with_reducible refine (HS5.out).mono ?_); rintro e w' ⟨rfl, rfl⟩) | (go_at_call 99; (with_reducible refine (HD6.out).mono ?_); rintro e w' ⟨rfl, rfl⟩) | (go_at_call 100; (with_reducible refine (HT6.out).mono ?_); rintro e w' ⟨rfl, rfl⟩))
                go_ret2
                exact ⟨rfl, rfl⟩
            · have hK : K = (digTo l q, 0) := by rw [HF2.out, HB2.out (fun _ => HV6.out), HB3.out]
              subst hK
              cases v5
              · obtain rfl : q = m + 1 := HQ.out
                rw [show ((m + 1 : Nat) : Int) = (m : Int) + 1 by omega] at HD6 HR6
                go_wp2_with (first | (go_at_call 98; (with_reducible refine (HSe.out true m (by omega) HV4.out).mono ?_); rintro e w' ⟨rfl, rfl⟩) | (go_at_call 98; (with_reducible refine (HS5.out).mono ?_); rintro e w' ⟨rfl, rfl⟩) | (go_at_call 99; (with_reducible refine (HD6.out).mono ?_); rintro e w' ⟨rfl, rfl⟩) | (go_at_call 101; (with_reducible refine (HR6.out).mono ?_); rintro e w' ⟨rfl, rfl⟩))
                go_ret2
                exact ⟨rfl, rfl⟩
              · obtain rfl : q = m + 1 + 1 := HQ.out
                rw [show ((m + 1 + 1 : Nat) : Int) = (m : Int) + 1 + 1 by omega] at HD6 HR6
                go_wp2_with (first | (go_at_call 98; (with_reducible refine (HSe.out true m (by omega) HV4.out).mono ?_); rintro e w' ⟨rfl, rfl⟩) | (go_at_call 98; (with_reducible refine (HS5.out).mono ?_); rintro e w' ⟨rfl, rfl⟩) | (go_at_call 99; (with_reducible refine (HD6.out).mono ?_); rintro e w' ⟨rfl, rfl⟩) | (go_at_call 101; (with_reducible refine (HR6.out).mono ?_); rintro e w' ⟨rfl, rfl⟩))
                go_ret2
                exact ⟨rfl, rfl⟩

/-- colophonref09.Check. -/
theorem refCheck_any (c B : Nat) (A : Option Addr) (l : List UInt8) (at' : Int) (w : World) (hr : RB w B A l) (hn : l.length ≤ 9223372036854775800) :
    Calls Tryz.prog 59 #[.slice A l.length c, .int .i64 at'] w fun e w' => e = .returned (.tuple #[.int .i64 (check l at').1, .int .i64 (check l at').2]) ∧ w = w' := by
  by_cases h0 : at' < 0
  · have hck : check l at' = (0, 9) := by unfold check; rw [if_pos (.inl h0)]
    rw [hck]
    clear hck hr
    go_enter Tryz.func59, Tryz.ntmps59
    go_wp2
    go_ret2
    exact ⟨rfl, rfl⟩
  · obtain ⟨i, rfl⟩ := Int.eq_ofNat_of_zero_le (show 0 ≤ at' from by omega)
    by_cases h1 : (l.length : Int) < i
    · have hck : check l i = (0, 9) := by unfold check; rw [if_pos (.inr h1)]
      rw [hck]
      clear hck hr
      have hd : decide (l.length < i) = true := by simp; omega
      go_enter Tryz.func59, Tryz.ntmps59
      go_wp2
      go_ret2
      exact ⟨rfl, rfl⟩
    · have hck : check l i = checkN l i := by unfold check; rw [if_neg (by omega)]; rfl
      rw [hck]
      exact refCheck_in c B i A l w hr (by omega) hn
end Go.Proofs.YthndgekjccclnaaGreatDoor
