/-
  Layer 10, the walks: the program's Equal, at every two trees of values.
-/
import Derived.Test.YtfploakafbnigaaGreatDoorCRpcVal
import Derived.Test.YtfploakafbnigaaGreatDoorCPkValB
namespace Go.Proofs.YtfploakafbnigaaGreatDoor
open Go.RowKit Val
set_option linter.unusedVariables false
set_option linter.unusedSimpArgs false
set_option maxHeartbeats 1000000 in
/-- slices.Equal at rows of texts. -/
theorem EqS_any (A A' : Option Addr) (c c' : Nat) (S S' : Nat → Prop) (l r : List ByteArray) (w : World) (hl : TS w S A l) (hr : TS w S' A' r) (hn : l.length ≤ 140737488355328) (hn' : r.length ≤ 140737488355328) :
    Calls Tryz.prog 215 #[.slice A l.length c, .slice A' r.length c'] w fun e w' => e = .returned (.bool (eqT l r)) ∧ ∃ n, w' = w.drewN n := by
  by_cases hlen : l.length = r.length
  · have hq : ((l.length : Int) != (r.length : Int)) = false := by rw [hlen]; simp
    have hq2 : (l.length != r.length) = false := by rw [hlen]; simp
    have HLN := Lib.hid hlen
    have HL := Lib.hid hl
    have HR := Lib.hid hr
    have hle : l.length ≤ r.length := by omega
    clear hl hr hlen
    go_enter Tryz.func215, Tryz.ntmps215
    go_wp2
    go_loopg [13] l.length (fun k v wr => ∃ p : Nat, p + k = l.length ∧ v = .int .i64 p ∧ (∃ n, wr = w.drewN n) ∧ l.take p = r.take p)
    case atStart => exact ⟨0, by omega, rfl, ⟨0, rfl⟩, rfl⟩
    case round =>
      obtain ⟨p, hk, rfl, ⟨n, rfl⟩, hp⟩ := hrel
      have HK := Lib.hid hk
      have HP := Lib.hid hp
      clear hk hp
      by_cases hlt : p < l.length
      · have hlt' : p < r.length := by omega
        have e1 : (p : Int) < (l.length : Int) := by omega
        have e2 : (p : Int) < (r.length : Int) := by omega
        have e0 : (0 : Int) ≤ p := by omega
        rcases HL.out with h | ⟨b, off, rfl, -, hc⟩
        · subst h; simp at hlt
        rcases HR.out with h | ⟨b', off', rfl, -, hc'⟩
        · subst h; simp at hlt'
        have k1 := hc p hlt
        have k2 := hc' p hlt'
        clear hc hc'
        by_cases hx : l[p] = r[p]
        · have HX := Lib.hid (show l.take (p + 1) = r.take (p + 1) by rw [take_snocT l p hlt, take_snocT r p hlt', HP.out, hx])
          rw [hx] at k1
          generalize r[p] = z at *
          clear hx
          go_wp2_with fail
          go_quiet (fail)
          go_wp2
          go_roundg (gk - 1)
          case measure => have := HK.out; omega
          case rel => exact ⟨p + 1, by have := HK.out; omega, by go_num, ⟨n + nq, by simp⟩, HX.out⟩
        · have he : eqT l r = false := by
            unfold eqT; rw [decide_eq_false_iff_not]; intro h; subst h; exact hx rfl
          have HE := Lib.hid he
          generalize l[p] = z at *
          generalize r[p] = y at *
          obtain ⟨hq1, hq2⟩ := str_ne hx
          clear hx he
          go_wp2_with fail
          go_quiet (fail)
          go_wp2
          go_ret
          exact ⟨ret_bool' HE.out.symm, n + nq, by simp⟩
      · have he : eqT l r = true := by
          have h1 := HP.out
          rw [List.take_of_length_le (by omega), List.take_of_length_le (by have := HLN.out; omega)] at h1
          unfold eqT; rw [h1]; simp
        have HE := Lib.hid he
        clear he
        have h1 : decide (p < l.length) = false := by simp; omega
        go_wp2
        go_ret
        exact ⟨ret_bool' HE.out.symm, n, rfl⟩
  · have hq : ((l.length : Int) != (r.length : Int)) = true := by rw [bne_iff_ne]; omega
    have hq2 : (l.length != r.length) = true := by rw [bne_iff_ne]; exact hlen
    have HE := Lib.hid (show eqT l r = false by unfold eqT; rw [decide_eq_false_iff_not]; intro h; exact hlen (by rw [h]))
    clear hl hr hlen
    go_enter Tryz.func215, Tryz.ntmps215
    go_wp2
    go_ret
    exact ⟨ret_bool' HE.out.symm, 0, rfl⟩
set_option maxRecDepth 100000 in
set_option maxHeartbeats 4000000 in
/-- slices.EqualFunc at rows of values, by Equal. -/
theorem EqF_any (A A' : Option Addr) (n n' cap cap' : Nat) (c c' : Nat → VT) (w : World) (S S' : Nat → Prop) (hV : VS w S A n c) (hV' : VS w S' A' n' c') (hS : ∀ b, S b → b < w.heap.size) (hS' : ∀ b, S' b → b < w.heap.size) (hn : n ≤ 1073741824) (hn' : n' ≤ 1073741824)
    (hp : ∀ j, j < n → j < n' → ∀ W v v', Below w.heap.size w W → VAL W S (c j) v → VAL W S' (c' j) v' → Calls Tryz.prog 187 #[v, v'] W fun e w' => e = .returned (.bool ((c j).eqv (c' j))) ∧ Below W.heap.size W w') :
    Calls Tryz.prog 216 #[.slice A n cap, .slice A' n' cap', .func (.func 187) #[] #[]] w fun e w' => e = .returned (.bool (decide (n = n') && VT.allTo (fun j => (c j).eqv (c' j)) n)) ∧ Below w.heap.size w w' := by
  by_cases q5 : ¬ n = n'
  · have e1 : ((n : Int) != (n' : Int)) = true := by rw [bne_iff_ne]; omega
    have e3 : (n != n') = true := by rw [bne_iff_ne]; exact q5
    have HR : Hid ((decide (n = n') && VT.allTo (fun j => (c j).eqv (c' j)) n) = false) := Lib.hid (by rw [decide_eq_false q5]; rfl)
    clear q5 hV hV' hS hS' hp
    go_enter Tryz.func216, Tryz.ntmps216
    go_wp2
    go_ret
    exact ⟨ret_bool' HR.out.symm, Below.refl _ _⟩
  replace q5 := Classical.not_not.1 q5
  subst q5
  have HR := Lib.hid (show (decide (n = n) && VT.allTo (fun j => (c j).eqv (c' j)) n) = VT.allTo (fun j => (c j).eqv (c' j)) n by simp)
  have e1 : ((n : Int) != (n : Int)) = false := by simp
  have e3 : (n != n) = false := by simp
  have HP := Lib.hid hp
  have HS := Lib.hid hS
  have HV := Lib.hid hV
  have HS' := Lib.hid hS'
  have HV' := Lib.hid hV'
  clear hp hS hV hS' hV'
  go_enter Tryz.func216, Tryz.ntmps216
  go_wp2
  go_loopg [17] n (fun q v wr => ∃ p : Nat, p + q = n ∧ v = .int .i64 p ∧ Below w.heap.size w wr ∧ Aside (VT.allTo (fun j => (c j).eqv (c' j)) p = true))
  case atStart => exact ⟨0, by omega, rfl, Below.refl _ _, rfl⟩
  case round =>
    obtain ⟨p, hp, rfl, hB, hall⟩ := hrel
    have HI := Lib.hid hp
    have HB := Lib.hid hB
    have HA := Lib.hid hall.out
    clear hp hB hall
    by_cases hlt : p < n
    · have hd0 : decide ((p : Int) < (n : Int)) = true := by simp; omega
      have hd1 : decide (p < n) = true := by simp; omega
      have i1 : (0 : Int) ≤ p := by omega
      have i2 : (p : Int) < n := by omega
      rcases HV.out.on HS.out HB.out with h0 | ⟨b, off, rfl, hbS, hc⟩
      · omega
      rcases HV'.out.on HS'.out HB.out with h0 | ⟨b', off', rfl, hbS', hc'⟩
      · omega
      obtain ⟨e0, e1, e2, e3, e4, ⟨k0, k1, k2, k3, k4⟩, hr⟩ := hc p hlt
      obtain ⟨f0, f1, f2, f3, f4, ⟨d0, d1, d2, d3, d4⟩, hr'⟩ := hc' p hlt
      obtain ⟨vk, vi, vx, VA, vn, vc, VB, vm, vd, rfl, rfl, rfl, rfl, rfl⟩ := hr.shape5
      obtain ⟨uk, ui, ux, UA, un, uc, UB, um, ud, rfl, rfl, rfl, rfl, rfl⟩ := hr'.shape5
      have hI := fun W (hb : Below wr.heap.size wr W) => HP.out p hlt hlt W _ _ (HB.out.trans (hb.mono HB.out.size)) (hr.on (fun b hb => Nat.lt_of_lt_of_le (HS.out b hb) HB.out.size) hb) (hr'.on (fun b hb => Nat.lt_of_lt_of_le (HS'.out b hb) HB.out.size) hb)
      have hb1 := (made_end' wr (.cells #[.int .i64 vk, .bool vi, .string vx, .slice VA vn vc, .slice VB vm vd] 25))
      have z0 := (hb1.cell (p := ⟨b', off' + p * 5, none⟩) (Nat.lt_of_lt_of_le (HS'.out b' hbS') HB.out.size)).trans d0
      have z1 := (hb1.cell (p := ⟨b', off' + p * 5 + 1, none⟩) (Nat.lt_of_lt_of_le (HS'.out b' hbS') HB.out.size)).trans d1
      have z2 := (hb1.cell (p := ⟨b', off' + p * 5 + 2, none⟩) (Nat.lt_of_lt_of_le (HS'.out b' hbS') HB.out.size)).trans d2
      have z3 := (hb1.cell (p := ⟨b', off' + p * 5 + 3, none⟩) (Nat.lt_of_lt_of_le (HS'.out b' hbS') HB.out.size)).trans d3
      have z4 := (hb1.cell (p := ⟨b', off' + p * 5 + 4, none⟩) (Nat.lt_of_lt_of_le (HS'.out b' hbS') HB.out.size)).trans d4
      clear hc hr hc' hr' d0 d1 d2 d3 d4 hb1
      have HL := Lib.hid hlt
      cases hq : (c p).eqv (c' p) with
      | false =>
        rw [hq] at hI
        have H1 := Lib.hid hI
        have HF : Hid (VT.allTo (fun j => (c j).eqv (c' j)) n = false) := Lib.hid (VT.allTo_false _ n p HL.out hq)
        clear hI hq hlt
        go_wp2_with fail
        refine (H1.out _ (al2_below _ _ _)).mono ?_
        rintro e w2 ⟨rfl, hb⟩
        have HB2 := Lib.hid (HB.out.trans ((al2_below wr _ _).trans (hb.mono (al2_below wr _ _).size) |>.mono HB.out.size))
        clear hb k0 k1 k2 k3 k4 z0 z1 z2 z3 z4 H1
        go_wp2
        go_ret
        exact ⟨ret_bool' (by rw [HR.out, HF.out]), HB2.out⟩
      | true =>
        rw [hq] at hI
        have H1 := Lib.hid hI
        have HF : Hid (VT.allTo (fun j => (c j).eqv (c' j)) (p + 1) = true) := Lib.hid (by unfold VT.allTo; rw [HA.out, hq]; rfl)
        clear hI hq hlt
        go_wp2_with fail
        refine (H1.out _ (al2_below _ _ _)).mono ?_
        rintro e w2 ⟨rfl, hb⟩
        have HB2 := Lib.hid (HB.out.trans ((al2_below wr _ _).trans (hb.mono (al2_below wr _ _).size) |>.mono HB.out.size))
        clear hb k0 k1 k2 k3 k4 z0 z1 z2 z3 z4 H1
        go_wp2
        go_roundg (gk - 1)
        case measure => have := HI.out; omega
        case rel => exact ⟨p + 1, by have := HI.out; omega, by go_num, HB2.out, HF.out⟩
    · have hd1 : decide (p < n) = false := by simp; omega
      have hd2 : decide ((p : Int) < (n : Int)) = false := by simp; omega
      have HF : Hid (VT.allTo (fun j => (c j).eqv (c' j)) n = true) := Lib.hid (by have h := HA.out; rwa [show p = n by have := HI.out; omega] at h)
      go_wp2
      go_ret
      exact ⟨ret_bool' (by rw [HR.out, HF.out]), HB.out⟩
set_option maxRecDepth 100000 in
set_option maxHeartbeats 4000000 in
theorem pEqual_any (t : VT) : ∀ (u : VT) (w : World) (S S' : Nat → Prop) (v v' : Value), VAL w S t v → VAL w S' u v' → (∀ b, S b → b < w.heap.size) → (∀ b, S' b → b < w.heap.size) → t.bulk ≤ 1073741824 → u.bulk ≤ 1073741824 →
    Calls Tryz.prog 187 #[v, v'] w fun e w' => e = .returned (.bool (t.eqv u)) ∧ Below w.heap.size w w' := by
  induction t with
  | leaf => intro u w S S' v v' h; exact h.elim
  | mk k i x n c m ih =>
    intro u w S S' v v' h h' hS hS' hbk hbk'
    obtain ⟨k', i', x', n', c', m', rfl⟩ := h'.root
    obtain ⟨A, cap, A1, cap1, rfl, hk, hT, hV⟩ := h.open
    obtain ⟨A', cap', A1', cap1', rfl, hk', hT', hV'⟩ := h'.open
    obtain ⟨hn, -, hm, -⟩ := VT.bulk_n k i x n c m
    obtain ⟨hn1, -, hm1, -⟩ := VT.bulk_n k' i' x' n' c' m'
    have hn2 : n ≤ 1073741824 := by omega
    have hm2 : m.length ≤ 1073741824 := by omega
    have hn3 : n' ≤ 1073741824 := by omega
    have hm3 : m'.length ≤ 1073741824 := by omega
    have HE := Lib.hid (eqv_mk k i x n c m k' i' x' n' c' m')
    generalize (VT.mk k i x n c m).eqv (.mk k' i' x' n' c' m') = R at *
    have HF := Lib.hid (fun (W : World) (hb : Below w.heap.size w W) => EqF_any A A' n n' cap cap' c c' W S S' (hV.on hS hb) (hV'.on hS' hb) (fun b hb' => Nat.lt_of_lt_of_le (hS b hb') hb.size) (fun b hb' => Nat.lt_of_lt_of_le (hS' b hb') hb.size) hn2 hn3
      (fun j hj hj' W2 v v' hb2 hv hv' => ih j (c' j) W2 S S' v v' hv hv' (fun b hb' => Nat.lt_of_lt_of_le (hS b hb') (Nat.le_trans hb.size hb2.size)) (fun b hb' => Nat.lt_of_lt_of_le (hS' b hb') (Nat.le_trans hb.size hb2.size))
        (by have := VT.bulk_kid k i x n c m j hj; omega) (by have := VT.bulk_kid k' i' x' n' c' m' j hj'; omega)))
    have HT := Lib.hid hT
    have HS := Lib.hid hS
    have HT' := Lib.hid hT'
    have HS' := Lib.hid hS'
    clear h h' hT hV hT' hV' hn hm hn1 hm1 hS hS' ih hbk hbk' hk hk'
    by_cases q1 : ¬ k = k'
    · have e1 : (k != k') = true := by rw [bne_iff_ne]; exact q1
      have e2 : (k == k') = false := by rw [beq_eq_false_iff_ne]; exact q1
      have HR : Hid (R = false) := Lib.hid (by rw [HE.out, decide_eq_false q1]; rfl)
      clear q1 HE
      go_enter Tryz.func187, Tryz.ntmps187
      go_wp2
      go_ret
      exact ⟨ret_bool' HR.out.symm, al2_below _ _ _⟩
    replace q1 := Classical.not_not.1 q1
    subst q1
    by_cases q2 : ¬ i = i'
    · have e1 : (i != i') = true := by rw [bne_iff_ne]; exact q2
      have e2 : (i == i') = false := by rw [beq_eq_false_iff_ne]; exact q2
      have HR : Hid (R = false) := Lib.hid (by rw [HE.out, decide_eq_false q2]; simp)
      clear q2 HE
      go_enter Tryz.func187, Tryz.ntmps187
      go_wp2
      go_ret
      exact ⟨ret_bool' HR.out.symm, al2_below _ _ _⟩
    replace q2 := Classical.not_not.1 q2
    subst q2
    by_cases q3 : ¬ x = x'
    · obtain ⟨e1, e2⟩ := str_ne q3
      have HR : Hid (R = false) := Lib.hid (by rw [HE.out, decide_eq_false q3]; simp)
      clear q3 HE
      go_enter Tryz.func187, Tryz.ntmps187
      go_wp2
      go_ret
      exact ⟨ret_bool' HR.out.symm, al2_below _ _ _⟩
    replace q3 := Classical.not_not.1 q3
    subst q3
    by_cases q4 : ¬ m = m'
    · have HR : Hid (R = false) := Lib.hid (by rw [HE.out, decide_eq_false q4]; simp)
      have HQ : Hid (eqT m m' = false) := Lib.hid (by unfold eqT; exact decide_eq_false q4)
      clear q4 HE
      go_enter Tryz.func187, Tryz.ntmps187
      go_wp2_with fail
      refine (EqS_any _ _ _ _ S S' m m' _ (HT.out.on HS.out (al2_below _ _ _)) (HT'.out.on HS'.out (al2_below _ _ _)) (by omega) (by omega)).mono ?_
      rintro e w' ⟨rfl, q, rfl⟩
      rw [HQ.out]
      go_wp2
      go_ret
      exact ⟨ret_bool' HR.out.symm, below_drewN (al2_below _ _ _) q⟩
    replace q4 := Classical.not_not.1 q4
    subst q4
    have HQ : Hid (eqT m m = true) := Lib.hid (by unfold eqT; simp)
    have HR := Lib.hid (show R = (decide (n = n') && VT.allTo (fun j => (c j).eqv (c' j)) n) by rw [HE.out]; simp)
    clear HE
    generalize (decide (n = n') && VT.allTo (fun j => (c j).eqv (c' j)) n) = R' at *
    go_enter Tryz.func187, Tryz.ntmps187
    go_wp2_with fail
    refine (EqS_any _ _ _ _ S S' m m _ (HT.out.on HS.out (al2_below _ _ _)) (HT'.out.on HS'.out (al2_below _ _ _)) (by omega) (by omega)).mono ?_
    rintro e w' ⟨rfl, q, rfl⟩
    rw [HQ.out]
    go_wp2_with fail
    refine (HF.out _ (below_drewN (al2_below _ _ _) q)).mono ?_
    rintro e w2 ⟨rfl, hb⟩
    have HB := Lib.hid ((below_drewN (al2_below w _ _) q).trans (hb.mono (below_drewN (al2_below w _ _) q).size))
    clear hb
    go_wp2
    go_ret
    exact ⟨ret_bool' HR.out.symm, HB.out⟩
end Go.Proofs.YtfploakafbnigaaGreatDoor
