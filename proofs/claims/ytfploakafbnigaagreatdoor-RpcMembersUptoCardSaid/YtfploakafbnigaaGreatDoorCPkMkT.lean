/-
  Joined texts: MkCheck.
-/
import Derived.Test.YtfploakafbnigaaGreatDoorCPkValA
import Derived.Test.YtfploakafbnigaaGreatDoorCPkParA
namespace Go.Proofs.YtfploakafbnigaaGreatDoor
open Go.RowKit Val
set_option linter.unusedVariables false
set_option linter.unusedSimpArgs false
set_option maxRecDepth 100000 in
set_option maxHeartbeats 1000000 in
theorem refDepth_any (t : VT) : ∀ (w : World) (S : Nat → Prop) (v : Value), VAL w S t v → (∀ b, S b → b < w.heap.size) → t.bulk ≤ 1073741824 →
    Calls Tryz.prog 57 #[v] w fun e w' => e = .returned (.int .i64 (t.depth : Int)) ∧ Below w.heap.size w w' := by
  induction t with
  | leaf => intro w S v h; exact h.elim
  | mk k i x n c m ih =>
    intro w S v h hS hbk
    obtain ⟨A, cap, A', cap', rfl, hk, hT, hV⟩ := h.open
    have hn := (VT.bulk_n k i x n c m).1
    have hn' : n ≤ 1073741824 := by omega
    have HK := Lib.hid (fun j hj => by have := VT.bulk_kid k i x n c m j hj; omega : ∀ j, j < n → (c j).bulk ≤ 1073741824)
    have HD := Lib.hid (fun j hj => Nat.le_trans (VT.depth_le (c j)) (by have := VT.bulk_kid k i x n c m j hj; omega) : ∀ j, j < n → (c j).depth ≤ 1073741824)
    have HS := Lib.hid hS
    have HV := Lib.hid hV
    have HI := Lib.hid ih
    clear h hT hk hn hS hV ih hbk
    go_enter Tryz.func57, Tryz.ntmps57
    go_wp2
    go_loopg [3, 4] n (fun q v3 v4 wr => ∃ (p d : Nat), p + q = n ∧ v4 = .int .i64 p ∧ v3 = .int .i64 (d : Int) ∧ Aside (VT.maxTo (fun j => (c j).depth) p = d ∧ d ≤ 1073741824) ∧ Below w.heap.size w wr ∧ BX wr w.heap.size (.int .i64 k) (.bool i) (.string x) (.slice A n cap) (.slice A' m.length cap'))
    case atStart => exact ⟨0, 0, by omega, rfl, rfl, ⟨rfl, by omega⟩, (Below.refl _ _).alloc (Nat.le_refl _) _, BX.new _ _ _ _ _ _⟩
    case round =>
      obtain ⟨p, d, hp, rfl, rfl, hd, hB, hX⟩ := hrel
      have HP := Lib.hid hp
      have HX := Lib.hid hX
      have HB := Lib.hid hB
      have HM := Lib.hid hd.out
      have y3 := hX.c3
      clear hp hX hB hd
      by_cases hlt : p < n
      · have hd0 : decide ((p : Int) < (n : Int)) = true := by simp; omega
        have hd1 : decide (p < n) = true := by simp; omega
        have i1 : (0 : Int) ≤ p := by omega
        have i2 : (p : Int) < n := by omega
        rcases HV.out.on HS.out HB.out with h0 | ⟨b, off, rfl, hbS, hc⟩
        · omega
        obtain ⟨e0, e1, e2, e3, e4, ⟨k0, k1, k2, k3, k4⟩, hr⟩ := hc p hlt
        have H1 := Lib.hid (HI.out p wr S _ hr (fun b hb => Nat.lt_of_lt_of_le (HS.out b hb) HB.out.size) (HK.out p hlt))
        have HDp := Lib.hid (HD.out p hlt)
        clear hc hr
        go_wp2_with fail
        refine H1.out.mono ?_
        rintro e w2 ⟨rfl, hb⟩
        have HB2 := Lib.hid (HB.out.trans (hb.mono HB.out.size))
        have HX2 := Lib.hid (HX.out.on hb)
        have hdd := HDp.out
        have hm2 := HM.out.2
        generalize hg : (c p).depth = q at *
        have HG := Lib.hid hg
        clear hb y3 k0 k1 k2 k3 k4 H1 hg
        go_wp2
        go_roundg (gk - 1)
        case measure => have := HP.out; omega
        case rel => exact ⟨p + 1, max d q, by have := HP.out; omega, by go_num, by rw [show max (d : Int) (q : Int) = ((max d q : Nat) : Int) by omega], ⟨by unfold VT.maxTo; rw [HM.out.1, HG.out], by omega⟩, HB2.out, HX2.out⟩
      · have hd1 : decide (p < n) = false := by simp; omega
        have hd2 : decide ((p : Int) < (n : Int)) = false := by simp; omega
        have hm2 := HM.out.2
        have hpn : p = n := by have := HP.out; omega
        go_wp2
        go_ret
        subst hpn
        exact ⟨ret_int (by show (d : Int) + 1 = ((VT.maxTo (fun j => (c j).depth) p + 1 : Nat) : Int); rw [HM.out.1]; omega), HB.out⟩
theorem made_end' (w : World) (o : Obj) : Below w.heap.size w (w.alloc o) := (Below.refl _ _).alloc (Nat.le_refl _) _
theorem toList_nil (x : ByteArray) : x.toList = [] ↔ x.size = 0 := by
  rw [Lib.toList_data]
  constructor
  · intro h; have := congrArg List.length h; simpa using this
  · intro h; exact List.eq_nil_of_length_eq_zero (by simpa using h)
theorem bne_nat_t {a b : Nat} (h : ((a : Int) != (b : Int)) = true) : a ≠ b := by
  rw [bne_iff_ne] at h; omega
theorem bne_nat_f {a b : Nat} (h : ((a : Int) != (b : Int)) = false) : a = b := by
  by_cases e : a = b
  · exact e
  · have : ((a : Int) != (b : Int)) = true := by rw [bne_iff_ne]; omega
    rw [this] at h; cases h
section
variable {k : Int} {i : Bool} {x : ByteArray} {n : Nat} {c : Nat → VT} {m : List ByteArray}
theorem may_lo (h : k < 0) : (VT.mk k i x n c m).may = false := by
  have : decide (0 ≤ k) = false := by simp; omega
  show (decide (0 ≤ k) && _ && _ && _ && _ && _ && _ && _) = false
  rw [this]; simp
theorem may_hi (h : 5 < k) : (VT.mk k i x n c m).may = false := by
  have : decide (k ≤ 5) = false := by simp; omega
  show (_ && decide (k ≤ 5) && _ && _ && _ && _ && _ && _) = false
  rw [this]; simp
theorem may_i (h : k ≠ 1) : (VT.mk k true x n c m).may = false := by
  have : (!true || k == 1) = false := by simpa using h
  show (_ && _ && (!true || k == 1) && _ && _ && _ && _ && _) = false
  rw [this]; simp
theorem may_x (hx : ¬ x.toList = []) (h2 : k ≠ 2) (h3 : k ≠ 3) : (VT.mk k i x n c m).may = false := by
  have : (x.size == 0 || k == 2 || k == 3) = false := by rw [toList_nil] at hx; simp [h2, h3, hx]
  show (_ && _ && _ && (x.size == 0 || k == 2 || k == 3) && _ && _ && _ && _) = false
  rw [this]; simp
theorem may_n (hn : 0 < n) (h : k < 4) : (VT.mk k i x n c m).may = false := by
  have : (n == 0 || k == 4 || k == 5) = false := by simp; omega
  show (_ && _ && _ && _ && (n == 0 || k == 4 || k == 5) && _ && _ && _) = false
  rw [this]; simp
theorem may_m (hm : 0 < m.length) (h : k ≠ 5) : (VT.mk k i x n c m).may = false := by
  have : (m.length == 0 || k == 5) = false := by simp only [Bool.or_eq_false_iff, beq_eq_false_iff_ne]; exact ⟨by omega, h⟩
  show (_ && _ && _ && _ && _ && (m.length == 0 || k == 5) && _ && _) = false
  rw [this]; simp
theorem may_len (hm : m.length ≠ n) : (VT.mk 5 i x n c m).may = false := by
  have : (!((5 : Int) == 5) || m.length == n) = false := by simpa using hm
  show (_ && _ && _ && _ && _ && _ && (!((5 : Int) == 5) || m.length == n) && _) = false
  rw [this]; simp
theorem may_all (h0 : 0 ≤ k) (h5 : k ≤ 5) (hi : i = true → k = 1) (hx : x.toList = [] ∨ k = 2 ∨ k = 3) (hn : ¬ 0 < n ∨ k = 4 ∨ k = 5) (hm : ¬ 0 < m.length ∨ k = 5) (hl : k = 5 → m.length = n) : (VT.mk k i x n c m).may = VT.allTo (fun j => (c j).may) n := by
  have e1 : decide (0 ≤ k) = true := by simpa using h0
  have e2 : decide (k ≤ 5) = true := by simpa using h5
  have e3 : (!i || k == 1) = true := by
    cases i
    · rfl
    · simpa using hi rfl
  have e4 : (x.size == 0 || k == 2 || k == 3) = true := by
    rcases hx with h | h | h
    · rw [toList_nil] at h; simp [h]
    · simp [h]
    · simp [h]
  have e5 : (n == 0 || k == 4 || k == 5) = true := by
    rcases hn with h | h | h
    · have : n = 0 := by omega
      simp [this]
    · simp [h]
    · simp [h]
  have e6 : (m.length == 0 || k == 5) = true := by
    rcases hm with h | h
    · have : m.length = 0 := by omega
      simp [this]
    · simp [h]
  have e7 : (!(k == 5) || m.length == n) = true := by
    by_cases e : k = 5
    · have := hl e; subst e; simp [this]
    · have : (k == 5) = false := by simpa using e
      rw [this]; rfl
  show (decide (0 ≤ k) && decide (k ≤ 5) && (!i || k == 1) && (x.size == 0 || k == 2 || k == 3) && (n == 0 || k == 4 || k == 5) && (m.length == 0 || k == 5) && (!(k == 5) || m.length == n) && VT.allTo (fun j => (c j).may) n) = _
  rw [e1, e2, e3, e4, e5, e6, e7]; simp
end
set_option maxRecDepth 100000 in
set_option maxHeartbeats 8000000 in
theorem refMay_any (t : VT) : ∀ (w : World) (S : Nat → Prop) (v : Value), VAL w S t v → (∀ b, S b → b < w.heap.size) → t.bulk ≤ 1073741824 →
    Calls Tryz.prog 126 #[v] w fun e w' => e = .returned (.bool t.may) ∧ Below w.heap.size w w' := by
  induction t with
  | leaf => intro w S v h; exact h.elim
  | mk k i x n c m ih =>
    intro w S v h hS hbk
    obtain ⟨A, cap, A', cap', rfl, hk, hT, hV⟩ := h.open
    have hn := (VT.bulk_n k i x n c m).1
    have hmm := (VT.bulk_n k i x n c m).2.2.1
    have hn' : n ≤ 1073741824 := by omega
    have hm' : m.length ≤ 1073741824 := by omega
    have HK := Lib.hid (fun j hj => by have := VT.bulk_kid k i x n c m j hj; omega : ∀ j, j < n → (c j).bulk ≤ 1073741824)
    have HS := Lib.hid hS
    have HV := Lib.hid hV
    have HI := Lib.hid ih
    clear h hT hn hS hV ih hbk hmm
    by_cases hlo : k < 0
    · have h0 : decide (k < 0) = true := by simpa using hlo
      have HR := Lib.hid (may_lo (i := i) (x := x) (n := n) (c := c) (m := m) hlo)
      clear hk
      go_enter Tryz.func126, Tryz.ntmps126
      go_wp2
      go_ret
      exact ⟨ret_bool' HR.out.symm, (Below.refl _ _).alloc (Nat.le_refl _) _⟩
    by_cases hhi : 5 < k
    · have h0 : decide (k < 0) = false := by simp; omega
      have h1 : decide (5 < k) = true := by simpa using hhi
      have HR := Lib.hid (may_hi (i := i) (x := x) (n := n) (c := c) (m := m) hhi)
      clear hk hlo
      go_enter Tryz.func126, Tryz.ntmps126
      go_wp2
      go_ret
      exact ⟨ret_bool' HR.out.symm, (Below.refl _ _).alloc (Nat.le_refl _) _⟩
    have hcs : k = 0 ∨ k = 1 ∨ k = 2 ∨ k = 3 ∨ k = 4 ∨ k = 5 := by omega
    clear hk hlo hhi
    rcases hcs with h | h | h | h | h | h <;> subst h <;> cases i
    all_goals (
      go_enter Tryz.func126, Tryz.ntmps126
      go_wp2)
    all_goals first
      | (go_ret; exact ⟨ret_bool' (by first | exact (may_i (by decide)).symm | exact (may_x (by assumption) (by decide) (by decide)).symm | exact (may_n (by assumption) (by decide)).symm | exact (may_m (by assumption) (by decide)).symm | exact (may_len (bne_nat_t (by assumption))).symm), (Below.refl _ _).alloc (Nat.le_refl _) _⟩)
      | skip
    all_goals try (rename ((m.length : Int) != (n : Int)) = false => hl; have HL := Lib.hid (bne_nat_f hl); clear hl)
    all_goals (
      go_loopg [3] n (fun q v wr => ∃ (p : Nat) (kk : Int) (ii : Bool), p + q = n ∧ v = .int .i64 p ∧ Aside (VT.allTo (fun j => (c j).may) p = true) ∧ Below w.heap.size w wr ∧ BX wr w.heap.size (.int .i64 kk) (.bool ii) (.string x) (.slice A n cap) (.slice A' m.length cap'))
      case atStart => exact ⟨0, _, _, by omega, rfl, rfl, (Below.refl _ _).alloc (Nat.le_refl _) _, BX.new _ _ _ _ _ _⟩
      case round =>
        obtain ⟨p, kk, ii, hp, rfl, hall, hB, hX⟩ := hrel
        have HP := Lib.hid hp
        have HX := Lib.hid hX
        have HB := Lib.hid hB
        have HA := Lib.hid hall.out
        have y3 := hX.c3
        clear hp hX hB hall
        by_cases hlt : p < n
        · try (exfalso; omega)
          all_goals (
            have hd0 : decide ((p : Int) < (n : Int)) = true := by simp; omega
            have hd1 : decide (p < n) = true := by simp; omega
            have i1 : (0 : Int) ≤ p := by omega
            have i2 : (p : Int) < n := by omega
            rcases HV.out.on HS.out HB.out with h0 | ⟨b, off, rfl, hbS, hc⟩
            · omega
            obtain ⟨e0, e1, e2, e3, e4, ⟨k0, k1, k2, k3, k4⟩, hr⟩ := hc p hlt
            have hI := HI.out p wr S _ hr (fun b hb => Nat.lt_of_lt_of_le (HS.out b hb) HB.out.size) (HK.out p hlt)
            clear hc hr
            cases hq : (c p).may with
            | true =>
              rw [hq] at hI
              have HQ := Lib.hid hq
              have H1 := Lib.hid hI
              clear hI hq
              go_wp2_with fail
              refine H1.out.mono ?_
              rintro e w2 ⟨rfl, hb⟩
              have HB2 := Lib.hid (HB.out.trans (hb.mono HB.out.size))
              have HX2 := Lib.hid (HX.out.on hb)
              clear hb y3 k0 k1 k2 k3 k4 H1
              go_wp2
              go_roundg (gk - 1)
              case measure => have := HP.out; omega
              case rel => exact ⟨p + 1, kk, ii, by have := HP.out; omega, by go_num, (by show (VT.allTo (fun j => (c j).may) p && (c p).may) = true; rw [HA.out, HQ.out]; rfl), HB2.out, HX2.out⟩
            | false =>
              rw [hq] at hI
              have HF := Lib.hid (VT.allTo_false (fun j => (c j).may) n p hlt hq)
              have H1 := Lib.hid hI
              clear hI hq
              go_wp2_with fail
              refine H1.out.mono ?_
              rintro e w2 ⟨rfl, hb⟩
              have HB2 := Lib.hid (HB.out.trans (hb.mono HB.out.size))
              clear hb y3 k0 k1 k2 k3 k4 H1
              go_wp2
              go_ret
              exact ⟨ret_bool' (by rw [may_all (by decide) (by decide) (by decide) (by first | exact .inl (by assumption) | exact .inr (.inl rfl) | exact .inr (.inr rfl)) (by first | exact .inl (by assumption) | exact .inr (.inl rfl) | exact .inr (.inr rfl)) (by first | exact .inl (by assumption) | exact .inr rfl) (by first | exact fun h => absurd h (by decide) | exact fun _ => HL.out), HF.out]), HB2.out⟩)
        · have hd1 : decide (p < n) = false := by simp; omega
          have hd2 : decide ((p : Int) < (n : Int)) = false := by simp; omega
          have hpn : p = n := by have := HP.out; omega
          have HF : Hid (VT.allTo (fun j => (c j).may) n = true) := Lib.hid (by rw [← hpn]; exact HA.out)
          clear hpn
          go_wp2
          go_ret
          exact ⟨ret_bool' (by rw [may_all (by decide) (by decide) (by decide) (by first | exact .inl (by assumption) | exact .inr (.inl rfl) | exact .inr (.inr rfl)) (by first | exact .inl (by assumption) | exact .inr (.inl rfl) | exact .inr (.inr rfl)) (by first | exact .inl (by assumption) | exact .inr rfl) (by first | exact fun h => absurd h (by decide) | exact fun _ => HL.out), HF.out]), HB.out⟩)
set_option maxRecDepth 100000 in
set_option maxHeartbeats 4000000 in
theorem vCheck_any (t : VT) (w : World) (S : Nat → Prop) (v : Value) (h : VAL w S t v) (hS : ∀ b, S b → b < w.heap.size) (hbk : t.bulk ≤ 1073741824) :
    Calls Tryz.prog 56 #[v] w fun e w' => e = .returned (.int .i64 t.check) ∧ Below w.heap.size w w' := by
  obtain ⟨k, i, x, A, n, cap, A', n', cap', rfl⟩ := VAL.shape h
  have HH := Lib.hid h
  have HS := Lib.hid hS
  have HB := Lib.hid (made_end' w (.cells #[.int .i64 k, .bool i, .string x, .slice A n cap, .slice A' n' cap'] 25))
  have HX := Lib.hid (BX.new w (.int .i64 k) (.bool i) (.string x) (.slice A n cap) (.slice A' n' cap'))
  have hM := fun W (hb : Below w.heap.size w W) => refMay_any t W S _ (VAL.on h hS hb) (fun b hb' => Nat.lt_of_lt_of_le (hS b hb') hb.size) hbk
  have hD := fun W (hb : Below w.heap.size w W) => refDepth_any t W S _ (VAL.on h hS hb) (fun b hb' => Nat.lt_of_lt_of_le (hS b hb') hb.size) hbk
  have HD := Lib.hid hD
  have hdl : t.depth ≤ 1073741824 := Nat.le_trans (VT.depth_le t) hbk
  clear h hS hbk hD
  cases hm : t.may with
  | false =>
    rw [hm] at hM
    have HM := Lib.hid hM
    have HC : Hid (t.check = 2) := Lib.hid (by unfold VT.check; rw [hm]; rfl)
    clear hM hm
    go_enter Tryz.func56, Tryz.ntmps56
    go_wp2_with fail
    refine (HM.out _ HB.out).mono ?_
    rintro e w2 ⟨rfl, hb⟩
    have HB2 := Lib.hid (HB.out.trans (hb.mono HB.out.size))
    clear hb
    go_wp2
    go_ret
    exact ⟨by rw [HC.out]; rfl, HB2.out⟩
  | true =>
    rw [hm] at hM
    have HM := Lib.hid hM
    have HC : Hid (t.check = if 128 < t.depth then 111 else 0) := Lib.hid (by unfold VT.check; rw [hm]; rfl)
    clear hM hm
    go_enter Tryz.func56, Tryz.ntmps56
    go_wp2_with fail
    refine (HM.out _ HB.out).mono ?_
    rintro e w2 ⟨rfl, hb⟩
    have HB2 := Lib.hid (HB.out.trans (hb.mono HB.out.size))
    have hx := HX.out.on hb
    have y0 := hx.c0
    have y1 := hx.c1
    have y2 := hx.c2
    have y3 := hx.c3
    have y4 := hx.c4
    clear hb hx
    go_wp2_with fail
    refine (HD.out _ HB2.out).mono ?_
    rintro e w3 ⟨rfl, hb⟩
    have HB3 := Lib.hid (HB2.out.trans (hb.mono HB2.out.size))
    generalize t.depth = q at *
    clear hb y0 y1 y2 y3 y4
    by_cases hq : 128 < q
    · have h0 : decide ((128 : Int) < (q : Int)) = true := by simp; omega
      have HC2 : Hid (t.check = 111) := Lib.hid (by rw [HC.out, if_pos hq])
      clear hq
      go_wp2
      go_ret
      exact ⟨by rw [HC2.out]; rfl, HB3.out⟩
    · have h0 : decide ((128 : Int) < (q : Int)) = false := by simp; omega
      have HC2 : Hid (t.check = 0) := Lib.hid (by rw [HC.out, if_neg hq])
      clear hq
      go_wp2
      go_ret
      exact ⟨by rw [HC2.out]; rfl, HB3.out⟩
end Go.Proofs.YtfploakafbnigaaGreatDoor
