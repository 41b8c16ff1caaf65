/-
  Layer 10, the walks: the program's mayBe, Depth, Check.
-/
import Derived.Test.YtfploakafbnigaaGreatDoorCPkMkT
namespace Go.Proofs.YtfploakafbnigaaGreatDoor
open Go.RowKit Val
set_option linter.unusedVariables false
set_option linter.unusedSimpArgs false
theorem VAL.shape5 {w : World} {S : Nat → Prop} {t : VT} {v0 v1 v2 v3 v4 : Value} (h : VAL w S t (.agg #[v0, v1, v2, v3, v4])) : ∃ k i x A n c B m d, v0 = .int .i64 k ∧ v1 = .bool i ∧ v2 = .string x ∧ v3 = .slice A n c ∧ v4 = .slice B m d := by
  obtain ⟨k, i, x, A, n, c, B, m, d, e⟩ := VAL.shape h
  injection e with e
  injection e with e
  injection e with z0 e; injection e with z1 e; injection e with z2 e; injection e with z3 e; injection e with z4 e
  exact ⟨k, i, x, A, n, c, B, m, d, z0, z1, z2, z3, z4⟩
/-- the first place from i on, of k, at which p holds -/
def firstFrom (p : Nat → Bool) : Nat → Nat → Option Nat
  | _, 0 => none
  | i, k + 1 => if p i then some i else firstFrom p (i + 1) k
def idxI : Option Nat → Int
  | some i => i
  | none => -1
theorem firstFrom_iff (p : Nat → Bool) : ∀ k i, (firstFrom p i k).isSome = true ↔ ∃ j, i ≤ j ∧ j < i + k ∧ p j = true
  | 0, i => by
    constructor
    · intro h; cases h
    · rintro ⟨j, h1, h2, -⟩; omega
  | k + 1, i => by
    unfold firstFrom
    by_cases h : p i = true
    · rw [if_pos h]
      exact ⟨fun _ => ⟨i, by omega, by omega, h⟩, fun _ => rfl⟩
    · rw [if_neg h, firstFrom_iff p k (i + 1)]
      constructor
      · rintro ⟨j, h1, h2, h3⟩; exact ⟨j, by omega, by omega, h3⟩
      · rintro ⟨j, h1, h2, h3⟩
        refine ⟨j, ?_, by omega, h3⟩
        by_cases e : j = i
        · subst e; exact absurd h3 h
        · omega
theorem firstFrom_all (p : Nat → Bool) (n : Nat) : (firstFrom (fun j => !p j) 0 n).isSome = !VT.allTo p n := by
  cases h : VT.allTo p n
  · rw [show (!false) = true from rfl, firstFrom_iff]
    refine Classical.byContradiction fun hc => ?_
    have : VT.allTo p n = true := (VT.allTo_iff p n).2 fun j hj => by
      cases hp : p j
      · exact absurd ⟨j, by omega, by omega, by simp [hp]⟩ hc
      · rfl
    rw [h] at this; cases this
  · rw [show (!true) = false from rfl, ← Bool.not_eq_true, firstFrom_iff]
    rintro ⟨j, -, hj, hp⟩
    have := (VT.allTo_iff p n).1 h j (by omega)
    simp [this] at hp
theorem firstFrom_no {p : Nat → Bool} {i k : Nat} (h : p i = false) (hk : 0 < k) : firstFrom p i k = firstFrom p (i + 1) (k - 1) := by
  cases k with
  | zero => omega
  | succ k => conv => lhs; unfold firstFrom
              rw [h]; rfl
theorem firstFrom_yes {p : Nat → Bool} {i k : Nat} (h : p i = true) (hk : 0 < k) : firstFrom p i k = some i := by
  cases k with
  | zero => omega
  | succ k => unfold firstFrom; rw [if_pos h]
theorem idxI_ge (o : Option Nat) : decide (0 ≤ idxI o) = o.isSome := by
  cases o with
  | none => rfl
  | some i => show decide ((0 : Int) ≤ (i : Int)) = true; simp
set_option maxRecDepth 100000 in
set_option maxHeartbeats 1000000 in
theorem IndexV_any {p : Nat → Bool} (A : Option Addr) (n cap : Nat) (c : Nat → VT) (w : World) (S : Nat → Prop) (hV : VS w S A n c) (hS : ∀ b, S b → b < w.heap.size) (hn : n ≤ 1073741824)
    (hp : ∀ j, j < n → ∀ W v, Below w.heap.size w W → VAL W S (c j) v → Calls Tryz.prog 186 #[v] W fun e w' => e = .returned (.bool (p j)) ∧ Below W.heap.size W w') :
    Calls Tryz.prog 214 #[.slice A n cap, .func (.func 186) #[] #[]] w fun e w' => e = .returned (.int .i64 (idxI (firstFrom p 0 n))) ∧ Below w.heap.size w w' := by
  have HP := Lib.hid hp
  have HS := Lib.hid hS
  have HV := Lib.hid hV
  clear hp hS hV
  go_enter Tryz.func214, Tryz.ntmps214
  go_wp2
  go_loopg [8] n (fun q v wr => ∃ i : Nat, i + q = n ∧ v = .int .i64 i ∧ Aside (firstFrom p 0 n = firstFrom p i q) ∧ Below w.heap.size w wr)
  case atStart => exact ⟨0, by omega, rfl, rfl, Below.refl _ _⟩
  case round =>
    obtain ⟨i, hi, rfl, hf, hB⟩ := hrel
    have HI := Lib.hid hi
    have HB := Lib.hid hB
    have HF := Lib.hid hf.out
    clear hi hB hf
    by_cases hlt : i < n
    · have hd0 : decide ((i : Int) < (n : Int)) = true := by simp; omega
      have hd1 : decide (i < n) = true := by simp; omega
      have i1 : (0 : Int) ≤ i := by omega
      have i2 : (i : Int) < n := by omega
      rcases HV.out.on HS.out HB.out with h0 | ⟨b, off, rfl, hbS, hc⟩
      · omega
      obtain ⟨e0, e1, e2, e3, e4, ⟨k0, k1, k2, k3, k4⟩, hr⟩ := hc i hlt
      have hI := HP.out i hlt wr _ HB.out hr
      clear hc hr
      have hq1 : 0 < gk := by have := HI.out; omega
      cases hq : p i with
      | true =>
        rw [hq] at hI
        have H1 := Lib.hid hI
        have HF2 : Hid (firstFrom p 0 n = some i) := Lib.hid (HF.out.trans (firstFrom_yes hq hq1))
        clear hI hq hq1
        go_wp2_with fail
        refine H1.out.mono ?_
        rintro e w2 ⟨rfl, hb⟩
        have HB2 := Lib.hid (HB.out.trans (hb.mono HB.out.size))
        clear hb k0 k1 k2 k3 k4 H1
        go_wp2
        go_ret
        exact ⟨ret_int (by rw [HF2.out]; rfl), HB2.out⟩
      | false =>
        rw [hq] at hI
        have H1 := Lib.hid hI
        have HF2 : Hid (firstFrom p 0 n = firstFrom p (i + 1) (gk - 1)) := Lib.hid (HF.out.trans (firstFrom_no hq hq1))
        clear hI hq hq1
        go_wp2_with fail
        refine H1.out.mono ?_
        rintro e w2 ⟨rfl, hb⟩
        have HB2 := Lib.hid (HB.out.trans (hb.mono HB.out.size))
        clear hb k0 k1 k2 k3 k4 H1
        go_wp2
        go_roundg (gk - 1)
        case measure => have := HI.out; omega
        case rel => exact ⟨i + 1, by have := HI.out; omega, by go_num, HF2.out, HB2.out⟩
    · have hd1 : decide (i < n) = false := by simp; omega
      have hd2 : decide ((i : Int) < (n : Int)) = false := by simp; omega
      have HF2 : Hid (firstFrom p 0 n = none) := Lib.hid (by rw [HF.out, show gk = 0 by have := HI.out; omega]; rfl)
      go_wp2
      go_ret
      exact ⟨ret_int (by rw [HF2.out]; rfl), HB.out⟩
set_option maxRecDepth 100000 in
set_option maxHeartbeats 1000000 in
theorem ContainsV_any {p : Nat → Bool} (A : Option Addr) (n cap : Nat) (c : Nat → VT) (w : World) (S : Nat → Prop) (hV : VS w S A n c) (hS : ∀ b, S b → b < w.heap.size) (hn : n ≤ 1073741824)
    (hp : ∀ j, j < n → ∀ W v, Below w.heap.size w W → VAL W S (c j) v → Calls Tryz.prog 186 #[v] W fun e w' => e = .returned (.bool (p j)) ∧ Below W.heap.size W w') :
    Calls Tryz.prog 185 #[.slice A n cap, .func (.func 186) #[] #[]] w fun e w' => e = .returned (.bool (firstFrom p 0 n).isSome) ∧ Below w.heap.size w w' := by
  have hc := IndexV_any (cap := cap) A n c w S hV hS hn hp
  have hi := idxI_ge (firstFrom p 0 n)
  obtain ⟨o, ho⟩ : ∃ o, firstFrom p 0 n = o := ⟨_, rfl⟩
  rw [ho] at hc hi ⊢
  obtain ⟨z, hz⟩ : ∃ z, idxI o = z := ⟨_, rfl⟩
  rw [hz] at hc hi
  have HC := Lib.hid hc
  have HI := Lib.hid hi
  clear hc hi ho hz
  clear hV hS hp
  go_enter Tryz.func185, Tryz.ntmps185
  go_wp2_with fail
  refine HC.out.mono ?_
  rintro e w2 ⟨rfl, hb⟩
  have HB := Lib.hid hb
  clear hb HC
  go_wp2
  go_ret
  exact ⟨ret_bool' HI.out, HB.out⟩
theorem str_abs1 {l : List UInt8} (h1 : ¬ l = []) (h2 : (!l.isEmpty) = false) : False := by
  cases l
  · exact h1 rfl
  · cases h2
theorem str_abs2 {l : List UInt8} (h1 : l = []) (h2 : (!l.isEmpty) = true) : False := by
  subst h1; cases h2
set_option maxRecDepth 100000 in
set_option maxHeartbeats 8000000 in
theorem pMay_any (t : VT) : ∀ (w : World) (S : Nat → Prop) (v : Value), VAL w S t v → (∀ b, S b → b < w.heap.size) → t.bulk ≤ 1073741824 →
    Calls Tryz.prog 147 #[v] w fun e w' => e = .returned (.bool t.may) ∧ Below w.heap.size w w' := by
  induction t with
  | leaf => intro w S v h; exact h.elim
  | mk k i x n c m ih =>
    intro w S v h hS hbk
    obtain ⟨A, cap, A', cap', rfl, hk, hT, hV⟩ := h.open
    have hn := (VT.bulk_n k i x n c m).1
    have hmm := (VT.bulk_n k i x n c m).2.2.1
    have hn' : n ≤ 1073741824 := by omega
    have hm' : m.length ≤ 1073741824 := by omega
    have HC := Lib.hid (fun (W : World) (hb : Below w.heap.size w W) => ContainsV_any (p := fun j => !(c j).may) (cap := cap) A n c W S (hV.on hS hb) (fun b hb' => Nat.lt_of_lt_of_le (hS b hb') hb.size) hn' (fun j hj W2 v hb2 hv => by
      have hC := ih j W2 S v hv (fun b hb' => Nat.lt_of_lt_of_le (hS b hb') (Nat.le_trans hb.size hb2.size)) (by have := VT.bulk_kid k i x n c m j hj; omega)
      obtain ⟨vk, vi, vx, VA, vn, vc, VA', vn', vc', rfl⟩ := VAL.shape hv
      have HH := Lib.hid (fun (W3 : World) (hb3 : Below W2.heap.size W2 W3) => ih j W3 S _ (hv.on (fun b hb' => Nat.lt_of_lt_of_le (hS b hb') (Nat.le_trans hb.size hb2.size)) hb3) (fun b hb' => Nat.lt_of_lt_of_le (hS b hb') (Nat.le_trans hb.size (Nat.le_trans hb2.size hb3.size))) (by have := VT.bulk_kid k i x n c m j hj; omega))
      generalize (c j).may = q at *
      have HB := Lib.hid (made_end' W2 (.cells #[.int .i64 vk, .bool vi, .string vx, .slice VA vn vc, .slice VA' vn' vc'] 25))
      clear hC hv hb2 hb ih hV hT hS hbk h hk hn hmm
      go_enter Tryz.func186, Tryz.ntmps186
      go_wp2_with fail
      refine (HH.out _ HB.out).mono ?_
      rintro e w3 ⟨rfl, hb⟩
      have HB2 := Lib.hid (HB.out.trans (hb.mono HB.out.size))
      clear hb HH HB
      cases q
      all_goals (go_wp2; go_ret; exact ⟨rfl, HB2.out⟩)))
    have ha := firstFrom_all (fun j => (c j).may) n
    obtain ⟨q, hq⟩ : ∃ q, (firstFrom (fun j => !(c j).may) 0 n).isSome = q := ⟨_, rfl⟩
    rw [hq] at ha HC
    have HQ : Hid (VT.allTo (fun j => (c j).may) n = !q) := Lib.hid (by rw [ha]; simp)
    clear ha hq
    clear h hT hn hS hV ih hbk hmm
    by_cases hlo : k < 0
    · have h0 : decide (k < 0) = true := by simpa using hlo
      have HR := Lib.hid (may_lo (i := i) (x := x) (n := n) (c := c) (m := m) hlo)
      clear hk HC
      go_enter Tryz.func147, Tryz.ntmps147
      go_wp2
      go_ret
      exact ⟨ret_bool' HR.out.symm, (Below.refl _ _).alloc (Nat.le_refl _) _⟩
    by_cases hhi : 5 < k
    · have h0 : decide (k < 0) = false := by simp; omega
      have h1 : decide (5 < k) = true := by simpa using hhi
      have HR := Lib.hid (may_hi (i := i) (x := x) (n := n) (c := c) (m := m) hhi)
      clear hk hlo HC
      go_enter Tryz.func147, Tryz.ntmps147
      go_wp2
      go_ret
      exact ⟨ret_bool' HR.out.symm, (Below.refl _ _).alloc (Nat.le_refl _) _⟩
    have hcs : k = 0 ∨ k = 1 ∨ k = 2 ∨ k = 3 ∨ k = 4 ∨ k = 5 := by omega
    clear hk hlo hhi
    rcases hcs with h | h | h | h | h | h <;> subst h <;> cases i
    all_goals (
      go_enter Tryz.func147, Tryz.ntmps147
      go_wp2_with fail)
    all_goals first
      | (go_ret; exact ⟨ret_bool' (by first | exact (may_i (by decide)).symm | exact (may_x (by assumption) (by decide) (by decide)).symm | exact (may_n (by assumption) (by decide)).symm | exact (may_m (by assumption) (by decide)).symm | exact (may_len (bne_nat_t (by assumption))).symm), (Below.refl _ _).alloc (Nat.le_refl _) _⟩)
      | skip
    all_goals try (exfalso; first | exact str_abs1 (by assumption) (by assumption) | exact str_abs2 (by assumption) (by assumption))
    all_goals try (rename ((m.length : Int) != (n : Int)) = false => hl; have HL := Lib.hid (bne_nat_f hl); clear hl)
    all_goals (
      refine (HC.out _ (made_end' w _)).mono ?_
      rintro e w3 ⟨rfl, hb⟩
      have HB2 := Lib.hid ((made_end' w _).trans (hb.mono (made_end' w _).size))
      clear hb HC
      go_wp2
      go_ret
      exact ⟨ret_bool' (by rw [may_all (by decide) (by decide) (by decide) (by first | exact .inl (by assumption) | exact .inr (.inl rfl) | exact .inr (.inr rfl)) (by first | exact .inl (by assumption) | exact .inr (.inl rfl) | exact .inr (.inr rfl)) (by first | exact .inl (by assumption) | exact .inr rfl) (by first | exact fun h => absurd h (by decide) | exact fun _ => HL.out), HQ.out]; try rfl), HB2.out⟩)
set_option maxRecDepth 100000 in
set_option maxHeartbeats 1000000 in
theorem pDepth_any (t : VT) : ∀ (w : World) (S : Nat → Prop) (v : Value), VAL w S t v → (∀ b, S b → b < w.heap.size) → t.bulk ≤ 1073741824 →
    Calls Tryz.prog 148 #[v] w fun e w' => e = .returned (.int .i64 (t.depth : Int)) ∧ Below w.heap.size w w' := by
  induction t with
  | leaf => intro w S v h; exact h.elim
  | mk k i x n c m ih =>
    intro w S v h hS hbk
    obtain ⟨A, cap, A', cap', rfl, hk, hT, hV⟩ := h.open
    have hn := (VT.bulk_n k i x n c m).1
    have hn' : n ≤ 1073741824 := by omega
    have HK := Lib.hid (fun j hj => by have := VT.bulk_kid k i x n c m j hj; omega : ∀ j, j < n → (c j).bulk ≤ 1073741824)
    have HD := Lib.hid (fun j hj => Nat.le_trans (VT.depth_le (c j)) (by have := VT.bulk_kid k i x n c m j hj; omega) : ∀ j, j < n → (c j).depth ≤ 1073741824)
    have HS := Lib.hid hS
    have HV := Lib.hid hV
    have HI := Lib.hid ih
    clear h hT hk hn hS hV ih hbk
    go_enter Tryz.func148, Tryz.ntmps148
    go_wp2
    go_loopg [3, 9] n (fun q v3 v4 wr => ∃ (p d : Nat), p + q = n ∧ v4 = .int .i64 p ∧ v3 = .int .i64 (d : Int) ∧ Aside (VT.maxTo (fun j => (c j).depth) p = d ∧ d ≤ 1073741824) ∧ Below w.heap.size w wr)
    case atStart => exact ⟨0, 0, by omega, rfl, rfl, ⟨rfl, by omega⟩, (Below.refl _ _).alloc (Nat.le_refl _) _⟩
    case round =>
      obtain ⟨p, d, hp, rfl, rfl, hd, hB⟩ := hrel
      have HP := Lib.hid hp
      have HB := Lib.hid hB
      have HM := Lib.hid hd.out
      clear hp hB hd
      by_cases hlt : p < n
      · have hd0 : decide ((p : Int) < (n : Int)) = true := by simp; omega
        have hd1 : decide (p < n) = true := by simp; omega
        have i1 : (0 : Int) ≤ p := by omega
        have i2 : (p : Int) < n := by omega
        rcases HV.out.on HS.out HB.out with h0 | ⟨b, off, rfl, hbS, hc⟩
        · omega
        obtain ⟨e0, e1, e2, e3, e4, ⟨k0, k1, k2, k3, k4⟩, hr⟩ := hc p hlt
        have H1 := Lib.hid (fun W (hb : Below wr.heap.size wr W) => HI.out p W S _ (hr.on (fun b hb => Nat.lt_of_lt_of_le (HS.out b hb) HB.out.size) hb) (fun b hb' => Nat.lt_of_lt_of_le (HS.out b hb') (Nat.le_trans HB.out.size hb.size)) (HK.out p hlt))
        have HDp := Lib.hid (HD.out p hlt)
        obtain ⟨vk, vi, vx, VA, vn, vc, VB, vm, vd, rfl, rfl, rfl, rfl, rfl⟩ := hr.shape5
        clear hc hr
        go_wp2_with fail
        refine (H1.out _ (made_end' wr _)).mono ?_
        rintro e w2 ⟨rfl, hb⟩
        have HB2 := Lib.hid (HB.out.trans ((made_end' wr _).trans (hb.mono (made_end' wr _).size) |>.mono HB.out.size))
        have hdd := HDp.out
        have hm2 := HM.out.2
        generalize hg : (c p).depth = q at *
        have HG := Lib.hid hg
        clear hb k0 k1 k2 k3 k4 H1 hg
        go_wp2
        go_roundg (gk - 1)
        case measure => have := HP.out; omega
        case rel => exact ⟨p + 1, max d q, by have := HP.out; omega, by go_num, by rw [show max (d : Int) (q : Int) = ((max d q : Nat) : Int) by omega], ⟨by unfold VT.maxTo; rw [HM.out.1, HG.out], by omega⟩, HB2.out⟩
      · have hd1 : decide (p < n) = false := by simp; omega
        have hd2 : decide ((p : Int) < (n : Int)) = false := by simp; omega
        have hm2 := HM.out.2
        have hpn : p = n := by have := HP.out; omega
        go_wp2
        go_ret
        subst hpn
        exact ⟨ret_int (by show (d : Int) + 1 = ((VT.maxTo (fun j => (c j).depth) p + 1 : Nat) : Int); rw [HM.out.1]; omega), HB.out⟩
set_option maxRecDepth 100000 in
set_option maxHeartbeats 4000000 in
theorem pCheck_any (t : VT) (w : World) (S : Nat → Prop) (v : Value) (h : VAL w S t v) (hS : ∀ b, S b → b < w.heap.size) (hbk : t.bulk ≤ 1073741824) :
    Calls Tryz.prog 95 #[v] w fun e w' => e = .returned (.int .i64 t.check) ∧ Below w.heap.size w w' := by
  obtain ⟨k, i, x, A, n, cap, A', n', cap', rfl⟩ := VAL.shape h
  have HB := Lib.hid (made_end' w (.cells #[.int .i64 k, .bool i, .string x, .slice A n cap, .slice A' n' cap'] 25))
  have HX := Lib.hid (BX.new w (.int .i64 k) (.bool i) (.string x) (.slice A n cap) (.slice A' n' cap'))
  have hM := fun W (hb : Below w.heap.size w W) => pMay_any t W S _ (VAL.on h hS hb) (fun b hb' => Nat.lt_of_lt_of_le (hS b hb') hb.size) hbk
  have hD := fun W (hb : Below w.heap.size w W) => pDepth_any t W S _ (VAL.on h hS hb) (fun b hb' => Nat.lt_of_lt_of_le (hS b hb') hb.size) hbk
  have HD := Lib.hid hD
  have hdl : t.depth ≤ 1073741824 := Nat.le_trans (VT.depth_le t) hbk
  clear h hS hbk hD
  cases hm : t.may with
  | false =>
    rw [hm] at hM
    have HM := Lib.hid hM
    have HC : Hid (t.check = 2) := Lib.hid (by unfold VT.check; rw [hm]; rfl)
    clear hM hm
    go_enter Tryz.func95, Tryz.ntmps95
    go_wp2_with fail
    refine (HM.out _ HB.out).mono ?_
    rintro e w2 ⟨rfl, hb⟩
    have HB2 := Lib.hid (HB.out.trans (hb.mono HB.out.size))
    clear hb
    go_wp2
    go_ret
    exact ⟨by rw [HC.out]; rfl, HB2.out⟩
  | true =>
    rw [hm] at hM
    have HM := Lib.hid hM
    have HC : Hid (t.check = if 128 < t.depth then 111 else 0) := Lib.hid (by unfold VT.check; rw [hm]; rfl)
    clear hM hm
    go_enter Tryz.func95, Tryz.ntmps95
    go_wp2_with fail
    refine (HM.out _ HB.out).mono ?_
    rintro e w2 ⟨rfl, hb⟩
    have HB2 := Lib.hid (HB.out.trans (hb.mono HB.out.size))
    have hx := HX.out.on hb
    have y0 := hx.c0
    have y1 := hx.c1
    have y2 := hx.c2
    have y3 := hx.c3
    have y4 := hx.c4
    clear hb hx
    go_wp2_with fail
    refine (HD.out _ HB2.out).mono ?_
    rintro e w3 ⟨rfl, hb⟩
    have HB3 := Lib.hid (HB2.out.trans (hb.mono HB2.out.size))
    generalize t.depth = q at *
    clear hb y0 y1 y2 y3 y4
    by_cases hq : 128 < q
    · have h0 : decide ((128 : Int) < (q : Int)) = true := by simp; omega
      have HC2 : Hid (t.check = 111) := Lib.hid (by rw [HC.out, if_pos hq])
      clear hq
      go_wp2
      go_ret
      exact ⟨by rw [HC2.out]; rfl, HB3.out⟩
    · have h0 : decide ((128 : Int) < (q : Int)) = false := by simp; omega
      have HC2 : Hid (t.check = 0) := Lib.hid (by rw [HC.out, if_neg hq])
      clear hq
      go_wp2
      go_ret
      exact ⟨by rw [HC2.out]; rfl, HB3.out⟩
end Go.Proofs.YtfploakafbnigaaGreatDoor
