/-
  Layer 9 (number), the walks: the document's answer (colophonref09): power, at a sign and digits.
-/
import Derived.Test.YthndgekjccclnaaGreatDoorNumBytes
import Derived.WalkKit
import Derived.ChangeKeysEq
import Derived.WalkSpells
import Derived.WalkLawsBesides
import Derived.BigQuiet
import Derived.Deep.QuietTactic
import Derived.Deep.DeepCutAuto
import Derived.Deep.DeepFit
import Derived.Lib.Hide
namespace Go.Proofs.YthndgekjccclnaaGreatDoor
open Go.RowKit Num
set_option linter.unusedVariables false
set_option linter.unusedSimpArgs false

theorem RB.head {w : World} {B : Nat} {A : Option Addr} {x : UInt8} {r : List UInt8} (h : RB w B A (x :: r)) : ∃ b off, A = some ⟨b, off, none⟩ ∧ w.cell? ⟨b, off, none⟩ = some (.int .u8 x.toNat) := by
  rcases h with h | ⟨b, off, e, _, hc⟩
  · cases h
  · exact ⟨b, off, e, hc 0 (by simp)⟩
theorem RB.get {w : World} {B : Nat} {A : Option Addr} {l : List UInt8} (h : RB w B A l) (p : Nat) (hp : p < l.length) : ∃ b off, A = some ⟨b, off, none⟩ ∧ w.cell? ⟨b, off + p, none⟩ = some (.int .u8 l[p].toNat) := by
  rcases h with h | ⟨b, off, e, _, hc⟩
  · subst h; simp at hp
  · exact ⟨b, off, e, hc p hp⟩
theorem RB.tail {w : World} {B b off : Nat} {x : UInt8} {r : List UInt8} (h : RB w B (some ⟨b, off, none⟩) (x :: r)) : RB w B (some ⟨b, off + 1, none⟩) r := by
  rcases h with h | ⟨b', off', e, hb, hc⟩
  · cases h
  · have e' := Option.some.inj e
    simp only [Addr.mk.injEq] at e'
    obtain ⟨rfl, rfl, -⟩ := e'
    refine .inr ⟨b, off + 1, rfl, hb, fun j hj => ?_⟩
    have := hc (j + 1) (by simp; omega)
    rw [show off + 1 + j = off + (j + 1) by omega]
    exact this

/-- where b[1:] lies -/
def tl1 (A : Option Addr) (c : Nat) : Option Addr := if c = 1 then A else A.map (·.add 1)
theorem size_elem (w : World) : (sizeOf (Tryz.prog.elem 25)).run Tryz.prog w = .ok 1 w := by
  have he : Tryz.prog.elem 25 = 5 := by kernel_rfl
  obtain ⟨i0, hi, _, h1, _⟩ := info_parts info5u
  rw [he]
  rw [run_sizeOf (w := w) hi]
  simp [Program.cellsOf, hi, h1]
theorem slice_one (A : Option Addr) (n c : Nat) (w : World) : (Instr.slice 25 (.slice A (n + 1) c) (some (.int .i64 1)) none none).run Tryz.prog w = .ok (.slice (tl1 A c) n (c - 1)) w := by
  have ht : Tryz.prog.underlying 25 = some (.slice (Tryz.prog.elem 25)) := by kernel_rfl
  rw [run_slice_l w 25 A (n + 1) c ht .i64 1 (by omega) (by omega), size_elem]
  simp [Result.andThen, sliced, tl1]
theorem RB.tl1 {w : World} {B : Nat} {A : Option Addr} {c : Nat} {x : UInt8} {r : List UInt8} (h : RB w B A (x :: r)) (hc : r.length + 1 ≤ c) : RB w B (tl1 A c) r := by
  obtain ⟨b, off, rfl, _⟩ := h.head
  unfold YthndgekjccclnaaGreatDoor.tl1
  split
  · exact .inl (List.eq_nil_of_length_eq_zero (by omega))
  · have := h.tail
    rw [show Option.map (fun x : Addr => x.add 1) (some ⟨b, off, none⟩) = some ⟨b, off + 1, none⟩ by simp [Addr.add]]
    exact this

/-- What power gives: of digits, below 0 or not. -/
def powR (bl : Bool) (r : List UInt8) : Int × Bool := if 15 < (trimL r [48]).length then (0, false) else (if bl then -(decV (trimL r [48]) : Int) else decV (trimL r [48]), true)
theorem trimL_nought (r : List UInt8) : trimL (48 :: r) [48] = trimL r [48] := by unfold trimL; rfl
theorem trimL_other {x : UInt8} (h : x ≠ 48) (r : List UInt8) : trimL (x :: r) [48] = x :: r := by
  unfold trimL; rw [List.dropWhile_cons, show ([48].contains x) = false by simpa using h]; rfl

-- HEAD ENDS
set_option maxHeartbeats 2000000 in
theorem power_minus (A : Option Addr) (c B : Nat) (r : List UInt8) (R : Int × Bool) (hR : Hid (powR true r = R)) (w : World) (hr : RB w B A (45 :: r)) (hn : r.length ≤ 4294967281) (hc : r.length + 1 ≤ c) (hd : Hid (Digs r)) :
    Calls Tryz.prog 115 #[.slice A (r.length + 1) c] w fun e w' => e = .returned (.tuple #[.int .i64 R.1, .bool R.2]) ∧ w = w' := by
  obtain ⟨b, off, rfl, hk⟩ := hr.head
  have HR := Lib.hid (hr.tl1 hc)
  rw [show ((45 : UInt8).toNat : Int) = 45 from rfl] at hk
  clear hr
  have hs := slice_one (some ⟨b, off, none⟩) r.length c
  have HC := Lib.hid (show r.length ≤ c - 1 by omega)
  clear hc
  go_enter Tryz.func115, Tryz.ntmps115
  go_wp2
  clear hk hs
  go_loopg [0] r.length (fun k v wr => ∃ (A' : Option Addr) (c' : Nat) (r' : List UInt8), v = .slice A' r'.length c' ∧ r'.length = k ∧ Hid (RB w B A' r') ∧ Hid (r'.length ≤ c') ∧ Hid (Digs r') ∧ Hid (powR true r' = R) ∧ r'.length ≤ 4294967281 ∧ w = wr)
  case atStart => exact ⟨_, _, r, rfl, rfl, HR, HC, hd, hR, hn, rfl⟩
  case round =>
    obtain ⟨A', c', r', rfl, hk, HR', HC', HD', HP', hn', rfl⟩ := hrel
    have HK := Lib.hid hk
    clear hk HR HC hR hd
    cases r' with
    | nil =>
      have e0 : ([] : List UInt8).length = 0 := rfl
      have RR := HP'.out
      subst RR
      go_wp2
      go_loopg [5, 6] 0 (fun k v5 v6 wr => v6 = .int .i64 0 ∧ v5 = .int .i64 0 ∧ w = wr)
      case atStart => exact ⟨rfl, rfl, rfl⟩
      case round =>
        obtain ⟨rfl, rfl, rfl⟩ := hrel
        go_wp2
        go_ret2
        exact ⟨rfl, rfl⟩
    | cons x t =>
      obtain ⟨b', off', rfl, hk⟩ := HR'.out.head
      have hs := slice_one (some ⟨b', off', none⟩) t.length c'
      have HC1 := HC'.out
      simp only [List.length_cons] at hn' HC1
      have HT := Lib.hid (HR'.out.tl1 (c := c') HC1)
      have HC2 := Lib.hid HC1
      clear HC1
      by_cases hx : x = 48
      · subst hx
        rw [show ((48 : UInt8).toNat : Int) = 48 from rfl] at hk
        go_wp2
        go_roundg (gk - 1)
        case measure => have := HK.out; simp only [List.length_cons] at this; omega
        case rel => exact ⟨_, _, t, rfl, by have := HK.out; simp only [List.length_cons] at this; omega, HT, Lib.hid (by have := HC2.out; omega), Lib.hid (fun y hy => HD'.out y (List.mem_cons_of_mem _ hy)), Lib.hid (by rw [← HP'.out]; unfold powR; rw [trimL_nought]), by omega, rfl⟩
      · have hx48 := hx
        have hx1 : ((x.toNat : Int) == 48) = false := by
          rw [beq_eq_false_iff_ne]; intro h; exact hx (UInt8.toNat_inj.1 (show x.toNat = (48 : UInt8).toNat by have : (48 : UInt8).toNat = 48 := rfl; omega))
        have hx2 : (x.toNat == 48) = false := by
          rw [beq_eq_false_iff_ne]; intro h; exact hx (UInt8.toNat_inj.1 h)
        clear hx hs HT HC2
        by_cases h15 : 15 < (x :: t).length
        · have q1 : decide ((15 : Int) < (((x :: t).length : Nat) : Int)) = true := by simp only [decide_eq_true_eq]; omega
          have q2 : decide ((15 : Int) < ((t.length : Nat) : Int) + 1) = true := by simp only [decide_eq_true_eq]; simp only [List.length_cons] at h15; omega
          have q3 : decide (15 < t.length + 1) = true := by simp only [decide_eq_true_eq]; simp only [List.length_cons] at h15; omega
          have RR := HP'.out
          unfold powR at RR
          rw [trimL_other hx48, if_pos h15] at RR
          subst RR
          clear h15
          go_wp2
          go_ret2
          exact ⟨rfl, rfl⟩
        · have q1 : decide ((15 : Int) < (((x :: t).length : Nat) : Int)) = false := by simp only [decide_eq_false_iff_not]; omega
          have q2 : decide ((15 : Int) < ((t.length : Nat) : Int) + 1) = false := by simp only [decide_eq_false_iff_not]; simp only [List.length_cons] at h15; omega
          have q3 : decide (15 < t.length + 1) = false := by simp only [decide_eq_false_iff_not]; simp only [List.length_cons] at h15; omega
          have RR := HP'.out
          unfold powR at RR
          rw [trimL_other hx48, if_neg h15] at RR
          have RR' := Lib.hid RR
          have h15' := Lib.hid h15
          clear h15 RR
          go_wp2
          clear hk hx1 hx2 q1 q2 q3
          have HX := Lib.hid (show Digs (x :: t) from HD'.out)
          have HL := Lib.hid (show (x :: t).length ≤ 15 by have := h15'.out; omega)
          have hlen : t.length + 1 = (x :: t).length := rfl
          clear HD' h15'
          generalize hL : (x :: t).length = L at *
          generalize x :: t = r' at *
          have HLL := Lib.hid hL
          clear hL
          try rw [hlen] at *
          clear hlen
          clear HC' hx48
          go_loopg [5, 6] L (fun k v5 v6 wr => ∃ p : Nat, p + k = L ∧ v6 = .int .i64 p ∧ v5 = .int .i64 (decV (r'.take p)) ∧ w = wr)
          case atStart => exact ⟨0, by omega, rfl, rfl, rfl⟩
          case round =>
            obtain ⟨p, hk, rfl, rfl, rfl⟩ := hrel
            have HK2 := Lib.hid hk
            clear hk
            by_cases hp : p < L
            · have hp' : p < r'.length := by rw [HLL.out]; exact hp
              obtain ⟨b', off', e', hc'⟩ := HR'.out.get p hp'
              have e'' := Option.some.inj e'
              simp only [Addr.mk.injEq] at e''
              obtain ⟨rfl, rfl, -⟩ := e''
              have hdg := isD_range (HX.out _ (List.getElem_mem hp'))
              have hlt := decV_lt (r'.take p) (fun x hx => HX.out x (List.mem_of_mem_take hx)) 15 (by rw [List.length_take]; have := HL.out; omega)
              have HV : Hid (decV (r'.take (p + 1)) = decV (r'.take p) * 10 + (r'[p].toNat - 48)) := Lib.hid (by rw [take_snoc' r' p hp', decV_snoc])
              generalize r'[p].toNat = z at *
              generalize decV (r'.take p) = m at *
              have h1 : (48 : Int) ≤ z := by omega
              have h2 : (z : Int) ≤ 57 := by omega
              have h3 : (m : Int) ≤ 10000000000000000 := by omega
              have h4 : (0 : Int) ≤ m := by omega
              have g0 : decide ((p : Int) < (L : Int)) = true := by simp; omega
              have hp15 : p ≤ 15 := by have := HL.out; have := HLL.out; omega
              clear hlt hdg e' hp'
              go_wp2
              go_roundg (gk - 1)
              case measure => have := HK2.out; omega
              case rel => exact ⟨p + 1, by have := HK2.out; omega, by go_num, by rw [HV.out]; congr 1; omega, rfl⟩
            · have g0 : decide ((p : Int) < (L : Int)) = false := by simp; omega
              have g1 : decide (p < L) = false := by simp; omega
              have hlt := decV_lt r' HX.out 15 (by rw [HLL.out]; exact HL.out)
              have e1 : r'.take p = r' := List.take_of_length_le (by rw [HLL.out]; omega)
              rw [e1]
              generalize decV r' = m at *
              have h3 : (m : Int) ≤ 10000000000000000 := by omega
              have h4 : (0 : Int) ≤ m := by omega
              clear hlt e1
              have RR := RR'.out
              subst RR
              go_wp2
              go_ret2
              exact ⟨rfl, rfl⟩
set_option maxHeartbeats 2000000 in
theorem power_plus (A : Option Addr) (c B : Nat) (r : List UInt8) (R : Int × Bool) (hR : Hid (powR false r = R)) (w : World) (hr : RB w B A (43 :: r)) (hn : r.length ≤ 4294967281) (hc : r.length + 1 ≤ c) (hd : Hid (Digs r)) :
    Calls Tryz.prog 115 #[.slice A (r.length + 1) c] w fun e w' => e = .returned (.tuple #[.int .i64 R.1, .bool R.2]) ∧ w = w' := by
  obtain ⟨b, off, rfl, hk⟩ := hr.head
  have HR := Lib.hid (hr.tl1 hc)
  rw [show ((43 : UInt8).toNat : Int) = 43 from rfl] at hk
  clear hr
  have hs := slice_one (some ⟨b, off, none⟩) r.length c
  have HC := Lib.hid (show r.length ≤ c - 1 by omega)
  clear hc
  go_enter Tryz.func115, Tryz.ntmps115
  go_wp2
  clear hk hs
  go_loopg [0] r.length (fun k v wr => ∃ (A' : Option Addr) (c' : Nat) (r' : List UInt8), v = .slice A' r'.length c' ∧ r'.length = k ∧ Hid (RB w B A' r') ∧ Hid (r'.length ≤ c') ∧ Hid (Digs r') ∧ Hid (powR false r' = R) ∧ r'.length ≤ 4294967281 ∧ w = wr)
  case atStart => exact ⟨_, _, r, rfl, rfl, HR, HC, hd, hR, hn, rfl⟩
  case round =>
    obtain ⟨A', c', r', rfl, hk, HR', HC', HD', HP', hn', rfl⟩ := hrel
    have HK := Lib.hid hk
    clear hk HR HC hR hd
    cases r' with
    | nil =>
      have e0 : ([] : List UInt8).length = 0 := rfl
      have RR := HP'.out
      subst RR
      go_wp2
      go_loopg [5, 6] 0 (fun k v5 v6 wr => v6 = .int .i64 0 ∧ v5 = .int .i64 0 ∧ w = wr)
      case atStart => exact ⟨rfl, rfl, rfl⟩
      case round =>
        obtain ⟨rfl, rfl, rfl⟩ := hrel
        go_wp2
        go_ret2
        exact ⟨rfl, rfl⟩
    | cons x t =>
      obtain ⟨b', off', rfl, hk⟩ := HR'.out.head
      have hs := slice_one (some ⟨b', off', none⟩) t.length c'
      have HC1 := HC'.out
      simp only [List.length_cons] at hn' HC1
      have HT := Lib.hid (HR'.out.tl1 (c := c') HC1)
      have HC2 := Lib.hid HC1
      clear HC1
      by_cases hx : x = 48
      · subst hx
        rw [show ((48 : UInt8).toNat : Int) = 48 from rfl] at hk
        go_wp2
        go_roundg (gk - 1)
        case measure => have := HK.out; simp only [List.length_cons] at this; omega
        case rel => exact ⟨_, _, t, rfl, by have := HK.out; simp only [List.length_cons] at this; omega, HT, Lib.hid (by have := HC2.out; omega), Lib.hid (fun y hy => HD'.out y (List.mem_cons_of_mem _ hy)), Lib.hid (by rw [← HP'.out]; unfold powR; rw [trimL_nought]), by omega, rfl⟩
      · have hx48 := hx
        have hx1 : ((x.toNat : Int) == 48) = false := by
          rw [beq_eq_false_iff_ne]; intro h; exact hx (UInt8.toNat_inj.1 (show x.toNat = (48 : UInt8).toNat by have : (48 : UInt8).toNat = 48 := rfl; omega))
        have hx2 : (x.toNat == 48) = false := by
          rw [beq_eq_false_iff_ne]; intro h; exact hx (UInt8.toNat_inj.1 h)
        clear hx hs HT HC2
        by_cases h15 : 15 < (x :: t).length
        · have q1 : decide ((15 : Int) < (((x :: t).length : Nat) : Int)) = true := by simp only [decide_eq_true_eq]; omega
          have q2 : decide ((15 : Int) < ((t.length : Nat) : Int) + 1) = true := by simp only [decide_eq_true_eq]; simp only [List.length_cons] at h15; omega
          have q3 : decide (15 < t.length + 1) = true := by simp only [decide_eq_true_eq]; simp only [List.length_cons] at h15; omega
          have RR := HP'.out
          unfold powR at RR
          rw [trimL_other hx48, if_pos h15] at RR
          subst RR
          clear h15
          go_wp2
          go_ret2
          exact ⟨rfl, rfl⟩
        · have q1 : decide ((15 : Int) < (((x :: t).length : Nat) : Int)) = false := by simp only [decide_eq_false_iff_not]; omega
          have q2 : decide ((15 : Int) < ((t.length : Nat) : Int) + 1) = false := by simp only [decide_eq_false_iff_not]; simp only [List.length_cons] at h15; omega
          have q3 : decide (15 < t.length + 1) = false := by simp only [decide_eq_false_iff_not]; simp only [List.length_cons] at h15; omega
          have RR := HP'.out
          unfold powR at RR
          rw [trimL_other hx48, if_neg h15] at RR
          have RR' := Lib.hid RR
          have h15' := Lib.hid h15
          clear h15 RR
          go_wp2
          clear hk hx1 hx2 q1 q2 q3
          have HX := Lib.hid (show Digs (x :: t) from HD'.out)
          have HL := Lib.hid (show (x :: t).length ≤ 15 by have := h15'.out; omega)
          have hlen : t.length + 1 = (x :: t).length := rfl
          clear HD' h15'
          generalize hL : (x :: t).length = L at *
          generalize x :: t = r' at *
          have HLL := Lib.hid hL
          clear hL
          try rw [hlen] at *
          clear hlen
          clear HC' hx48
          go_loopg [5, 6] L (fun k v5 v6 wr => ∃ p : Nat, p + k = L ∧ v6 = .int .i64 p ∧ v5 = .int .i64 (decV (r'.take p)) ∧ w = wr)
          case atStart => exact ⟨0, by omega, rfl, rfl, rfl⟩
          case round =>
            obtain ⟨p, hk, rfl, rfl, rfl⟩ := hrel
            have HK2 := Lib.hid hk
            clear hk
            by_cases hp : p < L
            · have hp' : p < r'.length := by rw [HLL.out]; exact hp
              obtain ⟨b', off', e', hc'⟩ := HR'.out.get p hp'
              have e'' := Option.some.inj e'
              simp only [Addr.mk.injEq] at e''
              obtain ⟨rfl, rfl, -⟩ := e''
              have hdg := isD_range (HX.out _ (List.getElem_mem hp'))
              have hlt := decV_lt (r'.take p) (fun x hx => HX.out x (List.mem_of_mem_take hx)) 15 (by rw [List.length_take]; have := HL.out; omega)
              have HV : Hid (decV (r'.take (p + 1)) = decV (r'.take p) * 10 + (r'[p].toNat - 48)) := Lib.hid (by rw [take_snoc' r' p hp', decV_snoc])
              generalize r'[p].toNat = z at *
              generalize decV (r'.take p) = m at *
              have h1 : (48 : Int) ≤ z := by omega
              have h2 : (z : Int) ≤ 57 := by omega
              have h3 : (m : Int) ≤ 10000000000000000 := by omega
              have h4 : (0 : Int) ≤ m := by omega
              have g0 : decide ((p : Int) < (L : Int)) = true := by simp; omega
              have hp15 : p ≤ 15 := by have := HL.out; have := HLL.out; omega
              clear hlt hdg e' hp'
              go_wp2
              go_roundg (gk - 1)
              case measure => have := HK2.out; omega
              case rel => exact ⟨p + 1, by have := HK2.out; omega, by go_num, by rw [HV.out]; congr 1; omega, rfl⟩
            · have g0 : decide ((p : Int) < (L : Int)) = false := by simp; omega
              have g1 : decide (p < L) = false := by simp; omega
              have hlt := decV_lt r' HX.out 15 (by rw [HLL.out]; exact HL.out)
              have e1 : r'.take p = r' := List.take_of_length_le (by rw [HLL.out]; omega)
              rw [e1]
              generalize decV r' = m at *
              have h3 : (m : Int) ≤ 10000000000000000 := by omega
              have h4 : (0 : Int) ≤ m := by omega
              clear hlt e1
              have RR := RR'.out
              subst RR
              go_wp2
              go_ret2
              exact ⟨rfl, rfl⟩
set_option maxHeartbeats 2000000 in
theorem power_digit (A : Option Addr) (c B : Nat) (y : UInt8) (s : List UInt8) (R : Int × Bool) (hR : Hid (powR false (y :: s) = R)) (w : World) (hr : RB w B A (y :: s)) (hn : s.length ≤ 4294967280) (hc : s.length + 1 ≤ c) (hd : Hid (Digs (y :: s))) :
    Calls Tryz.prog 115 #[.slice A (s.length + 1) c] w fun e w' => e = .returned (.tuple #[.int .i64 R.1, .bool R.2]) ∧ w = w' := by
  have HR := Lib.hid hr
  obtain ⟨b, off, rfl, hk⟩ := hr.head
  clear hr
  have hy := isD_range (hd.out y (List.mem_cons_self ..))
  have k1 : ((y.toNat : Int) == 45) = false := by rw [beq_eq_false_iff_ne]; omega
  have k2 : ((y.toNat : Int) == 43) = false := by rw [beq_eq_false_iff_ne]; omega
  have k3 : (y.toNat == 45) = false := by rw [beq_eq_false_iff_ne]; omega
  have k4 : (y.toNat == 43) = false := by rw [beq_eq_false_iff_ne]; omega
  have HC := Lib.hid (show (y :: s).length ≤ c by simp only [List.length_cons]; omega)
  clear hc hy
  go_enter Tryz.func115, Tryz.ntmps115
  go_wp2
  clear hk k1 k2 k3 k4
  go_loopg [0] (y :: s).length (fun k v wr => ∃ (A' : Option Addr) (c' : Nat) (r' : List UInt8), v = .slice A' r'.length c' ∧ r'.length = k ∧ Hid (RB w B A' r') ∧ Hid (r'.length ≤ c') ∧ Hid (Digs r') ∧ Hid (powR false r' = R) ∧ r'.length ≤ 4294967281 ∧ w = wr)
  case atStart => exact ⟨_, _, (y :: s), rfl, rfl, HR, HC, hd, hR, by simp only [List.length_cons]; omega, rfl⟩
  case round =>
    obtain ⟨A', c', r', rfl, hk, HR', HC', HD', HP', hn', rfl⟩ := hrel
    have HK := Lib.hid hk
    clear hk HR HC hR hd
    cases r' with
    | nil =>
      have e0 : ([] : List UInt8).length = 0 := rfl
      have RR := HP'.out
      subst RR
      go_wp2
      go_loopg [5, 6] 0 (fun k v5 v6 wr => v6 = .int .i64 0 ∧ v5 = .int .i64 0 ∧ w = wr)
      case atStart => exact ⟨rfl, rfl, rfl⟩
      case round =>
        obtain ⟨rfl, rfl, rfl⟩ := hrel
        go_wp2
        go_ret2
        exact ⟨rfl, rfl⟩
    | cons x t =>
      obtain ⟨b', off', rfl, hk⟩ := HR'.out.head
      have hs := slice_one (some ⟨b', off', none⟩) t.length c'
      have HC1 := HC'.out
      simp only [List.length_cons] at hn' HC1
      have HT := Lib.hid (HR'.out.tl1 (c := c') HC1)
      have HC2 := Lib.hid HC1
      clear HC1
      by_cases hx : x = 48
      · subst hx
        rw [show ((48 : UInt8).toNat : Int) = 48 from rfl] at hk
        go_wp2
        go_roundg (gk - 1)
        case measure => have := HK.out; simp only [List.length_cons] at this; omega
        case rel => exact ⟨_, _, t, rfl, by have := HK.out; simp only [List.length_cons] at this; omega, HT, Lib.hid (by have := HC2.out; omega), Lib.hid (fun y hy => HD'.out y (List.mem_cons_of_mem _ hy)), Lib.hid (by rw [← HP'.out]; unfold powR; rw [trimL_nought]), by omega, rfl⟩
      · have hx48 := hx
        have hx1 : ((x.toNat : Int) == 48) = false := by
          rw [beq_eq_false_iff_ne]; intro h; exact hx (UInt8.toNat_inj.1 (show x.toNat = (48 : UInt8).toNat by have : (48 : UInt8).toNat = 48 := rfl; omega))
        have hx2 : (x.toNat == 48) = false := by
          rw [beq_eq_false_iff_ne]; intro h; exact hx (UInt8.toNat_inj.1 h)
        clear hx hs HT HC2
        by_cases h15 : 15 < (x :: t).length
        · have q1 : decide ((15 : Int) < (((x :: t).length : Nat) : Int)) = true := by simp only [decide_eq_true_eq]; omega
          have q2 : decide ((15 : Int) < ((t.length : Nat) : Int) + 1) = true := by simp only [decide_eq_true_eq]; simp only [List.length_cons] at h15; omega
          have q3 : decide (15 < t.length + 1) = true := by simp only [decide_eq_true_eq]; simp only [List.length_cons] at h15; omega
          have RR := HP'.out
          unfold powR at RR
          rw [trimL_other hx48, if_pos h15] at RR
          subst RR
          clear h15
          go_wp2
          go_ret2
          exact ⟨rfl, rfl⟩
        · have q1 : decide ((15 : Int) < (((x :: t).length : Nat) : Int)) = false := by simp only [decide_eq_false_iff_not]; omega
          have q2 : decide ((15 : Int) < ((t.length : Nat) : Int) + 1) = false := by simp only [decide_eq_false_iff_not]; simp only [List.length_cons] at h15; omega
          have q3 : decide (15 < t.length + 1) = false := by simp only [decide_eq_false_iff_not]; simp only [List.length_cons] at h15; omega
          have RR := HP'.out
          unfold powR at RR
          rw [trimL_other hx48, if_neg h15] at RR
          have RR' := Lib.hid RR
          have h15' := Lib.hid h15
          clear h15 RR
          go_wp2
          clear hk hx1 hx2 q1 q2 q3
          have HX := Lib.hid (show Digs (x :: t) from HD'.out)
          have HL := Lib.hid (show (x :: t).length ≤ 15 by have := h15'.out; omega)
          have hlen : t.length + 1 = (x :: t).length := rfl
          clear HD' h15'
          generalize hL : (x :: t).length = L at *
          generalize x :: t = r' at *
          have HLL := Lib.hid hL
          clear hL
          try rw [hlen] at *
          clear hlen
          clear HC' hx48
          go_loopg [5, 6] L (fun k v5 v6 wr => ∃ p : Nat, p + k = L ∧ v6 = .int .i64 p ∧ v5 = .int .i64 (decV (r'.take p)) ∧ w = wr)
          case atStart => exact ⟨0, by omega, rfl, rfl, rfl⟩
          case round =>
            obtain ⟨p, hk, rfl, rfl, rfl⟩ := hrel
            have HK2 := Lib.hid hk
            clear hk
            by_cases hp : p < L
            · have hp' : p < r'.length := by rw [HLL.out]; exact hp
              obtain ⟨b', off', e', hc'⟩ := HR'.out.get p hp'
              have e'' := Option.some.inj e'
              simp only [Addr.mk.injEq] at e''
              obtain ⟨rfl, rfl, -⟩ := e''
              have hdg := isD_range (HX.out _ (List.getElem_mem hp'))
              have hlt := decV_lt (r'.take p) (fun x hx => HX.out x (List.mem_of_mem_take hx)) 15 (by rw [List.length_take]; have := HL.out; omega)
              have HV : Hid (decV (r'.take (p + 1)) = decV (r'.take p) * 10 + (r'[p].toNat - 48)) := Lib.hid (by rw [take_snoc' r' p hp', decV_snoc])
              generalize r'[p].toNat = z at *
              generalize decV (r'.take p) = m at *
              have h1 : (48 : Int) ≤ z := by omega
              have h2 : (z : Int) ≤ 57 := by omega
              have h3 : (m : Int) ≤ 10000000000000000 := by omega
              have h4 : (0 : Int) ≤ m := by omega
              have g0 : decide ((p : Int) < (L : Int)) = true := by simp; omega
              have hp15 : p ≤ 15 := by have := HL.out; have := HLL.out; omega
              clear hlt hdg e' hp'
              go_wp2
              go_roundg (gk - 1)
              case measure => have := HK2.out; omega
              case rel => exact ⟨p + 1, by have := HK2.out; omega, by go_num, by rw [HV.out]; congr 1; omega, rfl⟩
            · have g0 : decide ((p : Int) < (L : Int)) = false := by simp; omega
              have g1 : decide (p < L) = false := by simp; omega
              have hlt := decV_lt r' HX.out 15 (by rw [HLL.out]; exact HL.out)
              have e1 : r'.take p = r' := List.take_of_length_le (by rw [HLL.out]; omega)
              rw [e1]
              generalize decV r' = m at *
              have h3 : (m : Int) ≤ 10000000000000000 := by omega
              have h4 : (0 : Int) ≤ m := by omega
              clear hlt e1
              have RR := RR'.out
              subst RR
              go_wp2
              go_ret2
              exact ⟨rfl, rfl⟩
end Go.Proofs.YthndgekjccclnaaGreatDoor
