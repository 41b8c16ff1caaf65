/-
  Layer 9 (number), the walks: the helpers colophonref00.CopyBytes, EqBytes, Bring.
-/
import Derived.Test.YthndgekjccclnaaGreatDoorNumRefCheck
import Derived.Test.YthndgekjccclnaaGreatDoorNumInt
import Derived.WalkKit
import Derived.WalkSpells
import Derived.WalkLawsBesides
import Derived.BigQuiet
import Derived.Deep.QuietTactic
import Derived.Deep.DeepCutAuto
import Derived.Lib.Hide
import Derived.Laws.AppendOwn
import Derived.OwnWalk
namespace Go.Proofs.YthndgekjccclnaaGreatDoor
open Go.RowKit Num
set_option linter.unusedVariables false
set_option linter.unusedSimpArgs false

theorem info5u : (Tryz.prog.info? 5).map (fun i => (i.zero, i.size, i.bytes)) = some (some (.int .u8 0), 1, 1) := by kernel_rfl
def cellsOf (l : List UInt8) : List Value := l.map fun b => .int .u8 (b.toNat : Int)
theorem cellsOf_get (l : List UInt8) (j : Nat) (h : j < l.length) : (cellsOf l)[j]? = some (.int .u8 (l[j].toNat : Int)) := by simp [cellsOf, h]
/-- What a row of one's own holds is read. -/
theorem RB_of_own {w : World} {base n : Nat} {v : Value} {l : List UInt8} (h : w.ownsRow base 5 1 v n (cellsOf l)) : ∃ A c, v = .slice A l.length c ∧ RB w w.heap.size A l := by
  obtain ⟨h1, h2⟩ := h
  have hn : n = l.length := by simpa [cellsOf] using h1.symm
  rcases h2 with ⟨rfl, h0⟩ | ⟨g, cap, cur, rfl, _, hg, _, _, hz, ht⟩
  · have : l = [] := List.eq_nil_of_length_eq_zero (by omega)
    subst this
    exact ⟨none, 0, rfl, .inl rfl⟩
  · subst hn
    refine ⟨_, _, rfl, .inr ⟨g, 0, rfl, (Array.getElem?_eq_some_iff.1 hg).1, fun j hj => ?_⟩⟩
    rw [cell_of_row w g (0 + j) cur _ _ hg, Nat.zero_add]
    have e := congrArg (fun x => x[j]?) ht
    simp only [Nat.mul_one] at e
    rw [cellsOf_get l j hj, List.getElem?_take_of_lt hj] at e
    simpa using e
theorem cellsOf_one (l : List UInt8) : ∀ u ∈ cellsOf l, u.oneCell' = true := by
  intro u hu
  simp only [cellsOf, List.mem_map] at hu
  obtain ⟨b, _, rfl⟩ := hu
  rfl

/-- a slice of bytes was handed back -/
def OwnBytes (l : List UInt8) (e : Ending) (w' : World) : Prop := ∃ A' c', e = .returned (.slice A' l.length c') ∧ RB w' w'.heap.size A' l
set_option maxHeartbeats 400000 in
theorem CopyBytes_any (A : Option Addr) (c : Nat) (l : List UInt8) (w : World) (hr : RB w w.heap.size A l) (hn : l.length ≤ 140737488355328) :
    Calls Tryz.prog 57 #[.slice A l.length c] w fun e w' => OwnBytes l e w' ∧ Below w.heap.size w w' := by
  rcases A with _ | ⟨b, off, x⟩
  · have hl : l = [] := by
      rcases hr with h | ⟨_, _, h, _⟩
      · exact h
      · cases h
    subst hl
    clear hr
    go_enter Tryz.func57, Tryz.ntmps57
    go_wp2
    go_ret
    exact ⟨⟨none, 0, rfl, .inl rfl⟩, Below.refl _ _⟩
  · have hcl : ∀ (j : Nat) u, (cellsOf l)[j]? = some u → w.cell? ((⟨b, off, x⟩ : Addr).add j) = some u := by
      intro j u hu
      have hj : j < l.length := by
        have := (List.getElem?_eq_some_iff.1 hu).1
        simpa [cellsOf] using this
      rw [cellsOf_get l j hj] at hu
      rcases hr with h | ⟨b', off', h, _, hc⟩
      · subst h; simp at hj
      · have h' := Option.some.inj h
        simp only [Addr.mk.injEq] at h'
        obtain ⟨rfl, rfl, rfl⟩ := h'
        rw [← Option.some.inj hu]
        have e : (⟨b, off, none⟩ : Addr).add j = ⟨b, off + j, none⟩ := by unfold Addr.add; split <;> simp_all
        rw [e]
        exact hc j hj
    obtain ⟨i0, hi, hz0, hz1, hz2⟩ := info_parts info5u
    have HC := Lib.hid hcl
    have hlen : (cellsOf l).length = l.length := by simp [cellsOf]
    have HL := Lib.hid hlen
    clear hr hcl hlen
    go_enter Tryz.func57, Tryz.ntmps57
    go_wp2_with (at_builtin; refine wpList_append_own _ rfl (.tmp 4) (.tmp 5) 25 rfl w.heap.size 5 i0 (.int .u8 0) 1 1 Tryz.underlying25 hi hz0 hz1 hz2 rfl (by decide) (.slice none 0 0) 0 [] rfl (World.ownsRow_nil _ _ _ _) ⟨b, off, x⟩ l.length c (cellsOf l) rfl (by rw [HL.out, Nat.mul_one]) HC.out (cellsOf_one l) (by unfold maxLen; omega) (by omega) (Nat.le_refl _) ?_; intro v' w1 hown hgrow _)
    rw [Nat.zero_add, List.nil_append] at hown
    obtain ⟨A', c', rfl, hrb⟩ := RB_of_own hown
    have hbel : Below w.heap.size w w1 := (Below.refl _ w).grown hgrow (Nat.le_refl _) (fun k hk => by cases hk)
    clear hown hgrow hz0 hz1 hz2 hi
    have HA := Lib.hid hrb
    have HB := Lib.hid hbel
    clear hrb hbel
    go_wp2
    go_ret
    exact ⟨⟨A', c', rfl, HA.out⟩, HB.out⟩

def eqB (a b : List UInt8) : Bool := decide (a = b)
set_option maxHeartbeats 1000000 in
/-- EqBytes. -/
theorem EqBytes_any (A A' : Option Addr) (c c' B : Nat) (l r : List UInt8) (w : World) (hl : RB w B A l) (hr : RB w B A' r) (hn : l.length ≤ 140737488355328) (hn' : r.length ≤ 140737488355328) :
    Calls Tryz.prog 60 #[.slice A l.length c, .slice A' r.length c'] w fun e w' => e = .returned (.bool (eqB l r)) ∧ ∃ n, w' = w.drewN n := by
  by_cases hlen : l.length = r.length
  · have hq : ((l.length : Int) != (r.length : Int)) = false := by rw [hlen]; simp
    have HLN := Lib.hid hlen
    have HL := Lib.hid hl
    have HR := Lib.hid hr
    have hle : l.length ≤ r.length := by omega
    clear hl hr hlen
    go_enter Tryz.func60, Tryz.ntmps60
    go_wp2
    go_loopg [5] l.length (fun k v wr => ∃ p : Nat, p + k = l.length ∧ v = .int .i64 p ∧ (∃ n, wr = w.drewN n) ∧ l.take p = r.take p)
    case atStart => exact ⟨0, by omega, rfl, ⟨0, rfl⟩, rfl⟩
    case round =>
      obtain ⟨p, hk, rfl, ⟨n, rfl⟩, hp⟩ := hrel
      have HK := Lib.hid hk
      have HP := Lib.hid hp
      clear hk hp
      by_cases hlt : p < l.length
      · have hlt' : p < r.length := by omega
        have e1 : (p : Int) < (l.length : Int) := by omega
        have e2 : (p : Int) < (r.length : Int) := by omega
        have e0 : (0 : Int) ≤ p := by omega
        rcases HL.out with h | ⟨b, off, rfl, -, hc⟩
        · subst h; simp at hlt
        rcases HR.out with h | ⟨b', off', rfl, -, hc'⟩
        · subst h; simp at hlt'
        have k1 := hc p hlt
        have k2 := hc' p hlt'
        clear hc hc'
        by_cases hx : l[p] = r[p]
        · have HX := Lib.hid hx
          rw [hx] at k1
          generalize r[p].toNat = z at *
          clear hx
          go_wp2_with fail
          go_quiet (fail)
          go_wp2
          go_roundg (gk - 1)
          case measure => have := HK.out; omega
          case rel => exact ⟨p + 1, by have := HK.out; omega, by go_num, ⟨n + nq, by simp⟩, by rw [take_snoc' l p hlt, take_snoc' r p hlt', HP.out, HX.out]⟩
        · have hx2 : l[p].toNat ≠ r[p].toNat := fun h => hx (UInt8.toNat_inj.1 h)
          have he : eqB l r = false := by
            unfold eqB; rw [decide_eq_false_iff_not]; intro h; subst h; exact hx rfl
          have HE := Lib.hid he
          generalize l[p].toNat = z at *
          generalize r[p].toNat = y at *
          have hq1 : ((z : Int) != (y : Int)) = true := by rw [bne_iff_ne]; omega
          have hq2 : ((z : Int) == (y : Int)) = false := by rw [beq_eq_false_iff_ne]; omega
          clear hx he hx2
          go_wp2_with fail
          go_quiet (fail)
          go_wp2
          go_ret
          exact ⟨ret_bool HE.out.symm, n + nq, by simp⟩
      · have he : eqB l r = true := by
          have h1 := HP.out
          rw [List.take_of_length_le (by omega), List.take_of_length_le (by have := HLN.out; omega)] at h1
          unfold eqB; rw [h1]; simp
        have HE := Lib.hid he
        clear he
        have h1 : decide (p < l.length) = false := by simp; omega
        go_wp2
        go_ret
        exact ⟨ret_bool HE.out.symm, n, rfl⟩
  · have hq : ((l.length : Int) != (r.length : Int)) = true := by rw [bne_iff_ne]; omega
    have hq2 : (l.length != r.length) = true := by rw [bne_iff_ne]; exact hlen
    have HE := Lib.hid (show eqB l r = false by unfold eqB; rw [decide_eq_false_iff_not]; intro h; exact hlen (by rw [h]))
    clear hl hr hlen
    go_enter Tryz.func60, Tryz.ntmps60
    go_wp2
    go_ret
    exact ⟨ret_bool HE.out.symm, 0, rfl⟩
end Go.Proofs.YthndgekjccclnaaGreatDoor
