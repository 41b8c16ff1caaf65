/-
  Layer 9 (number): the walk of the closed statement NumberNames: it returns true.
-/
import Derived.Test.YthndgekjccclnaaGreatDoorNumLawSame
import Derived.Test.YthndgekjccclnaaGreatDoorNumLawInts
import Derived.Test.YthndgekjccclnaaGreatDoorNumLawChecks
import Derived.WalkKit
import Derived.WalkSpells
import Derived.WalkLawsBesides
import Derived.BigQuiet
import Derived.Deep.QuietTactic
import Derived.Deep.LoopGhost
import Derived.StillTailTactics
import Derived.Deep.RegionHeld3
import Derived.Deep.DeepFit
import Derived.Lib.Hide
namespace Go.Proofs.YthndgekjccclnaaGreatDoor
open Go.RowKit Num
set_option linter.unusedVariables false
set_option linter.unusedSimpArgs false

def strOk : Value → Bool
  | .string s => decide (s.size ≤ 1000)
  | _ => false
/-- the row of texts lies in block g -/
def LS (w : World) (g n : Nat) : Prop := g < w.heap.size ∧ ∀ j, j < n → ∃ s, w.cell? ⟨g, j, none⟩ = some (.string s) ∧ s.size ≤ 1000
theorem LS.new (w : World) (cs : Array Value) (T : TypeId) (n : Nat) (hn : cs.size = n) (h : cs.all strOk = true) : LS (w.alloc (.cells cs T)) w.heap.size n := by
  subst hn
  refine ⟨by simp, fun j hj => ?_⟩
  have h1 := (Array.all_eq_true.1 h) j hj
  rw [cell_of_row _ _ j _ _ _ (heap_alloc_new w _), Array.getElem?_eq_getElem hj]
  revert h1
  cases cs[j] <;> intro h1 <;> first | (exact ⟨_, rfl, of_decide_eq_true h1⟩) | cases h1
theorem LS.on {w w' : World} {g n : Nat} (h : LS w g n) (hb : Below w.heap.size w w') : LS w' g n :=
  ⟨Nat.lt_of_lt_of_le h.1 hb.size, fun j hj => by obtain ⟨s, e, hs⟩ := h.2 j hj; exact ⟨s, (hb.cell (p := ⟨g, j, none⟩) h.1).trans e, hs⟩⟩

set_option maxRecDepth 100000 in
set_option maxHeartbeats 4000000 in
theorem NumberNames_walk (w : World) (hM : ML w) :
    Calls Tryz.prog 3 #[] w fun e w' => e = .returned (.bool true) ∧ Below w.heap.size w w' := by
  have HM := Lib.hid hM
  clear hM
  go_enter Tryz.func3, Tryz.ntmps3
  go_wp2_with fail
  go_loopg [2, 3, 4] 51 (fun q v v3 v4 wr => ∃ p : Nat, p + q = 51 ∧ v = .int .i64 p ∧ Below w.heap.size w wr ∧ LS wr w.heap.size 51)
  case atStart => exact ⟨0, rfl, rfl, (Below.refl _ _).alloc (Nat.le_refl _) _, LS.new _ _ _ _ rfl (by decide +kernel)⟩
  case round =>
    obtain ⟨p, hp, rfl, hB, hL⟩ := hrel
    have HP := Lib.hid hp
    have HB := Lib.hid hB
    have HL := Lib.hid hL
    by_cases hlt : p < 51
    · have hp' : p ≤ 51 := by omega
      have hd0 : decide ((p : Int) < 51) = true := by simp; omega
      obtain ⟨s, hs, hsz⟩ := hL.2 p hlt
      have HS := Lib.hid hs
      have hsz' := list_len s
      clear hp hB hL hs
      go_wp2_with fail
      obtain ⟨wo, rfl⟩ : ∃ wo : World, wo = wr := ⟨_, rfl⟩
      go_loopg [3] 51 (fun q v wr => ∃ k : Nat, k + q = 51 ∧ v = .int .i64 k ∧ Below w.heap.size w wr ∧ LS wr w.heap.size 51 ∧ wr.cell? ⟨w.heap.size, p, none⟩ = some (.string s))
      case atStart => exact ⟨0, rfl, rfl, HB.out, HL.out, HS.out⟩
      case round =>
        obtain ⟨k, hk, rfl, hB, hL, hs⟩ := hrel
        have HK := Lib.hid hk
        have HB1 := Lib.hid hB
        have HL1 := Lib.hid hL
        have HS1 := Lib.hid hs
        have HM1 := Lib.hid (HM.out.on hB)
        by_cases hlt2 : k < 51
        · obtain ⟨s2, hs2, hsz2⟩ := hL.2 k hlt2
          have hsz2' := list_len s2
          have C1 := Lib.hid (fun W (hW : ML W) => NumberSame_walk s s2 W (by omega) (by omega) hW)
          have i1 : (0 : Int) ≤ p := by omega
          have i2 : (p : Int) < 51 := by omega
          have i3 : (0 : Int) ≤ k := by omega
          have i4 : (k : Int) < 51 := by omega
          clear hk hB hL hsz hsz' hsz2 hsz2'
          go_wp2_with fail
          go_still_tail 8, (by kernel_rfl)
          change wpList _ _ _ _ _ wr.drew
          have HM2 : Hid (ML wr.drew) := HM1.out
          have HB2 : Hid (Below w.heap.size w wr.drew) := HB1.out.drew
          have HL2 : Hid (LS wr.drew w.heap.size 51) := HL1.out
          have HS2 : Hid (wr.drew.cell? ⟨w.heap.size, p, none⟩ = some (.string s)) := HS1.out
          generalize wr.drew = w2 at *
          go_wp2_with fail
          refine (C1.out _ HM2.out).mono ?_
          rintro e w3 ⟨rfl, hb⟩
          have HB3 := Lib.hid (HB2.out.trans (hb.mono HB2.out.size))
          have HL3 := Lib.hid (HL2.out.on hb)
          have HS3 := Lib.hid ((hb.cell (p := ⟨w.heap.size, p, none⟩) HL2.out.1).trans HS2.out)
          clear hb
          go_wp2
          go_roundg (gk - 1)
          case measure => have := HK.out; omega
          case rel => exact ⟨k + 1, by have := HK.out; omega, by go_num, HB3.out, HL3.out, HS3.out⟩
        · clear hs hB hL hk
          have h1 : decide ((k : Int) < 51) = false := by simp; omega
          go_wp2_with fail
          obtain ⟨wp, rfl⟩ : ∃ wp : World, wp = wr := ⟨_, rfl⟩
          go_loopg [4] (s.size + 4) (fun q v wr => ∃ k : Nat, k + q = s.size + 4 ∧ v = .int .i64 ((k : Int) - 1) ∧ Below w.heap.size w wr ∧ LS wr w.heap.size 51 ∧ wr.cell? ⟨w.heap.size, p, none⟩ = some (.string s))
          case atStart => exact ⟨0, by omega, rfl, HB1.out, HL1.out, HS1.out⟩
          case round =>
            obtain ⟨k2, hk, rfl, hB, hL, hs⟩ := hrel
            have HK2 := Lib.hid hk
            have HB2 := Lib.hid hB
            have HL2 := Lib.hid hL
            have HS2 := Lib.hid hs
            have HM2 := Lib.hid (HM.out.on hB)
            have i1 : (0 : Int) ≤ p := by omega
            have i2 : (p : Int) < 51 := by omega
            have i5 : (k2 : Int) ≤ s.size + 4 := by omega
            have kc := fun (W : World) => Lib.run_convert_string_bytes (P := Tryz.prog) W 9 25 5 s Tryz.underlying9 Tryz.underlying25 Tryz.underlying5
            by_cases hlt3 : (k2 : Int) - 1 < (s.size : Int) + 2
            · have C2 := Lib.hid (fun (W : World) c (hW : ML W) => NumberChecks_walk (some ⟨W.heap.size, 0, none⟩) c s.data.toList ((k2 : Int) - 1) (Lib.bytesWorld W 5 s) (bytes_RB W s _ rfl _ (by rw [Lib.bytesWorld_size]; omega)) (by omega) (hW.on (bytes_below (Below.refl _ _) (Nat.le_refl _) _ _)))
              rw [list_len] at C2
              clear hk hB hL
              go_wp2_with fail
              refine (C2.out _ _ HM2.out).mono ?_
              rintro e w3 ⟨rfl, hb⟩
              have hb2 := (bytes_below (Below.refl wr.heap.size wr) (Nat.le_refl _) 5 s).trans (hb.mono (by rw [Lib.bytesWorld_size]; omega))
              have HB3 := Lib.hid (HB2.out.trans (hb2.mono HB2.out.size))
              have HL3 := Lib.hid (HL2.out.on hb2)
              have HS3 := Lib.hid ((hb2.cell (p := ⟨w.heap.size, p, none⟩) HL2.out.1).trans HS2.out)
              clear hb hb2 kc
              go_wp2
              go_roundg (gk - 1)
              case measure => have := HK2.out; omega
              case rel => exact ⟨k2 + 1, by have := HK2.out; omega, by go_num, HB3.out, HL3.out, HS3.out⟩
            · clear hk hB hL kc
              have h1 : decide ((k2 : Int) - 1 < (s.size : Int) + 2) = false := by simp; omega
              have C3 := Lib.hid (fun W (hW : ML W) => NumberInts_walk s W (by omega) hW)
              go_wp2_with fail
              refine (C3.out _ HM2.out).mono ?_
              rintro e w3 ⟨rfl, hb⟩
              have HB3 := Lib.hid (HB2.out.trans (hb.mono HB2.out.size))
              have HL3 := Lib.hid (HL2.out.on hb)
              clear hb
              go_wp2
              go_roundg (51 - (p + 1))
              case measure => have := HP.out; omega
              case rel => exact ⟨p + 1, by have := HP.out; omega, by go_num, HB3.out, HL3.out⟩
    · have HM1 := Lib.hid (HM.out.on hB)
      clear hp hB hL
      have h1 : decide ((p : Int) < 51) = false := by simp; omega
      go_wp2_with fail
      refine (awake_true _ HM1.out).mono ?_
      rintro e w3 ⟨rfl, hb⟩
      have HB3 := Lib.hid (HB.out.trans (hb.mono HB.out.size))
      clear hb
      go_wp2
      go_ret
      exact ⟨rfl, HB3.out⟩
end Go.Proofs.YthndgekjccclnaaGreatDoor
