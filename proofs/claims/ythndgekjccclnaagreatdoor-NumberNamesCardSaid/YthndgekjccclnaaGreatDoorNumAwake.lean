/-
  Layer 9 (number), the walks: the statements' own helpers (ends, fails, whole, none) where they answer true, and the chapter's examples (awake).
-/
import Derived.Test.YthndgekjccclnaaGreatDoorNumInt
import Derived.WalkKit
import Derived.WalkSpells
import Derived.WalkLawsBesides
import Derived.Lib.Hide
namespace Go.Proofs.YthndgekjccclnaaGreatDoor
open Go.RowKit Num
set_option linter.unusedVariables false
set_option linter.unusedSimpArgs false

set_option maxHeartbeats 400000 in
/-- a number ends there -/
theorem ends_true (s : ByteArray) (l : List UInt8) (h : s.data.toList = l) (at' : Int) (w : World) (hl : l.length < 4294967281) (hk : ∃ n : Nat, at' = n ∧ checkN l 0 = (n, 0)) :
    Calls Tryz.prog 63 #[.string s, .int .i64 at'] w fun e w' => e = .returned (.bool true) ∧ Below w.heap.size w w' := by
  have HC := Lib.hid (fun W g c hg => Check_bytes s l h W g c hg (by omega))
  have kc := fun (W : World) => Lib.run_convert_string_bytes (P := Tryz.prog) W 9 25 5 s Tryz.underlying9 Tryz.underlying25 Tryz.underlying5
  obtain ⟨n, rfl, hk⟩ := hk
  rw [hk] at HC
  clear hk h
  go_enter Tryz.func63, Tryz.ntmps63
  go_wp2_with fail
  refine (HC.out _ _ _ rfl).mono ?_
  rintro e w1 ⟨rfl, hb⟩
  have HB := Lib.hid ((bytes_below (Below.refl w.heap.size w) (Nat.le_refl _) 5 s).trans (hb.mono (by omega)))
  clear hb kc
  go_wp2
  go_ret
  exact ⟨rfl, HB.out⟩

set_option maxHeartbeats 400000 in
/-- that is wrong -/
theorem fails_true (s : ByteArray) (l : List UInt8) (h : s.data.toList = l) (want : Int) (w : World) (hl : l.length < 4294967281) (hk : checkN l 0 = (0, want)) :
    Calls Tryz.prog 64 #[.string s, .int .i64 want] w fun e w' => e = .returned (.bool true) ∧ Below w.heap.size w w' := by
  have HC := Lib.hid (fun W g c hg => Check_bytes s l h W g c hg (by omega))
  have kc := fun (W : World) => Lib.run_convert_string_bytes (P := Tryz.prog) W 9 25 5 s Tryz.underlying9 Tryz.underlying25 Tryz.underlying5
  rw [hk] at HC
  clear hk h
  go_enter Tryz.func64, Tryz.ntmps64
  go_wp2_with fail
  refine (HC.out _ _ _ rfl).mono ?_
  rintro e w1 ⟨rfl, hb⟩
  have HB := Lib.hid ((bytes_below (Below.refl w.heap.size w) (Nat.le_refl _) 5 s).trans (hb.mono (by omega)))
  clear hb kc
  go_wp2
  go_ret
  exact ⟨rfl, HB.out⟩

set_option maxHeartbeats 400000 in
theorem whole_true (s : ByteArray) (l : List UInt8) (h : s.data.toList = l) (want : Int) (w : World) (hM : ML w) (hl : l.length < 4294967281) (hk : int l = (want, true)) :
    Calls Tryz.prog 65 #[.string s, .int .i64 want] w fun e w' => e = .returned (.bool true) ∧ Below w.heap.size w w' := by
  have HC := Lib.hid (Int_any s l h w hM hl)
  rw [hk] at HC
  clear hk h hM
  go_enter Tryz.func65, Tryz.ntmps65
  go_wp2_with fail
  refine (HC.out).mono ?_
  rintro e w1 ⟨rfl, hb⟩
  have HB := Lib.hid hb
  clear hb
  go_wp2
  go_ret
  exact ⟨rfl, HB.out⟩

set_option maxHeartbeats 400000 in
theorem none_true (s : ByteArray) (l : List UInt8) (h : s.data.toList = l) (w : World) (hM : ML w) (hl : l.length < 4294967281) (hk : int l = (0, false)) :
    Calls Tryz.prog 66 #[.string s] w fun e w' => e = .returned (.bool true) ∧ Below w.heap.size w w' := by
  have HC := Lib.hid (Int_any s l h w hM hl)
  rw [hk] at HC
  clear hk h hM
  go_enter Tryz.func66, Tryz.ntmps66
  go_wp2_with fail
  refine (HC.out).mono ?_
  rintro e w1 ⟨rfl, hb⟩
  have HB := Lib.hid hb
  clear hb
  go_wp2
  go_ret
  exact ⟨rfl, HB.out⟩

theorem same_is (a b : ByteArray) (la lb : List UInt8) (ha : a.data.toList = la) (hb : b.data.toList = lb) (v : Bool) (w : World) (hM : ML w) (hla : la.length < 4294967281) (hlb : lb.length < 4294967281) (hv : same la lb = v) :
    Calls Tryz.prog 55 #[.string a, .string b] w fun e w' => e = .returned (.bool v) ∧ Below w.heap.size w w' := by
  subst hv
  exact Same_any a b la lb ha hb w hM hla hlb

set_option maxRecDepth 100000 in
set_option maxHeartbeats 4000000 in
/-- The chapter's examples. -/
theorem awake_true (w : World) (hM : ML w) : Calls Tryz.prog 16 #[] w fun e w' => e = .returned (.bool true) ∧ Below w.heap.size w w' := by
  have C0 := Lib.hid (fun W (_ : ML W) => ends_true ⟨#[45, 49, 50, 46, 53, 48, 101, 43, 51, 44]⟩ [45, 49, 50, 46, 53, 48, 101, 43, 51, 44] rfl 9 W (by decide) ⟨9, rfl, by decide +kernel⟩)
  have C1 := Lib.hid (fun W (_ : ML W) => ends_true ⟨#[48, 49, 50, 51]⟩ [48, 49, 50, 51] rfl 1 W (by decide) ⟨1, rfl, by decide +kernel⟩)
  have C2 := Lib.hid (fun W (_ : ML W) => fails_true ⟨#[45]⟩ [45] rfl 3 W (by decide) (by decide +kernel))
  have C3 := Lib.hid (fun W (_ : ML W) => fails_true ⟨#[49, 46]⟩ [49, 46] rfl 3 W (by decide) (by decide +kernel))
  have C4 := Lib.hid (fun W (_ : ML W) => fails_true ⟨#[49, 101, 43]⟩ [49, 101, 43] rfl 3 W (by decide) (by decide +kernel))
  have C5 := Lib.hid (fun W (_ : ML W) => fails_true ⟨#[]⟩ [] rfl 3 W (by decide) (by decide +kernel))
  have C6 := Lib.hid (fun W (_ : ML W) => fails_true ⟨#[45, 97]⟩ [45, 97] rfl 90 W (by decide) (by decide +kernel))
  have C7 := Lib.hid (fun W (_ : ML W) => fails_true ⟨#[49, 46, 101, 53]⟩ [49, 46, 101, 53] rfl 90 W (by decide) (by decide +kernel))
  have C8 := Lib.hid (fun W (_ : ML W) => fails_true ⟨#[43, 49]⟩ [43, 49] rfl 90 W (by decide) (by decide +kernel))
  have C9 := Lib.hid (fun W (hW : ML W) => same_is ⟨#[49, 46, 53, 48]⟩ ⟨#[49, 53, 101, 45, 49]⟩ [49, 46, 53, 48] [49, 53, 101, 45, 49] rfl rfl true W hW (by decide) (by decide) (by decide +kernel))
  have C10 := Lib.hid (fun W (hW : ML W) => same_is ⟨#[45, 48]⟩ ⟨#[48, 101, 57]⟩ [45, 48] [48, 101, 57] rfl rfl true W hW (by decide) (by decide) (by decide +kernel))
  have C11 := Lib.hid (fun W (hW : ML W) => same_is ⟨#[49]⟩ ⟨#[49, 48]⟩ [49] [49, 48] rfl rfl false W hW (by decide) (by decide) (by decide +kernel))
  have C12 := Lib.hid (fun W (hW : ML W) => whole_true ⟨#[49, 46, 50, 48, 101, 50]⟩ [49, 46, 50, 48, 101, 50] rfl 120 W hW (by decide) (by decide +kernel))
  have C13 := Lib.hid (fun W (hW : ML W) => whole_true ⟨#[45, 48]⟩ [45, 48] rfl 0 W hW (by decide) (by decide +kernel))
  have C14 := Lib.hid (fun W (hW : ML W) => none_true ⟨#[48, 46, 53]⟩ [48, 46, 53] rfl W hW (by decide) (by decide +kernel))
  have C15 := Lib.hid (fun W (hW : ML W) => none_true ⟨#[57, 48, 48, 55, 49, 57, 57, 50, 53, 52, 55, 52, 48, 57, 57, 50]⟩ [57, 48, 48, 55, 49, 57, 57, 50, 53, 52, 55, 52, 48, 57, 57, 50] rfl W hW (by decide) (by decide +kernel))
  have HM := Lib.hid hM
  have HB := Lib.hid (Below.refl w.heap.size w)
  clear hM
  go_enter Tryz.func16, Tryz.ntmps16
  go_wp2_with fail
  refine (C0.out _ HM.out).mono ?_
  rintro e w1 ⟨rfl, hb⟩
  replace HM := Lib.hid (HM.out.on hb)
  replace HB := Lib.hid (HB.out.trans (hb.mono HB.out.size))
  clear hb C0
  go_wp2_with fail
  refine (C1.out _ HM.out).mono ?_
  rintro e w2 ⟨rfl, hb⟩
  replace HM := Lib.hid (HM.out.on hb)
  replace HB := Lib.hid (HB.out.trans (hb.mono HB.out.size))
  clear hb C1
  go_wp2_with fail
  refine (C2.out _ HM.out).mono ?_
  rintro e w3 ⟨rfl, hb⟩
  replace HM := Lib.hid (HM.out.on hb)
  replace HB := Lib.hid (HB.out.trans (hb.mono HB.out.size))
  clear hb C2
  go_wp2_with fail
  refine (C3.out _ HM.out).mono ?_
  rintro e w4 ⟨rfl, hb⟩
  replace HM := Lib.hid (HM.out.on hb)
  replace HB := Lib.hid (HB.out.trans (hb.mono HB.out.size))
  clear hb C3
  go_wp2_with fail
  refine (C4.out _ HM.out).mono ?_
  rintro e w5 ⟨rfl, hb⟩
  replace HM := Lib.hid (HM.out.on hb)
  replace HB := Lib.hid (HB.out.trans (hb.mono HB.out.size))
  clear hb C4
  go_wp2_with fail
  refine (C5.out _ HM.out).mono ?_
  rintro e w6 ⟨rfl, hb⟩
  replace HM := Lib.hid (HM.out.on hb)
  replace HB := Lib.hid (HB.out.trans (hb.mono HB.out.size))
  clear hb C5
  go_wp2_with fail
  refine (C6.out _ HM.out).mono ?_
  rintro e w7 ⟨rfl, hb⟩
  replace HM := Lib.hid (HM.out.on hb)
  replace HB := Lib.hid (HB.out.trans (hb.mono HB.out.size))
  clear hb C6
  go_wp2_with fail
  refine (C7.out _ HM.out).mono ?_
  rintro e w8 ⟨rfl, hb⟩
  replace HM := Lib.hid (HM.out.on hb)
  replace HB := Lib.hid (HB.out.trans (hb.mono HB.out.size))
  clear hb C7
  go_wp2_with fail
  refine (C8.out _ HM.out).mono ?_
  rintro e w9 ⟨rfl, hb⟩
  replace HM := Lib.hid (HM.out.on hb)
  replace HB := Lib.hid (HB.out.trans (hb.mono HB.out.size))
  clear hb C8
  go_wp2_with fail
  refine (C9.out _ HM.out).mono ?_
  rintro e w10 ⟨rfl, hb⟩
  replace HM := Lib.hid (HM.out.on hb)
  replace HB := Lib.hid (HB.out.trans (hb.mono HB.out.size))
  clear hb C9
  go_wp2_with fail
  refine (C10.out _ HM.out).mono ?_
  rintro e w11 ⟨rfl, hb⟩
  replace HM := Lib.hid (HM.out.on hb)
  replace HB := Lib.hid (HB.out.trans (hb.mono HB.out.size))
  clear hb C10
  go_wp2_with fail
  refine (C11.out _ HM.out).mono ?_
  rintro e w12 ⟨rfl, hb⟩
  replace HM := Lib.hid (HM.out.on hb)
  replace HB := Lib.hid (HB.out.trans (hb.mono HB.out.size))
  clear hb C11
  go_wp2_with fail
  refine (C12.out _ HM.out).mono ?_
  rintro e w13 ⟨rfl, hb⟩
  replace HM := Lib.hid (HM.out.on hb)
  replace HB := Lib.hid (HB.out.trans (hb.mono HB.out.size))
  clear hb C12
  go_wp2_with fail
  refine (C13.out _ HM.out).mono ?_
  rintro e w14 ⟨rfl, hb⟩
  replace HM := Lib.hid (HM.out.on hb)
  replace HB := Lib.hid (HB.out.trans (hb.mono HB.out.size))
  clear hb C13
  go_wp2_with fail
  refine (C14.out _ HM.out).mono ?_
  rintro e w15 ⟨rfl, hb⟩
  replace HM := Lib.hid (HM.out.on hb)
  replace HB := Lib.hid (HB.out.trans (hb.mono HB.out.size))
  clear hb C14
  go_wp2_with fail
  refine (C15.out _ HM.out).mono ?_
  rintro e w16 ⟨rfl, hb⟩
  replace HM := Lib.hid (HM.out.on hb)
  replace HB := Lib.hid (HB.out.trans (hb.mono HB.out.size))
  clear hb C15
  go_wp2
  go_ret
  exact ⟨rfl, HB.out⟩
end Go.Proofs.YthndgekjccclnaaGreatDoor
