/-
  Layer 9 (number): the walk of the statement NumberWhole: it returns true at every two numbers.
-/
import Derived.Test.YtmolacockfekpaaDoorNumWholePlain
import Derived.WalkKit
import Derived.WalkSpells
import Derived.WalkLawsBesides
import Derived.Deep.QuietTactic
import Derived.Deep.RegionHeld3
import Derived.Deep.RegionWith
import Derived.Deep.DeepFit
import Derived.Deep.DeepCutAuto
import Derived.Lib.Hide
namespace Go.Proofs.YtmolacockfekpaaDoor
open Go.RowKit Num
set_option linter.unusedVariables false
set_option linter.unusedSimpArgs false

def WholeT (l : List UInt8) (n : Int) : Prop := ∀ W, ML W → Calls Tryd.prog 24 #[.string (bs l), .int .i64 n] W fun e w' => e = .returned (.bool true) ∧ Below W.heap.size W w'
def NoneT (l : List UInt8) : Prop := ∀ W, ML W → Calls Tryd.prog 25 #[.string (bs l)] W fun e w' => e = .returned (.bool true) ∧ Below W.heap.size W w'
/-- What a round of the loop leans on. -/
structure RoundT (v : Nat) (S L NL : List UInt8) : Prop where
  cat : Cat ⟨#[45]⟩ (bs L) NL
  pos : WholeT L v
  neg : WholeT NL (-(v : Int))
  same : SameT L S true
def B4 (w : World) (g : Nat) (a b c d : List UInt8) : Prop := w.heap[g]? = some (.cells #[.string (bs a), .string (bs b), .string (bs c), .string (bs d)] 9 (0, 0))
theorem B4.on {w w' : World} {g : Nat} {a b c d : List UInt8} (h : B4 w g a b c d) (hb : Below w.heap.size w w') : B4 w' g a b c d := (hb.block g (Array.getElem?_eq_some_iff.1 h).1).trans h
theorem B4.cells (a b c d : List UInt8) (p : Nat) (hp : p < 4) : ∃ L, (L = a ∨ L = b ∨ L = c ∨ L = d) ∧ ∀ (w : World) (g : Nat), B4 w g a b c d → w.cell? ⟨g, p, none⟩ = some (.string (bs L)) := by
  match p, hp with
  | 0, _ => exact ⟨a, .inl rfl, fun w g h => by rw [cell_of_row w g 0 _ _ _ h]; rfl⟩
  | 1, _ => exact ⟨b, .inr (.inl rfl), fun w g h => by rw [cell_of_row w g 1 _ _ _ h]; rfl⟩
  | 2, _ => exact ⟨c, .inr (.inr (.inl rfl)), fun w g h => by rw [cell_of_row w g 2 _ _ _ h]; rfl⟩
  | 3, _ => exact ⟨d, .inr (.inr (.inr rfl)), fun w g h => by rw [cell_of_row w g 3 _ _ _ h]; rfl⟩

set_option maxRecDepth 100000 in
set_option maxHeartbeats 4000000 in
theorem Whole_core (a b : Int) (w : World) (HM : Hid (ML w)) (v z : Nat) (hv : v < 9007199254740992) (hz : z < 30) (q : Bool) (hq : ((v : Int) == 0) = q) (hq' : (v == 0) = q)
    (ea : bits BinOp.and IntKind.i64 a 9007199254740991 = (v : Int))
    (BR : Hid (∀ W, Calls Tryd.prog 20 #[.int .i64 b, .int .i64 30] W fun e w' => e = .returned (.int .i64 z) ∧ W = w'))
    (S N P P2 N1 TZ L1 L1a L2 L2a L3 B BN H5 T5 : List UInt8)
    (TS : Hid (∀ W, Calls Tryd.prog 22 #[.int .i64 v] W fun e w' => e = .returned (.string (bs S)) ∧ Below W.heap.size W w'))
    (TT : Hid (∀ W, Calls Tryd.prog 22 #[.int .i64 z] W fun e w' => e = .returned (.string (bs TZ)) ∧ Below W.heap.size W w'))
    (TB : Hid (∀ (x : Int) W, x = 9007199254740992 + (v : Int) → Calls Tryd.prog 22 #[.int .i64 x] W fun e w' => e = .returned (.string (bs B)) ∧ Below W.heap.size W w'))
    (NZ : Hid (∀ W, Calls Tryd.prog 23 #[.int .i64 z] W fun e w' => e = .returned (.string (bs N)) ∧ W = w'))
    (NZ1 : Hid (∀ (x : Int) W, x = 1 + (z : Int) → Calls Tryd.prog 23 #[.int .i64 x] W fun e w' => e = .returned (.string (bs N1)) ∧ W = w'))
    (k1 : Hid (Cat (bs S) (bs N) P)) (hP2 : Hid ((if q then S else P) = P2)) (k2 : Hid (Cat (bs S) ⟨#[46]⟩ L1a)) (k3 : Hid (Cat (bs L1a) (bs N1) L1)) (k4 : Hid (Cat (bs P2) ⟨#[101, 45]⟩ L2a)) (k5 : Hid (Cat (bs L2a) (bs TZ) L2)) (k6 : Hid (Cat (bs S) ⟨#[69, 43, 48]⟩ L3)) (k7 : Hid (Cat ⟨#[45]⟩ (bs B) BN)) (k8 : Hid (Cat (bs S) ⟨#[46, 53]⟩ H5)) (k9 : Hid (Cat (bs S) ⟨#[53, 101, 45, 49]⟩ T5))
    (FL : Hid (∀ L, (L = S ∨ L = L1 ∨ L = L2 ∨ L = L3) → ∃ NL, RoundT v S L NL)) (NB : Hid (NoneT B)) (NBN : Hid (NoneT BN)) (NH : Hid (NoneT H5)) (NT : Hid (NoneT T5)) :
    Calls Tryd.prog 8 #[.int .i64 a, .int .i64 b] w fun e w' => e = .returned (.bool true) ∧ Below w.heap.size w w' := by
  go_enter Tryd.func8, Tryd.ntmps8
  go_wp2_with fail
  refine (BR.out _).mono ?_
  rintro e w' ⟨rfl, rfl⟩
  go_wp2_with fail
  refine (TS.out _).mono ?_
  rintro e w1 ⟨rfl, hb⟩
  have HB1 := Lib.hid hb
  clear hb
  go_wp2_with fail
  refine (NZ.out _).mono ?_
  rintro e w' ⟨rfl, rfl⟩
  have k1' := k1.out
  unfold Cat at k1'
  have k2' := k2.out
  unfold Cat at k2'
  have hP3 : (q = true ∧ S = P2) ∨ (q = false ∧ P = P2) := by
    have := hP2.out
    cases q
    · exact .inr ⟨rfl, this⟩
    · exact .inl ⟨rfl, this⟩
  clear hP2
  rcases hP3 with ⟨rfl, rfl⟩ | ⟨rfl, rfl⟩
  all_goals
    go_wp2_with fail
    refine (NZ1.out _ _ (by first | omega | simp)).mono ?_
    rintro e w' ⟨rfl, rfl⟩
    clear k1' k2'
    have k3' := k3.out
    have k4' := k4.out
    unfold Cat at k3' k4'
    go_wp2_with fail
    clear k3' k4'
    refine (TT.out _).mono ?_
    rintro e w2 ⟨rfl, hb⟩
    have HB2 := Lib.hid (HB1.out.trans (hb.mono HB1.out.size))
    clear hb
    have k5' := k5.out
    have k6' := k6.out
    unfold Cat at k5' k6'
    go_wp2
    clear k5' k6'
    go_loopg [10] 4 (fun k v10 wr => ∃ p : Nat, p + k = 4 ∧ v10 = .int .i64 p ∧ Hid (B4 wr w2.heap.size S L1 L2 L3) ∧ Hid (Below w.heap.size w wr))
    case atStart => exact ⟨0, rfl, rfl, Lib.hid (heap_alloc_new w2 _), Lib.hid (HB2.out.alloc HB2.out.size _)⟩
    case round =>
      obtain ⟨p, hk, rfl, H4, HBr⟩ := hrel
      have HK := Lib.hid hk
      clear hk
      by_cases hp : p < 4
      · obtain ⟨L, hL, hCELL⟩ := B4.cells S L1 L2 L3 p hp
        have hcell := hCELL wr _ H4.out
        replace hCELL := fun W h => hCELL W w2.heap.size h
        obtain ⟨NL, hR⟩ := FL.out L hL
        have RR := Lib.hid hR
        have e1 : decide ((p : Int) < 4) = true := by simp; omega
        clear hL hR
        have HC0 := HBr
        have CELL := Lib.hid hCELL
        clear hCELL
        have RP := Lib.hid RR.out.pos
        have RN := Lib.hid RR.out.neg
        have RS := Lib.hid RR.out.same
        go_wp2_with fail
        refine (RP.out _ (by exact HM.out.on HC0.out)).mono ?_
        rintro e x1 ⟨rfl, hb⟩
        have HC1 := Lib.hid (HC0.out.trans (hb.mono HC0.out.size))
        have H41 := Lib.hid (H4.out.on hb)
        clear hb hcell
        have hcell : x1.cell? ⟨w2.heap.size, p, none⟩ = some (.string (bs L)) := CELL.out _ H41.out
        have kn := RR.out.cat
        unfold Cat at kn
        go_wp2_with fail
        refine (RN.out _ (by exact HM.out.on HC1.out)).mono ?_
        rintro e x2 ⟨rfl, hb⟩
        have HC2 := Lib.hid (HC1.out.trans (hb.mono HC1.out.size))
        have H42 := Lib.hid (H41.out.on hb)
        clear hb
        clear kn
        have hcell : x2.cell? ⟨w2.heap.size, p, none⟩ = some (.string (bs L)) := CELL.out _ H42.out
        go_wp2_with fail
        refine (RS.out _ (by exact HM.out.on HC2.out)).mono ?_
        rintro e x3 ⟨rfl, hb⟩
        have HC3 := Lib.hid (HC2.out.trans (hb.mono HC2.out.size))
        have H43 := Lib.hid (H42.out.on hb)
        clear hb
        go_wp2
        go_roundg (gk - 1)
        case measure => have := HK.out; omega
        case rel => exact ⟨p + 1, by have := HK.out; omega, by go_num, H43, HC3⟩
      · have e1 : decide ((p : Int) < 4) = false := by simp; omega
        have HC0 := HBr
        go_wp2_with fail
        refine (TB.out _ _ (by first | omega | simp)).mono ?_
        rintro e x1 ⟨rfl, hb⟩
        have HC1 := Lib.hid (HC0.out.trans (hb.mono HC0.out.size))
        clear hb
        go_wp2_with fail
        refine (NB.out _ (by exact HM.out.on HC1.out)).mono ?_
        rintro e x2 ⟨rfl, hb⟩
        have HC2 := Lib.hid (HC1.out.trans (hb.mono HC1.out.size))
        clear hb
        have kc := k7.out
        unfold Cat at kc
        go_wp2_with fail
        refine (NBN.out _ (by exact HM.out.on HC2.out)).mono ?_
        rintro e x3 ⟨rfl, hb⟩
        have HC3 := Lib.hid (HC2.out.trans (hb.mono HC2.out.size))
        clear hb
        clear kc
        have kc := k8.out
        unfold Cat at kc
        go_wp2_with fail
        refine (NH.out _ (by exact HM.out.on HC3.out)).mono ?_
        rintro e x4 ⟨rfl, hb⟩
        have HC4 := Lib.hid (HC3.out.trans (hb.mono HC3.out.size))
        clear hb
        clear kc
        have kc := k9.out
        unfold Cat at kc
        go_wp2_with fail
        refine (NT.out _ (by exact HM.out.on HC4.out)).mono ?_
        rintro e x5 ⟨rfl, hb⟩
        have HC5 := Lib.hid (HC4.out.trans (hb.mono HC4.out.size))
        clear hb
        clear kc
        go_wp2_with fail
        refine (awake_true _ (by exact HM.out.on HC5.out)).mono ?_
        rintro e x6 ⟨rfl, hb⟩
        have HC6 := Lib.hid (HC5.out.trans (hb.mono HC5.out.size))
        clear hb
        go_wp2
        go_ret
        exact ⟨rfl, HC6.out⟩

theorem wholeT {l : List UInt8} {n : Int} (h : int l = (n, true)) (hl : l.length < 4294967281) : WholeT l n := fun W hW => whole_true _ _ (bs_list _) n W hW hl h
theorem noneT {l : List UInt8} (h : int l = (0, false)) (hl : l.length < 4294967281) : NoneT l := fun W hW => none_true _ _ (bs_list _) W hW hl h
theorem roundT {v : Nat} (hv : v < 9007199254740992) {L : List UInt8} (h : IsW v L) (hl : L.length < 1000) (hs : (textS v).length < 1000) : RoundT v (textS v) L (45 :: L) :=
  ⟨cat_of (la := [45]) rfl rfl (by simp; omega) rfl, wholeT (int_of h.1 hv) (by omega), wholeT (int_of h.2 hv) (by simp; omega), sameT (same_of h.1 (of_text v) rfl) (by omega) (by omega)⟩

theorem NumberWhole_walk (a b : Int) (w : World) (hw : (Lit.int .i64 b).wf = true) (hM : ML w) :
    Calls Tryd.prog 8 #[.int .i64 a, .int .i64 b] w fun e w' => e = .returned (.bool true) ∧ Below w.heap.size w w' := by
  obtain ⟨v, hv, ea⟩ := and53_nat a
  have hb := bounds_i64 hw
  obtain ⟨z, hz, ez⟩ : ∃ z : Nat, z < 30 ∧ b % 30 = z := ⟨(b % 30).toNat, by omega, by omega⟩
  have lv := textS_len v 15 (by omega)
  have lz := textS_len z 1 (by omega)
  have lB := textS_len (9007199254740992 + v) 16 (by omega)
  have i1 := isW1 v z
  have i2 := isW2 v z hz
  have hP : (if v = 0 then textS v else textS v ++ List.replicate z 48).length ≤ 46 := by
    split
    · omega
    · rw [List.length_append, List.length_replicate]; omega
  have hT : (if decide (v = 0) = true then textS v else textS v ++ List.replicate z 48) = (if v = 0 then textS v else textS v ++ List.replicate z 48) := by by_cases h : v = 0 <;> simp [h]
  generalize hPP : (if v = 0 then textS v else textS v ++ List.replicate z 48) = P2 at *
  refine Whole_core a b w (Lib.hid hM) v z hv hz (decide (v = 0))
    (by by_cases h : v = 0
        · subst h; rfl
        · have : ((v : Int) == 0) = false := by rw [beq_eq_false_iff_ne]; omega
          rw [this]; simp [h]) (by by_cases h : v = 0 <;> simp [h]) ea
    (Lib.hid fun W => by have := Bring_any b 30 W hb (by decide); rw [ez] at this; exact this)
    (textS v) (List.replicate z 48) (textS v ++ List.replicate z 48) P2 (List.replicate (z + 1) 48) (textS z) (textS v ++ ([46] ++ List.replicate (z + 1) 48)) (textS v ++ [46]) (P2 ++ ([101, 45] ++ textS z)) (P2 ++ [101, 45]) (textS v ++ [69, 43, 48])
    (textS (9007199254740992 + v)) (45 :: textS (9007199254740992 + v)) (textS v ++ [46, 53]) (textS v ++ [53, 101, 45, 49])
    (Lib.hid fun W => text_any v W (by omega)) (Lib.hid fun W => text_any z W (by omega)) (Lib.hid fun x W hx => by obtain rfl : x = ((9007199254740992 + v : Nat) : Int) := by omega
                                                                                                                    exact text_any _ W (by omega))
    (Lib.hid fun W => noughts_any z W (by omega)) (Lib.hid fun x W hx => by obtain rfl : x = ((z + 1 : Nat) : Int) := by omega
                                                                            exact noughts_any (z + 1) W (by omega))
    (Lib.hid (cat_of rfl rfl (by simp; omega) rfl)) (Lib.hid hT) (Lib.hid (cat_of (lb := [46]) rfl rfl (by simp; omega) rfl)) (Lib.hid (cat_of rfl rfl (by simp; omega) (by simp))) (Lib.hid (cat_of (lb := [101, 45]) rfl rfl (by simp; omega) rfl)) (Lib.hid (cat_of rfl rfl (by simp; omega) (by simp)))
    (Lib.hid (cat_of (lb := [69, 43, 48]) rfl rfl (by simp; omega) rfl)) (Lib.hid (cat_of (la := [45]) rfl rfl (by simp; omega) rfl)) (Lib.hid (cat_of (lb := [46, 53]) rfl rfl (by simp; omega) rfl)) (Lib.hid (cat_of (lb := [53, 101, 45, 49]) rfl rfl (by simp; omega) rfl))
    (Lib.hid fun L hL => ?_) (Lib.hid (noneT (int_of_big (v := v) false) (by first | omega | (simp; omega) | (simp [sgnL]; omega)))) (Lib.hid (noneT (int_of_big (v := v) true) (by first | omega | (simp; omega) | (simp [sgnL]; omega)))) (Lib.hid (noneT (int_half v) (by simp; omega))) (Lib.hid (noneT (int_tenth v) (by simp; omega)))
  rcases hL with h | h | h | h <;> subst h
  · exact ⟨_, roundT hv (isW0 v) (by omega) (by omega)⟩
  · exact ⟨_, roundT hv i1 (by simp; omega) (by omega)⟩
  · exact ⟨_, roundT hv i2 (by simp; omega) (by omega)⟩
  · exact ⟨_, roundT hv (isW3 v) (by simp; omega) (by omega)⟩
end Go.Proofs.YtmolacockfekpaaDoor
