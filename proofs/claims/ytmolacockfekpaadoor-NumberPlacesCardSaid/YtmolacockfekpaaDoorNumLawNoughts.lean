/-
  Layer 9 (number): the walk of the statement NumberNoughts: it returns true at every number and every two rows of bytes.
-/
import Derived.Test.YtmolacockfekpaaDoorNumLawUnlike
import Derived.WalkKit
import Derived.WalkSpells
import Derived.WalkLawsBesides
import Derived.Deep.QuietTactic
import Derived.Deep.RegionHeld3
import Derived.Deep.RegionWith
import Derived.Deep.DeepFit
import Derived.OpenShut
import Derived.Lib.Hide
namespace Go.Proofs.YtmolacockfekpaaDoor
open Go.RowKit Num
set_option linter.unusedVariables false
set_option linter.unusedSimpArgs false

theorem digitsS_digs (l : List UInt8) : Digs (digitsS l) := by
  intro y hy
  unfold digitsS at hy
  rw [List.mem_map] at hy
  obtain ⟨c, _, rfl⟩ := hy
  have := dig_toNat c
  unfold isD
  simp only [Bool.and_eq_true, decide_eq_true_eq, UInt8.le_iff_toNat_le]
  have h57 : (57 : UInt8).toNat = 57 := rfl
  have h48 : (48 : UInt8).toNat = 48 := rfl
  omega
theorem digitsS_len (l : List UInt8) : (digitsS l).length ≤ 30 := by unfold digitsS; rw [List.length_map, List.length_take]; omega
theorem digs_cons {c : UInt8} {r : List UInt8} (hc : isD c = true) (hr : Digs r) : Digs (c :: r) := fun y hy => (List.mem_cons.1 hy).elim (fun e => e ▸ hc) (hr y)
theorem digs_zeros (m : Nat) : Digs (List.replicate m 48) := fun y hy => by rw [(List.mem_replicate.1 hy).2]; rfl
theorem headF_zero : HeadF [48] := ⟨by simp, digs_zeros 1, .inl rfl⟩
def noughtX (m : Nat) (D : List UInt8) : List UInt8 := [45] ++ ([48] ++ (46 :: List.replicate (m + 1) 48 ++ (101 :: ([45] ++ (55 :: D)))))
def noughtY (m : Nat) (E : List UInt8) : List UInt8 := [] ++ ([48] ++ (46 :: (List.replicate (m + 1) 48 ++ 49 :: E) ++ []))
theorem of_noughtX (m : Nat) (D : List UInt8) (hD : Digs D) : ofS (noughtX m D) = some ⟨false, [], 0⟩ := by
  have := of_form (g := [45]) (a := [48]) (f := 46 :: List.replicate (m + 1) 48) (x := 101 :: ([45] ++ (55 :: D))) (.inr rfl) headF_zero
    (.inr ⟨_, rfl, by simp, digs_zeros _⟩) (.inr ⟨101, [45], 55 :: D, rfl, rfl, .inr (.inr rfl), by simp, digs_cons rfl hD⟩)
  unfold noughtX
  rw [this, if_pos]
  rw [List.drop_one, List.tail_cons, show [48] ++ List.replicate (m + 1) (48 : UInt8) = List.replicate (m + 2) 48 ++ [] by rw [List.append_nil]; rfl, trimL_zeros]
  rfl
theorem of_noughtY (m : Nat) (E : List UInt8) (hE : Digs E) : ∃ v, ofS (noughtY m E) = some v ∧ v.power < 0 := by
  have := of_val (g := []) (a := [48]) (f := 46 :: (List.replicate (m + 1) 48 ++ 49 :: E)) (x := []) (.inl rfl) headF_zero
    (.inr ⟨_, rfl, by simp, digs_append (digs_zeros _) (digs_cons rfl hE)⟩) (.inl rfl) (by decide)
  refine ⟨_, this, ?_⟩
  rw [List.drop_one, List.tail_cons, show [48] ++ (List.replicate (m + 1) (48 : UInt8) ++ 49 :: E) = List.replicate (m + 2) 48 ++ (49 :: E) by rw [← List.append_assoc]; rfl, trimL_zeros,
    show trimL (49 :: E) [48] = 49 :: E from rfl, valT_ne (by simp)]
  show (((49 :: E).length : Int) - (trimR (49 :: E) [48]).length) + (powVal (List.drop 1 []) - ((List.replicate (m + 1) (48 : UInt8) ++ 49 :: E).length : Int)) < 0
  rw [show powVal (List.drop 1 []) = 0 from rfl, List.length_append, List.length_replicate]
  omega
theorem of_nought0 : ofS [48] = some ⟨false, [], 0⟩ := by
  have := of_text 0
  rw [textS_zero] at this
  rw [this]; unfold wval; rw [textS_zero]; rfl
theorem noughts_law (m : Nat) (D E : List UInt8) (hD : Digs D) (hE : Digs E) :
    same (noughtX m D) [48] = true ∧ same [48] (noughtX m D) = true ∧ int (noughtX m D) = (0, true) ∧ same (noughtX m D) (noughtY m E) = false ∧ same (noughtY m E) [48] = false ∧ int (noughtY m E) = (0, false) := by
  obtain ⟨v, hv, hp⟩ := of_noughtY m E hE
  have hne : ¬ (⟨false, [], 0⟩ : V) = v := fun e => by rw [← e] at hp; exact absurd hp (by decide)
  refine ⟨?_, ?_, ?_, ?_, ?_, ?_⟩
  · unfold same; rw [of_noughtX m D hD, of_nought0]; rfl
  · unfold same; rw [of_noughtX m D hD, of_nought0]; rfl
  · unfold int; rw [of_noughtX m D hD]; rfl
  · unfold same; rw [of_noughtX m D hD, hv]; simpa using hne
  · unfold same; rw [of_nought0, hv]
    simp only [decide_eq_false_iff_not]
    exact fun e => hne e.symm
  · unfold int; rw [hv]; exact int_neg hp

/-- two strings joined: the instruction's own words -/
def Cat (a b : ByteArray) (l : List UInt8) : Prop := ∀ W : World, (Op.stringOp .add a b).run Tryd.prog W = .ok (.string (bs l)) W
theorem cat_of {a b : ByteArray} {la lb l : List UInt8} (ha : a = bs la) (hb : b = bs lb) (h : la.length + lb.length ≤ 4294967281) (hl : la ++ lb = l) : Cat a b l := fun W => by
  subst ha hb hl
  rw [run_string_add_sum W _ _ (by rw [bs_size, bs_size]; omega), show bs la ++ bs lb = bs (la ++ lb) from ByteArray.mk_append_mk _ _]

set_option maxRecDepth 100000 in
set_option maxHeartbeats 4000000 in
theorem Noughts_core (n : Int) (A1 A2 : Option Addr) (c1 c2 : Nat) (l1 l2 : List UInt8) (w : World) (HM : Hid (ML w)) (HR1 : Hid (RB w w.heap.size A1 l1)) (HR2 : Hid (RB w w.heap.size A2 l2)) (r : Nat) (hr : r < 20)
    (BR : Hid (∀ W, Calls Tryd.prog 20 #[.int .i64 n, .int .i64 20] W fun e w' => e = .returned (.int .i64 r) ∧ W = w'))
    (N D E X1 X2 X3 X Y1 Y2 Y : List UInt8)
    (NO : Hid (∀ (x : Int) W, x = ((r + 1 : Nat) : Int) → Calls Tryd.prog 23 #[.int .i64 x] W fun e w' => e = .returned (.string (bs N)) ∧ W = w'))
    (DI : Hid (∀ W, RB W W.heap.size A1 l1 → Calls Tryd.prog 21 #[.slice A1 l1.length c1] W fun e w' => e = .returned (.string (bs D)) ∧ Below W.heap.size W w'))
    (EI : Hid (∀ W, RB W W.heap.size A2 l2 → Calls Tryd.prog 21 #[.slice A2 l2.length c2] W fun e w' => e = .returned (.string (bs E)) ∧ Below W.heap.size W w'))
    (k1 : Cat ⟨#[45, 48, 46]⟩ (bs N) X1) (k2 : Cat (bs X1) ⟨#[101, 45]⟩ X2) (k3 : Cat (bs X2) ⟨#[55]⟩ X3) (k4 : Cat (bs X3) (bs D) X)
    (m1 : Cat ⟨#[48, 46]⟩ (bs N) Y1) (m2 : Cat (bs Y1) ⟨#[49]⟩ Y2) (m3 : Cat (bs Y2) (bs E) Y)
    (S1 : Hid (SameT X [48] true)) (S2 : Hid (SameT [48] X true)) (S3 : Hid (SameT X Y false)) (S4 : Hid (SameT Y [48] false))
    (W1 : Hid (∀ W, ML W → Calls Tryd.prog 24 #[.string (bs X), .int .i64 0] W fun e w' => e = .returned (.bool true) ∧ Below W.heap.size W w'))
    (N1 : Hid (∀ W, ML W → Calls Tryd.prog 25 #[.string (bs Y)] W fun e w' => e = .returned (.bool true) ∧ Below W.heap.size W w')) :
    Calls Tryd.prog 7 #[.int .i64 n, .slice A1 l1.length c1, .slice A2 l2.length c2] w fun e w' => e = .returned (.bool true) ∧ Below w.heap.size w w' := by
  unfold Cat at k1 k2 k3 k4 m1 m2 m3
  have S1' := Lib.hid (S1.out : ∀ W, ML W → Calls Tryd.prog 16 #[.string (bs X), .string ⟨#[48]⟩] W fun e w' => e = .returned (.bool true) ∧ Below W.heap.size W w')
  have S2' := Lib.hid (S2.out : ∀ W, ML W → Calls Tryd.prog 16 #[.string ⟨#[48]⟩, .string (bs X)] W fun e w' => e = .returned (.bool true) ∧ Below W.heap.size W w')
  have S4' := Lib.hid (S4.out : ∀ W, ML W → Calls Tryd.prog 16 #[.string (bs Y), .string ⟨#[48]⟩] W fun e w' => e = .returned (.bool false) ∧ Below W.heap.size W w')
  clear S1 S2 S4
  go_enter Tryd.func7, Tryd.ntmps7
  go_wp2_with fail
  refine (BR.out _).mono ?_
  rintro e w' ⟨rfl, rfl⟩
  go_wp2_with fail
  refine (NO.out _ _ (by first | omega | simp)).mono ?_
  rintro e w' ⟨rfl, rfl⟩
  go_wp2_with fail
  refine (DI.out _ HR1.out).mono ?_
  rintro e w1 ⟨rfl, hb⟩
  have HB1 := Lib.hid hb
  clear hb
  go_wp2_with fail
  refine (BR.out _).mono ?_
  rintro e w' ⟨rfl, rfl⟩
  go_wp2_with fail
  refine (NO.out _ _ (by first | omega | simp)).mono ?_
  rintro e w' ⟨rfl, rfl⟩
  go_wp2_with fail
  refine (EI.out _ ((HR2.out.on HB1.out).mono HB1.out.size)).mono ?_
  rintro e w2 ⟨rfl, hb⟩
  have HB2 := Lib.hid (HB1.out.trans (hb.mono HB1.out.size))
  clear hb
  go_wp2_with fail
  refine (S1'.out _ (by exact HM.out.on HB2.out)).mono ?_
  rintro e w3 ⟨rfl, hb⟩
  have HB3 := Lib.hid (HB2.out.trans (hb.mono HB2.out.size))
  clear hb
  go_wp2_with fail
  refine (S2'.out _ (by exact HM.out.on HB3.out)).mono ?_
  rintro e w4 ⟨rfl, hb⟩
  have HB4 := Lib.hid (HB3.out.trans (hb.mono HB3.out.size))
  clear hb
  go_wp2_with fail
  refine (W1.out _ (by exact HM.out.on HB4.out)).mono ?_
  rintro e w5 ⟨rfl, hb⟩
  have HB5 := Lib.hid (HB4.out.trans (hb.mono HB4.out.size))
  clear hb
  go_wp2_with fail
  refine (S3.out _ (by exact HM.out.on HB5.out)).mono ?_
  rintro e w6 ⟨rfl, hb⟩
  have HB6 := Lib.hid (HB5.out.trans (hb.mono HB5.out.size))
  clear hb
  go_wp2_with fail
  refine (S4'.out _ (by exact HM.out.on HB6.out)).mono ?_
  rintro e w7 ⟨rfl, hb⟩
  have HB7 := Lib.hid (HB6.out.trans (hb.mono HB6.out.size))
  clear hb
  go_wp2_with fail
  refine (N1.out _ (by exact HM.out.on HB7.out)).mono ?_
  rintro e w8 ⟨rfl, hb⟩
  have HB8 := Lib.hid (HB7.out.trans (hb.mono HB7.out.size))
  clear hb
  go_wp2_with fail
  refine (awake_true _ (by exact HM.out.on HB8.out)).mono ?_
  rintro e w9 ⟨rfl, hb⟩
  have HB9 := Lib.hid (HB8.out.trans (hb.mono HB8.out.size))
  clear hb
  go_wp2
  go_ret
  exact ⟨rfl, HB9.out⟩

theorem NumberNoughts_walk (n : Int) (A1 : Option Addr) (c1 : Nat) (l1 : List UInt8) (A2 : Option Addr) (c2 : Nat) (l2 : List UInt8) (w : World) (hw : (Lit.int .i64 n).wf = true) (hr1 : RB w w.heap.size A1 l1) (hn1 : l1.length ≤ 140737488355328) (hr2 : RB w w.heap.size A2 l2) (hn2 : l2.length ≤ 140737488355328) (hM : ML w) :
    Calls Tryd.prog 7 #[.int .i64 n, .slice A1 l1.length c1, .slice A2 l2.length c2] w fun e w' => e = .returned (.bool true) ∧ Below w.heap.size w w' := by
  have hb := bounds_i64 hw
  have hr : (n % 20).toNat < 20 := by omega
  have hre : n % 20 = ((n % 20).toNat : Int) := by omega
  generalize (n % 20).toNat = r at *
  have hX : noughtX r (digitsS l1) = [45, 48, 46] ++ List.replicate (r + 1) 48 ++ [101, 45] ++ [55] ++ digitsS l1 := by unfold noughtX; simp
  have hY : noughtY r (digitsS l2) = [48, 46] ++ List.replicate (r + 1) 48 ++ [49] ++ digitsS l2 := by unfold noughtY; simp
  obtain ⟨s1, s2, i1, s3, s4, i2⟩ := noughts_law r (digitsS l1) (digitsS l2) (digitsS_digs l1) (digitsS_digs l2)
  have d1 := digitsS_len l1
  have d2 := digitsS_len l2
  have lX : (noughtX r (digitsS l1)).length < 4294967281 := by rw [hX]; simp; omega
  have lY : (noughtY r (digitsS l2)).length < 4294967281 := by rw [hY]; simp; omega
  exact Noughts_core n A1 A2 c1 c2 l1 l2 w (Lib.hid hM) (Lib.hid hr1) (Lib.hid hr2) r hr (Lib.hid fun W => by have := Bring_any n 20 W hb (by decide); rw [hre] at this; exact this)
    (List.replicate (r + 1) 48) (digitsS l1) (digitsS l2) _ _ _ (noughtX r (digitsS l1)) _ _ (noughtY r (digitsS l2))
    (Lib.hid fun x W hx => by subst hx; exact noughts_any (r + 1) W (by omega)) (Lib.hid fun W h => digs_any A1 c1 l1 W h (by omega)) (Lib.hid fun W h => digs_any A2 c2 l2 W h (by omega))
    (cat_of (la := [45, 48, 46]) rfl rfl (by simp; omega) rfl) (cat_of (lb := [101, 45]) rfl rfl (by simp; omega) rfl) (cat_of (lb := [55]) rfl rfl (by simp; omega) rfl) (cat_of rfl rfl (by simp; omega) hX.symm)
    (cat_of (la := [48, 46]) rfl rfl (by simp; omega) rfl) (cat_of (lb := [49]) rfl rfl (by simp; omega) rfl) (cat_of rfl rfl (by simp; omega) hY.symm)
    (Lib.hid (sameT s1 lX (by decide))) (Lib.hid (sameT s2 (by decide) lX)) (Lib.hid (sameT s3 lX lY)) (Lib.hid (sameT s4 lY (by decide)))
    (Lib.hid fun W hW => whole_true _ _ (bs_list _) 0 W hW lX i1) (Lib.hid fun W hW => none_true _ _ (bs_list _) W hW lY i2)
end Go.Proofs.YtmolacockfekpaaDoor
