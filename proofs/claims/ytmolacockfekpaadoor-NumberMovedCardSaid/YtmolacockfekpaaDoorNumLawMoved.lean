/-
  Layer 9 (number): the walk of the statement NumberMoved: it returns true at every two rows of bytes and every three numbers.
-/
import Derived.Test.YtmolacockfekpaaDoorNumMovedPlain
import Derived.WalkKit
import Derived.WalkSpells
import Derived.WalkLawsBesides
import Derived.Deep.QuietTactic
import Derived.Deep.RegionHeld3
import Derived.Deep.RegionWith
import Derived.Deep.DeepFit
import Derived.Lib.Hide
namespace Go.Proofs.YtmolacockfekpaaDoor
open Go.RowKit Num
set_option linter.unusedVariables false
set_option linter.unusedSimpArgs false

set_option maxRecDepth 100000 in
set_option maxHeartbeats 8000000 in
theorem Moved_core (h0 h1 h2 : Int) (A1 A2 : Option Addr) (c1 c2 : Nat) (l1 l2 : List UInt8) (w : World) (HM : Hid (ML w)) (HR1 : Hid (RB w w.heap.size A1 l1)) (HR2 : Hid (RB w w.heap.size A2 l2)) (p k : Nat) (hp : p < 1000) (hk : k < 20) (sgn q : Bool) (sv : Int) (sb : ByteArray)
    (hsv : sv = if sgn then 1 else 0) (hsb : sb = if sgn then ⟨#[45]⟩ else ⟨#[]⟩) (hq : ((p : Int) == 0) = q) (hq' : (p == 0) = q)
    (B0 : Hid (∀ W, Calls Tryd.prog 20 #[.int .i64 h0, .int .i64 1000] W fun e w' => e = .returned (.int .i64 p) ∧ w' = W))
    (B1 : Hid (∀ W, Calls Tryd.prog 20 #[.int .i64 h1, .int .i64 20] W fun e w' => e = .returned (.int .i64 k) ∧ w' = W))
    (B2 : Hid (∀ W, Calls Tryd.prog 20 #[.int .i64 h2, .int .i64 2] W fun e w' => e = .returned (.int .i64 sv) ∧ W = w'))
    (A Bd a b X1 X2 X3 X4 X Y2 Y3 Y4 Y Z4 Z5 Z U1 U2 U3 U4 U tp t2 t3 nk : List UInt8)
    (NK : Hid (∀ W, Calls Tryd.prog 23 #[.int .i64 k] W fun e w' => e = .returned (.string (bs nk)) ∧ W = w'))
    (DA : Hid (∀ W, RB W W.heap.size A1 l1 → Calls Tryd.prog 21 #[.slice A1 l1.length c1] W fun e w' => e = .returned (.string (bs A)) ∧ Below W.heap.size W w'))
    (DB : Hid (∀ W, RB W W.heap.size A2 l2 → Calls Tryd.prog 21 #[.slice A2 l2.length c2] W fun e w' => e = .returned (.string (bs Bd)) ∧ Below W.heap.size W w'))
    (hbz : (bs b).size ≤ 100) (haz : (bs a).size ≤ 100)
    (T1 : Hid (∀ W, Calls Tryd.prog 22 #[.int .i64 p] W fun e w' => e = .returned (.string (bs tp)) ∧ Below W.heap.size W w'))
    (T2 : Hid (∀ (x : Int) W, x = ((bs b).size : Int) + k → Calls Tryd.prog 22 #[.int .i64 x] W fun e w' => e = .returned (.string (bs t2)) ∧ Below W.heap.size W w'))
    (T3 : Hid (∀ (x : Int) W, x = (p : Int) + (bs a).size → Calls Tryd.prog 22 #[.int .i64 x] W fun e w' => e = .returned (.string (bs t3)) ∧ Below W.heap.size W w'))
    (ka : Hid (Cat ⟨#[49]⟩ (bs A) a)) (kb : Hid (Cat (bs Bd) ⟨#[53]⟩ b)) (x1 : Hid (Cat sb (bs a) X1)) (x2 : Hid (Cat (bs X1) ⟨#[46]⟩ X2)) (x3 : Hid (Cat (bs X2) (bs b) X3)) (x4 : Hid (Cat (bs X3) ⟨#[101]⟩ X4)) (x5 : Hid (Cat (bs X4) (bs tp) X)) (y2 : Hid (Cat (bs X1) (bs b) Y2)) (y3 : Hid (Cat (bs Y2) (bs nk) Y3)) (y4 : Hid (Cat (bs Y3) ⟨#[69, 45]⟩ Y4)) (y5 : Hid (Cat (bs Y4) (bs t2) Y)) (z4 : Hid (Cat (bs X3) (bs nk) Z4)) (z5 : Hid (Cat (bs Z4) ⟨#[101, 43, 48, 48, 48]⟩ Z5)) (z6 : Hid (Cat (bs Z5) (bs tp) Z)) (u1 : Hid (Cat sb ⟨#[48, 46]⟩ U1)) (u2 : Hid (Cat (bs U1) (bs a) U2)) (u3 : Hid (Cat (bs U2) (bs b) U3)) (u4 : Hid (Cat (bs U3) ⟨#[101]⟩ U4)) (u5 : Hid (Cat (bs U4) (bs t3) U))
    (S1 : Hid (SameT X Y q)) (S2 : Hid (SameT Y X q)) (S3 : Hid (SameT X Z true)) (S4 : Hid (SameT Z U true)) (S5 : Hid (SameT Y U q)) (S6 : Hid (SameT X U true)) (S7 : Hid (SameT U Z true)) :
    Calls Tryd.prog 6 #[.slice A1 l1.length c1, .slice A2 l2.length c2, .agg #[.int .i64 h0, .int .i64 h1, .int .i64 h2]] w fun e w' => e = .returned (.bool true) ∧ Below w.heap.size w w' := by
  cases sgn
  · have hsv' : sv = 0 := by rw [hsv]; rfl
    have hsb' : sb = ⟨#[]⟩ := by rw [hsb]; rfl
    clear hsv hsb
    subst hsv' hsb'
    go_enter Tryd.func6, Tryd.ntmps6
    go_wp2_with fail
    have k0 : (w.alloc (.cells #[.int .i64 h0, .int .i64 h1, .int .i64 h2] 34)).cell? ⟨w.heap.size, 0, none⟩ = some (.int .i64 h0) := by rw [cell_of_row _ _ 0 _ _ _ (heap_alloc_new w _)]; rfl
    have k1 : (w.alloc (.cells #[.int .i64 h0, .int .i64 h1, .int .i64 h2] 34)).cell? ⟨w.heap.size, 1, none⟩ = some (.int .i64 h1) := by rw [cell_of_row _ _ 1 _ _ _ (heap_alloc_new w _)]; rfl
    have k2 : (w.alloc (.cells #[.int .i64 h0, .int .i64 h1, .int .i64 h2] 34)).cell? ⟨w.heap.size, 2, none⟩ = some (.int .i64 h2) := by rw [cell_of_row _ _ 2 _ _ _ (heap_alloc_new w _)]; rfl
    have hbA : Below w.heap.size w (w.alloc (.cells #[.int .i64 h0, .int .i64 h1, .int .i64 h2] 34)) := (Below.refl _ w).alloc (Nat.le_refl _) _
    have hsA : (w.alloc (.cells #[.int .i64 h0, .int .i64 h1, .int .i64 h2] 34)).heap.size = w.heap.size + 1 := by simp
    have HSA := Lib.hid hsA
    clear hsA
    generalize w.alloc (.cells #[.int .i64 h0, .int .i64 h1, .int .i64 h2] 34) = wa at *
    have HBA := Lib.hid hbA
    clear hbA
    go_quiet ((go_at_call 20; first | (with_reducible exact Calls.quiet_of_same (B0.out _)) | (with_reducible exact Calls.quiet_of_same (B1.out _))))
    have HB0 := Lib.hid (below_drewN HBA.out nq)
    have HK2 := Lib.hid (show (wa.drewN nq).cell? ⟨w.heap.size, 2, none⟩ = some (.int .i64 h2) from k2)
    have HLT := Lib.hid (show w.heap.size < (wa.drewN nq).heap.size from by show w.heap.size < wa.heap.size; have := HSA.out; omega)
    clear k0 k1 k2
    go_wp2_with fail
    refine (DA.out _ (by exact (HR1.out.on HB0.out).mono HB0.out.size)).mono ?_
    rintro e w1 ⟨rfl, hb⟩
    have HB1 := Lib.hid (HB0.out.trans (hb.mono HB0.out.size))
    replace HK2 := Lib.hid ((hb.cell (p := ⟨w.heap.size, 2, none⟩) (by exact HLT.out)).trans HK2.out)
    replace HLT := Lib.hid (Nat.lt_of_lt_of_le HLT.out hb.size)
    clear hb
    have ka' := ka.out
    unfold Cat at ka'
    go_wp2_with fail
    clear ka'
    refine (DB.out _ (by exact (HR2.out.on HB1.out).mono HB1.out.size)).mono ?_
    rintro e w2 ⟨rfl, hb⟩
    have HB2 := Lib.hid (HB1.out.trans (hb.mono HB1.out.size))
    replace HK2 := Lib.hid ((hb.cell (p := ⟨w.heap.size, 2, none⟩) (by exact HLT.out)).trans HK2.out)
    replace HLT := Lib.hid (Nat.lt_of_lt_of_le HLT.out hb.size)
    clear hb
    have k2 := HK2.out
    have kb' := kb.out
    unfold Cat at kb'
    go_wp2_with fail
    clear kb'
    refine (B2.out _).mono ?_
    rintro e w' ⟨rfl, rfl⟩
    clear k2
    have x1' := x1.out
    unfold Cat at x1'
    have x2' := x2.out
    unfold Cat at x2'
    have x3' := x3.out
    unfold Cat at x3'
    have x4' := x4.out
    unfold Cat at x4'
    go_wp2_with fail
    clear x1' x2' x3' x4'
    refine (T1.out _).mono ?_
    rintro e w3 ⟨rfl, hb⟩
    have HB3 := Lib.hid (HB2.out.trans (hb.mono HB2.out.size))
    clear hb
    have x5' := x5.out
    unfold Cat at x5'
    have x1' := x1.out
    unfold Cat at x1'
    have y2' := y2.out
    unfold Cat at y2'
    go_wp2_with fail
    clear x5' x1' y2'
    refine (NK.out _).mono ?_
    rintro e w' ⟨rfl, rfl⟩
    have y3' := y3.out
    unfold Cat at y3'
    have y4' := y4.out
    unfold Cat at y4'
    go_wp2_with fail
    clear y3' y4'
    refine (T2.out _ _ (by first | omega | simp)).mono ?_
    rintro e w4 ⟨rfl, hb⟩
    have HB4 := Lib.hid (HB3.out.trans (hb.mono HB3.out.size))
    clear hb
    have y5' := y5.out
    unfold Cat at y5'
    have x1' := x1.out
    unfold Cat at x1'
    have x2' := x2.out
    unfold Cat at x2'
    have x3' := x3.out
    unfold Cat at x3'
    go_wp2_with fail
    clear y5' x1' x2' x3'
    refine (NK.out _).mono ?_
    rintro e w' ⟨rfl, rfl⟩
    have z4' := z4.out
    unfold Cat at z4'
    have z5' := z5.out
    unfold Cat at z5'
    go_wp2_with fail
    clear z4' z5'
    refine (T1.out _).mono ?_
    rintro e w5 ⟨rfl, hb⟩
    have HB5 := Lib.hid (HB4.out.trans (hb.mono HB4.out.size))
    clear hb
    have z6' := z6.out
    unfold Cat at z6'
    have u1' := u1.out
    unfold Cat at u1'
    have u2' := u2.out
    unfold Cat at u2'
    have u3' := u3.out
    unfold Cat at u3'
    have u4' := u4.out
    unfold Cat at u4'
    go_wp2_with fail
    clear z6' u1' u2' u3' u4'
    refine (T3.out _ _ (by first | omega | simp)).mono ?_
    rintro e w6 ⟨rfl, hb⟩
    have HB6 := Lib.hid (HB5.out.trans (hb.mono HB5.out.size))
    clear hb
    cases q
    · skip
      have u5' := u5.out
      unfold Cat at u5'
      go_wp2_with fail
      clear u5'
      refine (S1.out _ (by exact HM.out.on HB6.out)).mono ?_
      rintro e w7 ⟨rfl, hb⟩
      have HB7 := Lib.hid (HB6.out.trans (hb.mono HB6.out.size))
      clear hb
      go_wp2_with fail
      refine (S3.out _ (by exact HM.out.on HB7.out)).mono ?_
      rintro e w8 ⟨rfl, hb⟩
      have HB8 := Lib.hid (HB7.out.trans (hb.mono HB7.out.size))
      clear hb
      go_wp2_with fail
      refine (S6.out _ (by exact HM.out.on HB8.out)).mono ?_
      rintro e w9 ⟨rfl, hb⟩
      have HB9 := Lib.hid (HB8.out.trans (hb.mono HB8.out.size))
      clear hb
      go_wp2_with fail
      refine (S7.out _ (by exact HM.out.on HB9.out)).mono ?_
      rintro e w10 ⟨rfl, hb⟩
      have HB10 := Lib.hid (HB9.out.trans (hb.mono HB9.out.size))
      clear hb
      go_wp2_with fail
      refine (awake_true _ (by exact HM.out.on HB10.out)).mono ?_
      rintro e w11 ⟨rfl, hb⟩
      have HB11 := Lib.hid (HB10.out.trans (hb.mono HB10.out.size))
      clear hb
      go_wp2
      go_ret
      exact ⟨rfl, HB11.out⟩
    · skip
      have u5' := u5.out
      unfold Cat at u5'
      go_wp2_with fail
      clear u5'
      refine (S1.out _ (by exact HM.out.on HB6.out)).mono ?_
      rintro e w7 ⟨rfl, hb⟩
      have HB7 := Lib.hid (HB6.out.trans (hb.mono HB6.out.size))
      clear hb
      go_wp2_with fail
      refine (S2.out _ (by exact HM.out.on HB7.out)).mono ?_
      rintro e w8 ⟨rfl, hb⟩
      have HB8 := Lib.hid (HB7.out.trans (hb.mono HB7.out.size))
      clear hb
      go_wp2_with fail
      refine (S3.out _ (by exact HM.out.on HB8.out)).mono ?_
      rintro e w9 ⟨rfl, hb⟩
      have HB9 := Lib.hid (HB8.out.trans (hb.mono HB8.out.size))
      clear hb
      go_wp2_with fail
      refine (S4.out _ (by exact HM.out.on HB9.out)).mono ?_
      rintro e w10 ⟨rfl, hb⟩
      have HB10 := Lib.hid (HB9.out.trans (hb.mono HB9.out.size))
      clear hb
      go_wp2_with fail
      refine (S5.out _ (by exact HM.out.on HB10.out)).mono ?_
      rintro e w11 ⟨rfl, hb⟩
      have HB11 := Lib.hid (HB10.out.trans (hb.mono HB10.out.size))
      clear hb
      go_wp2_with fail
      refine (awake_true _ (by exact HM.out.on HB11.out)).mono ?_
      rintro e w12 ⟨rfl, hb⟩
      have HB12 := Lib.hid (HB11.out.trans (hb.mono HB11.out.size))
      clear hb
      go_wp2
      go_ret
      exact ⟨rfl, HB12.out⟩
  · have hsv' : sv = 1 := by rw [hsv]; rfl
    have hsb' : sb = ⟨#[45]⟩ := by rw [hsb]; rfl
    clear hsv hsb
    subst hsv' hsb'
    go_enter Tryd.func6, Tryd.ntmps6
    go_wp2_with fail
    have k0 : (w.alloc (.cells #[.int .i64 h0, .int .i64 h1, .int .i64 h2] 34)).cell? ⟨w.heap.size, 0, none⟩ = some (.int .i64 h0) := by rw [cell_of_row _ _ 0 _ _ _ (heap_alloc_new w _)]; rfl
    have k1 : (w.alloc (.cells #[.int .i64 h0, .int .i64 h1, .int .i64 h2] 34)).cell? ⟨w.heap.size, 1, none⟩ = some (.int .i64 h1) := by rw [cell_of_row _ _ 1 _ _ _ (heap_alloc_new w _)]; rfl
    have k2 : (w.alloc (.cells #[.int .i64 h0, .int .i64 h1, .int .i64 h2] 34)).cell? ⟨w.heap.size, 2, none⟩ = some (.int .i64 h2) := by rw [cell_of_row _ _ 2 _ _ _ (heap_alloc_new w _)]; rfl
    have hbA : Below w.heap.size w (w.alloc (.cells #[.int .i64 h0, .int .i64 h1, .int .i64 h2] 34)) := (Below.refl _ w).alloc (Nat.le_refl _) _
    have hsA : (w.alloc (.cells #[.int .i64 h0, .int .i64 h1, .int .i64 h2] 34)).heap.size = w.heap.size + 1 := by simp
    have HSA := Lib.hid hsA
    clear hsA
    generalize w.alloc (.cells #[.int .i64 h0, .int .i64 h1, .int .i64 h2] 34) = wa at *
    have HBA := Lib.hid hbA
    clear hbA
    go_quiet ((go_at_call 20; first | (with_reducible exact Calls.quiet_of_same (B0.out _)) | (with_reducible exact Calls.quiet_of_same (B1.out _))))
    have HB0 := Lib.hid (below_drewN HBA.out nq)
    have HK2 := Lib.hid (show (wa.drewN nq).cell? ⟨w.heap.size, 2, none⟩ = some (.int .i64 h2) from k2)
    have HLT := Lib.hid (show w.heap.size < (wa.drewN nq).heap.size from by show w.heap.size < wa.heap.size; have := HSA.out; omega)
    clear k0 k1 k2
    go_wp2_with fail
    refine (DA.out _ (by exact (HR1.out.on HB0.out).mono HB0.out.size)).mono ?_
    rintro e w1 ⟨rfl, hb⟩
    have HB1 := Lib.hid (HB0.out.trans (hb.mono HB0.out.size))
    replace HK2 := Lib.hid ((hb.cell (p := ⟨w.heap.size, 2, none⟩) (by exact HLT.out)).trans HK2.out)
    replace HLT := Lib.hid (Nat.lt_of_lt_of_le HLT.out hb.size)
    clear hb
    have ka' := ka.out
    unfold Cat at ka'
    go_wp2_with fail
    clear ka'
    refine (DB.out _ (by exact (HR2.out.on HB1.out).mono HB1.out.size)).mono ?_
    rintro e w2 ⟨rfl, hb⟩
    have HB2 := Lib.hid (HB1.out.trans (hb.mono HB1.out.size))
    replace HK2 := Lib.hid ((hb.cell (p := ⟨w.heap.size, 2, none⟩) (by exact HLT.out)).trans HK2.out)
    replace HLT := Lib.hid (Nat.lt_of_lt_of_le HLT.out hb.size)
    clear hb
    have k2 := HK2.out
    have kb' := kb.out
    unfold Cat at kb'
    go_wp2_with fail
    clear kb'
    refine (B2.out _).mono ?_
    rintro e w' ⟨rfl, rfl⟩
    clear k2
    have x1' := x1.out
    unfold Cat at x1'
    have x2' := x2.out
    unfold Cat at x2'
    have x3' := x3.out
    unfold Cat at x3'
    have x4' := x4.out
    unfold Cat at x4'
    go_wp2_with fail
    clear x1' x2' x3' x4'
    refine (T1.out _).mono ?_
    rintro e w3 ⟨rfl, hb⟩
    have HB3 := Lib.hid (HB2.out.trans (hb.mono HB2.out.size))
    clear hb
    have x5' := x5.out
    unfold Cat at x5'
    have x1' := x1.out
    unfold Cat at x1'
    have y2' := y2.out
    unfold Cat at y2'
    go_wp2_with fail
    clear x5' x1' y2'
    refine (NK.out _).mono ?_
    rintro e w' ⟨rfl, rfl⟩
    have y3' := y3.out
    unfold Cat at y3'
    have y4' := y4.out
    unfold Cat at y4'
    go_wp2_with fail
    clear y3' y4'
    refine (T2.out _ _ (by first | omega | simp)).mono ?_
    rintro e w4 ⟨rfl, hb⟩
    have HB4 := Lib.hid (HB3.out.trans (hb.mono HB3.out.size))
    clear hb
    have y5' := y5.out
    unfold Cat at y5'
    have x1' := x1.out
    unfold Cat at x1'
    have x2' := x2.out
    unfold Cat at x2'
    have x3' := x3.out
    unfold Cat at x3'
    go_wp2_with fail
    clear y5' x1' x2' x3'
    refine (NK.out _).mono ?_
    rintro e w' ⟨rfl, rfl⟩
    have z4' := z4.out
    unfold Cat at z4'
    have z5' := z5.out
    unfold Cat at z5'
    go_wp2_with fail
    clear z4' z5'
    refine (T1.out _).mono ?_
    rintro e w5 ⟨rfl, hb⟩
    have HB5 := Lib.hid (HB4.out.trans (hb.mono HB4.out.size))
    clear hb
    have z6' := z6.out
    unfold Cat at z6'
    have u1' := u1.out
    unfold Cat at u1'
    have u2' := u2.out
    unfold Cat at u2'
    have u3' := u3.out
    unfold Cat at u3'
    have u4' := u4.out
    unfold Cat at u4'
    go_wp2_with fail
    clear z6' u1' u2' u3' u4'
    refine (T3.out _ _ (by first | omega | simp)).mono ?_
    rintro e w6 ⟨rfl, hb⟩
    have HB6 := Lib.hid (HB5.out.trans (hb.mono HB5.out.size))
    clear hb
    cases q
    · skip
      have u5' := u5.out
      unfold Cat at u5'
      go_wp2_with fail
      clear u5'
      refine (S1.out _ (by exact HM.out.on HB6.out)).mono ?_
      rintro e w7 ⟨rfl, hb⟩
      have HB7 := Lib.hid (HB6.out.trans (hb.mono HB6.out.size))
      clear hb
      go_wp2_with fail
      refine (S3.out _ (by exact HM.out.on HB7.out)).mono ?_
      rintro e w8 ⟨rfl, hb⟩
      have HB8 := Lib.hid (HB7.out.trans (hb.mono HB7.out.size))
      clear hb
      go_wp2_with fail
      refine (S6.out _ (by exact HM.out.on HB8.out)).mono ?_
      rintro e w9 ⟨rfl, hb⟩
      have HB9 := Lib.hid (HB8.out.trans (hb.mono HB8.out.size))
      clear hb
      go_wp2_with fail
      refine (S7.out _ (by exact HM.out.on HB9.out)).mono ?_
      rintro e w10 ⟨rfl, hb⟩
      have HB10 := Lib.hid (HB9.out.trans (hb.mono HB9.out.size))
      clear hb
      go_wp2_with fail
      refine (awake_true _ (by exact HM.out.on HB10.out)).mono ?_
      rintro e w11 ⟨rfl, hb⟩
      have HB11 := Lib.hid (HB10.out.trans (hb.mono HB10.out.size))
      clear hb
      go_wp2
      go_ret
      exact ⟨rfl, HB11.out⟩
    · skip
      have u5' := u5.out
      unfold Cat at u5'
      go_wp2_with fail
      clear u5'
      refine (S1.out _ (by exact HM.out.on HB6.out)).mono ?_
      rintro e w7 ⟨rfl, hb⟩
      have HB7 := Lib.hid (HB6.out.trans (hb.mono HB6.out.size))
      clear hb
      go_wp2_with fail
      refine (S2.out _ (by exact HM.out.on HB7.out)).mono ?_
      rintro e w8 ⟨rfl, hb⟩
      have HB8 := Lib.hid (HB7.out.trans (hb.mono HB7.out.size))
      clear hb
      go_wp2_with fail
      refine (S3.out _ (by exact HM.out.on HB8.out)).mono ?_
      rintro e w9 ⟨rfl, hb⟩
      have HB9 := Lib.hid (HB8.out.trans (hb.mono HB8.out.size))
      clear hb
      go_wp2_with fail
      refine (S4.out _ (by exact HM.out.on HB9.out)).mono ?_
      rintro e w10 ⟨rfl, hb⟩
      have HB10 := Lib.hid (HB9.out.trans (hb.mono HB9.out.size))
      clear hb
      go_wp2_with fail
      refine (S5.out _ (by exact HM.out.on HB10.out)).mono ?_
      rintro e w11 ⟨rfl, hb⟩
      have HB11 := Lib.hid (HB10.out.trans (hb.mono HB10.out.size))
      clear hb
      go_wp2_with fail
      refine (awake_true _ (by exact HM.out.on HB11.out)).mono ?_
      rintro e w12 ⟨rfl, hb⟩
      have HB12 := Lib.hid (HB11.out.trans (hb.mono HB11.out.size))
      clear hb
      go_wp2
      go_ret
      exact ⟨rfl, HB12.out⟩

theorem NumberMoved_walk (A1 : Option Addr) (c1 : Nat) (l1 : List UInt8) (A2 : Option Addr) (c2 : Nat) (l2 : List UInt8) (h0 h1 h2 : Int) (w : World) (hr1 : RB w w.heap.size A1 l1) (hn1 : l1.length ≤ 140737488355328) (hr2 : RB w w.heap.size A2 l2) (hn2 : l2.length ≤ 140737488355328)
    (hw : (Lit.int .i64 h0).wf = true ∧ (Lit.int .i64 h1).wf = true ∧ (Lit.int .i64 h2).wf = true) (hM : ML w) :
    Calls Tryd.prog 6 #[.slice A1 l1.length c1, .slice A2 l2.length c2, .agg #[.int .i64 h0, .int .i64 h1, .int .i64 h2]] w fun e w' => e = .returned (.bool true) ∧ Below w.heap.size w w' := by
  have b0 := bounds_i64 hw.1
  have b1 := bounds_i64 hw.2.1
  have b2 := bounds_i64 hw.2.2
  obtain ⟨p, hp, ep⟩ : ∃ p : Nat, p < 1000 ∧ h0 % 1000 = p := ⟨(h0 % 1000).toNat, by omega, by omega⟩
  obtain ⟨k, hk, ek⟩ : ∃ k : Nat, k < 20 ∧ h1 % 20 = k := ⟨(h1 % 20).toNat, by omega, by omega⟩
  obtain ⟨sgn, es⟩ : ∃ sgn : Bool, h2 % 2 = if sgn then 1 else 0 := by
    by_cases h : h2 % 2 = 1
    · exact ⟨true, by rw [h]; rfl⟩
    · exact ⟨false, by show h2 % 2 = 0; omega⟩
  have d1 := digitsS_len l1
  have d2 := digitsS_len l2
  have g1 := digitsS_digs l1
  have g2 := digitsS_digs l2
  generalize hA : digitsS l1 = A at *
  generalize hB : digitsS l2 = B at *
  have had : Digs (49 :: A) := digs_cons rfl g1
  have hbd : Digs (B ++ [53]) := digs_append g2 (digs_cons rfl (fun y hy => by cases hy))
  have hbl : (B ++ [53]).length = B.length + 1 := by simp
  obtain ⟨s1, s2, s3, s4, s5, s6, s7⟩ := moved_same (g := if sgn then [45] else []) (a := 49 :: A) (b := B ++ [53]) (k := k) (p := p) (by cases sgn <;> simp [NegF]) rfl had hbd (by simp) hp hk (by omega) (by simp; omega)
  have lt := textS_len p 2 (by omega)
  have lt2 := textS_len ((B ++ [53]).length + k) 2 (by omega)
  have lt3 := textS_len (p + (49 :: A).length) 3 (by simp; omega)
  have lg : (if sgn then [45] else [] : List UInt8).length ≤ 1 := by cases sgn <;> simp
  have hsb : (if sgn then ⟨#[45]⟩ else ⟨#[]⟩ : ByteArray) = bs (if sgn then [45] else []) := by cases sgn <;> rfl
  have hbz := bs_size (B ++ [53])
  have haz := bs_size (49 :: A)
  generalize hg : (if sgn then [45] else [] : List UInt8) = g at *
  have lX : (movedX g (49 :: A) (B ++ [53]) p).length < 4294967281 := by unfold movedX; simp; omega
  have lY : (movedY g (49 :: A) (B ++ [53]) k).length < 4294967281 := by unfold movedY; rw [hbl] at lt2 ⊢; simp; omega
  have lZ : (movedZ g (49 :: A) (B ++ [53]) k p).length < 4294967281 := by unfold movedZ; simp; omega
  have lU : (movedU g (49 :: A) (B ++ [53]) p).length < 4294967281 := by unfold movedU; simp only [List.length_cons] at lt3; simp; omega
  have hX : g ++ 49 :: A ++ [46] ++ (B ++ [53]) ++ [101] ++ textS p = movedX g (49 :: A) (B ++ [53]) p := by unfold movedX; simp
  have hY : g ++ 49 :: A ++ (B ++ [53]) ++ List.replicate k 48 ++ [69, 45] ++ textS ((B ++ [53]).length + k) = movedY g (49 :: A) (B ++ [53]) k := by unfold movedY; simp
  have hZ : g ++ 49 :: A ++ [46] ++ (B ++ [53]) ++ List.replicate k 48 ++ [101, 43, 48, 48, 48] ++ textS p = movedZ g (49 :: A) (B ++ [53]) k p := by unfold movedZ; simp
  have hU : g ++ [48, 46] ++ 49 :: A ++ (B ++ [53]) ++ [101] ++ textS (p + (49 :: A).length) = movedU g (49 :: A) (B ++ [53]) p := by unfold movedU; simp
  have hT : textS (p + (49 :: A).length) = textS (p + (49 :: A).length) := rfl
  refine Moved_core h0 h1 h2 A1 A2 c1 c2 l1 l2 w (Lib.hid hM) (Lib.hid hr1) (Lib.hid hr2) p k hp hk sgn (decide (p = 0)) (h2 % 2) (if sgn then ⟨#[45]⟩ else ⟨#[]⟩) es rfl
    (by by_cases h : p = 0
        · subst h; rfl
        · have : ((p : Int) == 0) = false := by rw [beq_eq_false_iff_ne]; omega
          rw [this]; simp [h]) (by by_cases h : p = 0 <;> simp [h])
    (Lib.hid fun W => by have := Bring_any h0 1000 W b0 (by decide); rw [ep] at this; exact this.mono fun _ _ h => ⟨h.1, h.2.symm⟩) (Lib.hid fun W => by have := Bring_any h1 20 W b1 (by decide); rw [ek] at this; exact this.mono fun _ _ h => ⟨h.1, h.2.symm⟩) (Lib.hid fun W => Bring_any h2 2 W b2 (by decide))
    A B (49 :: A) (B ++ [53]) _ _ _ _ (movedX g (49 :: A) (B ++ [53]) p) _ _ _ (movedY g (49 :: A) (B ++ [53]) k) _ _ (movedZ g (49 :: A) (B ++ [53]) k p) _ _ _ _ (movedU g (49 :: A) (B ++ [53]) p) (textS p) (textS ((B ++ [53]).length + k)) (textS (p + (49 :: A).length)) (List.replicate k 48)
    (Lib.hid fun W => noughts_any k W (by omega)) (Lib.hid fun W h => by rw [← hA]; exact digs_any A1 c1 l1 W h hn1) (Lib.hid fun W h => by rw [← hB]; exact digs_any A2 c2 l2 W h hn2) (by rw [hbz]; omega) (by rw [haz]; simp; omega)
    (Lib.hid fun W => text_any p W (by omega)) (Lib.hid fun x W hx => by rw [hbz] at hx; obtain rfl : x = (((B ++ [53]).length + k : Nat) : Int) := by omega
                                                                         exact text_any _ W (by omega)) (Lib.hid fun x W hx => by rw [haz] at hx; obtain rfl : x = ((p + (49 :: A).length : Nat) : Int) := by omega
                                                                                                                                  exact text_any _ W (by simp; omega))
    (cat_of (la := [49]) rfl rfl (by simp; omega) rfl) (cat_of (lb := [53]) rfl rfl (by simp; omega) rfl)
    (cat_of hsb rfl (by simp; omega) rfl) (cat_of (lb := [46]) rfl rfl (by simp; omega) rfl) (cat_of rfl rfl (by simp; omega) rfl) (cat_of (lb := [101]) rfl rfl (by simp; omega) rfl) (cat_of rfl rfl (by simp; omega) hX)
    (cat_of rfl rfl (by simp; omega) rfl) (cat_of rfl rfl (by simp; omega) rfl) (cat_of (lb := [69, 45]) rfl rfl (by simp; omega) rfl) (cat_of rfl rfl (by rw [hbl] at lt2 ⊢; simp; omega) hY)
    (cat_of rfl rfl (by simp; omega) rfl) (cat_of (lb := [101, 43, 48, 48, 48]) rfl rfl (by simp; omega) rfl) (cat_of rfl rfl (by simp; omega) hZ)
    (cat_of (lb := [48, 46]) hsb rfl (by simp; omega) rfl) (cat_of rfl rfl (by simp; omega) rfl) (cat_of rfl rfl (by simp; omega) rfl) (cat_of (lb := [101]) rfl rfl (by simp; omega) rfl) (cat_of rfl rfl (by simp only [List.length_cons] at lt3 ⊢; simp; omega) hU)
    (Lib.hid (sameT s1 lX lY)) (Lib.hid (sameT s2 lY lX)) (Lib.hid (sameT s3 lX lZ)) (Lib.hid (sameT s4 lZ lU)) (Lib.hid (sameT s5 lY lU)) (Lib.hid (sameT s6 lX lU)) (Lib.hid (sameT s7 lU lZ))
end Go.Proofs.YtmolacockfekpaaDoor
