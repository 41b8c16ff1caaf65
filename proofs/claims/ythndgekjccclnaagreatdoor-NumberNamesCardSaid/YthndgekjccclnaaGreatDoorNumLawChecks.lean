/-
  Layer 9 (number): the walk of the statement NumberChecks: it returns true at every row of bytes and every place.
-/
import Derived.Test.YthndgekjccclnaaGreatDoorNumAwake
import Derived.Test.YthndgekjccclnaaGreatDoorNumBytes
import Derived.WalkKit
import Derived.WalkSpells
import Derived.WalkLawsBesides
import Derived.Lib.Hide
namespace Go.Proofs.YthndgekjccclnaaGreatDoor
open Go.RowKit Num
set_option linter.unusedVariables false
set_option linter.unusedSimpArgs false

theorem eqB_self (l : List UInt8) : eqB l l = true := by unfold eqB; simp
set_option maxHeartbeats 1000000 in
theorem NumberChecks_walk (A : Option Addr) (c : Nat) (l : List UInt8) (at' : Int) (w : World) (hr : RB w w.heap.size A l) (hn : l.length ≤ 140737488355328) (hM : ML w) :
    Calls Tryz.prog 14 #[.slice A l.length c, .int .i64 at'] w fun e w' => e = .returned (.bool true) ∧ Below w.heap.size w w' := by
  have HC := Lib.hid (CopyBytes_any A c l w hr hn)
  have HR := Lib.hid hr
  have HM := Lib.hid hM
  have H1 := Lib.hid (fun A' c' W h => Check_any c' A' l at' W h (by omega))
  have H2 := Lib.hid (fun W h => refCheck_any c w.heap.size A l at' W h (by omega))
  have H3 := Lib.hid (fun A' c' B W h h' => EqBytes_any A' A c' c B l l W h h' hn hn)
  rw [eqB_self] at H3
  generalize check l at' = K at *
  clear hr hM
  go_enter Tryz.func14, Tryz.ntmps14
  go_wp2_with fail
  refine HC.out.mono ?_
  rintro e w1 ⟨⟨A', c', rfl, hr1⟩, hb1⟩
  have HR1 := Lib.hid hr1
  have HB1 := Lib.hid hb1
  clear hr1 hb1
  go_wp2_with fail
  refine (H1.out A' c' _ HR1.out).mono ?_
  rintro e w2 ⟨rfl, hb⟩
  have HB2 := Lib.hid (HB1.out.trans (hb.mono HB1.out.size))
  have HR2 := Lib.hid ((HR1.out.on hb).mono hb.size)
  clear hb
  go_wp2_with fail
  refine (H2.out _ (HR.out.on HB2.out)).mono ?_
  rintro e w' ⟨rfl, rfl⟩
  go_wp2_with fail
  refine (H3.out A' c' _ _ HR2.out ((HR.out.on HB2.out).mono HB2.out.size)).mono ?_
  rintro e w' ⟨rfl, n, rfl⟩
  go_wp2_with fail
  refine (awake_true _ (ML.on HM.out (below_drewN HB2.out n))).mono ?_
  rintro e w3 ⟨rfl, hb⟩
  have HB3 := Lib.hid ((below_drewN HB2.out n).trans (hb.mono HB2.out.size))
  clear hb
  go_wp2
  go_ret
  exact ⟨rfl, HB3.out⟩
end Go.Proofs.YthndgekjccclnaaGreatDoor
