/-
  Layer 9 (number): the walk of the statement NumberInts: it returns true at every string (of fewer than 4294967281 bytes).
-/
import Derived.Test.YthndgekjccclnaaGreatDoorNumAwake
import Derived.Test.YthndgekjccclnaaGreatDoorNumRefInt
import Derived.WalkKit
import Derived.WalkSpells
import Derived.WalkLawsBesides
import Derived.Deep.DeepFit
import Derived.Lib.Hide
namespace Go.Proofs.YthndgekjccclnaaGreatDoor
open Go.RowKit Num
set_option linter.unusedVariables false
set_option linter.unusedSimpArgs false

set_option maxHeartbeats 1000000 in
theorem NumberInts_walk (a : ByteArray) (w : World) (ha : a.data.toList.length ≤ 4294967280) (hM : ML w) :
    Calls Tryz.prog 15 #[.string a] w fun e w' => e = .returned (.bool true) ∧ Below w.heap.size w w' := by
  have S1 := Lib.hid (fun W (hW : ML W) => Int_any a _ rfl W hW (by omega))
  have R1 := Lib.hid (fun W => refInt_any a _ rfl W ha)
  have HM := Lib.hid hM
  generalize int a.data.toList = R at *
  obtain ⟨n, q⟩ := R
  clear ha hM
  go_enter Tryz.func15, Tryz.ntmps15
  go_wp2_with fail
  refine (S1.out _ HM.out).mono ?_
  rintro e w1 ⟨rfl, hb⟩
  have HB1 := Lib.hid hb
  clear hb
  go_wp2_with fail
  refine (R1.out _).mono ?_
  rintro e w2 ⟨rfl, hb⟩
  have HB2 := Lib.hid (HB1.out.trans (hb.mono HB1.out.size))
  clear hb
  go_wp2_with fail
  refine (awake_true _ (by exact HM.out.on HB2.out)).mono ?_
  rintro e w3 ⟨rfl, hb⟩
  have HB3 := Lib.hid (HB2.out.trans (hb.mono HB2.out.size))
  clear hb
  go_wp2
  go_ret
  exact ⟨rfl, HB3.out⟩
end Go.Proofs.YthndgekjccclnaaGreatDoor
