/-
  Layer 9 (number): the walk of the statement NumberSame: it returns true at every two strings (of fewer than 4294967281 bytes).
-/
import Derived.Test.YthndgekjccclnaaGreatDoorNumAwake
import Derived.Test.YthndgekjccclnaaGreatDoorNumRefSame
import Derived.WalkKit
import Derived.WalkSpells
import Derived.WalkLawsBesides
import Derived.Deep.DeepFit
import Derived.Lib.Hide
namespace Go.Proofs.YthndgekjccclnaaGreatDoor
open Go.RowKit Num
set_option linter.unusedVariables false
set_option linter.unusedSimpArgs false

set_option maxHeartbeats 1000000 in
theorem NumberSame_walk (a b : ByteArray) (w : World) (ha : a.data.toList.length ≤ 4294967280) (hb : b.data.toList.length ≤ 4294967280) (hM : ML w) :
    Calls Tryz.prog 13 #[.string a, .string b] w fun e w' => e = .returned (.bool true) ∧ Below w.heap.size w w' := by
  have S1 := Lib.hid (fun W (hW : ML W) => Same_any a b _ _ rfl rfl W hW (by omega) (by omega))
  have S2 := Lib.hid (fun W (hW : ML W) => Same_any a a _ _ rfl rfl W hW (by omega) (by omega))
  have R1 := Lib.hid (fun W => refSame_any a b _ _ rfl rfl W ha hb)
  have R2 := Lib.hid (fun W => refSame_any a a _ _ rfl rfl W ha ha)
  have HM := Lib.hid hM
  generalize same a.data.toList b.data.toList = q1 at *
  generalize same a.data.toList a.data.toList = q2 at *
  clear ha hb hM
  go_enter Tryz.func13, Tryz.ntmps13
  go_wp2_with fail
  refine (S1.out _ HM.out).mono ?_
  rintro e w1 ⟨rfl, hb⟩
  have HB1 := Lib.hid hb
  clear hb
  go_wp2_with fail
  refine (R1.out _).mono ?_
  rintro e w2 ⟨rfl, hb⟩
  have HB2 := Lib.hid (HB1.out.trans (hb.mono HB1.out.size))
  clear hb
  go_wp2_with fail
  refine (S2.out _ (by exact HM.out.on HB2.out)).mono ?_
  rintro e w3 ⟨rfl, hb⟩
  have HB3 := Lib.hid (HB2.out.trans (hb.mono HB2.out.size))
  clear hb
  go_wp2_with fail
  refine (R2.out _).mono ?_
  rintro e w4 ⟨rfl, hb⟩
  have HB4 := Lib.hid (HB3.out.trans (hb.mono HB3.out.size))
  clear hb
  go_wp2_with fail
  refine (awake_true _ (by exact HM.out.on HB4.out)).mono ?_
  rintro e w5 ⟨rfl, hb⟩
  have HB5 := Lib.hid (HB4.out.trans (hb.mono HB4.out.size))
  clear hb
  go_wp2
  go_ret
  exact ⟨rfl, HB5.out⟩
end Go.Proofs.YthndgekjccclnaaGreatDoor
