/-
  Layer 12, the walks: Print.
-/
import Derived.Test.YtfploakafbnigaaGreatDoorCRpcPrintA
import Derived.Test.YtfploakafbnigaaGreatDoorCRpcPrintB
import Derived.Test.YtfploakafbnigaaGreatDoorCRpcPrintC
namespace Go.Proofs.YtfploakafbnigaaGreatDoor
open Go.RowKit Val Num YtfploakafbnigaaGreatDoorW.PrintLast
set_option linter.unusedVariables false
set_option linter.unusedSimpArgs false
theorem Print_any (m : MT) (z : Zone) (v : Value) (w : World) (h : MSV z m w v) (hM : ML w) (hP : PTab w) (hk : m.bulk ≤ 1073741000) (ht : (MTtree m).bulk ≤ 1073741824) (hf : (faultT m.code m.text).bulk ≤ 1073741824) : Calls Tryz.prog 55 #[v] w (PrM m w) := by
  cases hR : MTmay m
  · exact Print_no m z v w h hM hP hk ht hR
  · cases hh : m.has
    · rcases ok_four hR with e | e | e | e
      · exact Print_1f m z v w h hM hP hk ht hR e hh
      · exact Print_2f m z v w h hM hP hk ht hR e hh
      · exact Print_3 m z v w h hM hP hk ht hR e
      · exact Print_4 m z v w h hM hP hk ht hR e hf
    · rcases ok_four hR with e | e | e | e
      · exact Print_1t m z v w h hM hP hk ht hR e hh
      · exact Print_2t m z v w h hM hP hk ht hR e hh
      · exact Print_3 m z v w h hM hP hk ht hR e
      · exact Print_4 m z v w h hM hP hk ht hR e hf
end Go.Proofs.YtfploakafbnigaaGreatDoor
