/-
  Layer 12, the walks: the document's Parse.
-/
import Derived.Test.YtfploakafbnigaaGreatDoorCRpcRefA
import Derived.Test.YtfploakafbnigaaGreatDoorCRpcRefB
import Derived.Test.YtfploakafbnigaaGreatDoorCRpcRefC
namespace Go.Proofs.YtfploakafbnigaaGreatDoor
open Go.RowKit Val Num YtfploakafbnigaaGreatDoorW.PrintLast
set_option linter.unusedVariables false
set_option linter.unusedSimpArgs false
theorem refParse_any (t : VT) (z : Zone) (v : Value) (w : World) (h : VLV z t w v) (hk : t.bulk ≤ 1073741790) : Calls Tryz.prog 34 #[v] w (MkV2 t.readM (.int .i64 t.readE) w) := by
  by_cases hc : ¬ t.check = 0
  · exact rP_c t z v w h hk hc
  replace hc := Classical.not_not.1 hc
  cases h_zV : ((t.getD VT.rpcN).kind != 3)
  · cases h_x2 : ((t.getD VT.rpcN).text.toList == [50, 46, 48])
    · exact rP_x t z v w h hk hc h_zV h_x2
    · cases h_bM : (t.has VT.methodN)
      · exact rP_ans t z v w h hk hc h_zV h_x2 h_bM
      · exact rP_ask t z v w h hk hc h_zV h_x2 h_bM
  · exact rP_v t z v w h hk hc h_zV
end Go.Proofs.YtfploakafbnigaaGreatDoor
