/-
  For the rows: the library's table that is laid.
-/
import Derived.Test.YtfploakafbnigaaGreatDoorCPkRow
import Derived.Test.YtfploakafbnigaaGreatDoorCPkMkC
import Derived.Lib.LaidTab
namespace Go.Proofs.YtfploakafbnigaaGreatDoor.rowkit
open Go.ChangeShapes Go.WideShapes Go.ChangeAt Go.RowKit Go.Deep Go.WideMaps Val
set_option linter.unusedVariables false
set_option linter.unusedSimpArgs false
theorem laid_tail {P : Program} {x : String × DataW Unit} {rest : List (String × DataW Unit)} {w : World} (h : laidMet P (x :: rest) w) : laidMet P rest w := by
  obtain ⟨ps, ⟨g, t, cs, fuel, p, q, -, -, -, -, hr, rfl⟩, hnd, hall⟩ := h
  exact ⟨q, hr, (List.nodup_append.1 hnd).2.1, fun b off hm => hall b off (List.mem_append_right _ hm)⟩
theorem ptab_head {W : World} {rest : List (String × DataW Unit)} (h : laidMet Tryz.prog (("internal/strconv.uint64pow10", Rows.laid_internal_strconv_uint64pow10) :: rest) W) : PTab W :=
  Lib.tabIs_of_head (g := 0) (t := 297) (e := 270) (n := 20) (by kernel_rfl) (by kernel_rfl) (by kernel_rfl) (by kernel_rfl) (by kernel_rfl) (by kernel_rfl) h
end Go.Proofs.YtfploakafbnigaaGreatDoor.rowkit
