/-
  Joined texts: MkTrees.
-/
import Derived.Test.YtfploakafbnigaaGreatDoorCPkMkB
import Derived.Test.YtfploakafbnigaaGreatDoorCPkParC
import Derived.Test.YtfploakafbnigaaGreatDoorCPkNumC
import Derived.Test.YtfploakafbnigaaGreatDoorCPkNumA
import Derived.Test.YtfploakafbnigaaGreatDoorCPkValB
import Derived.Test.YtfploakafbnigaaGreatDoorShelf
import Derived.Shelf.Unicode.PredsPay
import Derived.Lib.AppendIntMem
namespace Go.Proofs.YtfploakafbnigaaGreatDoor
open Go.RowKit Val Num
set_option linter.unusedVariables false
set_option linter.unusedSimpArgs false
/-- the library's table of powers -/
def PTab (w : World) : Prop := Lib.TabIs Tryz.prog w "internal/strconv.uint64pow10" .u64 Lib.pow10Tab
theorem PTab.on {w w' : World} (h : PTab w) (hb : Below w.heap.size w w') : PTab w' := TabIs_below (g := 0) (by kernel_rfl) h hb
def I64 (x : Int) : Prop := -9223372036854775808 ≤ x ∧ x ≤ 9223372036854775807
/-- whatever is made whole, of no blocks, lies in every zone -/
theorem Made.leaf {k : Int} {i : Bool} {s : ByteArray} {w w' : World} {e : Ending} (h : Made (.agg #[.int .i64 k, .bool i, .string s, .slice none 0 0, .slice none 0 0]) w e w') (hk : -9223372036854775808 ≤ k ∧ k ≤ 9223372036854775807) : Copied (.ofL k i s [] []) w e w' :=
  ⟨_, h.1, VAL.shut hk (.inl rfl) (.inl rfl), h.2⟩
end Go.Proofs.YtfploakafbnigaaGreatDoor
