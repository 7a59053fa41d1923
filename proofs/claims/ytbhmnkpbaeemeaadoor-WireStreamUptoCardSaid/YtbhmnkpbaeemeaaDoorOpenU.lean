import Derived.Test.YtbhmnkpbaeemeaaDoorOpenO
import Derived.Test.YtbhmnkpbaeemeaaDoorK3
import Derived.Lib.LaidU8T
set_option linter.unusedVariables false
namespace Go.Proofs.YtbhmnkpbaeemeaaDoor
open Go.ChangeShapes Go.WideShapes Go.ChangeAt Go.RowKit
set_option maxRecDepth 1000000 in
theorem u8t_of {W : World} (h : laidMetH Tryd.prog Rows.wireWritesUptoRow.laid W) : U8T W := by
  have hT := utf8Tabs_of_readsT (U8Types.of260 lays260) ⟨by kernel_rfl, by kernel_rfl, by kernel_rfl, by kernel_rfl, by kernel_rfl, by kernel_rfl, by kernel_rfl⟩ (Lib.laidMet.reads h (.tail _ (.head _))) (Lib.laidMet.reads h (.head _))
  exact ⟨hT, World.block_lt_of_cell? W _ (hT.1 0 (by decide)), World.block_lt_of_cell? W _ (hT.2 0 (by decide)).1⟩
end Go.Proofs.YtbhmnkpbaeemeaaDoor
