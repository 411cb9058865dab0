/- Parts of the proof of FnBytes. -/
import Derived.Test.YtdmkhipimcjipaaGreatRows
import Derived.Test.YtdmkhipimcjipaaGreatZ13
set_option linter.unusedVariables false
set_option linter.unusedSimpArgs false
namespace Go.Proofs.YtdmkhipimcjipaaGreat.fnBytes
open Go.ChangeShapes Go.WideShapes Go.ChangeAt Go.RowKit
set_option maxRecDepth 100000
theorem j10 : ((Rows.fnBytesRow.unfollowed == Tryz.prog.unfollowed 3)) = true := by kernel_rfl
theorem j11 : ((Rows.fnBytesRow.recurses == Tryz.prog.recurses 3)) = true := by kernel_rfl
end Go.Proofs.YtdmkhipimcjipaaGreat.fnBytes
