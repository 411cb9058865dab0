/- Parts of the proof of FnMovedWhenever. -/
import Derived.Test.YtfmebaafpfkeiaaGreatRows
import Derived.Test.YtfmebaafpfkeiaaGreatY11
set_option linter.unusedVariables false
set_option linter.unusedSimpArgs false
set_option maxRecDepth 1000000
set_option maxHeartbeats 16000000
namespace Go.Proofs.YtfmebaafpfkeiaaGreat.fnMovedWhenever
open Go.ChangeShapes Go.WideShapes Go.ChangeAt Go.RowKit
theorem j10:((Rows.fnMovedWheneverRow.unfollowed==Tryz.prog.unfollowed 6))=true:=by kernel_rfl
theorem j11:((Rows.fnMovedWheneverRow.recurses==Tryz.prog.recurses 6))=true:=by kernel_rfl
end Go.Proofs.YtfmebaafpfkeiaaGreat.fnMovedWhenever
