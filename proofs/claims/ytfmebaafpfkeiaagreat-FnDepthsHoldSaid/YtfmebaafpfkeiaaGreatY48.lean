/- Parts of the proof of FnDepthsHold. -/
import Derived.Test.YtfmebaafpfkeiaaGreatRows
import Derived.Test.YtfmebaafpfkeiaaGreatY11
set_option linter.unusedVariables false
set_option linter.unusedSimpArgs false
set_option maxRecDepth 1000000
set_option maxHeartbeats 16000000
namespace Go.Proofs.YtfmebaafpfkeiaaGreat.fnDepthsHold
open Go.ChangeShapes Go.WideShapes Go.ChangeAt Go.RowKit
theorem j10:((Rows.fnDepthsHoldRow.unfollowed==Tryz.prog.unfollowed 8))=true:=by kernel_rfl
theorem j11:((Rows.fnDepthsHoldRow.recurses==Tryz.prog.recurses 8))=true:=by kernel_rfl
end Go.Proofs.YtfmebaafpfkeiaaGreat.fnDepthsHold
