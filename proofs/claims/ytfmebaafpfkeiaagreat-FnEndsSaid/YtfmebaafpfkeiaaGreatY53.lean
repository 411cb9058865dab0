/- Parts of the proof of FnEnds. -/
import Derived.Test.YtfmebaafpfkeiaaGreatRows
import Derived.Test.YtfmebaafpfkeiaaGreatY11
set_option linter.unusedVariables false
set_option linter.unusedSimpArgs false
set_option maxRecDepth 1000000
set_option maxHeartbeats 16000000
namespace Go.Proofs.YtfmebaafpfkeiaaGreat.fnEnds
open Go.ChangeShapes Go.WideShapes Go.ChangeAt Go.RowKit
theorem j10:((Rows.fnEndsRow.unfollowed==Tryz.prog.unfollowed 4))=true:=by kernel_rfl
theorem j11:((Rows.fnEndsRow.recurses==Tryz.prog.recurses 4))=true:=by kernel_rfl
end Go.Proofs.YtfmebaafpfkeiaaGreat.fnEnds
