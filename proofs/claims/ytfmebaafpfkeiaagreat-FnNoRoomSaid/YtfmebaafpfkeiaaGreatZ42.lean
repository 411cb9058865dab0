/- Parts of the proof of FnNoRoom. -/
import Derived.Test.YtfmebaafpfkeiaaGreatRows
import Derived.Test.YtfmebaafpfkeiaaGreatZ12
set_option linter.unusedVariables false
set_option linter.unusedSimpArgs false
namespace Go.Proofs.YtfmebaafpfkeiaaGreat.fnNoRoom
open Go.ChangeShapes Go.WideShapes Go.ChangeAt Go.RowKit
set_option maxRecDepth 100000
theorem j10 :((Rows.fnNoRoomRow.unfollowed==Tryz.prog.unfollowed 7))=true :=by kernel_rfl
theorem j11 :((Rows.fnNoRoomRow.recurses==Tryz.prog.recurses 7))=true :=by kernel_rfl
end Go.Proofs.YtfmebaafpfkeiaaGreat.fnNoRoom
