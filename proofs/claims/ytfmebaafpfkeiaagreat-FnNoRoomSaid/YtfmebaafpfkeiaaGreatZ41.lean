/- Parts of the proof of FnNoRoom. -/
import Derived.Test.YtfmebaafpfkeiaaGreatRows
import Derived.Test.YtfmebaafpfkeiaaGreatZ12
set_option linter.unusedVariables false
set_option linter.unusedSimpArgs false
namespace Go.Proofs.YtfmebaafpfkeiaaGreat.fnNoRoom
open Go.ChangeShapes Go.WideShapes Go.ChangeAt Go.RowKit
set_option maxRecDepth 100000
theorem j0 :(Rows.fnNoRoomRow.wf (OpenSpec.ofChange Rows.fnNoRoomSpec))=true :=by kernel_rfl
theorem j1 :(laidOutB Tryz.prog)=true :=by kernel_rfl
theorem j2 :(mapsRowed Tryz.prog)=true :=by kernel_rfl
theorem j3 :(Tryz.f7.params.all (Tryz.prog.readableRec ·))=true :=by kernel_rfl
theorem j4 :(namedTie Tryz.prog Rows.fnNoRoomRow.named Rows.fnNoRoomSpec.vars)=true :=by kernel_rfl
theorem j5 :((Rows.fnNoRoomRow.stops== []))=true :=by kernel_rfl
theorem j6 :((Tryz.prog.stops== []))=true :=by kernel_rfl
theorem j7 :((Rows.fnNoRoomRow.knobs== []))=true :=by kernel_rfl
theorem j8 :((Tryz.prog.stopKnobs== []))=true :=by kernel_rfl
theorem j9 :((Rows.fnNoRoomRow.inPlace==Tryz.prog.inPlace 7))=true :=by kernel_rfl
end Go.Proofs.YtfmebaafpfkeiaaGreat.fnNoRoom
