/- Parts of the proof of FnDepthsHold. -/
import Derived.Test.YtfmebaafpfkeiaaGreatRows
import Derived.Test.YtfmebaafpfkeiaaGreatY11
set_option linter.unusedVariables false
set_option linter.unusedSimpArgs false
set_option maxRecDepth 1000000
set_option maxHeartbeats 16000000
namespace Go.Proofs.YtfmebaafpfkeiaaGreat.fnDepthsHold
open Go.ChangeShapes Go.WideShapes Go.ChangeAt Go.RowKit
theorem j0:(Rows.fnDepthsHoldRow.wf (OpenSpec.ofChange Rows.fnDepthsHoldSpec))=true:=by kernel_rfl
theorem j1:(laidOutB Tryz.prog)=true:=by kernel_rfl
theorem j2:(mapsRowed Tryz.prog)=true:=by kernel_rfl
theorem j3:(Tryz.f8.params.all (Tryz.prog.readableRec ·))=true:=by kernel_rfl
theorem j4:(namedTie Tryz.prog Rows.fnDepthsHoldRow.named Rows.fnDepthsHoldSpec.vars)=true:=by kernel_rfl
theorem j5:((Rows.fnDepthsHoldRow.stops==[]))=true:=by kernel_rfl
theorem j6:((Tryz.prog.stops==[]))=true:=by kernel_rfl
theorem j7:((Rows.fnDepthsHoldRow.knobs==[]))=true:=by kernel_rfl
theorem j8:((Tryz.prog.stopKnobs==[]))=true:=by kernel_rfl
theorem j9:((Rows.fnDepthsHoldRow.inPlace==Tryz.prog.inPlace 8))=true:=by kernel_rfl
end Go.Proofs.YtfmebaafpfkeiaaGreat.fnDepthsHold
