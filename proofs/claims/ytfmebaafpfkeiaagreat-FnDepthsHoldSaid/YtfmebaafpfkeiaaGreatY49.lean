/- Parts of the proof of FnDepthsHold. -/
import Derived.Test.YtfmebaafpfkeiaaGreatRows
import Derived.Test.YtfmebaafpfkeiaaGreatY11
set_option linter.unusedVariables false
set_option linter.unusedSimpArgs false
set_option maxRecDepth 1000000
set_option maxHeartbeats 16000000
namespace Go.Proofs.YtfmebaafpfkeiaaGreat.fnDepthsHold
open Go.ChangeShapes Go.WideShapes Go.ChangeAt Go.RowKit
theorem j12:((Rows.fnDepthsHoldRow.named==Tryz.prog.varsNamed 8))=true:=by kernel_rfl
theorem j13:((Rows.fnDepthsHoldRow.maps==(Tryz.f8.params.toList++Rows.fnDepthsHoldSpec.plain.varTypes Tryz.prog).any (Tryz.prog.mapsRec ·)))=true:=by kernel_rfl
theorem j14:((Rows.fnDepthsHoldRow.ifaces==(Tryz.f8.params.toList++Rows.fnDepthsHoldSpec.plain.varTypes Tryz.prog).any (Tryz.prog.ifacesRec ·)))=true:=by kernel_rfl
theorem j15:((Rows.fnDepthsHoldRow.mapsOut==Tryz.prog.mapsAmong Tryz.f8.resultTypes.toList))=true:=by kernel_rfl
theorem j16:((Rows.fnDepthsHoldRow.loops==(Tryz.f8.params.toList++Rows.fnDepthsHoldSpec.plain.varTypes Tryz.prog).any (Tryz.prog.loopsFrom ·)))=true:=by kernel_rfl
theorem j17:((Rows.fnDepthsHoldRow.wideKeys==(Tryz.f8.params.toList++Rows.fnDepthsHoldSpec.plain.varTypes Tryz.prog++Tryz.f8.resultTypes.toList).any (Tryz.prog.wideKeysFrom ·)))=true:=by kernel_rfl
theorem j18:(Rows.fnDepthsHoldSpec.vars.all (Tryz.prog.varReadable ·))=true:=by kernel_rfl
theorem j19:(Tryz.f8.resultTypes.all (fun t=>Tryz.prog.readableRec t&& decide (t < Tryz.prog.types.size)))=true:=by kernel_rfl
theorem j20:((Rows.fnDepthsHoldRow.ifacesOut==Tryz.f8.resultTypes.toList.any (Tryz.prog.ifacesRec ·)))=true:=by kernel_rfl
theorem j21:((Rows.fnDepthsHoldRow.loopsOut==Tryz.f8.resultTypes.toList.any (Tryz.prog.loopsFrom ·)))=true:=by kernel_rfl
theorem j22:((Rows.fnDepthsHoldRow.plainKeys==Tryz.prog.plainKeys))=true:=by kernel_rfl
theorem j23:(Rows.fnDepthsHoldRow.shortTexts.isNone)=true:=by kernel_rfl
theorem j24:(Tryz.prog.stopsHeard)=true:=by kernel_rfl
theorem j25:(Tryz.prog.mayEnter)=true:=by kernel_rfl
theorem j26:((Rows.fnDepthsHoldRow.lifted==Tryz.prog.liftsFinal))=true:=by kernel_rfl
theorem j27:((Tryz.prog.make==some Rows.fnDepthsHoldRow.make))=true:=by kernel_rfl
theorem j28:((Rows.fnDepthsHoldRow.kinds==(if Rows.fnDepthsHoldRow.domain.isEmpty then []else Tryz.f8.params.toList.map fun t=>match Tryz.prog.underlying t with |some (.int k)=>some k |_=>none)))=true:=by kernel_rfl
theorem j29:((Rows.fnDepthsHoldRow.pinned==Rows.fnDepthsHoldRow.pinnedBy))=true:=by kernel_rfl
theorem j30:((Rows.fnDepthsHoldRow.veiled==(Tryz.f8.params.toList++Rows.fnDepthsHoldSpec.plain.varTypes Tryz.prog++Tryz.f8.resultTypes.toList).any (Tryz.prog.veiledRec ·)))=true:=by kernel_rfl
theorem j31:(Rows.fnDepthsHoldRow.veiledFits Tryz.prog Tryz.f8.params.toList (Tryz.f8.params.toList++Rows.fnDepthsHoldSpec.plain.varTypes Tryz.prog++Tryz.f8.resultTypes.toList))=true:=by kernel_rfl
end Go.Proofs.YtfmebaafpfkeiaaGreat.fnDepthsHold
