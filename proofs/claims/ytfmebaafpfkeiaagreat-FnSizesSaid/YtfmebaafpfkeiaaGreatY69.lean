/- Parts of the proof of FnSizes. -/
import Derived.Test.YtfmebaafpfkeiaaGreatRows
import Derived.Test.YtfmebaafpfkeiaaGreatY11
set_option linter.unusedVariables false
set_option linter.unusedSimpArgs false
set_option maxRecDepth 1000000
set_option maxHeartbeats 16000000
namespace Go.Proofs.YtfmebaafpfkeiaaGreat.fnSizes
open Go.ChangeShapes Go.WideShapes Go.ChangeAt Go.RowKit
theorem j12:((Rows.fnSizesRow.named==Tryz.prog.varsNamed 5))=true:=by kernel_rfl
theorem j13:((Rows.fnSizesRow.maps==(Tryz.f5.params.toList++Rows.fnSizesSpec.plain.varTypes Tryz.prog).any (Tryz.prog.mapsRec ·)))=true:=by kernel_rfl
theorem j14:((Rows.fnSizesRow.ifaces==(Tryz.f5.params.toList++Rows.fnSizesSpec.plain.varTypes Tryz.prog).any (Tryz.prog.ifacesRec ·)))=true:=by kernel_rfl
theorem j15:((Rows.fnSizesRow.mapsOut==Tryz.prog.mapsAmong Tryz.f5.resultTypes.toList))=true:=by kernel_rfl
theorem j16:((Rows.fnSizesRow.loops==(Tryz.f5.params.toList++Rows.fnSizesSpec.plain.varTypes Tryz.prog).any (Tryz.prog.loopsFrom ·)))=true:=by kernel_rfl
theorem j17:((Rows.fnSizesRow.wideKeys==(Tryz.f5.params.toList++Rows.fnSizesSpec.plain.varTypes Tryz.prog++Tryz.f5.resultTypes.toList).any (Tryz.prog.wideKeysFrom ·)))=true:=by kernel_rfl
theorem j18:(Rows.fnSizesSpec.vars.all (Tryz.prog.varReadable ·))=true:=by kernel_rfl
theorem j19:(Tryz.f5.resultTypes.all (fun t=>Tryz.prog.readableRec t&& decide (t < Tryz.prog.types.size)))=true:=by kernel_rfl
theorem j20:((Rows.fnSizesRow.ifacesOut==Tryz.f5.resultTypes.toList.any (Tryz.prog.ifacesRec ·)))=true:=by kernel_rfl
theorem j21:((Rows.fnSizesRow.loopsOut==Tryz.f5.resultTypes.toList.any (Tryz.prog.loopsFrom ·)))=true:=by kernel_rfl
theorem j22:((Rows.fnSizesRow.plainKeys==Tryz.prog.plainKeys))=true:=by kernel_rfl
theorem j23:(Rows.fnSizesRow.shortTexts.isNone)=true:=by kernel_rfl
theorem j24:(Tryz.prog.stopsHeard)=true:=by kernel_rfl
theorem j25:(Tryz.prog.mayEnter)=true:=by kernel_rfl
theorem j26:((Rows.fnSizesRow.lifted==Tryz.prog.liftsFinal))=true:=by kernel_rfl
theorem j27:((Tryz.prog.make==some Rows.fnSizesRow.make))=true:=by kernel_rfl
theorem j28:((Rows.fnSizesRow.kinds==(if Rows.fnSizesRow.domain.isEmpty then []else Tryz.f5.params.toList.map fun t=>match Tryz.prog.underlying t with |some (.int k)=>some k |_=>none)))=true:=by kernel_rfl
theorem j29:((Rows.fnSizesRow.pinned==Rows.fnSizesRow.pinnedBy))=true:=by kernel_rfl
theorem j30:((Rows.fnSizesRow.veiled==(Tryz.f5.params.toList++Rows.fnSizesSpec.plain.varTypes Tryz.prog++Tryz.f5.resultTypes.toList).any (Tryz.prog.veiledRec ·)))=true:=by kernel_rfl
theorem j31:(Rows.fnSizesRow.veiledFits Tryz.prog Tryz.f5.params.toList (Tryz.f5.params.toList++Rows.fnSizesSpec.plain.varTypes Tryz.prog++Tryz.f5.resultTypes.toList))=true:=by kernel_rfl
end Go.Proofs.YtfmebaafpfkeiaaGreat.fnSizes
