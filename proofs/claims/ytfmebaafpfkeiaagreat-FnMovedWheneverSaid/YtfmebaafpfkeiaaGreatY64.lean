/- Parts of the proof of FnMovedWhenever. -/
import Derived.Test.YtfmebaafpfkeiaaGreatRows
import Derived.Test.YtfmebaafpfkeiaaGreatY11
set_option linter.unusedVariables false
set_option linter.unusedSimpArgs false
set_option maxRecDepth 1000000
set_option maxHeartbeats 16000000
namespace Go.Proofs.YtfmebaafpfkeiaaGreat.fnMovedWhenever
open Go.ChangeShapes Go.WideShapes Go.ChangeAt Go.RowKit
theorem j12:((Rows.fnMovedWheneverRow.named==Tryz.prog.varsNamed 6))=true:=by kernel_rfl
theorem j13:((Rows.fnMovedWheneverRow.maps==(Tryz.f6.params.toList++Rows.fnMovedWheneverSpec.plain.varTypes Tryz.prog).any (Tryz.prog.mapsRec ·)))=true:=by kernel_rfl
theorem j14:((Rows.fnMovedWheneverRow.ifaces==(Tryz.f6.params.toList++Rows.fnMovedWheneverSpec.plain.varTypes Tryz.prog).any (Tryz.prog.ifacesRec ·)))=true:=by kernel_rfl
theorem j15:((Rows.fnMovedWheneverRow.mapsOut==Tryz.prog.mapsAmong Tryz.f6.resultTypes.toList))=true:=by kernel_rfl
theorem j16:((Rows.fnMovedWheneverRow.loops==(Tryz.f6.params.toList++Rows.fnMovedWheneverSpec.plain.varTypes Tryz.prog).any (Tryz.prog.loopsFrom ·)))=true:=by kernel_rfl
theorem j17:((Rows.fnMovedWheneverRow.wideKeys==(Tryz.f6.params.toList++Rows.fnMovedWheneverSpec.plain.varTypes Tryz.prog++Tryz.f6.resultTypes.toList).any (Tryz.prog.wideKeysFrom ·)))=true:=by kernel_rfl
theorem j18:(Rows.fnMovedWheneverSpec.vars.all (Tryz.prog.varReadable ·))=true:=by kernel_rfl
theorem j19:(Tryz.f6.resultTypes.all (fun t=>Tryz.prog.readableRec t&& decide (t < Tryz.prog.types.size)))=true:=by kernel_rfl
theorem j20:((Rows.fnMovedWheneverRow.ifacesOut==Tryz.f6.resultTypes.toList.any (Tryz.prog.ifacesRec ·)))=true:=by kernel_rfl
theorem j21:((Rows.fnMovedWheneverRow.loopsOut==Tryz.f6.resultTypes.toList.any (Tryz.prog.loopsFrom ·)))=true:=by kernel_rfl
theorem j22:((Rows.fnMovedWheneverRow.plainKeys==Tryz.prog.plainKeys))=true:=by kernel_rfl
theorem j23:(Rows.fnMovedWheneverRow.shortTexts.isNone)=true:=by kernel_rfl
theorem j24:(Tryz.prog.stopsHeard)=true:=by kernel_rfl
theorem j25:(Tryz.prog.mayEnter)=true:=by kernel_rfl
theorem j26:((Rows.fnMovedWheneverRow.lifted==Tryz.prog.liftsFinal))=true:=by kernel_rfl
theorem j27:((Tryz.prog.make==some Rows.fnMovedWheneverRow.make))=true:=by kernel_rfl
theorem j28:((Rows.fnMovedWheneverRow.kinds==(if Rows.fnMovedWheneverRow.domain.isEmpty then []else Tryz.f6.params.toList.map fun t=>match Tryz.prog.underlying t with |some (.int k)=>some k |_=>none)))=true:=by kernel_rfl
theorem j29:((Rows.fnMovedWheneverRow.pinned==Rows.fnMovedWheneverRow.pinnedBy))=true:=by kernel_rfl
theorem j30:((Rows.fnMovedWheneverRow.veiled==(Tryz.f6.params.toList++Rows.fnMovedWheneverSpec.plain.varTypes Tryz.prog++Tryz.f6.resultTypes.toList).any (Tryz.prog.veiledRec ·)))=true:=by kernel_rfl
theorem j31:(Rows.fnMovedWheneverRow.veiledFits Tryz.prog Tryz.f6.params.toList (Tryz.f6.params.toList++Rows.fnMovedWheneverSpec.plain.varTypes Tryz.prog++Tryz.f6.resultTypes.toList))=true:=by kernel_rfl
end Go.Proofs.YtfmebaafpfkeiaaGreat.fnMovedWhenever
