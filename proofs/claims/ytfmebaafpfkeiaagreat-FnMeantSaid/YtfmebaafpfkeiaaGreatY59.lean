/- Parts of the proof of FnMeant. -/
import Derived.Test.YtfmebaafpfkeiaaGreatRows
import Derived.Test.YtfmebaafpfkeiaaGreatY11
set_option linter.unusedVariables false
set_option linter.unusedSimpArgs false
set_option maxRecDepth 1000000
set_option maxHeartbeats 16000000
namespace Go.Proofs.YtfmebaafpfkeiaaGreat.fnMeant
open Go.ChangeShapes Go.WideShapes Go.ChangeAt Go.RowKit
theorem j12:((Rows.fnMeantRow.named==Tryz.prog.varsNamed 3))=true:=by kernel_rfl
theorem j13:((Rows.fnMeantRow.maps==(Tryz.f3.params.toList++Rows.fnMeantSpec.plain.varTypes Tryz.prog).any (Tryz.prog.mapsRec ·)))=true:=by kernel_rfl
theorem j14:((Rows.fnMeantRow.ifaces==(Tryz.f3.params.toList++Rows.fnMeantSpec.plain.varTypes Tryz.prog).any (Tryz.prog.ifacesRec ·)))=true:=by kernel_rfl
theorem j15:((Rows.fnMeantRow.mapsOut==Tryz.prog.mapsAmong Tryz.f3.resultTypes.toList))=true:=by kernel_rfl
theorem j16:((Rows.fnMeantRow.loops==(Tryz.f3.params.toList++Rows.fnMeantSpec.plain.varTypes Tryz.prog).any (Tryz.prog.loopsFrom ·)))=true:=by kernel_rfl
theorem j17:((Rows.fnMeantRow.wideKeys==(Tryz.f3.params.toList++Rows.fnMeantSpec.plain.varTypes Tryz.prog++Tryz.f3.resultTypes.toList).any (Tryz.prog.wideKeysFrom ·)))=true:=by kernel_rfl
theorem j18:(Rows.fnMeantSpec.vars.all (Tryz.prog.varReadable ·))=true:=by kernel_rfl
theorem j19:(Tryz.f3.resultTypes.all (fun t=>Tryz.prog.readableRec t&& decide (t < Tryz.prog.types.size)))=true:=by kernel_rfl
theorem j20:((Rows.fnMeantRow.ifacesOut==Tryz.f3.resultTypes.toList.any (Tryz.prog.ifacesRec ·)))=true:=by kernel_rfl
theorem j21:((Rows.fnMeantRow.loopsOut==Tryz.f3.resultTypes.toList.any (Tryz.prog.loopsFrom ·)))=true:=by kernel_rfl
theorem j22:((Rows.fnMeantRow.plainKeys==Tryz.prog.plainKeys))=true:=by kernel_rfl
theorem j23:(Rows.fnMeantRow.shortTexts.isNone)=true:=by kernel_rfl
theorem j24:(Tryz.prog.stopsHeard)=true:=by kernel_rfl
theorem j25:(Tryz.prog.mayEnter)=true:=by kernel_rfl
theorem j26:((Rows.fnMeantRow.lifted==Tryz.prog.liftsFinal))=true:=by kernel_rfl
theorem j27:((Tryz.prog.make==some Rows.fnMeantRow.make))=true:=by kernel_rfl
theorem j28:((Rows.fnMeantRow.kinds==(if Rows.fnMeantRow.domain.isEmpty then []else Tryz.f3.params.toList.map fun t=>match Tryz.prog.underlying t with |some (.int k)=>some k |_=>none)))=true:=by kernel_rfl
theorem j29:((Rows.fnMeantRow.pinned==Rows.fnMeantRow.pinnedBy))=true:=by kernel_rfl
theorem j30:((Rows.fnMeantRow.veiled==(Tryz.f3.params.toList++Rows.fnMeantSpec.plain.varTypes Tryz.prog++Tryz.f3.resultTypes.toList).any (Tryz.prog.veiledRec ·)))=true:=by kernel_rfl
theorem j31:(Rows.fnMeantRow.veiledFits Tryz.prog Tryz.f3.params.toList (Tryz.f3.params.toList++Rows.fnMeantSpec.plain.varTypes Tryz.prog++Tryz.f3.resultTypes.toList))=true:=by kernel_rfl
end Go.Proofs.YtfmebaafpfkeiaaGreat.fnMeant
