/- Parts of the proof of FnNoRoom. -/
import Derived.Test.YtfmebaafpfkeiaaGreatRows
import Derived.Test.YtfmebaafpfkeiaaGreatZ12
set_option linter.unusedVariables false
set_option linter.unusedSimpArgs false
namespace Go.Proofs.YtfmebaafpfkeiaaGreat.fnNoRoom
open Go.ChangeShapes Go.WideShapes Go.ChangeAt Go.RowKit
set_option maxRecDepth 100000
theorem j12 :((Rows.fnNoRoomRow.named==Tryz.prog.varsNamed 7))=true :=by kernel_rfl
theorem j13 :((Rows.fnNoRoomRow.maps==(Tryz.f7.params.toList++Rows.fnNoRoomSpec.plain.varTypes Tryz.prog).any (Tryz.prog.mapsRec ·)))=true :=by kernel_rfl
theorem j14 :((Rows.fnNoRoomRow.ifaces==(Tryz.f7.params.toList++Rows.fnNoRoomSpec.plain.varTypes Tryz.prog).any (Tryz.prog.ifacesRec ·)))=true :=by kernel_rfl
theorem j15 :((Rows.fnNoRoomRow.mapsOut==Tryz.prog.mapsAmong Tryz.f7.resultTypes.toList))=true :=by kernel_rfl
theorem j16 :((Rows.fnNoRoomRow.loops==(Tryz.f7.params.toList++Rows.fnNoRoomSpec.plain.varTypes Tryz.prog).any (Tryz.prog.loopsFrom ·)))=true :=by kernel_rfl
theorem j17 :((Rows.fnNoRoomRow.wideKeys==(Tryz.f7.params.toList++Rows.fnNoRoomSpec.plain.varTypes Tryz.prog++Tryz.f7.resultTypes.toList).any (Tryz.prog.wideKeysFrom ·)))=true :=by kernel_rfl
theorem j18 :(Rows.fnNoRoomSpec.vars.all (Tryz.prog.varReadable ·))=true :=by kernel_rfl
theorem j19 :(Tryz.f7.resultTypes.all (fun t=> Tryz.prog.readableRec t&&decide (t < Tryz.prog.types.size)))=true :=by kernel_rfl
theorem j20 :((Rows.fnNoRoomRow.ifacesOut==Tryz.f7.resultTypes.toList.any (Tryz.prog.ifacesRec ·)))=true :=by kernel_rfl
theorem j21 :((Rows.fnNoRoomRow.loopsOut==Tryz.f7.resultTypes.toList.any (Tryz.prog.loopsFrom ·)))=true :=by kernel_rfl
theorem j22 :((Rows.fnNoRoomRow.plainKeys==Tryz.prog.plainKeys))=true :=by kernel_rfl
theorem j23 :(Rows.fnNoRoomRow.shortTexts.isNone)=true :=by kernel_rfl
theorem j24 :(Tryz.prog.stopsHeard)=true :=by kernel_rfl
theorem j25 :(Tryz.prog.mayEnter)=true :=by kernel_rfl
theorem j26 :((Rows.fnNoRoomRow.lifted==Tryz.prog.liftsFinal))=true :=by kernel_rfl
theorem j27 :((Tryz.prog.make==some Rows.fnNoRoomRow.make))=true :=by kernel_rfl
theorem j28 :((Rows.fnNoRoomRow.kinds==(if Rows.fnNoRoomRow.domain.isEmpty then [] else Tryz.f7.params.toList.map fun t=> match Tryz.prog.underlying t with | some (.int k)=> some k | _=> none)))=true :=by kernel_rfl
theorem j29 :((Rows.fnNoRoomRow.pinned==Rows.fnNoRoomRow.pinnedBy))=true :=by kernel_rfl
theorem j30 :((Rows.fnNoRoomRow.veiled==(Tryz.f7.params.toList++Rows.fnNoRoomSpec.plain.varTypes Tryz.prog++Tryz.f7.resultTypes.toList).any (Tryz.prog.veiledRec ·)))=true :=by kernel_rfl
theorem j31 :(Rows.fnNoRoomRow.veiledFits Tryz.prog Tryz.f7.params.toList (Tryz.f7.params.toList++Rows.fnNoRoomSpec.plain.varTypes Tryz.prog++Tryz.f7.resultTypes.toList))=true :=by kernel_rfl
end Go.Proofs.YtfmebaafpfkeiaaGreat.fnNoRoom
