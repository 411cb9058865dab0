/- Parts of the proof of FnDepthsHold, FnEnds, FnMeant, FnMovedWhenever, FnSizes. -/
import Derived.Test.YtfmebaafpfkeiaaGreatY10
set_option linter.unusedVariables false
set_option linter.unusedSimpArgs false
set_option maxRecDepth 1000000
set_option maxHeartbeats 16000000
namespace Go.Ev
theorem Xp:EI src1=true:=by decide+kernel
theorem Xw:EJ src1 Ou=true:=by decide+kernel
theorem XD:EL src1=true:=by decide+kernel
theorem XK:EM src1=true:=by decide+kernel
end Go.Ev
