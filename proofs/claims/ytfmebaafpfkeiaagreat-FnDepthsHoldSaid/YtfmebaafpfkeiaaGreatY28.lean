/- Parts of the proof of FnDepthsHold, FnEnds, FnMeant, FnMovedWhenever, FnSizes. -/
import Derived.Test.YtfmebaafpfkeiaaGreatY10
set_option linter.unusedVariables false
set_option linter.unusedSimpArgs false
set_option maxRecDepth 1000000
set_option maxHeartbeats 16000000
namespace Go.Ev
theorem Xr:EI src3=true:=by decide+kernel
theorem Xy:EJ src3 Ow=true:=by decide+kernel
theorem XF:EL src3=true:=by decide+kernel
theorem XM:EM src3=true:=by decide+kernel
end Go.Ev
