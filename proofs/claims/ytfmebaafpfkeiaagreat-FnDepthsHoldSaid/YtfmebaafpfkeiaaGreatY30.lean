/- Parts of the proof of FnDepthsHold, FnEnds, FnMeant, FnMovedWhenever, FnSizes. -/
import Derived.Test.YtfmebaafpfkeiaaGreatY10
set_option linter.unusedVariables false
set_option linter.unusedSimpArgs false
set_option maxRecDepth 1000000
set_option maxHeartbeats 16000000
namespace Go.Ev
theorem Xt:EI src5=true:=by decide+kernel
theorem XA:EJ src5 Oy=true:=by decide+kernel
theorem XH:EL src5=true:=by decide+kernel
theorem XO:EM src5=true:=by decide+kernel
end Go.Ev
