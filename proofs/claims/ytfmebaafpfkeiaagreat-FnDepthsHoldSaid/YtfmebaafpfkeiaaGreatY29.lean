/- Parts of the proof of FnDepthsHold, FnEnds, FnMeant, FnMovedWhenever, FnSizes. -/
import Derived.Test.YtfmebaafpfkeiaaGreatY10
set_option linter.unusedVariables false
set_option linter.unusedSimpArgs false
set_option maxRecDepth 1000000
set_option maxHeartbeats 16000000
namespace Go.Ev
theorem Xs:EI src4=true:=by decide+kernel
theorem Xz:EJ src4 Ox=true:=by decide+kernel
theorem XG:EL src4=true:=by decide+kernel
theorem XN:EM src4=true:=by decide+kernel
end Go.Ev
