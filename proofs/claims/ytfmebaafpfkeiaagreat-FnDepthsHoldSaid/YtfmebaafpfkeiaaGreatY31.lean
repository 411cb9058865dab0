/- Parts of the proof of FnDepthsHold, FnEnds, FnMeant, FnMovedWhenever, FnSizes. -/
import Derived.Test.YtfmebaafpfkeiaaGreatY10
set_option linter.unusedVariables false
set_option linter.unusedSimpArgs false
set_option maxRecDepth 1000000
set_option maxHeartbeats 16000000
namespace Go.Ev
theorem Xu:EI src6=true:=by decide+kernel
theorem XB:EJ src6 Oz=true:=by decide+kernel
theorem XI:EL src6=true:=by decide+kernel
theorem XP:EM src6=true:=by decide+kernel
end Go.Ev
