/- Parts of the proof of FnEnds, FnMeant, FnMovedWhenever, FnSizes. -/
import Derived.Test.YtfmebaafpfkeiaaGreatY34
set_option linter.unusedVariables false
set_option linter.unusedSimpArgs false
set_option maxRecDepth 1000000
set_option maxHeartbeats 16000000
namespace Go.Ev
theorem XX:EN src4=true:=by decide+kernel
theorem XY:EN src5=true:=by decide+kernel
theorem OB:Ky src6 [90] [83] 0 1=true:=by decide+kernel
end Go.Ev
