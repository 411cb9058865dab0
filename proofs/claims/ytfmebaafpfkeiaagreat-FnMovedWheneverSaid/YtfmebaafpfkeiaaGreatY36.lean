/- Parts of the proof of FnEnds, FnMeant, FnMovedWhenever, FnSizes. -/
import Derived.Test.YtfmebaafpfkeiaaGreatY34
set_option linter.unusedVariables false
set_option linter.unusedSimpArgs false
set_option maxRecDepth 1000000
set_option maxHeartbeats 16000000
namespace Go.Ev
theorem XT:EN src0=true:=by decide+kernel
theorem XU:EN src1=true:=by decide+kernel
theorem XV:EN src2=true:=by decide+kernel
theorem XW:EN src3=true:=by decide+kernel
end Go.Ev
