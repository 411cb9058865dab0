/- Parts of the proof of FnDepthsHold, FnEnds, FnMeant, FnMovedWhenever, FnSizes. -/
import Derived.Test.YtfmebaafpfkeiaaGreatY10
set_option linter.unusedVariables false
set_option linter.unusedSimpArgs false
set_option maxRecDepth 1000000
set_option maxHeartbeats 16000000
namespace Go.Ev
theorem Xq:EI src2=true:=by decide+kernel
theorem Xx:EJ src2 Ov=true:=by decide+kernel
theorem XE:EL src2=true:=by decide+kernel
theorem XL:EM src2=true:=by decide+kernel
end Go.Ev
