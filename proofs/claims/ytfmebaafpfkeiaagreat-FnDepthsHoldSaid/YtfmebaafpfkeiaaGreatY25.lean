/- Parts of the proof of FnDepthsHold, FnEnds, FnMeant, FnMovedWhenever, FnSizes. -/
import Derived.Test.YtfmebaafpfkeiaaGreatY10
set_option linter.unusedVariables false
set_option linter.unusedSimpArgs false
set_option maxRecDepth 1000000
set_option maxHeartbeats 16000000
namespace Go.Ev
theorem Xo:EI src0=true:=by decide+kernel
theorem Xv:EJ src0 Ot=true:=by decide+kernel
theorem XC:EL src0=true:=by decide+kernel
theorem XJ:EM src0=true:=by decide+kernel
end Go.Ev
