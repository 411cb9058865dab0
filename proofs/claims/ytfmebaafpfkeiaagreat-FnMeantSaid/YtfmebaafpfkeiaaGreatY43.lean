/- Parts of the proof of FnEnds, FnMeant. -/
import Derived.Test.YtfmebaafpfkeiaaGreatY41
set_option linter.unusedVariables false
set_option linter.unusedSimpArgs false
set_option maxRecDepth 1000000
set_option maxHeartbeats 16000000
namespace Go.Ev
theorem X6:DP src4 (.num 22) []=true:=by decide+kernel
theorem X7:DP src5 (.num 7) []=true:=by decide+kernel
theorem X8:DP src6 (.one [83] (.one [83] (.one [83] (.one [83] (.one [83] (.nul [90])))))) []=true:=by decide+kernel
end Go.Ev
