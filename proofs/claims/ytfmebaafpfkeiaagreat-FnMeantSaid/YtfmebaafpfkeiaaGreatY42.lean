/- Parts of the proof of FnEnds, FnMeant. -/
import Derived.Test.YtfmebaafpfkeiaaGreatY41
set_option linter.unusedVariables false
set_option linter.unusedSimpArgs false
set_option maxRecDepth 1000000
set_option maxHeartbeats 16000000
namespace Go.Ev
theorem X1:DP src0 (.num 14) []=true:=by decide+kernel
theorem X3:DP src1 (.num 4) [4]=true:=by decide+kernel
theorem X4:DP src2 (.num 45350912) [120]=true:=by decide+kernel
theorem X5:DP src3 (.num 4) [1,3,5,9]=true:=by decide+kernel
end Go.Ev
