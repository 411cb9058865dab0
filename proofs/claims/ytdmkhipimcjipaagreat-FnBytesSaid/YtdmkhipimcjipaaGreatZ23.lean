/- Parts of the proof of FnBytes. -/
import Derived.Test.YtdmkhipimcjipaaGreatZ14
import Derived.Test.YtdmkhipimcjipaaGreatZ12
set_option linter.unusedVariables false
set_option linter.unusedSimpArgs false
section
set_option maxRecDepth 1000000
set_option maxHeartbeats 0
namespace Go.Ev
theorem okB2_1 : runB2 src1 funs1 = true := by decide +kernel
end Go.Ev
end
section
set_option maxRecDepth 1000000
set_option maxHeartbeats 0
namespace Go.Ev
theorem okB2_2 : runB2 src2 funs2 = true := by decide +kernel
end Go.Ev
end
