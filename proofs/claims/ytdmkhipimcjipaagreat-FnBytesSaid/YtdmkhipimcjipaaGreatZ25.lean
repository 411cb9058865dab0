/- Parts of the proof of FnBytes. -/
import Derived.Test.YtdmkhipimcjipaaGreatZ14
import Derived.Test.YtdmkhipimcjipaaGreatZ12
set_option linter.unusedVariables false
set_option linter.unusedSimpArgs false
section
set_option maxRecDepth 1000000
set_option maxHeartbeats 0
namespace Go.Ev
theorem okB2_5 : runB2 src5 funs5 = true := by decide +kernel
end Go.Ev
end
section
set_option maxRecDepth 1000000
set_option maxHeartbeats 0
namespace Go.Ev
theorem okB2_6 : runB2 src6 funs6 = true := by decide +kernel
end Go.Ev
end
