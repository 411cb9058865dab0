/- Parts of the proof of FnNoRoom. -/
import Derived.Test.YtfmebaafpfkeiaaGreatZ11
set_option linter.unusedVariables false
set_option linter.unusedSimpArgs false
section
set_option maxRecDepth 1000000
set_option maxHeartbeats 0
namespace Go.Ev
theorem okI1_4 :runI1 src4=true :=by decide+kernel
end Go.Ev
end
section
set_option maxRecDepth 1000000
set_option maxHeartbeats 0
namespace Go.Ev
theorem okI2_4 :runI2 src4 funs4=true :=by decide+kernel
end Go.Ev
end
