/- Parts of the proof of FnNoRoom. -/
import Derived.Test.YtfmebaafpfkeiaaGreatZ11
set_option linter.unusedVariables false
set_option linter.unusedSimpArgs false
section
set_option maxRecDepth 1000000
set_option maxHeartbeats 0
namespace Go.Ev
theorem okS1_5 :runS1 src5=true :=by decide+kernel
end Go.Ev
end
section
set_option maxRecDepth 1000000
set_option maxHeartbeats 0
namespace Go.Ev
theorem okS2_5 :runS2 src5=true :=by decide+kernel
end Go.Ev
end
