/-
Closed calls.
-/
import Derived.Test.YtjidglpldjcmdaaGreatEvKn
set_option maxRecDepth 1000000
namespace Go.Ev
theorem runS8 : resIs oS8.v (callT oS8.g oS8.vs St.zero) = true := by decide +kernel
end Go.Ev
