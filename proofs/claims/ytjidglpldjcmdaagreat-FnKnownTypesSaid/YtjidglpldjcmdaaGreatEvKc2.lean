/-
Closed calls.
-/
import Derived.Test.YtjidglpldjcmdaaGreatEvKn
set_option maxRecDepth 1000000
namespace Go.Ev
theorem runI8 : resIs oI8.v (callT oI8.g oI8.vs St.zero) = true := by decide +kernel
end Go.Ev
