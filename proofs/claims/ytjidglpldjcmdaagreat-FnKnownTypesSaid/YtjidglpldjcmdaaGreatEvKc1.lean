/-
Closed calls.
-/
import Derived.Test.YtjidglpldjcmdaaGreatEvKn
set_option maxRecDepth 1000000
namespace Go.Ev
theorem runI1 : resIs oI1.v (callT oI1.g oI1.vs St.zero) = true := by decide +kernel
theorem runS1 : resIs oS1.v (callT oS1.g oS1.vs St.zero) = true := by decide +kernel
theorem runI3 : resIs oI3.v (callT oI3.g oI3.vs St.zero) = true := by decide +kernel
theorem runS3 : resIs oS3.v (callT oS3.g oS3.vs St.zero) = true := by decide +kernel
end Go.Ev
