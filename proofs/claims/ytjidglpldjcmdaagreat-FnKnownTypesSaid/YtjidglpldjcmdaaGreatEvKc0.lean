/-
Closed calls.
-/
import Derived.Test.YtjidglpldjcmdaaGreatEvKn
set_option maxRecDepth 1000000
namespace Go.Ev
theorem runI0 : resIs oI0.v (callT oI0.g oI0.vs St.zero) = true := by decide +kernel
theorem runS0 : resIs oS0.v (callT oS0.g oS0.vs St.zero) = true := by decide +kernel
theorem runI2 : resIs oI2.v (callT oI2.g oI2.vs St.zero) = true := by decide +kernel
theorem runS2 : resIs oS2.v (callT oS2.g oS2.vs St.zero) = true := by decide +kernel
theorem runI4 : resIs oI4.v (callT oI4.g oI4.vs St.zero) = true := by decide +kernel
theorem runS4 : resIs oS4.v (callT oS4.g oS4.vs St.zero) = true := by decide +kernel
theorem runI5 : resIs oI5.v (callT oI5.g oI5.vs St.zero) = true := by decide +kernel
theorem runS5 : resIs oS5.v (callT oS5.g oS5.vs St.zero) = true := by decide +kernel
theorem runI6 : resIs oI6.v (callT oI6.g oI6.vs St.zero) = true := by decide +kernel
theorem runS6 : resIs oS6.v (callT oS6.g oS6.vs St.zero) = true := by decide +kernel
theorem runI7 : resIs oI7.v (callT oI7.g oI7.vs St.zero) = true := by decide +kernel
theorem runS7 : resIs oS7.v (callT oS7.g oS7.vs St.zero) = true := by decide +kernel
end Go.Ev
