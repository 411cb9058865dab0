/- Parts of the proof of FnMeant. -/
import Derived.Test.YtfmebaafpfkeiaaGreatY57
import Derived.Test.YtfmebaafpfkeiaaGreatY58
import Derived.Test.YtfmebaafpfkeiaaGreatY59
set_option linter.unusedVariables false
set_option linter.unusedSimpArgs false
set_option maxRecDepth 1000000
set_option maxHeartbeats 16000000
namespace Go.Proofs.YtfmebaafpfkeiaaGreat.fnMeant
open Go.ChangeShapes Go.WideShapes Go.ChangeAt Go.RowKit
theorem bt {a b:Bool}(h:a=true) (k:b=true):(a&& b)=true:=by rw[h,k];rfl
theorem joined:joinedFacts Tryz.prog 3 Tryz.f3 Rows.fnMeantSpec Rows.fnMeantRow=true:=(bt (bt (bt (bt (bt (bt (bt (bt (bt (bt (bt (bt (bt (bt (bt (bt (bt (bt (bt (bt (bt (bt (bt (bt (bt (bt (bt (bt (bt (bt (bt j0 j1) j2) j3) j4) j5) j6) j7) j8) j9) j10) j11) j12) j13) j14) j15) j16) j17) j18) j19) j20) j21) j22) j23) j24) j25) j26) j27) j28) j29) j30) j31)
end Go.Proofs.YtfmebaafpfkeiaaGreat.fnMeant
