/- BlockAt of the reference. -/
import Derived.Test.YtkpkofddfjgmpaaBlockAt2
namespace Go.Proofs.Ytkpkofddfjgmpaa
open Go.RowKit
set_option linter.unusedVariables false

end Go.Proofs.Ytkpkofddfjgmpaa
