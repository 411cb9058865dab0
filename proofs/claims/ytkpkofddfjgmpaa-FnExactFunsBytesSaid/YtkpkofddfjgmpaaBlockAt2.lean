/- BlockAt of the program and of the reference. -/
import Derived.Test.YtkpkofddfjgmpaaBlockAt
namespace Go.Proofs.Ytkpkofddfjgmpaa
open Go.RowKit
set_option linter.unusedVariables false

end Go.Proofs.Ytkpkofddfjgmpaa
