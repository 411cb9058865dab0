/- markIntS, heldIntS: a row of ints is marked; its marks are looked for. -/
import Derived.Test.YtmcoidnonmmpjaaRows
import Derived.Test.YtmcoidnonmmpjaaMem
namespace Go.Proofs.Ytmcoidnonmmpjaa
open Go.RowKit
set_option linter.unusedVariables false

end Go.Proofs.Ytmcoidnonmmpjaa
