/- Parts of the proof of FnFuel. -/
import Derived.Test.YtifhcbeaiijkcaaGreatZ10
import Derived.Test.YtifhcbeaiijkcaaGreatZ00
set_option linter.unusedVariables false
set_option linter.unusedSimpArgs false
set_option maxRecDepth 1000000
set_option maxHeartbeats 16000000
namespace Go.Proofs.YtifhcbeaiijkcaaGreat
open Go.Ev
open _root_.Go.World renaming alloc→Wa,setCell→Ws
open _root_.Go.Proofs.Tryz renaming prog→Pq
theorem S8:EB src0=true:=by decide+kernel
theorem Ta:EB src1=true:=by decide+kernel
end Go.Proofs.YtifhcbeaiijkcaaGreat
