/- Room of the program and of the reference. -/
import Derived.Test.YtlkdlcpfcacigaaHeapOkS
namespace Go.Proofs.Ytlkdlcpfcacigaa
open Go.RowKit
set_option linter.unusedVariables false

/-- how much room a heap has. -/
def roomOf (ws : List Int) (h b n : Int) : Int := if heapOk ws h b n then b + h - n else 0
theorem heapOk_frame {ws : List Int} {h b n : Int} (hok : heapOk ws h b n = true) : heapFrame ws h b n = true := by
  unfold heapOk at hok
  rw [Bool.and_eq_true] at hok
  exact hok.1

end Go.Proofs.Ytlkdlcpfcacigaa
