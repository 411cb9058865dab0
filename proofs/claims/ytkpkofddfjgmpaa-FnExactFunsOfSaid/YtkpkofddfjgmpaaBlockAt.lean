/- blockAt, BlockAt: what stands at the place of a block. -/
import Derived.Test.YtkpkofddfjgmpaaHeapOkS
import Derived.Test.YtkpkofddfjgmpaaRoom
import Derived.Test.YtkpkofddfjgmpaaClone
namespace Go.Proofs.Ytkpkofddfjgmpaa
open Go.RowKit
set_option linter.unusedVariables false

/-- what is told of a block. -/
def blockOf (ws : List Int) (h b n p : Int) : Option Nat := if heapOk ws h b n then (match placesOf ws b.toNat n.toNat with | none => none | some ps => if p ∈ nums ps then some p.toNat else none) else none
def BlockTold (W : World) (ws : List Int) (e : Ending) (w' : World) (o : Option Nat) : Prop :=
  match o with
  | none => ∃ u, e = .returned (.tuple #[.bool false, .int .i64 0, u, .bool false]) ∧ w'.ownsRow W.heap.size 3 1 u 0 []
  | some p => ∃ u, e = .returned (.tuple #[.bool (hFun (ws.getD p 0)), .int .i64 (hTag (ws.getD p 0)), u, .bool true]) ∧ w'.ownsRow W.heap.size 3 1 u (kidsAt ws p).length ((kidsAt ws p).map (Value.int .i64))
theorem blockOf_not {ws : List Int} {h b n p : Int} (hok : heapOk ws h b n = false) : blockOf ws h b n p = none := by simp [blockOf, hok]
theorem blockOf_out {ws : List Int} {h b n : Nat} {p : Int} {ps : List Nat} (hok : heapOk ws h b n = true) (hp : placesOf ws b n = some ps) (hm : ¬ p ∈ nums ps) : blockOf ws h b n p = none := by simp [blockOf, hok, hp, hm]
theorem blockOf_in {ws : List Int} {h b n p : Nat} {ps : List Nat} (hok : heapOk ws h b n = true) (hp : placesOf ws b n = some ps) (hm : (p : Int) ∈ nums ps) : blockOf ws h b n p = some p := by simp [blockOf, hok, hp, hm]
theorem heapOk_some {ws : List Int} {h b n : Nat} (hok : heapOk ws h b n = true) : ∃ ps, placesOf ws b n = some ps := by
  cases hp : placesOf ws b n with
  | none => rw [heapOk_noplaces hp] at hok; cases hok
  | some ps => exact ⟨ps, rfl⟩

end Go.Proofs.Ytkpkofddfjgmpaa
