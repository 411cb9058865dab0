/- JudgeNever: a machine's code is neither of two. -/
import Derived.Test.YtkpkofddfjgmpaaVm
namespace Go.Proofs.Ytkpkofddfjgmpaa
open Go.RowKit
set_option linter.unusedVariables false

def neverOf (c : Int) : Bool := (c != 5) && (c != 4)
set_option maxRecDepth 100000 in
theorem iJudgeNever_any (fv hv sv cv ov : Value) (L : VmL) (w : World) :
    Calls Try.prog 36 #[vmV fv hv sv cv ov L] w fun e w' => e = .returned (.bool (neverOf L.code)) ∧ Below w.heap.size w w' := by
  unfold vmV
  go_enter Try.func36, Try.ntmps36
  go_wp2
  all_goals go_ret
  all_goals exact ⟨ret_bool (by unfold neverOf; simp_all), (Below.refl _ _).alloc (Nat.le_refl _) _⟩

set_option maxRecDepth 100000 in
theorem sJudgeNever_any (fv hv sv cv ov : Value) (L : VmL) (w : World) :
    Calls Try.prog 34 #[vmV fv hv sv cv ov L] w fun e w' => e = .returned (.bool (neverOf L.code)) ∧ Below w.heap.size w w' := by
  unfold vmV
  go_enter Try.func34, Try.ntmps34
  go_wp2
  all_goals go_ret
  all_goals exact ⟨ret_bool (by unfold neverOf; simp_all), (Below.refl _ _).alloc (Nat.le_refl _) _⟩

end Go.Proofs.Ytkpkofddfjgmpaa
