/- Depths of the program. -/
import Derived.Test.YtlkdlcpfcacigaaMgLib
namespace Go.Proofs.Ytlkdlcpfcacigaa
open Go.RowKit
set_option linter.unusedVariables false
set_option linter.unusedSimpArgs false

theorem ex_least {P : Nat → Prop} (h : ∃ n, P n) : ∃ m, P m ∧ ∀ n, P n → m ≤ n := by
  obtain ⟨n, hn⟩ := h
  induction n using Nat.strongRecOn with
  | _ n ih =>
    by_cases hh : ∃ k, k < n ∧ P k
    · obtain ⟨k, hk, hp⟩ := hh
      exact ih k hk hp
    · exact ⟨n, hn, fun k hk => Nat.le_of_not_lt (fun hl => hh ⟨k, hl, hk⟩)⟩
/-- the least number that is so, if there is one. -/
noncomputable def leastP (P : Nat → Prop) : Nat := by classical exact if h : ∃ n, P n then Classical.choose (ex_least h) else 0
theorem leastP_is {P : Nat → Prop} (h : ∃ n, P n) : P (leastP P) := by
  unfold leastP
  rw [dif_pos h]
  exact (Classical.choose_spec (ex_least h)).1
theorem leastP_le {P : Nat → Prop} {n : Nat} (h : P n) : leastP P ≤ n := by
  unfold leastP
  rw [dif_pos ⟨n, h⟩]
  exact (Classical.choose_spec (ex_least ⟨n, h⟩)).2 n h

end Go.Proofs.Ytlkdlcpfcacigaa
