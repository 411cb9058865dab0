/- What BlockAt tells, in one form; rows that are not one. -/
import Derived.Test.YtmcoidnonmmpjaaBlockAt3
namespace Go.Proofs.Ytmcoidnonmmpjaa
open Go.RowKit
set_option linter.unusedVariables false

theorem kidsAt_le (ws : List Int) (p : Nat) : (kidsAt ws p).length ≤ 64 := by
  unfold kidsAt hK
  have := hKids_nonneg (ws.getD p 0)
  generalize hKids (ws.getD p 0) = m at this ⊢
  rw [List.length_take]
  omega
theorem told_form (ws : List Int) (o : Option Nat) : ∃ (f : Bool) (t : Int) (zs : List Int) (ok : Bool), zs.length ≤ 64 ∧
    ∀ (W : World) (e : Ending) (w' : World), BlockTold W ws e w' o → ∃ u, e = .returned (.tuple #[.bool f, .int .i64 t, u, .bool ok]) ∧ w'.ownsRow W.heap.size 3 1 u zs.length (zs.map (Value.int .i64)) := by
  cases o with
  | none => exact ⟨false, 0, [], false, by simp, fun W e w' h => h⟩
  | some p => exact ⟨_, _, kidsAt ws p, true, kidsAt_le ws p, fun W e w' h => h⟩
theorem own_apart {v1 v2 : Value} {N : Nat} (h1 : ∀ k, v1.ownBlock = some k → k < N) (h2 : ∀ k, v2.ownBlock = some k → N ≤ k) : v2.ownBlock = none ∨ v2.ownBlock ≠ v1.ownBlock := by
  cases h : v2.ownBlock with
  | none => exact .inl rfl
  | some k =>
    right
    intro he
    have := h1 k he.symm
    have := h2 k h
    omega
theorem own_apart' {v1 v2 : Value} {N : Nat} (h1 : ∀ k, v1.ownBlock = some k → N ≤ k) (h2 : ∀ k, v2.ownBlock = some k → k < N) : v2.ownBlock = none ∨ v2.ownBlock ≠ v1.ownBlock := by
  cases h : v2.ownBlock with
  | none => exact .inl rfl
  | some k =>
    right
    intro he
    have := h1 k he.symm
    have := h2 k h
    omega
theorem Bx.apart {g N : Nat} {v : Value} (h1 : ∀ k, v.ownBlock = some k → k < N) (h2 : N ≤ g) : some g ≠ v.ownBlock := by
  intro h
  have := h1 g h.symm
  omega
theorem Bx.apart' {g N : Nat} {v : Value} (h1 : ∀ k, v.ownBlock = some k → N ≤ k) (h2 : g < N) : some g ≠ v.ownBlock := by
  intro h
  have := h1 g h.symm
  omega

end Go.Proofs.Ytmcoidnonmmpjaa
