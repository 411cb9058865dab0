import Derived.Test.YtlkdlcpfcacigaaHeapOkS
import Derived.Test.YtlkdlcpfcacigaaRoom
import Derived.Test.YtlkdlcpfcacigaaClone
/- blockAt, BlockAt: what stands at the place of a block. -/
namespace Go.Proofs.Ytlkdlcpfcacigaa
open Go.RowKit
set_option linter.unusedVariables false

/-- what is told of a block. -/
def blockOf (ws : List Int) (h b n p : Int) : Option Nat := if heapOk ws h b n then (match placesOf ws b.toNat n.toNat with | none => none | some ps => if p ∈ nums ps then some p.toNat else none) else none
def BlockTold (W : World) (ws : List Int) (e : Ending) (w' : World) (o : Option Nat) : Prop :=
  match o with
  | none => ∃ u, e = .returned (.tuple #[.bool false, .int .i64 0, u, .bool false]) ∧ w'.ownsRow W.heap.size 3 1 u 0 []
  | some p => ∃ u, e = .returned (.tuple #[.bool (hFun (ws.getD p 0)), .int .i64 (hTag (ws.getD p 0)), u, .bool true]) ∧ w'.ownsRow W.heap.size 3 1 u (kidsAt ws p).length ((kidsAt ws p).map (Value.int .i64))
theorem blockOf_not {ws : List Int} {h b n p : Int} (hok : heapOk ws h b n = false) : blockOf ws h b n p = none := by simp [blockOf, hok]
theorem blockOf_out {ws : List Int} {h b n : Nat} {p : Int} {ps : List Nat} (hok : heapOk ws h b n = true) (hp : placesOf ws b n = some ps) (hm : ¬ p ∈ nums ps) : blockOf ws h b n p = none := by simp [blockOf, hok, hp, hm]
theorem blockOf_in {ws : List Int} {h b n p : Nat} {ps : List Nat} (hok : heapOk ws h b n = true) (hp : placesOf ws b n = some ps) (hm : (p : Int) ∈ nums ps) : blockOf ws h b n p = some p := by simp [blockOf, hok, hp, hm]
theorem heapOk_some {ws : List Int} {h b n : Nat} (hok : heapOk ws h b n = true) : ∃ ps, placesOf ws b n = some ps := by
  cases hp : placesOf ws b n with
  | none => rw [heapOk_noplaces hp] at hok; cases hok
  | some ps => exact ⟨ps, rfl⟩

end Go.Proofs.Ytlkdlcpfcacigaa

/- BlockAt of the program and of the reference. -/
namespace Go.Proofs.Ytlkdlcpfcacigaa
open Go.RowKit
set_option linter.unusedVariables false

end Go.Proofs.Ytlkdlcpfcacigaa

/- BlockAt of the reference. -/
namespace Go.Proofs.Ytlkdlcpfcacigaa
open Go.RowKit
set_option linter.unusedVariables false

end Go.Proofs.Ytlkdlcpfcacigaa

/- What BlockAt tells, in one form; rows that are not one. -/
namespace Go.Proofs.Ytlkdlcpfcacigaa
open Go.RowKit
set_option linter.unusedVariables false

theorem kidsAt_le (ws : List Int) (p : Nat) : (kidsAt ws p).length ≤ 64 := by
  unfold kidsAt hK
  have := hKids_nonneg (ws.getD p 0)
  generalize hKids (ws.getD p 0) = m at this ⊢
  rw [List.length_take]
  omega
theorem told_form (ws : List Int) (o : Option Nat) : ∃ (f : Bool) (t : Int) (zs : List Int) (ok : Bool), zs.length ≤ 64 ∧
    ∀ (W : World) (e : Ending) (w' : World), BlockTold W ws e w' o → ∃ u, e = .returned (.tuple #[.bool f, .int .i64 t, u, .bool ok]) ∧ w'.ownsRow W.heap.size 3 1 u zs.length (zs.map (Value.int .i64)) := by
  cases o with
  | none => exact ⟨false, 0, [], false, by simp, fun W e w' h => h⟩
  | some p => exact ⟨_, _, kidsAt ws p, true, kidsAt_le ws p, fun W e w' h => h⟩
theorem own_apart {v1 v2 : Value} {N : Nat} (h1 : ∀ k, v1.ownBlock = some k → k < N) (h2 : ∀ k, v2.ownBlock = some k → N ≤ k) : v2.ownBlock = none ∨ v2.ownBlock ≠ v1.ownBlock := by
  cases h : v2.ownBlock with
  | none => exact .inl rfl
  | some k =>
    right
    intro he
    have := h1 k he.symm
    have := h2 k h
    omega
theorem own_apart' {v1 v2 : Value} {N : Nat} (h1 : ∀ k, v1.ownBlock = some k → N ≤ k) (h2 : ∀ k, v2.ownBlock = some k → k < N) : v2.ownBlock = none ∨ v2.ownBlock ≠ v1.ownBlock := by
  cases h : v2.ownBlock with
  | none => exact .inl rfl
  | some k =>
    right
    intro he
    have := h1 k he.symm
    have := h2 k h
    omega
theorem Bx.apart {g N : Nat} {v : Value} (h1 : ∀ k, v.ownBlock = some k → k < N) (h2 : N ≤ g) : some g ≠ v.ownBlock := by
  intro h
  have := h1 g h.symm
  omega
theorem Bx.apart' {g N : Nat} {v : Value} (h1 : ∀ k, v.ownBlock = some k → N ≤ k) (h2 : g < N) : some g ≠ v.ownBlock := by
  intro h
  have := h1 g h.symm
  omega

end Go.Proofs.Ytlkdlcpfcacigaa
