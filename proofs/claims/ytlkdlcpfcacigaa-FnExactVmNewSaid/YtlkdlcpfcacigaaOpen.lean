/- Arguments opened: what a reading says of ints, of slices of ints. Nothing of the program is named here. -/
import Derived.Test.YtlkdlcpfcacigaaMgLib
import Derived.ProofKit
import Derived.ShutString
import Derived.ChangeOld
import Derived.Below
import Derived.Lib.SmallJoins
namespace Go.Proofs.Ytlkdlcpfcacigaa
open Go.ChangeShapes Go.WideShapes Go.ChangeAt Go.RowKit
set_option linter.unusedVariables false

def intsIn (ws : List Int) : Prop := ∀ j, -9223372036854775808 ≤ ws.getD j 0 ∧ ws.getD j 0 ≤ 9223372036854775807

theorem ints_rd {H : Type} {enc : TypeId × Value → H} {P : Program} {w : World} {base fuel : Nat} {held : Bool} {t e : TypeId} {c : Value} {x : DataW H × List MemPlace} (ht : P.underlying t = some (.slice e)) (he : P.underlying e = some (.int .i64)) (hc : P.cellsOf e = 1)
    (h : DataW.trod enc P w base (fun _ => true) held fuel t [c] = some x) : ∃ zs, Rd w.heap.size .i64 w c zs ∧ intsIn zs := by
  rcases open_ints ht he hc h with ⟨hcs, _⟩ | ⟨a, len, cap, zs, hcs, _, hl, hm, hz, _, hcell, hwz⟩
  · simp only [List.cons.injEq, and_true] at hcs
    subst hcs
    exact ⟨[], .inl ⟨rfl, _, _, rfl⟩, fun j => by simp [List.getD]⟩
  · simp only [List.cons.injEq, and_true] at hcs
    subst hcs
    have hrow : (some a = none ∧ len = 0 ∧ cap = 0 ∧ zs = []) ∨ ∃ x, some a = some x ∧ len ≤ cap ∧ cap ≤ maxLen ∧ zs.length = cap ∧ (∀ i, i < zs.length → w.cell? (x.add i) = some (.int .i64 (zs.getD i 0))) ∧ ∀ n ∈ zs, (Lit.int .i64 n).wf = true :=
      .inr ⟨a, rfl, hl, hm, by simpa using hz, hcell, hwz⟩
    refine ⟨zs.take len, Rd.of_row hrow, fun j => ?_⟩
    have := range_i64 (wf_all hrow).2 j
    simpa [List.getD] using this

def bytesIn' (b : List Int) : Prop := ∀ j, 0 ≤ b.getD j 0 ∧ b.getD j 0 ≤ 255
theorem bytes_rd {H : Type} {enc : TypeId × Value → H} {P : Program} {w : World} {base fuel : Nat} {held : Bool} {t e : TypeId} {c : Value} {x : DataW H × List MemPlace} (ht : P.underlying t = some (.slice e)) (he : P.underlying e = some (.int .u8)) (hc : P.cellsOf e = 1)
    (h : DataW.trod enc P w base (fun _ => true) held fuel t [c] = some x) : ∃ zs, Rd w.heap.size .u8 w c zs ∧ bytesIn' zs := by
  rcases open_ints ht he hc h with ⟨hcs, _⟩ | ⟨a, len, cap, zs, hcs, _, hl, hm, hz, _, hcell, hwz⟩
  · simp only [List.cons.injEq, and_true] at hcs
    subst hcs
    exact ⟨[], .inl ⟨rfl, _, _, rfl⟩, fun j => by simp [List.getD]⟩
  · simp only [List.cons.injEq, and_true] at hcs
    subst hcs
    have hrow : (some a = none ∧ len = 0 ∧ cap = 0 ∧ zs = []) ∨ ∃ x, some a = some x ∧ len ≤ cap ∧ cap ≤ maxLen ∧ zs.length = cap ∧ (∀ i, i < zs.length → w.cell? (x.add i) = some (.int .u8 (zs.getD i 0))) ∧ ∀ n ∈ zs, (Lit.int .u8 n).wf = true :=
      .inr ⟨a, rfl, hl, hm, by simpa using hz, hcell, hwz⟩
    refine ⟨zs.take len, Rd.of_row hrow, fun j => ?_⟩
    have := range_u8 (wf_all hrow).2 j
    simpa [List.getD] using this

theorem int_rd {H : Type} {enc : TypeId × Value → H} {P : Program} {w : World} {base fuel : Nat} {spare : Nat → Bool} {held : Bool} {t : TypeId} {c : Value} {x : DataW H × List MemPlace} (ht : P.underlying t = some (.int .i64))
    (h : DataW.trod enc P w base spare held fuel t [c] = some x) : ∃ n, c = .int .i64 n ∧ -9223372036854775808 ≤ n ∧ n ≤ 9223372036854775807 := by
  obtain ⟨n, hcs, _, hw⟩ := DataW.trod_int ht h
  simp only [List.cons.injEq, and_true] at hcs
  exact ⟨n, hcs, bounds_i64 hw⟩

end Go.Proofs.Ytlkdlcpfcacigaa
