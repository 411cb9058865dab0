/- Rows of the call's own, shortened. Plain. -/
import Derived.Test.YtlkdlcpfcacigaaMgLib
namespace Go.Proofs.Ytlkdlcpfcacigaa
open Go.RowKit
set_option linter.unusedVariables false

theorem Rd.grow {B : Nat} {k : IntKind} {w W : World} {row : Option Nat} {v : Value} {zs : List Int} (h : Rd B k w v zs) (hg : w.grownBy W row) (hne : ∀ i, v.ownBlock = some i → some i ≠ row) : Rd W.heap.size k W v zs := by
  rcases h with h | ⟨b, off, cap, rfl, h2, h3, h4, h5⟩
  · exact .inl h
  · have hl := Nat.lt_of_lt_of_le h3 hg.size
    exact .inr ⟨b, off, cap, rfl, hl, hl, h4, fun j hj => (World.cell?_of_block (hg.block b h3 (hne b rfl))).trans (h5 j hj)⟩

theorem own_take {base : Nat} {e : TypeId} {sz : Nat} {w : World} {g n cap : Nat} {xs : List Value} (h : w.ownsRow base e sz (.slice (some ⟨g, 0, none⟩) n cap) n xs) {k : Nat} (hk : k ≤ n) : w.ownsRow base e sz (.slice (some ⟨g, 0, none⟩) k cap) k (xs.take (k * sz)) := by
  obtain ⟨h1, h2⟩ := h
  have hm : k * sz ≤ n * sz := Nat.mul_le_mul_right _ hk
  refine ⟨by rw [List.length_take]; omega, ?_⟩
  rcases h2 with ⟨hh, _⟩ | ⟨g', cap', cur, hv, hb, hg, hn, hc, hs, ht⟩
  · cases hh
  · cases hv
    refine .inr ⟨g, cap, cur, rfl, hb, hg, by omega, hc, hs, ?_⟩
    rw [← ht, List.take_take, Nat.min_eq_left hm]

theorem own_cap {base : Nat} {e : TypeId} {sz : Nat} {w : World} {g n cap : Nat} {xs : List Value} (h : w.ownsRow base e sz (.slice (some ⟨g, 0, none⟩) n cap) n xs) : n ≤ cap := by
  rcases h.2 with ⟨hh, _⟩ | ⟨g', cap', cur, hv, hb, hg, hn, _⟩
  · cases hh
  · cases hv
    exact hn


end Go.Proofs.Ytlkdlcpfcacigaa
