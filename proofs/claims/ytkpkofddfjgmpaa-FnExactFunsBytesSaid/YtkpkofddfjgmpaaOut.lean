/- What a mark leaves as it was. -/
import Derived.Test.YtkpkofddfjgmpaaMarkF
import Derived.Test.YtkpkofddfjgmpaaTold
namespace Go.Proofs.Ytkpkofddfjgmpaa
open Go.RowKit
set_option linter.unusedVariables false

theorem Bx.out {base hi g : Nat} {w w' : World} {cur : Array Value} (h : Bx w g cur) (o : Out base hi w w') (hg : g < base ∨ hi ≤ g) : Bx w' g cur :=
  ⟨Nat.lt_of_lt_of_le h.1 o.size, fun j => (World.cell?_of_block (o.block g h.1 hg)).trans (h.2.1 j), fun j => (World.frozen?_of_block (o.block g h.1 hg)).trans (h.2.2 j)⟩
theorem own_out {base hi b0 : Nat} {e : TypeId} {sz n : Nat} {w w' : World} {v : Value} {xs : List Value} (h : w.ownsRow b0 e sz v n xs) (o : Out base hi w w') (hv : ∀ k, v.ownBlock = some k → k < base ∨ hi ≤ k) : w'.ownsRow b0 e sz v n xs := by
  have hl := own_lt h
  refine ⟨h.1, ?_⟩
  rcases h.2 with hn | ⟨b, cap, cur, rfl, hbs, hg, rest⟩
  · exact .inl hn
  · exact .inr ⟨b, cap, cur, rfl, hbs, by rw [o.block b (hl b rfl) (hv b rfl)]; exact hg, rest⟩
theorem OwnH.out {base hi b0 h0 : Nat} {w w' : World} {v : Value} {fs : List F2} (h : OwnH b0 h0 w v fs) (o : Out base hi w w') (hh : h0 ≤ w.heap.size) (hd : h0 ≤ base ∨ hi ≤ b0) : OwnH b0 h0 w' v fs :=
  h.same (fun q h1 h2 => o.block q (by omega) (by omega))
theorem OwnH.rd {base hi : Nat} {w : World} {v : Value} {fs : List F2} (h : OwnH base hi w v fs) : RdF w.heap.size w v fs := RdF.of_own h.to_f

end Go.Proofs.Ytkpkofddfjgmpaa
