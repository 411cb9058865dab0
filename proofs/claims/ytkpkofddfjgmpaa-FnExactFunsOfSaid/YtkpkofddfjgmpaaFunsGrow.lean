/- The reading of functions, round by round. -/
import Derived.Test.YtkpkofddfjgmpaaOwnH
import Derived.Test.YtkpkofddfjgmpaaFunAt
namespace Go.Proofs.Ytkpkofddfjgmpaa
open Go.RowKit
set_option linter.unusedVariables false
set_option linter.unusedSimpArgs false

/-- what holds ahead of the k-th function of c. -/
structure FsInv (b : List Int) (c k : Nat) (i : Int) (ok : Bool) (acc : List F2) : Prop where
  yes : ok = true → (acc.length : Int) ≤ i ∧ parseF b = funsGo b (c - k) i acc
  no : ok = false → parseF b = none
  lo : 0 ≤ i
  len : i ≤ b.length
  many : acc.length ≤ b.length + 1
  fin : ∀ x ∈ acc, fnIn x
theorem FsInv.start {b : List Int} {i1 : Int} {c : Nat} {ok1 : Bool} (h1 : NumRel b 0 true (c : Int) i1 ok1) : FsInv b c 0 i1 ok1 [] := by
  refine ⟨fun h => ?_, fun h => ?_, h1.le, h1.len, by simp, fun o ho => by simp at ho⟩
  · obtain ⟨_, e1⟩ := h1.yes h
    have := h1.le
    refine ⟨by simp; omega, ?_⟩
    unfold parseF
    rw [e1]
    simp
  · rcases h1.no h with a | e1
    · cases a
    · unfold parseF
      rw [e1]
theorem FsInv.step {b : List Int} {i i1 : Int} {c k : Nat} {ok1 : Bool} {acc : List F2} {x : F2} (h : FsInv b c k i true acc) (hk : k < c) (hb : bytesOk b) (h1 : FunRel b i x i1 ok1) : FsInv b c (k + 1) i1 ok1 (acc ++ [x]) := by
  obtain ⟨g1, g2⟩ := h.yes rfl
  have l1 := h.len
  have hs : c - k = (c - (k + 1)) + 1 := by omega
  refine ⟨fun e => ?_, fun e => ?_, by have := h.lo; have := h1.le; omega, h1.len, by simp; omega, fun o ho => ?_⟩
  · have e1 := h1.yes e
    obtain ⟨p, rfl⟩ : ∃ p : Nat, i = p := ⟨i.toNat, by have := h.lo; omega⟩
    obtain ⟨q, rfl, hpq, _⟩ := funAt_some hb e1
    refine ⟨by simp; omega, ?_⟩
    rw [g2, hs]
    conv => lhs; unfold funsGo
    rw [e1]
  · rw [g2, hs]
    unfold funsGo
    rw [h1.no e]
  · rcases List.mem_append.1 ho with ho | ho
    · exact h.fin o ho
    · rw [List.mem_singleton] at ho
      subst ho
      exact h1.fin
theorem FsInv.done {b : List Int} {i : Int} {c k : Nat} {ok : Bool} {acc : List F2} (h : FsInv b c k i ok acc) (hk : ok = true → c ≤ k) : (ok = true → parseF b = some (acc, i)) ∧ (ok = false → funsOf b = none) := by
  refine ⟨fun e => ?_, fun e => funsOf_none (h.no e)⟩
  have := (h.yes e).2
  rw [show c - k = 0 by have := hk e; omega] at this
  simpa [funsGo] using this

end Go.Proofs.Ytkpkofddfjgmpaa
