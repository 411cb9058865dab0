/- szIntS, szHeap: how much is left; toHeap: a heap of the program's own type. -/
import Derived.Test.YtlkdlcpfcacigaaToI
import Derived.Test.YtlkdlcpfcacigaaMgScalar
namespace Go.Proofs.Ytlkdlcpfcacigaa
open Go.RowKit
set_option linter.unusedVariables false

def szOf (n : Nat) (left : Int) : Int := if left - n < 0 then -1 else left - n

theorem szOf_ge (n : Nat) (left : Int) : -1 ≤ szOf n left := by unfold szOf; split <;> omega

theorem alloc_box3 {w x : World} {A B C : Array Value} {e f g : TypeId} (h : ((w.alloc (.cells A e)).alloc (.cells B f)).alloc (.cells C g) = x) :
    Below w.heap.size w x ∧ Bx x w.heap.size A ∧ Bx x (w.heap.size + 1) B ∧ Bx x (w.heap.size + 2) C ∧ x.heap.size = w.heap.size + 3 := by
  obtain ⟨b1, k1⟩ := Bx.alloc (w := w) (cur := A) (e := e) rfl
  obtain ⟨b2, k2⟩ := Bx.alloc (w := w.alloc (.cells A e)) (cur := B) (e := f) rfl
  obtain ⟨b3, k3⟩ := Bx.alloc (w := (w.alloc (.cells A e)).alloc (.cells B f)) (cur := C) (e := g) rfl
  have s1 : (w.alloc (.cells A e)).heap.size = w.heap.size + 1 := by simp
  have s2 : ((w.alloc (.cells A e)).alloc (.cells B f)).heap.size = w.heap.size + 2 := by simp
  rw [s1] at k2 b2
  rw [s2] at k3 b3
  subst h
  exact ⟨(b1.trans (b2.mono (by omega))).trans (b3.mono (by omega)), (k1.below b2 (by omega)).below b3 (by omega), k2.below b3 (by omega), k3, by simp⟩

end Go.Proofs.Ytlkdlcpfcacigaa
