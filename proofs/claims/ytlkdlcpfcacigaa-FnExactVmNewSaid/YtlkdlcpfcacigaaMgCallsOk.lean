import Derived.Test.YtlkdlcpfcacigaaMgOpOk
import Derived.Test.YtlkdlcpfcacigaaMgOpenE
import Derived.Test.YtlkdlcpfcacigaaMgScalar
import Derived.BigQuiet
import Derived.Test.YtlkdlcpfcacigaaFunsOkI
import Derived.Test.YtlkdlcpfcacigaaMgMoveP
/- callsOk: whether a machine's calls are right. -/
namespace Go.Proofs.Ytlkdlcpfcacigaa
open Go.RowKit
set_option linter.unusedVariables false
set_option linter.unusedSimpArgs false

def c0 : O3 := ⟨0, 0, 0⟩
def callOk (fs : List F2) (ns : Nat) (cs : List O3) (i : Nat) : Bool :=
  (inB (cs.getD i c0).c 0 ((fs.length : Int) - 1) && inB (cs.getD i c0).n 0 (((fs.getD (cs.getD i c0).c.toNat fn0).os.length : Int) - 1)) && (inB (cs.getD i c0).m 1 ((ns : Int) - 1) && (decide (i = 0) || decide ((cs.getD (i - 1) c0).m < (cs.getD i c0).m)))
def callsAll (fs : List F2) (ns : Nat) (cs : List O3) : Bool := (List.range cs.length).all (callOk fs ns cs)
def callsOk (fs : List F2) (ns : Nat) (cs : List O3) (code : Int) : Bool := callsAll fs ns cs && (decide (cs.length ≤ 120) && ((code != 0) || decide (0 < cs.length)))
theorem callsAll_bad {fs : List F2} {ns : Nat} {cs : List O3} {i : Nat} (hi : i < cs.length) (h : callOk fs ns cs i = false) : callsAll fs ns cs = false := by
  unfold callsAll
  rw [List.all_eq_false]
  exact ⟨i, List.mem_range.2 hi, by simp [h]⟩
theorem callsAll_yes {fs : List F2} {ns : Nat} {cs : List O3} (h : ∀ j, j < cs.length → callOk fs ns cs j = true) : callsAll fs ns cs = true := by
  unfold callsAll
  rw [List.all_eq_true]
  exact fun j hj => h j (List.mem_range.1 hj)
theorem cs_getD {cs : List O3} {i : Nat} (h : i < cs.length) : cs.getD i c0 = cs[i] := by rw [List.getD_eq_getElem?_getD, List.getElem?_eq_getElem h]; rfl

end Go.Proofs.Ytlkdlcpfcacigaa

/- VmOk (impl). -/
namespace Go.Proofs.Ytlkdlcpfcacigaa
open Go.RowKit
set_option linter.unusedVariables false
set_option linter.unusedSimpArgs false

/-- an index, not below 0 just where some number is no word. -/
def FoundNo (xs : List Int) (e : Ending) : Prop := ∃ r : Int, e = .returned (.int .i64 r) ∧ (0 ≤ r ↔ xs.all wordB = false)
theorem no_here {xs : List Int} {x : Int} {k : Nat} (hk : k < xs.length) (hx : xs.getD k 0 = x) (h : wordB x = false) : xs.all wordB = false := by
  rw [List.all_eq_false]
  exact ⟨x, mem_of_get hk hx, by rw [h]; simp⟩
theorem no_none {xs : List Int} (h : ∀ j, j < xs.length → wordB (xs.getD j 0) = true) : xs.all wordB = true := by
  rw [List.all_eq_true]
  intro x hx
  obtain ⟨i, hi, he⟩ := List.getElem_of_mem hx
  have := h i hi
  simpa [List.getD, List.getElem?_eq_getElem hi, he] using this
theorem no_step {xs : List Int} {k : Nat} (h : ∀ j, j < k → wordB (xs.getD j 0) = true) (he : wordB (xs.getD k 0) = true) : ∀ j, j < k + 1 → wordB (xs.getD j 0) = true := by
  intro j hj
  by_cases e : j = k
  · subst e; exact he
  · exact h j (by omega)

def vmOk (L : VmL) : Bool := funsOk L.fs && (rightOf L.zs L.h L.b L.n L.ss && (decide (L.ss.length ≤ 600) && (inB L.code 0 5 && (callsOk L.fs L.ss.length L.cs L.code && L.os.all wordB))))

end Go.Proofs.Ytlkdlcpfcacigaa
