/- A new machine is right. Plain. -/
import Derived.Test.YtlkdlcpfcacigaaVerL
import Derived.Test.YtlkdlcpfcacigaaMgCallsOk
namespace Go.Proofs.Ytlkdlcpfcacigaa
open Go.RowKit
set_option linter.unusedVariables false
set_option linter.unusedSimpArgs false

def newL (fs : List F2) (h : Nat) (each : Bool) : VmL := ⟨fs, List.replicate (2 * h) 0, h, 0, 0, [1, 1], [⟨0, 0, 1⟩], [], 0, each⟩
theorem verB_funs {fs : List F2} (h : verB fs = true) : funsOk fs = true := by
  unfold verB at h
  rw [Bool.and_eq_true] at h
  exact h.1
theorem new_ok (fs : List F2) (half : Nat) (each : Bool) (hv : verB fs = true) (h1 : 1 ≤ half) (h2 : half ≤ 3000) : vmOk (newL fs half each) = true := by
  have hf := verB_funs hv
  obtain ⟨⟨p1, p2⟩, p3⟩ := fn_parts hf
  obtain ⟨⟨_, q1, q2⟩, _⟩ := p3 0 (by omega)
  have hfr : heapFrame (List.replicate (2 * half) 0) (half : Int) 0 0 = true := by
    unfold heapFrame
    rw [decide_eq_true_eq, List.length_replicate]
    omega
  have hp : placesOf (List.replicate (2 * half) 0) (0 : Int).toNat (0 : Int).toNat = some [] := rfl
  have hh : heapOk (List.replicate (2 * half) 0) (half : Int) 0 0 = true := by
    unfold heapOk
    rw [hfr, hp]
    rfl
  have hr : rightOf (List.replicate (2 * half) 0) (half : Int) 0 0 [1, 1] = true := by
    unfold rightOf
    rw [hh, hp]
    rfl
  have hc : callsOk fs 2 [⟨0, 0, 1⟩] 0 = true := by
    unfold callsOk
    rw [Bool.and_eq_true]
    refine ⟨callsAll_yes fun j hj => ?_, rfl⟩
    have : j = 0 := by simpa using hj
    subst this
    unfold callOk
    have g : ([⟨0, 0, 1⟩] : List O3).getD 0 c0 = ⟨0, 0, 1⟩ := rfl
    rw [g]
    have a1 : inB 0 0 ((fs.length : Int) - 1) = true := inB_true.2 ⟨by omega, by omega⟩
    have a2 : inB 0 0 (((fs.getD 0 fn0).os.length : Int) - 1) = true := inB_true.2 ⟨by omega, by omega⟩
    have a3 : inB 1 1 (((2 : Nat) : Int) - 1) = true := rfl
    dsimp only
    rw [a1, show (0 : Int).toNat = 0 from rfl, a2, a3]
    rfl
  unfold vmOk newL
  dsimp only
  rw [hf, hr, show ([1, 1] : List Int).length = 2 from rfl, hc]
  rfl

end Go.Proofs.Ytlkdlcpfcacigaa
