/- FunsOk: whether functions are right. -/
import Derived.Test.YtkpkofddfjgmpaaOpOk
namespace Go.Proofs.Ytkpkofddfjgmpaa
open Go.RowKit
set_option linter.unusedVariables false
set_option linter.unusedSimpArgs false

def fn0 : F2 := ⟨0, []⟩
def fnHead (x : F2) : Bool := inB x.f 0 20 && inB (x.os.length : Int) 1 3000
def lastC (x : F2) : Int := (x.os.getD (x.os.length - 1) ⟨0, 0, 0⟩).c
def fnLast (x : F2) : Bool := (lastC x == 7) || (lastC x == 19) || (lastC x == 21)
def fnOk (fs : List F2) (i : Nat) : Bool := (fs.getD i fn0).os.all (opOk fs i) && fnLast (fs.getD i fn0)
def funsOk (fs : List F2) : Bool := (inB (fs.length : Int) 1 60 && ((fs.getD 0 fn0).f == 0)) && (fs.all fnHead && (List.range fs.length).all (fnOk fs))
theorem fs_getD {fs : List F2} {i : Nat} (h : i < fs.length) : fs.getD i fn0 = fs[i] := by rw [List.getD_eq_getElem?_getD, List.getElem?_eq_getElem h]; rfl
theorem funsOk_head {fs : List F2} (h : (inB (fs.length : Int) 1 60 && ((fs.getD 0 fn0).f == 0)) = false) : funsOk fs = false := by unfold funsOk; rw [h]; rfl
theorem funsOk_bad {fs : List F2} {i : Nat} (hi : i < fs.length) (h : fnHead fs[i] = false) : funsOk fs = false := by
  have : fs.all fnHead = false := by
    rw [List.all_eq_false]
    exact ⟨_, List.getElem_mem hi, by simp [h]⟩
  unfold funsOk
  rw [this]
  simp
theorem funsOk_fn {fs : List F2} {i : Nat} (hi : i < fs.length) (h : fnOk fs i = false) : funsOk fs = false := by
  have : (List.range fs.length).all (fnOk fs) = false := by
    rw [List.all_eq_false]
    exact ⟨i, List.mem_range.2 hi, by simp [h]⟩
  unfold funsOk
  rw [this]
  simp
theorem fnOk_op {fs : List F2} {i k : Nat} (hi : i < fs.length) (hk : k < fs[i].os.length) (h : opOk fs i fs[i].os[k] = false) : fnOk fs i = false := by
  unfold fnOk
  rw [fs_getD hi]
  have : fs[i].os.all (opOk fs i) = false := by
    rw [List.all_eq_false]
    exact ⟨_, List.getElem_mem hk, by simp [h]⟩
  rw [this]
  rfl
theorem fnOk_last {fs : List F2} {i : Nat} (hi : i < fs.length) (h : fnLast fs[i] = false) : fnOk fs i = false := by
  unfold fnOk
  rw [fs_getD hi, h]
  simp
theorem funsOk_yes {fs : List F2} (h0 : (inB (fs.length : Int) 1 60 && ((fs.getD 0 fn0).f == 0)) = true) (h1 : ∀ j (h : j < fs.length), fnHead fs[j] = true) (h2 : ∀ j, j < fs.length → fnOk fs j = true) : funsOk fs = true := by
  unfold funsOk
  rw [h0, Bool.true_and, Bool.and_eq_true, List.all_eq_true, List.all_eq_true]
  refine ⟨fun x hx => ?_, fun j hj => h2 j (List.mem_range.1 hj)⟩
  obtain ⟨j, hj, rfl⟩ := List.mem_iff_getElem.1 hx
  exact h1 j hj
theorem fnOk_yes {fs : List F2} {i : Nat} (hi : i < fs.length) (h : ∀ k (hk : k < fs[i].os.length), opOk fs i fs[i].os[k] = true) (hl : fnLast fs[i] = true) : fnOk fs i = true := by
  unfold fnOk
  rw [fs_getD hi, hl, Bool.and_true, List.all_eq_true]
  intro x hx
  obtain ⟨k, hk, rfl⟩ := List.mem_iff_getElem.1 hx
  exact h k hk
theorem lastC_at {x : F2} {E : Nat} (hE : x.os.length = E) (h : 0 < E) : ∃ hk : E - 1 < x.os.length, (x.os[E - 1]).c = lastC x := by
  subst hE
  refine ⟨by omega, ?_⟩
  unfold lastC
  rw [List.getD_eq_getElem?_getD, List.getElem?_eq_getElem (by omega)]
  rfl

end Go.Proofs.Ytkpkofddfjgmpaa
