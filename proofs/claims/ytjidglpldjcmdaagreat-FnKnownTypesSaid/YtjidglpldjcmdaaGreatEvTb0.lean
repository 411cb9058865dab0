/-
The program's types and the one function without a body.
-/
import Derived.Test.YtjidglpldjcmdaaGreatEvB
import Derived.Test.YtjidglpldjcmdaaGreatProg
import Derived.WalkKit
set_option linter.unusedVariables false
namespace Go.Ev
open Go Go.Proofs.Tryz
noncomputable def ty : TypeId → Option TyI := tyI prog
theorem tyOk : TyOk prog ty := fun _ _ h => h
noncomputable def ibs (f : FuncId) : Bool := Nat.beq f 227
theorem found : Extern.find f227 = some Extern.BytealgIndexByte.indexByte := by kernel_rfl
theorem foundNext : (Extern.findNext f227).isNone = true := by kernel_rfl
theorem run_mark (P : Program) (m : Mark) (w : World) : (mark m).run P w = .ok () w := rfl
theorem ibsOk : IbsOk prog ibs := by
  intro f hf args v w h
  have hf' : f = 227 := Nat.eq_of_beq_eq_true hf
  subst hf'
  have hn := foundNext
  rw [Option.isNone_iff_eq_none] at hn
  have h1 : (f227.name == "runtime.NumGoroutine") = false := by kernel_rfl
  have h2 : f227.body.isNone = true := by kernel_rfl
  unfold callFunc
  simp only [Sem.run_bind, run_program, Result.andThen_ok, func227, h1, Bool.false_eq_true, if_false, h2, if_true, hn, found]
  simp only [run_mark, Result.andThen_ok, h, Sem.run_pure]
theorem follows : prog.follows .mixedOrders = true := by kernel_rfl

theorem lf_ok {P : Nat → MFn → Prop} : ∀ g f, (T.lf : T MFn).get g = some f → P g f := fun g f h => by rw [T.get_lf] at h; cases h
theorem no_ok {P : MFn → Prop} : ∀ f, (none : Option MFn) = some f → P f := fun f h => by cases h
theorem so_ok {P : MFn → Prop} {q : MFn} (h : P q) : ∀ f, some q = some f → P f := fun f e => by cases e; exact h
theorem nd_ok {P : Nat → MFn → Prop} {l r : T MFn} {v : Option MFn} (hl : ∀ g f, l.get g = some f → P (2 * g + 1) f) (hv : ∀ f, v = some f → P 0 f) (hr : ∀ g f, r.get g = some f → P (2 * g + 2) f) :
    ∀ g f, (T.nd l v r).get g = some f → P g f := by
  intro g f h
  rw [T.get_nd] at h
  by_cases h0 : g = 0
  · subst h0; exact hv f (by simpa using h)
  · have e0 : (g == 0) = false := by simpa using h0
    rw [e0] at h
    by_cases h1 : g % 2 = 0
    · have e1 : (g % 2 == 0) = true := by simpa using h1
      rw [e1] at h
      have := hr _ f h
      rw [show 2 * (g / 2 - 1) + 2 = g by omega] at this
      exact this
    · have e1 : (g % 2 == 0) = false := by simpa using h1
      rw [e1] at h
      have := hl _ f h
      rw [show 2 * (g / 2) + 1 = g by omega] at this
      exact this
end Go.Ev
