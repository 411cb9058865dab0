/-
Code that is carried out from a known state on.
-/
import Derived.Test.YtjidglpldjcmdaaGreatEvTbT
import Derived.Below
set_option linter.unusedVariables false
set_option linter.unusedSimpArgs false
namespace Go.Ev
open Go Go.RowKit

def noExt : Nat → List V → St → Option (V × St) := fun _ _ _ => none
theorem noExt_ok (P : Program) : CallOk P noExt := fun g vs s v s' h => by cases h
def rho0 : Rho := fun _ => none
theorem Rel.zero (w : World) : Rel rho0 St.zero w := by
  have h0 : ∀ x b, St.zero.h.get x = some b → False := fun x b h => by
    rw [show St.zero.h.get x = Option.none from T.get_lf x] at h
    cases h
  refine ⟨?_, ?_, ?_, ?_, ?_, ?_, ?_⟩
  · intro x y h
    cases h
  · intro x cb sh z h
    cases h
  · intro x cb sh z b h
    cases h
  · intro x y cb sh sh' z z' bx b' hne h
    cases h
  · intro x b f h
    exact (h0 x b h).elim
  · intro x b h
    exact (h0 x b h).elim
  · intro x b h
    exact (h0 x b h).elim
theorem ER.upd {ρ : Rho} {e : E} {a : Act} (h : ER ρ e a) {t : Nat} {v : V} (hv : VR ρ v (a.tmps.getD t undef)) : ER ρ (T.upd (some v) e t) a := by
  intro x u hu
  rw [T.get_upd] at hu
  split at hu
  · rename_i hx
    simp only [Option.some.injEq] at hu
    subst hu hx; exact hv
  · exact h x u hu
theorem ER.lf {ρ : Rho} {a : Act} : ER ρ T.lf a := fun t v h => by rw [T.get_lf] at h; cases h

/-- What is known where a function returns a truth value. -/
noncomputable def retB (t : Nat) (b : Bool) : Rs → Bool
  | .rt e _ => match os e (.t t) with | .b x => bif b then x else not x | _ => false
  | _ => false

/-- The call of a function of the table. -/
theorem table_ok {P : Program} {ty : TypeId → Option TyI} {ibs : FuncId → Bool} (hty : TyOk P ty) (hib : IbsOk P ibs) (hm : P.follows .mixedOrders = true) {tbl : T MFn} (ht : TblOk P ty ibs (cDraw ty ibs) tbl) (N d : Nat) : CallOk P (fn tbl N noExt d) :=
  fn_sound hty hib ht N (fun call nt hc => draw_ok hm hty hib hc) (noExt_ok P) d

/-- Code that ends in a return: the slot holds the truth value, and what lay below stays. -/
theorem code_from {P : Program} {ty : TypeId → Option TyI} {ibs : FuncId → Bool} (hty : TyOk P ty) (hib : IbsOk P ibs) (hm : P.follows .mixedOrders = true) {call : Nat → List V → St → Option (V × St)} (hcall : CallOk P call) {N nt : Nat}
    {c : Code} {h : List (List HS)} {m : MC} (hc : cCode ty ibs nt (cDraw ty ibs nt) c h = some (m, [])) {e : E} {s : St} {ρ : Rho} {a : Act} {w : World} (he : ER ρ e a) (hr : Rel ρ s w) (hf : FrOk nt a)
    {t : Nat} {b : Bool} (hev : retB t b (ev call N m e s) = true) {Q : Exit → Act → World → Prop}
    (hQ : ∀ a' w' s' ρ', a'.tmps.getD t undef = .bool b → Go s ρ w s' ρ' w' → a'.defers = [] → Q .ret a' w') : c.wp P Q a w := by
  refine code_sound (N := N) hty hib hcall (draw_ok hm hty hib hcall) c h [] m hc e s ρ a w Q he hr hf ?_
  unfold retB at hev
  split at hev
  · rename_i e' s' hr'
    rw [hr']
    intro a' w' ρ' k1 k2 k3 k4
    refine hQ a' w' s' ρ' ?_ k3 k4.2
    split at hev
    · rename_i x hx
      have := k1.os (x := .tmp t) (y := .t t) rfl hx (by simp)
      have hx' : a'.tmps.getD t undef = .bool x := this
      rw [hx']
      cases b <;> cases x <;> first | rfl | cases hev
    · cases hev
  · cases hev

theorem Go.below {s s' : St} {ρ ρ' : Rho} {w w' : World} (h : Go s ρ w s' ρ' w') {B : Nat} (hB : B ≤ w.heap.size) (hρ : ∀ x cb sh z, ρ x = some (cb, sh, z) → B ≤ cb) : Below B w w' :=
  ⟨h.os, h.tape, h.output, h.size, fun k hk => h.block k (Nat.lt_of_lt_of_le hk hB) fun x sh z e => absurd (hρ _ _ _ _ e) (by omega)⟩
end Go.Ev
