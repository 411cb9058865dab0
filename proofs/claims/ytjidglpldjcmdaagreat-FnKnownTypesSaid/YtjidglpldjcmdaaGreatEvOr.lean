/-
Calls that are known beforehand: closed arguments, closed results, each shown by itself.
-/
import Derived.Test.YtjidglpldjcmdaaGreatEvRn
set_option linter.unusedVariables false
set_option linter.unusedSimpArgs false
namespace Go.Ev
open Go Go.RowKit

def flS : S → Bool
  | .p .. => false
  | .l .. => false
  | .f .. => false
  | _ => true
def fl0 : V → Bool
  | .o => true
  | .c s => flS s
  | .a l => l.all flS
  | .t _ => false
def flV : V → Bool
  | .t l => l.all fl0
  | .o => true
  | .c s => flS s
  | .a l => l.all flS
theorem SR.flat {ρ ρ' : Rho} {s : S} {v : Value} (hf : flS s = true) (h : SR ρ s v) : SR ρ' s v := by
  cases s <;> first | exact h | cases hf
theorem LR.flat {α β : Type} {R R' : α → β → Prop} {f : α → Bool} (hR : ∀ a b, f a = true → R a b → R' a b) : ∀ {l : List α} {m : List β}, l.all f = true → LR R l m → LR R' l m
  | [], [], _, _ => trivial
  | a :: l, b :: m, hf, h => by
    simp only [List.all_cons, Bool.and_eq_true] at hf
    exact ⟨hR _ _ hf.1 h.1, LR.flat hR hf.2 h.2⟩
  | [], _ :: _, _, h => h.elim
  | _ :: _, [], _, h => h.elim
theorem VR0.flat {ρ ρ' : Rho} {v : V} {c : Value} (hf : fl0 v = true) (h : VR0 ρ v c) : VR0 ρ' v c := by
  cases v with
  | o => trivial
  | c s => exact SR.flat hf h
  | a l => obtain ⟨arr, h1, h2⟩ := h; exact ⟨arr, h1, LR.flat (fun _ _ => SR.flat) hf h2⟩
  | t l => exact h.elim
theorem VR.flat {ρ ρ' : Rho} {v : V} {c : Value} (hf : flV v = true) (h : VR ρ v c) : VR ρ' v c := by
  cases v with
  | o => trivial
  | c s => exact SR.flat hf h
  | a l => obtain ⟨arr, h1, h2⟩ := h; exact ⟨arr, h1, LR.flat (fun _ _ => SR.flat) hf h2⟩
  | t l => obtain ⟨arr, h1, h2⟩ := h; exact ⟨arr, h1, LR.flat (fun _ _ => VR0.flat) hf h2⟩

theorem Rel.below {ρ : Rho} {s : St} {w w' : World} (h : Rel ρ s w) (b : Below w.heap.size w w') : Rel ρ s w' := by
  have hlt : ∀ x cb sh z, ρ x = some (cb, sh, z) → cb < w.heap.size := fun x cb sh z e => by
    obtain ⟨cs, el, h1, _⟩ := h.blk x cb sh z e
    exact (Array.getElem?_eq_some_iff.1 h1).1
  refine ⟨h.dom, fun x cb sh z e => ?_, fun x cb sh z bk e e' => ?_, h.inj, h.fam, h.nfl, h.lt⟩
  · rw [b.block cb (hlt x cb sh z e)]; exact h.blk x cb sh z e
  · obtain ⟨h1, h2⟩ := h.con x cb sh z bk e e'
    refine ⟨h1, fun i sv hi => ?_⟩
    obtain ⟨cv, h3, h4⟩ := h2 i sv hi
    refine ⟨cv, ?_, h4⟩
    rw [← h3]
    unfold World.cell?
    rw [b.block cb (hlt x cb sh z e)]
theorem Go.of_below {ρ : Rho} {s : St} {w w' : World} (h : Rel ρ s w) (b : Below w.heap.size w w') : Go s ρ w s ρ w' :=
  ⟨Rho.le_refl _, b.os, b.tape, b.output, b.size, fun c hc _ => b.block c hc, fun x cb sh z e => .inl ⟨x, sh, z, e⟩, Nat.le_refl _, fun _ _ e => .inl e⟩

structure Or where
  g : Nat
  vs : List V
  v : V

def OrOk (P : Program) (o : Or) : Prop :=
  flV o.v = true ∧ o.vs.all flV = true ∧ ∀ (cargs : List Value) (w : World), LR (VR rho0) o.vs cargs →
    (callFunc o.g cargs.toArray).run P w = .ok (.enter o.g cargs.toArray) w ∧ Calls P o.g cargs.toArray w fun e w' => ∃ cv, e = .returned cv ∧ VR rho0 o.v cv ∧ Below w.heap.size w w'

noncomputable def vsEq (l : List V) : List V → Bool :=
  List.rec (motive := fun _ => List V → Bool) (fun m => List.rec true (fun _ _ _ => false) m)
    (fun x _ ih m => List.rec false (fun y t _ => Bool.rec false (ih t) (vEq x y)) m) l
theorem vsEq_sound : ∀ {l m : List V}, vsEq l m = true → l = m
  | [], [], _ => rfl
  | [], _ :: _, h => by have : false = true := h; cases this
  | _ :: _, [], h => by have : false = true := h; cases this
  | x :: l, y :: m, h => by
    have h' : (Bool.rec false (vsEq l m) (vEq x y) : Bool) = true := h
    cases hv : vEq x y with
    | false => rw [hv] at h'; cases h'
    | true => rw [hv] at h'; rw [vEq_eq hv, vsEq_sound h']
noncomputable def orc (l : List Or) (ext : Nat → List V → St → Option (V × St)) : Nat → List V → St → Option (V × St) := fun g vs s =>
  List.rec (ext g vs s) (fun o _ ih => bif Nat.beq o.g g && vsEq o.vs vs then some (o.v, s) else ih) l
theorem orc_ok {P : Program} {ext : Nat → List V → St → Option (V × St)} (hext : CallOk P ext) : ∀ {l : List Or}, (∀ o ∈ l, OrOk P o) → CallOk P (orc l ext)
  | [], _ => hext
  | o :: l, h => fun g vs s v s' hc ρ w cargs hl hr => by
    have hc' : (bif Nat.beq o.g g && vsEq o.vs vs then some (o.v, s) else orc l ext g vs s) = some (v, s') := hc
    cases hb : (Nat.beq o.g g && vsEq o.vs vs) with
    | false =>
      rw [hb] at hc'
      exact orc_ok hext (fun o ho => h o (List.mem_cons_of_mem _ ho)) g vs s v s' hc' ρ w cargs hl hr
    | true =>
      rw [hb] at hc'
      have hc2 : some (o.v, s) = some (v, s') := hc'
      simp only [Option.some.injEq, Prod.mk.injEq] at hc2
      obtain ⟨rfl, rfl⟩ := hc2
      obtain ⟨b1, b2⟩ := (Bool.and_eq_true _ _).mp hb
      have e1 : o.g = g := Nat.eq_of_beq_eq_true b1
      have e2 := vsEq_sound b2
      subst e1 e2
      obtain ⟨f1, f2, f3⟩ := h o (List.mem_cons_self ..)
      obtain ⟨g1, g2⟩ := f3 cargs w (LR.flat (fun _ _ => VR.flat) f2 hl)
      refine ⟨g1, g2.mono ?_⟩
      rintro e w' ⟨cv, rfl, k2, k3⟩
      exact ⟨cv, ρ, rfl, VR.flat f1 k2, hr.below k3, Go.of_below hr k3⟩

noncomputable def uEq : V → V → Bool
  | .t l, .t m => vsEq l m
  | a, b => vEq a b
theorem uEq_sound {a b : V} (h : uEq a b = true) : a = b := by
  cases a <;> cases b <;> first | exact vEq_eq h | (rw [vsEq_sound h])
noncomputable def resIs (v : V) : Option (V × St) → Bool
  | some (u, _) => uEq u v
  | none => false
/-- A call that has been carried out by itself. -/
theorem orOk_of {P : Program} {call : Nat → List V → St → Option (V × St)} (hcall : CallOk P call) {g : Nat} {vs : List V} {v : V} (h1 : flV v = true) (h2 : vs.all flV = true) (h : resIs v (call g vs St.zero) = true) : OrOk P ⟨g, vs, v⟩ := by
  refine ⟨h1, h2, fun cargs w hl => ?_⟩
  unfold resIs at h
  split at h
  · rename_i u s' hu
    have := uEq_sound h
    subst this
    obtain ⟨k1, k2⟩ := hcall g vs St.zero u s' hu rho0 w cargs hl (Rel.zero w)
    refine ⟨k1, k2.mono ?_⟩
    rintro e w' ⟨cv, ρ', rfl, k4, k5, k6⟩
    exact ⟨cv, rfl, VR.flat h1 k4, k6.below (Nat.le_refl _) fun x cb sh z e => by cases e⟩
  · cases h
end Go.Ev
