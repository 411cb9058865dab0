/- Parts of the proof of FnBytes. -/
import Derived.Test.YtdmkhipimcjipaaGreatZ00
set_option linter.unusedVariables false
set_option linter.unusedSimpArgs false
set_option linter.unusedVariables false
namespace Go.Ev
open Go
structure N8 (α : Type) where
  a0 : α
  a1 : α
  a2 : α
  a3 : α
  a4 : α
  a5 : α
  a6 : α
  a7 : α
def N8.all {α : Type} (x : α) : N8 α := ⟨x, x, x, x, x, x, x, x⟩
structure Ln (α β : Type) where
  g : α → β
  u : α → β → α
noncomputable def N8.u0 {α : Type} (n : N8 α) (b : α) : N8 α := N8.rec (motive := fun _ => N8 α) (fun a0 a1 a2 a3 a4 a5 a6 a7 => ⟨b, a1, a2, a3, a4, a5, a6, a7⟩) n
noncomputable def N8.l0 {α : Type} : Ln (N8 α) α := ⟨N8.a0, N8.u0⟩
noncomputable def N8.u1 {α : Type} (n : N8 α) (b : α) : N8 α := N8.rec (motive := fun _ => N8 α) (fun a0 a1 a2 a3 a4 a5 a6 a7 => ⟨a0, b, a2, a3, a4, a5, a6, a7⟩) n
noncomputable def N8.l1 {α : Type} : Ln (N8 α) α := ⟨N8.a1, N8.u1⟩
noncomputable def N8.u2 {α : Type} (n : N8 α) (b : α) : N8 α := N8.rec (motive := fun _ => N8 α) (fun a0 a1 a2 a3 a4 a5 a6 a7 => ⟨a0, a1, b, a3, a4, a5, a6, a7⟩) n
noncomputable def N8.l2 {α : Type} : Ln (N8 α) α := ⟨N8.a2, N8.u2⟩
noncomputable def N8.u3 {α : Type} (n : N8 α) (b : α) : N8 α := N8.rec (motive := fun _ => N8 α) (fun a0 a1 a2 a3 a4 a5 a6 a7 => ⟨a0, a1, a2, b, a4, a5, a6, a7⟩) n
noncomputable def N8.l3 {α : Type} : Ln (N8 α) α := ⟨N8.a3, N8.u3⟩
noncomputable def N8.u4 {α : Type} (n : N8 α) (b : α) : N8 α := N8.rec (motive := fun _ => N8 α) (fun a0 a1 a2 a3 a4 a5 a6 a7 => ⟨a0, a1, a2, a3, b, a5, a6, a7⟩) n
noncomputable def N8.l4 {α : Type} : Ln (N8 α) α := ⟨N8.a4, N8.u4⟩
noncomputable def N8.u5 {α : Type} (n : N8 α) (b : α) : N8 α := N8.rec (motive := fun _ => N8 α) (fun a0 a1 a2 a3 a4 a5 a6 a7 => ⟨a0, a1, a2, a3, a4, b, a6, a7⟩) n
noncomputable def N8.l5 {α : Type} : Ln (N8 α) α := ⟨N8.a5, N8.u5⟩
noncomputable def N8.u6 {α : Type} (n : N8 α) (b : α) : N8 α := N8.rec (motive := fun _ => N8 α) (fun a0 a1 a2 a3 a4 a5 a6 a7 => ⟨a0, a1, a2, a3, a4, a5, b, a7⟩) n
noncomputable def N8.l6 {α : Type} : Ln (N8 α) α := ⟨N8.a6, N8.u6⟩
noncomputable def N8.u7 {α : Type} (n : N8 α) (b : α) : N8 α := N8.rec (motive := fun _ => N8 α) (fun a0 a1 a2 a3 a4 a5 a6 a7 => ⟨a0, a1, a2, a3, a4, a5, a6, b⟩) n
noncomputable def N8.l7 {α : Type} : Ln (N8 α) α := ⟨N8.a7, N8.u7⟩
noncomputable def sel (α : Type) (d : Nat) : Ln (N8 α) α :=
  bif Nat.ble d 3 then (bif Nat.ble d 1 then (bif Nat.ble d 0 then N8.l0 else N8.l1) else (bif Nat.ble d 2 then N8.l2 else N8.l3))
  else (bif Nat.ble d 5 then (bif Nat.ble d 4 then N8.l4 else N8.l5) else (bif Nat.ble d 6 then N8.l6 else N8.l7))
noncomputable def Ln.comp {α β γ : Type} (a : Ln α β) (b : Ln β γ) : Ln α γ :=
  Ln.rec (motive := fun _ => Ln α γ) (fun g1 u1 => Ln.rec (motive := fun _ => Ln α γ) (fun g2 u2 => ⟨fun x => g2 (g1 x), fun x z => u1 x (u2 (g1 x) z)⟩) b) a
def Ln.id (α : Type) : Ln α α := ⟨fun x => x, fun _ b => b⟩
def Tw (α : Type) (n : Nat) : Type := Nat.rec (motive := fun _ => Type) α (fun _ t => N8 t) n
noncomputable def lens (α : Type) (n : Nat) : Nat → Ln (Tw α n) α :=
  Nat.rec (motive := fun n => Nat → Ln (Tw α n) α) (fun _ => Ln.id α) (fun n ih x => Ln.comp (sel (Tw α n) (Nat.mod x 8)) (ih (Nat.div x 8))) n
noncomputable def Tw.all {α : Type} (x : α) (n : Nat) : Tw α n := Nat.rec (motive := fun n => Tw α n) x (fun _ ih => N8.all ih) n
noncomputable def forceT {α : Type} (d : α) (n : Nat) (k : Nat → α) : α := Nat.rec (motive := fun _ => α) d (fun m _ => k m) (Nat.succ n)
structure EK where
  f0 : N8 V
  f1 : N8 V
  f2 : N8 V
  f3 : N8 V
  hi : Tw V 3
noncomputable def EK.zero : EK := ⟨N8.all .o, N8.all .o, N8.all .o, N8.all .o, Tw.all .o 3⟩
structure Sl where
  g : EK → V
  m : V → EK → (EK → Bool) → Bool
noncomputable def EK.g0 (e : EK) : V := (e.f0).a0
noncomputable def EK.p0 (v : V) (e : EK) (k : EK → Bool) : Bool := EK.rec (motive := fun _ => Bool) (fun f0 f1 f2 f3 hi => N8.rec (motive := fun _ => Bool) (fun a0 a1 a2 a3 a4 a5 a6 a7 => k ⟨⟨v, a1, a2, a3, a4, a5, a6, a7⟩, f1, f2, f3, hi⟩) f0) e
noncomputable def EK.g1 (e : EK) : V := (e.f0).a1
noncomputable def EK.p1 (v : V) (e : EK) (k : EK → Bool) : Bool := EK.rec (motive := fun _ => Bool) (fun f0 f1 f2 f3 hi => N8.rec (motive := fun _ => Bool) (fun a0 a1 a2 a3 a4 a5 a6 a7 => k ⟨⟨a0, v, a2, a3, a4, a5, a6, a7⟩, f1, f2, f3, hi⟩) f0) e
noncomputable def EK.g2 (e : EK) : V := (e.f0).a2
noncomputable def EK.p2 (v : V) (e : EK) (k : EK → Bool) : Bool := EK.rec (motive := fun _ => Bool) (fun f0 f1 f2 f3 hi => N8.rec (motive := fun _ => Bool) (fun a0 a1 a2 a3 a4 a5 a6 a7 => k ⟨⟨a0, a1, v, a3, a4, a5, a6, a7⟩, f1, f2, f3, hi⟩) f0) e
noncomputable def EK.g3 (e : EK) : V := (e.f0).a3
noncomputable def EK.p3 (v : V) (e : EK) (k : EK → Bool) : Bool := EK.rec (motive := fun _ => Bool) (fun f0 f1 f2 f3 hi => N8.rec (motive := fun _ => Bool) (fun a0 a1 a2 a3 a4 a5 a6 a7 => k ⟨⟨a0, a1, a2, v, a4, a5, a6, a7⟩, f1, f2, f3, hi⟩) f0) e
noncomputable def EK.g4 (e : EK) : V := (e.f0).a4
noncomputable def EK.p4 (v : V) (e : EK) (k : EK → Bool) : Bool := EK.rec (motive := fun _ => Bool) (fun f0 f1 f2 f3 hi => N8.rec (motive := fun _ => Bool) (fun a0 a1 a2 a3 a4 a5 a6 a7 => k ⟨⟨a0, a1, a2, a3, v, a5, a6, a7⟩, f1, f2, f3, hi⟩) f0) e
noncomputable def EK.g5 (e : EK) : V := (e.f0).a5
noncomputable def EK.p5 (v : V) (e : EK) (k : EK → Bool) : Bool := EK.rec (motive := fun _ => Bool) (fun f0 f1 f2 f3 hi => N8.rec (motive := fun _ => Bool) (fun a0 a1 a2 a3 a4 a5 a6 a7 => k ⟨⟨a0, a1, a2, a3, a4, v, a6, a7⟩, f1, f2, f3, hi⟩) f0) e
noncomputable def EK.g6 (e : EK) : V := (e.f0).a6
noncomputable def EK.p6 (v : V) (e : EK) (k : EK → Bool) : Bool := EK.rec (motive := fun _ => Bool) (fun f0 f1 f2 f3 hi => N8.rec (motive := fun _ => Bool) (fun a0 a1 a2 a3 a4 a5 a6 a7 => k ⟨⟨a0, a1, a2, a3, a4, a5, v, a7⟩, f1, f2, f3, hi⟩) f0) e
noncomputable def EK.g7 (e : EK) : V := (e.f0).a7
noncomputable def EK.p7 (v : V) (e : EK) (k : EK → Bool) : Bool := EK.rec (motive := fun _ => Bool) (fun f0 f1 f2 f3 hi => N8.rec (motive := fun _ => Bool) (fun a0 a1 a2 a3 a4 a5 a6 a7 => k ⟨⟨a0, a1, a2, a3, a4, a5, a6, v⟩, f1, f2, f3, hi⟩) f0) e
noncomputable def EK.g8 (e : EK) : V := (e.f1).a0
noncomputable def EK.p8 (v : V) (e : EK) (k : EK → Bool) : Bool := EK.rec (motive := fun _ => Bool) (fun f0 f1 f2 f3 hi => N8.rec (motive := fun _ => Bool) (fun a0 a1 a2 a3 a4 a5 a6 a7 => k ⟨f0, ⟨v, a1, a2, a3, a4, a5, a6, a7⟩, f2, f3, hi⟩) f1) e
noncomputable def EK.g9 (e : EK) : V := (e.f1).a1
noncomputable def EK.p9 (v : V) (e : EK) (k : EK → Bool) : Bool := EK.rec (motive := fun _ => Bool) (fun f0 f1 f2 f3 hi => N8.rec (motive := fun _ => Bool) (fun a0 a1 a2 a3 a4 a5 a6 a7 => k ⟨f0, ⟨a0, v, a2, a3, a4, a5, a6, a7⟩, f2, f3, hi⟩) f1) e
noncomputable def EK.g10 (e : EK) : V := (e.f1).a2
noncomputable def EK.p10 (v : V) (e : EK) (k : EK → Bool) : Bool := EK.rec (motive := fun _ => Bool) (fun f0 f1 f2 f3 hi => N8.rec (motive := fun _ => Bool) (fun a0 a1 a2 a3 a4 a5 a6 a7 => k ⟨f0, ⟨a0, a1, v, a3, a4, a5, a6, a7⟩, f2, f3, hi⟩) f1) e
noncomputable def EK.g11 (e : EK) : V := (e.f1).a3
noncomputable def EK.p11 (v : V) (e : EK) (k : EK → Bool) : Bool := EK.rec (motive := fun _ => Bool) (fun f0 f1 f2 f3 hi => N8.rec (motive := fun _ => Bool) (fun a0 a1 a2 a3 a4 a5 a6 a7 => k ⟨f0, ⟨a0, a1, a2, v, a4, a5, a6, a7⟩, f2, f3, hi⟩) f1) e
noncomputable def EK.g12 (e : EK) : V := (e.f1).a4
noncomputable def EK.p12 (v : V) (e : EK) (k : EK → Bool) : Bool := EK.rec (motive := fun _ => Bool) (fun f0 f1 f2 f3 hi => N8.rec (motive := fun _ => Bool) (fun a0 a1 a2 a3 a4 a5 a6 a7 => k ⟨f0, ⟨a0, a1, a2, a3, v, a5, a6, a7⟩, f2, f3, hi⟩) f1) e
noncomputable def EK.g13 (e : EK) : V := (e.f1).a5
noncomputable def EK.p13 (v : V) (e : EK) (k : EK → Bool) : Bool := EK.rec (motive := fun _ => Bool) (fun f0 f1 f2 f3 hi => N8.rec (motive := fun _ => Bool) (fun a0 a1 a2 a3 a4 a5 a6 a7 => k ⟨f0, ⟨a0, a1, a2, a3, a4, v, a6, a7⟩, f2, f3, hi⟩) f1) e
noncomputable def EK.g14 (e : EK) : V := (e.f1).a6
noncomputable def EK.p14 (v : V) (e : EK) (k : EK → Bool) : Bool := EK.rec (motive := fun _ => Bool) (fun f0 f1 f2 f3 hi => N8.rec (motive := fun _ => Bool) (fun a0 a1 a2 a3 a4 a5 a6 a7 => k ⟨f0, ⟨a0, a1, a2, a3, a4, a5, v, a7⟩, f2, f3, hi⟩) f1) e
noncomputable def EK.g15 (e : EK) : V := (e.f1).a7
noncomputable def EK.p15 (v : V) (e : EK) (k : EK → Bool) : Bool := EK.rec (motive := fun _ => Bool) (fun f0 f1 f2 f3 hi => N8.rec (motive := fun _ => Bool) (fun a0 a1 a2 a3 a4 a5 a6 a7 => k ⟨f0, ⟨a0, a1, a2, a3, a4, a5, a6, v⟩, f2, f3, hi⟩) f1) e
noncomputable def EK.g16 (e : EK) : V := (e.f2).a0
noncomputable def EK.p16 (v : V) (e : EK) (k : EK → Bool) : Bool := EK.rec (motive := fun _ => Bool) (fun f0 f1 f2 f3 hi => N8.rec (motive := fun _ => Bool) (fun a0 a1 a2 a3 a4 a5 a6 a7 => k ⟨f0, f1, ⟨v, a1, a2, a3, a4, a5, a6, a7⟩, f3, hi⟩) f2) e
noncomputable def EK.g17 (e : EK) : V := (e.f2).a1
noncomputable def EK.p17 (v : V) (e : EK) (k : EK → Bool) : Bool := EK.rec (motive := fun _ => Bool) (fun f0 f1 f2 f3 hi => N8.rec (motive := fun _ => Bool) (fun a0 a1 a2 a3 a4 a5 a6 a7 => k ⟨f0, f1, ⟨a0, v, a2, a3, a4, a5, a6, a7⟩, f3, hi⟩) f2) e
noncomputable def EK.g18 (e : EK) : V := (e.f2).a2
noncomputable def EK.p18 (v : V) (e : EK) (k : EK → Bool) : Bool := EK.rec (motive := fun _ => Bool) (fun f0 f1 f2 f3 hi => N8.rec (motive := fun _ => Bool) (fun a0 a1 a2 a3 a4 a5 a6 a7 => k ⟨f0, f1, ⟨a0, a1, v, a3, a4, a5, a6, a7⟩, f3, hi⟩) f2) e
noncomputable def EK.g19 (e : EK) : V := (e.f2).a3
noncomputable def EK.p19 (v : V) (e : EK) (k : EK → Bool) : Bool := EK.rec (motive := fun _ => Bool) (fun f0 f1 f2 f3 hi => N8.rec (motive := fun _ => Bool) (fun a0 a1 a2 a3 a4 a5 a6 a7 => k ⟨f0, f1, ⟨a0, a1, a2, v, a4, a5, a6, a7⟩, f3, hi⟩) f2) e
noncomputable def EK.g20 (e : EK) : V := (e.f2).a4
noncomputable def EK.p20 (v : V) (e : EK) (k : EK → Bool) : Bool := EK.rec (motive := fun _ => Bool) (fun f0 f1 f2 f3 hi => N8.rec (motive := fun _ => Bool) (fun a0 a1 a2 a3 a4 a5 a6 a7 => k ⟨f0, f1, ⟨a0, a1, a2, a3, v, a5, a6, a7⟩, f3, hi⟩) f2) e
noncomputable def EK.g21 (e : EK) : V := (e.f2).a5
noncomputable def EK.p21 (v : V) (e : EK) (k : EK → Bool) : Bool := EK.rec (motive := fun _ => Bool) (fun f0 f1 f2 f3 hi => N8.rec (motive := fun _ => Bool) (fun a0 a1 a2 a3 a4 a5 a6 a7 => k ⟨f0, f1, ⟨a0, a1, a2, a3, a4, v, a6, a7⟩, f3, hi⟩) f2) e
noncomputable def EK.g22 (e : EK) : V := (e.f2).a6
noncomputable def EK.p22 (v : V) (e : EK) (k : EK → Bool) : Bool := EK.rec (motive := fun _ => Bool) (fun f0 f1 f2 f3 hi => N8.rec (motive := fun _ => Bool) (fun a0 a1 a2 a3 a4 a5 a6 a7 => k ⟨f0, f1, ⟨a0, a1, a2, a3, a4, a5, v, a7⟩, f3, hi⟩) f2) e
noncomputable def EK.g23 (e : EK) : V := (e.f2).a7
noncomputable def EK.p23 (v : V) (e : EK) (k : EK → Bool) : Bool := EK.rec (motive := fun _ => Bool) (fun f0 f1 f2 f3 hi => N8.rec (motive := fun _ => Bool) (fun a0 a1 a2 a3 a4 a5 a6 a7 => k ⟨f0, f1, ⟨a0, a1, a2, a3, a4, a5, a6, v⟩, f3, hi⟩) f2) e
noncomputable def EK.g24 (e : EK) : V := (e.f3).a0
noncomputable def EK.p24 (v : V) (e : EK) (k : EK → Bool) : Bool := EK.rec (motive := fun _ => Bool) (fun f0 f1 f2 f3 hi => N8.rec (motive := fun _ => Bool) (fun a0 a1 a2 a3 a4 a5 a6 a7 => k ⟨f0, f1, f2, ⟨v, a1, a2, a3, a4, a5, a6, a7⟩, hi⟩) f3) e
noncomputable def EK.g25 (e : EK) : V := (e.f3).a1
noncomputable def EK.p25 (v : V) (e : EK) (k : EK → Bool) : Bool := EK.rec (motive := fun _ => Bool) (fun f0 f1 f2 f3 hi => N8.rec (motive := fun _ => Bool) (fun a0 a1 a2 a3 a4 a5 a6 a7 => k ⟨f0, f1, f2, ⟨a0, v, a2, a3, a4, a5, a6, a7⟩, hi⟩) f3) e
noncomputable def EK.g26 (e : EK) : V := (e.f3).a2
noncomputable def EK.p26 (v : V) (e : EK) (k : EK → Bool) : Bool := EK.rec (motive := fun _ => Bool) (fun f0 f1 f2 f3 hi => N8.rec (motive := fun _ => Bool) (fun a0 a1 a2 a3 a4 a5 a6 a7 => k ⟨f0, f1, f2, ⟨a0, a1, v, a3, a4, a5, a6, a7⟩, hi⟩) f3) e
noncomputable def EK.g27 (e : EK) : V := (e.f3).a3
noncomputable def EK.p27 (v : V) (e : EK) (k : EK → Bool) : Bool := EK.rec (motive := fun _ => Bool) (fun f0 f1 f2 f3 hi => N8.rec (motive := fun _ => Bool) (fun a0 a1 a2 a3 a4 a5 a6 a7 => k ⟨f0, f1, f2, ⟨a0, a1, a2, v, a4, a5, a6, a7⟩, hi⟩) f3) e
noncomputable def EK.g28 (e : EK) : V := (e.f3).a4
noncomputable def EK.p28 (v : V) (e : EK) (k : EK → Bool) : Bool := EK.rec (motive := fun _ => Bool) (fun f0 f1 f2 f3 hi => N8.rec (motive := fun _ => Bool) (fun a0 a1 a2 a3 a4 a5 a6 a7 => k ⟨f0, f1, f2, ⟨a0, a1, a2, a3, v, a5, a6, a7⟩, hi⟩) f3) e
noncomputable def EK.g29 (e : EK) : V := (e.f3).a5
noncomputable def EK.p29 (v : V) (e : EK) (k : EK → Bool) : Bool := EK.rec (motive := fun _ => Bool) (fun f0 f1 f2 f3 hi => N8.rec (motive := fun _ => Bool) (fun a0 a1 a2 a3 a4 a5 a6 a7 => k ⟨f0, f1, f2, ⟨a0, a1, a2, a3, a4, v, a6, a7⟩, hi⟩) f3) e
noncomputable def EK.g30 (e : EK) : V := (e.f3).a6
noncomputable def EK.p30 (v : V) (e : EK) (k : EK → Bool) : Bool := EK.rec (motive := fun _ => Bool) (fun f0 f1 f2 f3 hi => N8.rec (motive := fun _ => Bool) (fun a0 a1 a2 a3 a4 a5 a6 a7 => k ⟨f0, f1, f2, ⟨a0, a1, a2, a3, a4, a5, v, a7⟩, hi⟩) f3) e
noncomputable def EK.g31 (e : EK) : V := (e.f3).a7
noncomputable def EK.p31 (v : V) (e : EK) (k : EK → Bool) : Bool := EK.rec (motive := fun _ => Bool) (fun f0 f1 f2 f3 hi => N8.rec (motive := fun _ => Bool) (fun a0 a1 a2 a3 a4 a5 a6 a7 => k ⟨f0, f1, f2, ⟨a0, a1, a2, a3, a4, a5, a6, v⟩, hi⟩) f3) e
noncomputable def EK.gh (g : Tw V 3 → V) (e : EK) : V := g e.hi
noncomputable def EK.ph (u : Tw V 3 → V → Tw V 3) (v : V) (e : EK) (k : EK → Bool) : Bool := EK.rec (motive := fun _ => Bool) (fun f0 f1 f2 f3 hi => k ⟨f0, f1, f2, f3, u hi v⟩) e
noncomputable def slotH (i : Nat) : Sl := bif Nat.ble i 543 then Ln.rec (motive := fun _ => Sl) (fun g u => ⟨EK.gh g, EK.ph u⟩) (lens V 3 (Nat.sub i 32)) else ⟨fun _ => .o, fun _ _ _ => false⟩
noncomputable def slot (i : Nat) : Sl :=
  bif Nat.ble i 31 then (bif Nat.ble i 15 then (bif Nat.ble i 7 then (bif Nat.ble i 3 then (bif Nat.ble i 1 then (bif Nat.ble i 0 then ⟨EK.g0, EK.p0⟩ else ⟨EK.g1, EK.p1⟩) else (bif Nat.ble i 2 then ⟨EK.g2, EK.p2⟩ else ⟨EK.g3, EK.p3⟩)) else (bif Nat.ble i 5 then (bif Nat.ble i 4 then ⟨EK.g4, EK.p4⟩ else ⟨EK.g5, EK.p5⟩) else (bif Nat.ble i 6 then ⟨EK.g6, EK.p6⟩ else ⟨EK.g7, EK.p7⟩))) else (bif Nat.ble i 11 then (bif Nat.ble i 9 then (bif Nat.ble i 8 then ⟨EK.g8, EK.p8⟩ else ⟨EK.g9, EK.p9⟩) else (bif Nat.ble i 10 then ⟨EK.g10, EK.p10⟩ else ⟨EK.g11, EK.p11⟩)) else (bif Nat.ble i 13 then (bif Nat.ble i 12 then ⟨EK.g12, EK.p12⟩ else ⟨EK.g13, EK.p13⟩) else (bif Nat.ble i 14 then ⟨EK.g14, EK.p14⟩ else ⟨EK.g15, EK.p15⟩)))) else (bif Nat.ble i 23 then (bif Nat.ble i 19 then (bif Nat.ble i 17 then (bif Nat.ble i 16 then ⟨EK.g16, EK.p16⟩ else ⟨EK.g17, EK.p17⟩) else (bif Nat.ble i 18 then ⟨EK.g18, EK.p18⟩ else ⟨EK.g19, EK.p19⟩)) else (bif Nat.ble i 21 then (bif Nat.ble i 20 then ⟨EK.g20, EK.p20⟩ else ⟨EK.g21, EK.p21⟩) else (bif Nat.ble i 22 then ⟨EK.g22, EK.p22⟩ else ⟨EK.g23, EK.p23⟩))) else (bif Nat.ble i 27 then (bif Nat.ble i 25 then (bif Nat.ble i 24 then ⟨EK.g24, EK.p24⟩ else ⟨EK.g25, EK.p25⟩) else (bif Nat.ble i 26 then ⟨EK.g26, EK.p26⟩ else ⟨EK.g27, EK.p27⟩)) else (bif Nat.ble i 29 then (bif Nat.ble i 28 then ⟨EK.g28, EK.p28⟩ else ⟨EK.g29, EK.p29⟩) else (bif Nat.ble i 30 then ⟨EK.g30, EK.p30⟩ else ⟨EK.g31, EK.p31⟩))))) else slotH i
structure KB where
  r : List S
  n : Nat
  fam : Nat
  d : Nat
abbrev HK := Tw (Tw (Option KB) 3) 3
noncomputable def HK.zero : HK := Tw.all (Tw.all none 3) 3
structure Bl where
  g : HK → Option KB
  m : Option KB → HK → (HK → Bool) → Bool
noncomputable def blM (u : HK → Option KB → HK) (b : Option KB) (h : HK) (k : HK → Bool) : Bool := k (u h b)
noncomputable def blkL (x : Nat) : Bl :=
  bif Nat.ble x 262143 then forceT ⟨fun _ => none, fun _ _ _ => false⟩ (Nat.mod x 512) fun a => forceT ⟨fun _ => none, fun _ _ _ => false⟩ (Nat.div x 512) fun b =>
    Ln.rec (motive := fun _ => Bl) (fun g u => ⟨g, blM u⟩) (Ln.comp (lens (Tw (Option KB) 3) 3 a) (lens (Option KB) 3 b))
  else ⟨fun _ => none, fun _ _ _ => false⟩
structure KS where
  h : HK
  nb : Nat
  fm : T (List (Nat × Nat × Nat))
  nf : Nat
noncomputable def KS.zero : KS := ⟨HK.zero, 0, T.lf, 0⟩
noncomputable def force (n : Nat) (k : Nat → Bool) : Bool := Nat.rec (motive := fun _ => Bool) true (fun m _ => k m) (Nat.succ n)
section
variable (q : O → V)
def osR (x : O) : S := match q x with | .c s => s | _ => .un
noncomputable def putAllR (z : List S) (ps : List (Nat × Nat × O)) : Option (List S) :=
  List.rec (motive := fun _ => List S → Option (List S)) (fun z => some z) (fun p _ ih z =>
    match cellsOf (q p.2.2) with
    | none => none
    | some l => bif Nat.beq (llen l) p.2.1 && Nat.ble (Nat.add p.1 p.2.1) (llen z) then ih (lput z l p.1) else none) ps z
def onR (x : O) : Option Nat := match osR q x with | .i (.ofNat n) => some n | _ => none
def onjR (x : O) : Option Nat := match osR q x with | .i (.ofNat n) => some n | .j _ (.ofNat n) => some n | _ => none
def onDR (d : Nat) : Option O → Option Nat
  | none => some d
  | some x => onjR q x
noncomputable def ptrsR (xs : List O) : Option (List (Nat × Nat)) :=
  List.rec (some []) (fun x _ ih => match osR q x, ih with | .p a b, some l => some ((a, b) :: l) | _, _ => none) xs
noncomputable def wvR : W → Option V
  | .mv x => some (q x)
  | .pick c a b => match osR q c with | .b x => some (bif x then q a else q b) | _ => none
  | .nilc x => match osR q x with | .p a b => some (.c (.p a b)) | .f g cs => some (.c (.f g cs)) | _ => none
  | .build z ps => match putAllR q z ps with | some l => some (.a l) | none => none
  | .bin op x y => match osR q x, osR q y with
    | .i a, .i b => bin64 op a b
    | .j k a, .j k' b => binJ op k a k' b
    | .s a, .s b => binS op a b
    | .i a, .j k' b => semS (binOp op 0 (.int .i64 a) (.int k' b))
    | .j k a, .i b => semS (binOp op 0 (.int k a) (.int .i64 b))
    | _, _ => none
  | .eqb ng x y => match osR q x, osR q y with | .b a, .b b => bb (xor ng (bif a then b else not b)) | _, _ => none
  | .eql ng x y => match osR q x, osR q y with
    | .l0, .l0 => bb (not ng) | .l0, .l .. => bb ng | .l .., .l0 => bb ng | _, _ => none
  | .eqp ng x y => match osR q x, osR q y with
    | .p0, .p0 => bb (not ng) | .p0, .p .. => bb ng | .p .., .p0 => bb ng | _, _ => none
  | .eqf ng x y => match osR q x, osR q y with
    | .f0, .f0 => bb (not ng) | .f0, .f .. => bb ng | .f .., .f0 => bb ng | _, _ => none
  | .un op x => match osR q x with
    | .b a => match op with | .not => bb (not a) | _ => none
    | .i a => semS (Op.unary op (.int .i64 a))
    | .j k a => semS (Op.unary op (.int k a))
    | _ => none
  | .cv k x => match osR q x with
    | .i a => some (.c (mkI k (k.wrap a)))
    | .j _ a => some (.c (mkI k (k.wrap a)))
    | _ => none
  | .cvs x => match osR q x with
    | .i (.ofNat a) => bif Nat.ble a 127 then some (.c (.s [a])) else none
    | .j _ (.ofNat a) => bif Nat.ble a 127 then some (.c (.s [a])) else none
    | _ => none
  | .mkf g cs => match ptrsR q cs with | some l => some (.c (.f g l)) | none => none
  | .sls x lo hi => match osR q x with
    | .s l => match onDR q 0 lo, onDR q (llen l) hi with
      | some a, some b => bif Nat.ble a b && Nat.ble b (llen l) then some (.c (.s (ltake (ldrop l a) (Nat.sub b a)))) else none
      | _, _ => none
    | _ => none
  | .sll sz x lo hi mx => match osR q x with
    | .l0 => match onDR q 0 lo, onDR q 0 hi, onDR q 0 mx with
      | some 0, some 0, some 0 => some (.c .l0)
      | _, _, _ => none
    | .l bl o n sz' full => bif Nat.beq sz sz' then match mx with
      | none => match onDR q 0 lo, onDR q n hi with
        | some a, some b => bif Nat.ble a b && Nat.ble b n then some (.c (.l bl (Nat.add o (Nat.mul a sz)) (Nat.sub b a) sz (full && Nat.beq b n))) else none
        | _, _ => none
      | some m => match onDR q 0 lo, onDR q n hi, onjR q m with
        | some a, some b, some m => bif Nat.ble a b && Nat.ble b m && Nat.ble m n then some (.c (.l bl (Nat.add o (Nat.mul a sz)) (Nat.sub b a) sz (Nat.beq b m))) else none
        | _, _, _ => none else none
    | _ => none
  | .fad off x => match osR q x with | .p a b => some (.c (.p a (Nat.add b off))) | _ => none
  | .fld off n x => match q x with
    | .a l => match n with
      | none => match lget l off with | some s => some (.c s) | none => none
      | some n => bif Nat.ble (Nat.add off n) (llen l) then some (.a (ltake (ldrop l off) n)) else none
    | _ => none
  | .iad sz x ix => match osR q x with
    | .l bl o n sz' _ => match onjR q ix with
      | some i => bif Nat.beq sz sz' && Nat.ble (Nat.succ i) n then some (.c (.p bl (Nat.add o (Nat.mul i sz)))) else none
      | none => none
    | _ => none
  | .ixs x ix => match osR q x with
    | .s l => match onjR q ix with
      | some i => match lget l i with | some b => some (.c (.j .u8 (.ofNat b))) | none => none
      | none => none
    | _ => none
  | .ext i x => match q x with | .t l => lget l i | _ => none
  | .lns x => match osR q x with
    | .s l => some (.c (.i (.ofNat (llen l))))
    | _ => none
  | .lnl x => match osR q x with
    | .l0 => some (.c (.i 0))
    | .l _ _ n _ _ => some (.c (.i (.ofNat n)))
    | _ => none
  | .cpl x => match osR q x with
    | .l0 => some (.c (.i 0))
    | .l _ _ n _ full => bif full then some (.c (.i (.ofNat n))) else none
    | _ => none
  | .mnx mx x y => match osR q x, osR q y with
    | .i a, .i b => some (.c (.i (bif mx then (bif ile b a then a else b) else (bif ile a b then a else b))))
    | _, _ => none
  | .ibs x y => match osR q x, osR q y with
    | .s l, .j .u8 (.ofNat c) => bif Nat.ble c 255 then some (.c (.i (find c l 0))) else none
    | _, _ => none
noncomputable def avR : A → Option (List S × (Nat → V))
  | .al z => some (z, fun x => .c (.p x 0))
  | .box x => match cellsOf (q x) with | some l => some (l, fun x => .c (.p x 0)) | none => none
  | .bsl sz n z ps => match putAllR q z ps with | some l => some (l, fun x => .c (.l x 0 n sz true)) | none => none
  | .mks sz bytes z n c => match onR q n, onR q c with
    | some n, some c => bif Nat.ble n c && Nat.ble (Nat.mul bytes c) m47 && Nat.ble c m63 then some (lrep z c, fun x => .c (.l x 0 n sz (Nat.beq n c))) else none
    | _, _ => none
end
noncomputable def tailL {α : Type} (l : List α) : List α := List.rec (motive := fun _ => List α) [] (fun _ t _ => t) l
noncomputable def dropN {α : Type} (l : List α) (n : Nat) : List α := Nat.rec (motive := fun _ => List α) l (fun _ ih => tailL ih) n
noncomputable def atK {α : Type} (l : List α) (n : Nat) (k : α → Bool) : Bool := List.rec (motive := fun _ => Bool) false (fun x _ _ => k x) (dropN l n)
noncomputable def revT (l : List S) : Nat → List S → List S :=
  List.rec (motive := fun _ => Nat → List S → List S) (fun _ a => a) (fun x _ ih m a => Bool.rec (ih (Nat.sub m 1) (x :: a)) a (Nat.beq m 0)) l
noncomputable def revA (l : List S) : List S → List S := List.rec (motive := fun _ => List S → List S) (fun a => a) (fun x _ ih a => ih (x :: a)) l
noncomputable def mkB (l : List S) (fam d : Nat) : KB := ⟨revA l [], llen l, fam, d⟩
noncomputable def cellsB (b : KB) (o n : Nat) : Option (List S) :=
  bif Nat.ble (Nat.add o n) b.n then forceT none (Nat.sub b.n (Nat.add o n)) fun m => some (revT (dropN b.r m) n []) else none
noncomputable def getK (s : KS) (x : Nat) : Option KB := (blkL x).g s.h
noncomputable def cellsK (s : KS) (x o n : Nat) : Option (List S) :=
  match getK s x with | some b => cellsB b o n | none => none
noncomputable def ldvK (s : KS) (n : Option Nat) : S → Option V
  | .p x o => match n with
    | none => match cellsK s x o 1 with | some (v :: _) => some (.c v) | _ => none
    | some n => match cellsK s x o n with | some l => some (.a l) | none => none
  | _ => none
noncomputable def rvK (q : O → V) (s : KS) : R → Option V
  | .ld n a => ldvK s n (osR q a)
  | .bts x => match osR q x with
    | .l0 => some (.c (.s []))
    | .l x o n sz _ => bif Nat.beq sz 1 then (match cellsK s x o n with
      | some l => match bytesIn l with | some b => some (.c (.s b)) | none => none
      | none => none) else none
    | _ => none
noncomputable def setK (s : KS) (x : Nat) (b : Option KB) (k : KS → Bool) : Bool :=
  KS.rec (motive := fun _ => Bool) (fun h nb fm nf => (blkL x).m b h fun h => k ⟨h, nb, fm, nf⟩) s
noncomputable def allocK (s : KS) (b : KB) (k : KS → Bool) : Bool :=
  KS.rec (motive := fun _ => Bool) (fun h nb fm nf => (blkL nb).m (some b) h fun h => force (Nat.succ nb) fun nb => k ⟨h, nb, fm, nf⟩) s
noncomputable def killK (x lo hi : Nat) (s : KS) (ms : List (Nat × Nat × Nat)) : (KS → List (Nat × Nat × Nat) → Bool) → Bool :=
  List.rec (motive := fun _ => (KS → List (Nat × Nat × Nat) → Bool) → Bool) (fun k => k s []) (fun m _ ih k => ih fun s l =>
    Bool.rec (Bool.rec (k s (m :: l)) (setK s m.1 none fun s => k s l) (Nat.ble (Nat.succ m.2.1) hi && Nat.ble (Nat.succ lo) (Nat.add m.2.1 m.2.2))) (k s (m :: l)) (Nat.beq m.1 x)) ms
noncomputable def fmK (s : KS) (f : Nat) (ms : Option (List (Nat × Nat × Nat))) : KS := { s with fm := T.upd ms s.fm f }
noncomputable def prepK (s : KS) (b : KB) (x o n : Nat) (k : KS → Bool) : Bool :=
  Nat.rec (motive := fun _ => Bool) (k s) (fun f _ => match s.fm.get f with
    | none => false
    | some ms => killK x (Nat.add b.d o) (Nat.add (Nat.add b.d o) n) s ms fun s l => k (fmK s f (some l))) b.fam
noncomputable def putB (b : KB) (o n : Nat) (l : List S) : KB := ⟨lput b.r (revA l []) (Nat.sub b.n (Nat.add o n)), b.n, b.fam, b.d⟩
noncomputable def storeK (s : KS) (x o n : Nat) (l : List S) (k : KS → Bool) : Bool :=
  match getK s x with
  | none => false
  | some b => bif Nat.beq (llen l) n && Nat.ble (Nat.add o n) b.n then prepK s b x o n fun s =>
      KB.rec (motive := fun _ => Bool) (fun r m fam d => setK s x (some ⟨lput r (revA l []) (Nat.sub m (Nat.add o n)), m, fam, d⟩) k) b else false
noncomputable def newsK (s : KS) (sz : Nat) : S → Option (Nat × List S)
  | .l0 => some (0, [])
  | .l x o n sz' _ => bif Nat.beq sz sz' then (match n with
    | 0 => some (0, [])
    | .succ n => match cellsK s x o (Nat.mul (Nat.succ n) sz) with | some l => some (Nat.succ n, l) | none => none) else none
  | _ => none
noncomputable def famK (s : KS) (bl : Nat) (b : KB) (k : KS → Nat → Nat → List (Nat × Nat × Nat) → Bool) : Bool :=
  match b.fam with
  | 0 => KS.rec (motive := fun _ => Bool) (fun h nb fm nf => (blkL bl).m (some ⟨b.r, b.n, Nat.succ nf, 0⟩) h fun h => force (Nat.succ nf) fun nf' =>
      k ⟨h, nb, T.upd (some [(bl, 0, b.n)]) fm nf, nf'⟩ 0 nf [(bl, 0, b.n)]) s
  | .succ f => match s.fm.get f with
    | none => false
    | some ms => k s b.d f ms
noncomputable def growK (s : KS) (f d lo hi : Nat) (ms : List (Nat × Nat × Nat)) (b : KB) (k : KS → Bool) : Bool :=
  killK s.nb lo hi s ms fun s' l => allocK (fmK s' f (some ((s.nb, d, b.n) :: l))) ⟨b.r, b.n, Nat.succ f, d⟩ k
noncomputable def joinB (b : KB) (o n : Nat) (ns : List S) : Option KB :=
  bif Nat.beq o 0 && Nat.beq n b.n then some ⟨revA ns b.r, Nat.add n (llen ns), 0, 0⟩
  else match cellsB b o n with | some l => some ⟨revA ns (revA l []), Nat.add n (llen ns), 0, 0⟩ | none => none
noncomputable def appK (s : KS) (sz bytes : Nat) (x y : S) (k : V → KS → Bool) : Bool :=
  match newsK s sz y with
  | none => false
  | some (m, ns) =>
    match m with
    | 0 => match x with | .l0 => k (.c x) s | .l _ _ _ _ _ => k (.c x) s | _ => false
    | .succ _ =>
      match x with
      | .l0 => bif Nat.ble (Nat.mul m bytes) m47 && Nat.ble m m63 then allocK s (mkB ns 0 0) (k (.c (.l s.nb 0 m sz false))) else false
      | .l bl o n sz' full =>
        bif Nat.beq sz sz' && (Nat.ble (Nat.mul (Nat.add n m) bytes) m47 && Nat.ble (Nat.add n m) m63) then
          bif full && Nat.beq n 0 then allocK s (mkB ns 0 0) (k (.c (.l s.nb 0 (Nat.add n m) sz false)))
          else match getK s bl with
            | none => false
            | some b => match joinB b o (Nat.mul n sz) ns with
              | none => false
              | some nw =>
                bif full then allocK s nw (k (.c (.l s.nb 0 (Nat.add n m) sz false)))
                else famK s bl b fun s' d f ms =>
                  force (Nat.add (Nat.add d o) (Nat.mul n sz)) fun lo =>
                  growK s' f (Nat.add d o) lo (Nat.add lo (llen ns)) ms nw (k (.c (.l s.nb 0 (Nat.add n m) sz false)))
        else false
      | _ => false
noncomputable def clrK (s : KS) (sz : Nat) (z : List S) (x : S) (k : KS → Bool) : Bool :=
  match x with
  | .l0 => k s
  | .l bl o n sz' _ => bif Nat.beq sz sz' then (bif Nat.beq n 0 then k s else storeK s bl o (Nat.mul n sz) (lrep z n) k) else false
  | _ => false
noncomputable def apzK (s : KS) (sz bytes : Nat) (z : List S) (n : Option Nat) (x : S) (k : V → KS → Bool) : Bool :=
  match x with
  | .l0 => match n with
    | some 0 => k (.c .l0) s
    | some (.succ m) => bif Nat.ble (Nat.mul (Nat.succ m) bytes) m47 && Nat.ble (Nat.succ m) m63 then allocK s (mkB (lrep z (Nat.succ m)) 0 0) (k (.c (.l s.nb 0 (Nat.succ m) sz false))) else false
    | none => false
  | _ => false
abbrev CallK := Nat → List V → KS → (V → KS → Bool) → Bool
abbrev OpF := CallK → EK → KS → (EK → KS → Bool) → Bool
structure OpB where
  f : OpF
noncomputable def look (e : EK) : O → V
  | .t i => (slot i).g e
  | .k v => v
abbrev GtF := EK → V
structure Gt where
  f : GtF
noncomputable def gt : O → Gt
  | .t i => Sl.rec (motive := fun _ => Gt) (fun g _ => ⟨g⟩) (slot i)
  | .k v => ⟨fun _ => v⟩
abbrev PtF := V → EK → (EK → Bool) → Bool
structure Pt where
  f : PtF
noncomputable def pt : Option Nat → Pt
  | none => ⟨fun _ e k => k e⟩
  | some i => Sl.rec (motive := fun _ => Pt) (fun _ m => ⟨m⟩) (slot i)
noncomputable def vk (v : Option V) (k : V → Bool) : Bool := Option.rec (motive := fun _ => Bool) false k v
noncomputable def bk (b : Bool) (k : V → Bool) : Bool := Bool.rec (motive := fun _ => Bool) (k (.c (.b false))) (k (.c (.b true))) b
noncomputable def unC (v : V) (k : S → Bool) : Bool := @V.rec (fun _ => Bool) (fun _ => Bool) false k (fun _ => false) (fun _ _ => false) false (fun _ _ _ _ => false) v
noncomputable def unA (v : V) (k : List S → Bool) : Bool := @V.rec (fun _ => Bool) (fun _ => Bool) false (fun _ => false) k (fun _ _ => false) false (fun _ _ _ _ => false) v
noncomputable def unB (v : V) (k : Bool → Bool) : Bool := unC v fun s => S.rec (motive := fun _ => Bool) false k (fun _ => false) (fun _ _ => false) (fun _ => false) false (fun _ _ => false) false (fun _ _ _ _ _ => false) (fun _ _ => false) false s
noncomputable def unP (v : V) (k : Nat → Nat → Bool) : Bool := unC v fun s => S.rec (motive := fun _ => Bool) false (fun _ => false) (fun _ => false) (fun _ _ => false) (fun _ => false) false k false (fun _ _ _ _ _ => false) (fun _ _ => false) false s
noncomputable def unL (v : V) (k : Nat → Nat → Nat → Nat → Bool → Bool) : Bool := unC v fun s => S.rec (motive := fun _ => Bool) false (fun _ => false) (fun _ => false) (fun _ _ => false) (fun _ => false) false (fun _ _ => false) false k (fun _ _ => false) false s
noncomputable def nat2 (f : Nat → Nat → (V → Bool) → Bool) (slow : Int → Int → (V → Bool) → Bool) (a b : Int) (k : V → Bool) : Bool :=
  Int.rec (motive := fun _ => Bool) (fun m => Int.rec (motive := fun _ => Bool) (fun n => f m n k) (fun n => slow (.ofNat m) (.negSucc n) k) b) (fun m => slow (.negSucc m) b k) a
noncomputable def nAdd (m n : Nat) (k : V → Bool) : Bool := force (Nat.add m n) fun z => Bool.rec (motive := fun _ => Bool) (vk (bin64 .add (.ofNat m) (.ofNat n)) k) (k (.c (.i (.ofNat z)))) (Nat.ble z m63)
noncomputable def nSub (m n : Nat) (k : V → Bool) : Bool := Bool.rec (motive := fun _ => Bool) (vk (bin64 .sub (.ofNat m) (.ofNat n)) k) (force (Nat.sub m n) fun z => k (.c (.i (.ofNat z)))) (Nat.ble n m && Nat.ble m m63)
abbrev BFF := Int → Int → (V → Bool) → Bool
structure BF where
  f : BFF
noncomputable def bf (op : BinOp) : BF :=
  match op with
  | .add => ⟨nat2 nAdd fun a b k => vk (bin64 .add a b) k⟩
  | .sub => ⟨nat2 nSub fun a b k => vk (bin64 .sub a b) k⟩
  | .eql => ⟨nat2 (fun m n k => bk (Nat.beq m n) k) fun a b k => vk (bin64 .eql a b) k⟩
  | .neq => ⟨nat2 (fun m n k => bk (not (Nat.beq m n)) k) fun a b k => vk (bin64 .neq a b) k⟩
  | .lss => ⟨nat2 (fun m n k => bk (Nat.ble (Nat.succ m) n) k) fun a b k => vk (bin64 .lss a b) k⟩
  | .leq => ⟨nat2 (fun m n k => bk (Nat.ble m n) k) fun a b k => vk (bin64 .leq a b) k⟩
  | .gtr => ⟨nat2 (fun m n k => bk (Nat.ble (Nat.succ n) m) k) fun a b k => vk (bin64 .gtr a b) k⟩
  | .geq => ⟨nat2 (fun m n k => bk (Nat.ble n m) k) fun a b k => vk (bin64 .geq a b) k⟩
  | op => ⟨fun a b k => vk (bin64 op a b) k⟩
noncomputable def binV (op : BinOp) (a b : S) : Option V :=
  match a, b with
  | .i a, .i b => bin64 op a b
  | .j k a, .j k' b => binJ op k a k' b
  | .s a, .s b => binS op a b
  | .i a, .j k' b => semS (binOp op 0 (.int .i64 a) (.int k' b))
  | .j k a, .i b => semS (binOp op 0 (.int k a) (.int .i64 b))
  | _, _ => none
noncomputable def with1 (x : Gt) (d : Pt) (f : GtF → PtF → OpF) : OpB := Gt.rec (motive := fun _ => OpB) (fun g => Pt.rec (motive := fun _ => OpB) (fun p => ⟨f g p⟩) d) x
noncomputable def with2 (x y : Gt) (d : Pt) (f : GtF → GtF → PtF → OpF) : OpB := Gt.rec (motive := fun _ => OpB) (fun g => with1 y d (f g)) x
noncomputable def with3 (x y z : Gt) (d : Pt) (f : GtF → GtF → GtF → PtF → OpF) : OpB := Gt.rec (motive := fun _ => OpB) (fun g => with2 y z d (f g)) x
noncomputable def with0 (d : Pt) (f : PtF → OpF) : OpB := Pt.rec (motive := fun _ => OpB) (fun p => ⟨f p⟩) d
noncomputable def fMv (x : GtF) (d : PtF) : OpF := fun _ e s k => d (x e) e fun e => k e s
noncomputable def fW (w : W) (d : PtF) : OpF := fun _ e s k => vk (wvR (look e) w) fun v => d v e fun e => k e s
noncomputable def fBin (op : BinOp) (f : BFF) (x y : GtF) (d : PtF) : OpF := fun _ e s k =>
  unC (x e) fun a => unC (y e) fun b =>
    S.rec (motive := fun _ => Bool) false (fun _ => false)
      (fun m => S.rec (motive := fun _ => Bool) false (fun _ => false) (fun n => f m n fun v => d v e fun e => k e s)
        (fun j n => vk (binV op (.i m) (.j j n)) fun v => d v e fun e => k e s) (fun _ => false) false (fun _ _ => false) false (fun _ _ _ _ _ => false) (fun _ _ => false) false b)
      (fun j m => vk (binV op (.j j m) b) fun v => d v e fun e => k e s)
      (fun l => vk (binV op (.s l) b) fun v => d v e fun e => k e s)
      false (fun _ _ => false) false (fun _ _ _ _ _ => false) (fun _ _ => false) false a
noncomputable def fFad (off : Nat) (x : GtF) (d : PtF) : OpF := fun _ e s k => unP (x e) fun a b => force (Nat.add b off) fun c => d (.c (.p a c)) e fun e => k e s
noncomputable def cellAt (l : List S) : Nat → (S → Bool) → Bool :=
  List.rec (motive := fun _ => Nat → (S → Bool) → Bool) (fun _ _ => false) (fun x _ ih n k => Bool.rec (motive := fun _ => Bool) (ih (Nat.sub n 1) k) (k x) (Nat.beq n 0)) l
noncomputable def fFld (off : Nat) (x : GtF) (d : PtF) : OpF := fun _ e s k => unA (x e) fun l => cellAt l off fun v => d (.c v) e fun e => k e s
noncomputable def natI (i : Int) (k : Nat → Bool) : Bool := Int.rec (motive := fun _ => Bool) k (fun _ => false) i
noncomputable def unN (v : V) (k : Nat → Bool) : Bool := unC v fun s => S.rec (motive := fun _ => Bool) false (fun _ => false) (fun i => natI i k) (fun _ i => natI i k) (fun _ => false) false (fun _ _ => false) false (fun _ _ _ _ _ => false) (fun _ _ => false) false s
noncomputable def fIad (sz : Nat) (x y : GtF) (d : PtF) : OpF := fun _ e s k => unL (x e) fun bl o n sz' _ => unN (y e) fun i =>
  Bool.rec (motive := fun _ => Bool) false (force (Nat.add o (Nat.mul i sz)) fun c => d (.c (.p bl c)) e fun e => k e s) (Nat.beq sz sz' && Nat.ble (Nat.succ i) n)
noncomputable def fLnl (w : W) (x : GtF) (d : PtF) : OpF := fun _ e s k => unC (x e) fun a =>
  S.rec (motive := fun _ => Bool) false (fun _ => false) (fun _ => false) (fun _ _ => false) (fun _ => false) false (fun _ _ => false) (d (.c (.i 0)) e fun e => k e s) (fun _ _ n _ _ => d (.c (.i (.ofNat n))) e fun e => k e s) (fun _ _ => false) false a
noncomputable def fPick (c x y : GtF) (d : PtF) : OpF := fun _ e s k => unB (c e) fun b => Bool.rec (motive := fun _ => Bool) (d (y e) e fun e => k e s) (d (x e) e fun e => k e s) b
noncomputable def unS (v : V) (k : List Nat → Bool) : Bool := unC v fun s => S.rec (motive := fun _ => Bool) false (fun _ => false) (fun _ => false) (fun _ _ => false) k false (fun _ _ => false) false (fun _ _ _ _ _ => false) (fun _ _ => false) false s
noncomputable def fIxs (x y : GtF) (d : PtF) : OpF := fun _ e s k => unS (x e) fun l => unN (y e) fun i => atK l i fun b => d (.c (.j .u8 (.ofNat b))) e fun e => k e s
noncomputable def fLns (x : GtF) (d : PtF) : OpF := fun _ e s k => unS (x e) fun l => force (llen l) fun n => d (.c (.i (.ofNat n))) e fun e => k e s
noncomputable def fSls (x : GtF) (lo hi : Option O) (d : PtF) : OpF := fun _ e s k => unS (x e) fun l =>
  match onDR (look e) 0 lo, onDR (look e) (llen l) hi with
  | some a, some b => force a fun a => force b fun b => Bool.rec (motive := fun _ => Bool) false (d (.c (.s (ltake (dropN l a) (Nat.sub b a)))) e fun e => k e s) (Nat.ble a b && Nat.ble b (llen l))
  | _, _ => false
noncomputable def opW (w : W) (d : Pt) : OpB :=
  match w with
  | .mv x => with1 (gt x) d fMv
  | .bin op x y => BF.rec (motive := fun _ => OpB) (fun f => with2 (gt x) (gt y) d (fBin op f)) (bf op)
  | .fad off x => with1 (gt x) d (fFad off)
  | .fld off none x => with1 (gt x) d (fFld off)
  | .iad sz x y => with2 (gt x) (gt y) d (fIad sz)
  | .lnl x => with1 (gt x) d (fLnl (.lnl x))
  | .pick c x y => with3 (gt c) (gt x) (gt y) d fPick
  | .ixs x y => with2 (gt x) (gt y) d fIxs
  | .lns x => with1 (gt x) d fLns
  | .sls x lo hi => with1 (gt x) d fun x d => fSls x lo hi d
  | w => with0 d (fW w)
noncomputable def fLd1 (x : GtF) (d : PtF) : OpF := fun _ e s k =>
  unP (x e) fun a o => Option.rec (motive := fun _ => Bool) false (fun b => KB.rec (motive := fun _ => Bool) (fun r n _ _ =>
    Bool.rec (motive := fun _ => Bool) false (force (Nat.sub n (Nat.succ o)) fun m => atK r m fun v => d (.c v) e fun e => k e s) (Nat.ble (Nat.succ o) n)) b) ((blkL a).g s.h)
noncomputable def fR (r : R) (d : PtF) : OpF := fun _ e s k => vk (rvK (look e) s r) fun v => d v e fun e => k e s
noncomputable def opR (r : R) (d : Pt) : OpB :=
  match r with
  | .ld none x => with1 (gt x) d fLd1
  | r => with0 d (fR r)
noncomputable def fAl (r : List S) (n : Nat) (d : PtF) : OpF := fun _ e s k => KS.rec (motive := fun _ => Bool) (fun h nb fm nf =>
  (blkL nb).m (some ⟨r, n, 0, 0⟩) h fun h => d (.c (.p nb 0)) e fun e => force (Nat.succ nb) fun nb => k e ⟨h, nb, fm, nf⟩) s
noncomputable def fBox (a : A) (x : GtF) (d : PtF) : OpF := fun call e s k =>
  @V.rec (fun _ => Bool) (fun _ => Bool) false (fun c => fAl [c] 1 d call e s k) (fun l => force (llen l) fun n => fAl (revA l []) n d call e s k) (fun _ _ => false) false (fun _ _ _ _ => false) (x e)
noncomputable def fA (a : A) (d : PtF) : OpF := fun _ e s k =>
  match avR (look e) a with
  | none => false
  | some (l, f) => d (f s.nb) e fun e => allocK s (mkB l 0 0) (k e)
noncomputable def opA (a : A) (d : Pt) : OpB :=
  match a with
  | .al z => forceT ⟨fun _ _ _ _ => false⟩ (llen z) fun n => with0 d (fAl (revA z []) n)
  | .box x => with1 (gt x) d (fBox (.box x))
  | a => with0 d (fA a)
noncomputable def fSt1 (a v : GtF) (d : PtF) : OpF := fun _ e s k => unP (a e) fun x o => unC (v e) fun c =>
  Option.rec (motive := fun _ => Bool) false (fun b => bif Nat.ble (Nat.succ o) b.n then prepK s b x o 1 fun s =>
    KB.rec (motive := fun _ => Bool) (fun r m fam d' => setK s x (some ⟨lset r c (Nat.sub m (Nat.succ o)), m, fam, d'⟩) fun s => d .o e fun e => k e s) b else false) ((blkL x).g s.h)
noncomputable def fSt (n : Nat) (a v : O) (d : PtF) : OpF := fun _ e s k =>
  match osR (look e) a, cellsOf (look e v) with
  | .p x o, some l => storeK s x o n l fun s => d .o e fun e => k e s
  | _, _ => false
noncomputable def fStV (n : Nat) (a v : O) (ga gv : GtF) (d : PtF) : OpF := fun call e s k =>
  @V.rec (fun _ => Bool) (fun _ => Bool) false (fun _ => fSt1 ga gv d call e s k) (fun _ => fSt n a v d call e s k) (fun _ _ => false) false (fun _ _ _ _ => false) (gv e)
noncomputable def fApp (sz bytes : Nat) (x y : GtF) (d : PtF) : OpF := fun _ e s k => unC (x e) fun a => unC (y e) fun b => appK s sz bytes a b fun v s => d v e fun e => k e s
structure Gts where
  l : List GtF
noncomputable def gts (xs : List O) : Gts := List.rec (motive := fun _ => Gts) ⟨[]⟩ (fun x _ ih => Gt.rec (motive := fun _ => Gts) (fun g => Gts.rec (motive := fun _ => Gts) (fun l => ⟨g :: l⟩) ih) (gt x)) xs
noncomputable def argsK (e : EK) (xs : List GtF) : List V := List.rec [] (fun g _ ih => g e :: ih) xs
noncomputable def withs (xs : Gts) (d : Pt) (f : List GtF → PtF → OpF) : OpB := Gts.rec (motive := fun _ => OpB) (fun l => with0 d (f l)) xs
noncomputable def fCall (g : Nat) (xs : List GtF) (d : PtF) : OpF := fun call e s k => call g (argsK e xs) s fun v s => d v e fun e => k e s
noncomputable def fCal (x : O) (xs : List GtF) (d : PtF) : OpF := fun call e s k =>
  match osR (look e) x with
  | .f g cs => call g (lapp (argsK e xs) (cs.map fun c => V.c (.p c.1 c.2))) s fun v s => d v e fun e => k e s
  | _ => false
noncomputable def fClr (sz : Nat) (z : List S) (x : O) (d : PtF) : OpF := fun _ e s k => clrK s sz z (osR (look e) x) fun s => d .o e fun e => k e s
noncomputable def fApz (sz bytes : Nat) (z : List S) (x n : O) (d : PtF) : OpF := fun _ e s k => apzK s sz bytes z (onR (look e) n) (osR (look e) x) fun v s => d v e fun e => k e s
noncomputable def opM (m : M) (d : Pt) : OpB :=
  match m with
  | .st n a v => bif Nat.beq n 1 then with2 (gt a) (gt v) d (fStV n a v) else with0 d (fSt n a v)
  | .app sz bytes x y => with2 (gt x) (gt y) d (fApp sz bytes)
  | .call g xs => withs (gts xs) d (fCall g)
  | .cal x xs => withs (gts xs) d (fCal x)
  | .clr sz z x => with0 d (fClr sz z x)
  | .apz sz bytes z x n => with0 d (fApz sz bytes z x n)
noncomputable def opMO (o : MO) (d : Pt) : OpB :=
  match o with
  | .w o => opW o d
  | .r o => opR o d
  | .a o => opA o d
  | .m o => opM o d
noncomputable def fG (want : Bool) (f : OpF) (t : GtF) (d : PtF) : OpF := fun call e s k =>
  match t e with
  | .c (.b x) => bif (bif x then want else not want) then f call e s k else d (.t []) e fun e => k e s
  | .t [] => d (.t []) e fun e => k e s
  | _ => false
noncomputable def opG (dst : Option Nat) (g : Option (Nat × Bool)) (o : MO) : OpB :=
  match g with
  | none => opMO o (pt dst)
  | some (t, want) => OpB.rec (motive := fun _ => OpB) (fun f => with1 (gt (.t t)) (pt dst) (fG want f)) (opMO o (pt dst))
noncomputable def chkRK (e : EK) (s : KS) (l : List (Nat × R)) : Bool :=
  List.rec true (fun p _ ih => match look e (.t p.1) with
    | .t [] => ih
    | v => match rvK (look e) s p.2 with | some u => vEq v u && ih | none => false) l
noncomputable def chkAK (e : EK) (s : KS) (l : List (Nat × A)) : Bool :=
  List.rec true (fun p _ ih => match look e (.t p.1) with
    | .t [] => ih
    | v => match avR (look e) p.2, blkOf v with
      | some (l, _), some x => match getK s x with
        | some b => lEq (revA b.r []) l && Nat.beq b.fam 0 && Nat.beq b.d 0 && ih
        | none => false
      | _, _ => false) l
noncomputable def f2 (n₁ : Nat) (a₁ v₁ : O) (n₂ : Nat) (a₂ v₂ : O) : OpF := fun _ e s k =>
  match osR (look e) a₁, cellsOf (look e v₁), osR (look e) a₂, cellsOf (look e v₂) with
  | .p x₁ o₁, some l₁, .p x₂ o₂, some l₂ =>
    bif ((not (Nat.beq x₁ x₂)) || Nat.ble (Nat.add o₁ n₁) o₂ || Nat.ble (Nat.add o₂ n₂) o₁) && Nat.beq (llen l₁) n₁ && Nat.beq (llen l₂) n₂ then
      match getK s x₁ with
      | none => false
      | some b₁ => bif Nat.ble (Nat.add o₁ n₁) b₁.n then prepK s b₁ x₁ o₁ n₁ fun s => match getK s x₂ with
        | none => false
        | some b₂ => bif Nat.ble (Nat.add o₂ n₂) b₂.n then prepK s b₂ x₂ o₂ n₂ fun s => match getK s x₁ with
          | none => false
          | some b₁ => bif Nat.ble (Nat.add o₁ n₁) b₁.n then setK s x₁ (some (putB b₁ o₁ n₁ l₁)) fun s => match getK s x₂ with
            | none => false
            | some b₂ => bif Nat.ble (Nat.add o₂ n₂) b₂.n then setK s x₂ (some (putB b₂ o₂ n₂ l₂)) fun s => k e s else false
          else false
        else false
      else false
    else false
  | _, _, _, _ => false
noncomputable def fMk (rs : List (Nat × R)) (as_ : List (Nat × A)) (f : OpF) : OpF := fun call e s k => f call e s fun e s => bif chkRK e s rs && chkAK e s as_ then k e s else false
noncomputable def stpB : Stp → OpB
  | .ev dst g o => opG dst g o
  | .mk dst g o rs as_ => OpB.rec (motive := fun _ => OpB) (fun f => ⟨fMk rs as_ f⟩) (opG dst g (.m o))
  | .e2 n₁ a₁ v₁ n₂ a₂ v₂ => ⟨f2 n₁ a₁ v₁ n₂ a₂ v₂⟩
abbrev CdF := CallK → EK → KS → (EK → KS → Bool) → (Nat → EK → KS → Bool) → (EK → KS → Bool) → Bool
structure CdB where
  f : CdF
noncomputable def fSeq (f g : OpF) : OpF := fun call e s k => f call e s fun e s => g call e s k
noncomputable def regB (l : List Stp) : OpB := List.rec (motive := fun _ => OpB) ⟨fun _ e s k => k e s⟩
  (fun x t ih => List.rec (motive := fun _ => OpB) (stpB x) (fun _ _ _ => OpB.rec (motive := fun _ => OpB) (fun f => OpB.rec (motive := fun _ => OpB) (fun g => ⟨fSeq f g⟩) ih) (stpB x)) t) l
noncomputable def kReg (f : OpF) : CdF := fun call e s kn _ _ => f call e s kn
noncomputable def kSeq (f g : CdF) : CdF := fun call e s kn kx kr => f call e s (fun e s => g call e s kn kx kr) kx kr
noncomputable def kCond (c : GtF) (f g : CdF) : CdF := fun call e s kn kx kr => unB (c e) fun x => Bool.rec (motive := fun _ => Bool) (g call e s kn kx kr) (f call e s kn kx kr) x
noncomputable def kBlk (id : Nat) (f : CdF) : CdF := fun call e s kn kx kr => f call e s kn (fun i e s => Bool.rec (motive := fun _ => Bool) (kx i e s) (kn e s) (Nat.beq i id)) kr
noncomputable def kLoop (N : Nat) (f : CdF) : CdF := fun call e s kn kx kr =>
  Nat.rec (motive := fun _ => EK → KS → Bool) (fun _ _ => false) (fun _ ih e s => f call e s ih kx kr) N e s
noncomputable def seqB (a b : CdB) : CdB := CdB.rec (motive := fun _ => CdB) (fun f => CdB.rec (motive := fun _ => CdB) (fun g => ⟨kSeq f g⟩) b) a
noncomputable def condB (c : Gt) (a b : CdB) : CdB := Gt.rec (motive := fun _ => CdB) (fun c => CdB.rec (motive := fun _ => CdB) (fun f => CdB.rec (motive := fun _ => CdB) (fun g => ⟨kCond c f g⟩) b) a) c
noncomputable def blkB (id : Nat) (a : CdB) : CdB := CdB.rec (motive := fun _ => CdB) (fun f => ⟨kBlk id f⟩) a
noncomputable def loopB (N : Nat) (a : CdB) : CdB := CdB.rec (motive := fun _ => CdB) (fun f => ⟨kLoop N f⟩) a
noncomputable def cdB (N : Nat) (m : MC) : CdB :=
  MC.rec (motive := fun _ => CdB) ⟨fun _ e s kn _ _ => kn e s⟩ (fun l => OpB.rec (motive := fun _ => CdB) (fun f => ⟨kReg f⟩) (regB l)) (fun _ _ a b => seqB a b) (fun c _ _ a b => condB (gt c) a b) (fun id _ m => blkB id m) (fun _ m => loopB N m)
    (fun id => ⟨fun _ e s _ kx _ => kx id e s⟩) ⟨fun _ e s _ _ kr => kr e s⟩ m
noncomputable def resvK (e : EK) (s : KS) : MRes → Option V
  | .t i => match look e (.t i) with | .t _ => none | v => some v
  | .c n i => ldvK s n (osR (look e) (.t i))
noncomputable def resLK (e : EK) (s : KS) (l : List MRes) : Option (List V) :=
  List.rec (some []) (fun x _ ih => match resvK e s x, ih with | some v, some l => some (v :: l) | _, _ => none) l
noncomputable def resK (l : List MRes) (e : EK) (s : KS) (k : V → KS → Bool) : Bool :=
  match resLK e s l with
  | some [v] => k v s
  | some l => k (.t l) s
  | none => false
abbrev ResF := EK → KS → (V → KS → Bool) → Bool
structure ResB where
  f : ResF
noncomputable def res1 (g : GtF) : ResF := fun e s k => @V.rec (fun _ => Bool) (fun _ => Bool) (k (g e) s) (fun _ => k (g e) s) (fun _ => k (g e) s) (fun _ _ => false) false (fun _ _ _ _ => false) (g e)
noncomputable def resB (l : List MRes) : ResB :=
  match l with
  | [.t i] => Gt.rec (motive := fun _ => ResB) (fun g => ⟨res1 g⟩) (gt (.t i))
  | l => ⟨resK l⟩
noncomputable def initK (vs : List V) : Nat → (EK → Bool) → Bool :=
  List.rec (motive := fun _ => Nat → (EK → Bool) → Bool) (fun _ k => k EK.zero) (fun v _ ih i k => ih (Nat.succ i) fun e => (pt (some i)).f v e k) vs
structure FnB where
  f : CallK → List V → KS → (V → KS → Bool) → Bool
noncomputable def fFn (f : CdF) (r : ResF) : CallK → List V → KS → (V → KS → Bool) → Bool := fun call vs s k =>
  initK vs 0 fun e => f call e s (fun e s => r e s k) (fun _ _ _ => false) (fun e s => r e s k)
noncomputable def fnB (tbl : T MFn) (N : Nat) (ext : CallK) (g : Nat) : FnB :=
  match tbl.get g with
  | none => ⟨fun _ vs s k => ext g vs s k⟩
  | some f => CdB.rec (motive := fun _ => FnB) (fun c => ResB.rec (motive := fun _ => FnB) (fun r => ⟨fFn c r⟩) (resB f.res)) (cdB N f.body)
noncomputable def fnK (tbl : T MFn) (N : Nat) (ext : CallK) (d : Nat) : CallK :=
  Nat.rec (motive := fun _ => CallK) (fun _ _ _ _ => false) (fun _ ih g vs s k => (fnB tbl N ext g).f ih vs s k) d
end Go.Ev
