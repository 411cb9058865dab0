/- Parts of the proof of FnDepthsHold, FnEnds, FnMeant, FnMovedWhenever, FnSizes. -/
import Derived.Test.YtfmebaafpfkeiaaGreatY00
import Derived.Laws.AppendOwn
import Derived.Laws.CopyRow
import Derived.Laws.Cells
set_option linter.unusedVariables false
set_option linter.unusedSimpArgs false
set_option maxRecDepth 1000000
set_option maxHeartbeats 16000000
namespace Go.Ev
open Go
structure N8 (α:Type) where
 a0:α
 a1:α
 a2:α
 a3:α
 a4:α
 a5:α
 a6:α
 a7:α
def N8.all {α:Type}(x:α):N8 α:=⟨x,x,x,x,x,x,x,x⟩
structure Ln (α β:Type) where
 g:α→β
 u:α→β→α
noncomputable def N8.u0 {α:Type}(n:N8 α) (b:α):N8 α:=N8.rec (motive:=fun _=>N8 α) (fun a0 a1 a2 a3 a4 a5 a6 a7=>⟨b,a1,a2,a3,a4,a5,a6,a7⟩) n
noncomputable def N8.l0 {α:Type}:Ln (N8 α) α:=⟨N8.a0,N8.u0⟩
noncomputable def N8.u1 {α:Type}(n:N8 α) (b:α):N8 α:=N8.rec (motive:=fun _=>N8 α) (fun a0 a1 a2 a3 a4 a5 a6 a7=>⟨a0,b,a2,a3,a4,a5,a6,a7⟩) n
noncomputable def N8.l1 {α:Type}:Ln (N8 α) α:=⟨N8.a1,N8.u1⟩
noncomputable def N8.u2 {α:Type}(n:N8 α) (b:α):N8 α:=N8.rec (motive:=fun _=>N8 α) (fun a0 a1 a2 a3 a4 a5 a6 a7=>⟨a0,a1,b,a3,a4,a5,a6,a7⟩) n
noncomputable def N8.l2 {α:Type}:Ln (N8 α) α:=⟨N8.a2,N8.u2⟩
noncomputable def N8.u3 {α:Type}(n:N8 α) (b:α):N8 α:=N8.rec (motive:=fun _=>N8 α) (fun a0 a1 a2 a3 a4 a5 a6 a7=>⟨a0,a1,a2,b,a4,a5,a6,a7⟩) n
noncomputable def N8.l3 {α:Type}:Ln (N8 α) α:=⟨N8.a3,N8.u3⟩
noncomputable def N8.u4 {α:Type}(n:N8 α) (b:α):N8 α:=N8.rec (motive:=fun _=>N8 α) (fun a0 a1 a2 a3 a4 a5 a6 a7=>⟨a0,a1,a2,a3,b,a5,a6,a7⟩) n
noncomputable def N8.l4 {α:Type}:Ln (N8 α) α:=⟨N8.a4,N8.u4⟩
noncomputable def N8.u5 {α:Type}(n:N8 α) (b:α):N8 α:=N8.rec (motive:=fun _=>N8 α) (fun a0 a1 a2 a3 a4 a5 a6 a7=>⟨a0,a1,a2,a3,a4,b,a6,a7⟩) n
noncomputable def N8.l5 {α:Type}:Ln (N8 α) α:=⟨N8.a5,N8.u5⟩
noncomputable def N8.u6 {α:Type}(n:N8 α) (b:α):N8 α:=N8.rec (motive:=fun _=>N8 α) (fun a0 a1 a2 a3 a4 a5 a6 a7=>⟨a0,a1,a2,a3,a4,a5,b,a7⟩) n
noncomputable def N8.l6 {α:Type}:Ln (N8 α) α:=⟨N8.a6,N8.u6⟩
noncomputable def N8.u7 {α:Type}(n:N8 α) (b:α):N8 α:=N8.rec (motive:=fun _=>N8 α) (fun a0 a1 a2 a3 a4 a5 a6 a7=>⟨a0,a1,a2,a3,a4,a5,a6,b⟩) n
noncomputable def N8.l7 {α:Type}:Ln (N8 α) α:=⟨N8.a7,N8.u7⟩
noncomputable def sel (α:Type) (d:Nat):Ln (N8 α) α:=
 bif Nat.ble d 3 then(bif Nat.ble d 1 then(bif Nat.ble d 0 then N8.l0 else N8.l1)else(bif Nat.ble d 2 then N8.l2 else N8.l3))
 else(bif Nat.ble d 5 then(bif Nat.ble d 4 then N8.l4 else N8.l5)else(bif Nat.ble d 6 then N8.l6 else N8.l7))
noncomputable def Ln.comp {α β γ:Type}(a:Ln α β) (b:Ln β γ):Ln α γ:=
 Ln.rec (motive:=fun _=>Ln α γ) (fun g1 u1=>Ln.rec (motive:=fun _=>Ln α γ) (fun g2 u2=>⟨fun x=>g2 (g1 x),fun x z=>u1 x (u2 (g1 x) z)⟩) b) a
def Ln.id (α:Type):Ln α α:=⟨fun x=>x,fun _ b=>b⟩
def Tw (α:Type) (n:Nat):Type:=Nat.rec (motive:=fun _=>Type) α (fun _ t=>N8 t) n
noncomputable def AA (α:Type) (n:Nat):Nat→Ln (Tw α n) α:=
 Nat.rec (motive:=fun n=>Nat→Ln (Tw α n) α) (fun _=>Ln.id α) (fun n ih x=>Ln.comp (sel (Tw α n) (Nat.mod x 8)) (ih (Nat.div x 8))) n
noncomputable def Tw.all {α:Type}(x:α) (n:Nat):Tw α n:=Nat.rec (motive:=fun n=>Tw α n) x (fun _ ih=>N8.all ih) n
noncomputable def Iz {α:Type}(d:α) (n:Nat) (k:Nat→α):α:=Nat.rec (motive:=fun _=>α) d (fun m _=>k m) (Nat.succ n)
structure EK where
 f0:N8 V
 f1:N8 V
 f2:N8 V
 f3:N8 V
 hi:Tw V 3
noncomputable def EK.zero:EK:=⟨N8.all .o,N8.all .o,N8.all .o,N8.all .o,Tw.all .o 3⟩
structure Sl where
 g:EK→V
 m:V→EK→(EK→Bool)→Bool
noncomputable def EK.g0 (e:EK):V:=(e.f0).a0
noncomputable def EK.p0 (v:V) (e:EK) (k:EK→Bool):Bool:=EK.rec (motive:=fun _=>Bool) (fun f0 f1 f2 f3 hi=>N8.rec (motive:=fun _=>Bool) (fun a0 a1 a2 a3 a4 a5 a6 a7=>k ⟨⟨v,a1,a2,a3,a4,a5,a6,a7⟩,f1,f2,f3,hi⟩) f0) e
noncomputable def EK.g1 (e:EK):V:=(e.f0).a1
noncomputable def EK.p1 (v:V) (e:EK) (k:EK→Bool):Bool:=EK.rec (motive:=fun _=>Bool) (fun f0 f1 f2 f3 hi=>N8.rec (motive:=fun _=>Bool) (fun a0 a1 a2 a3 a4 a5 a6 a7=>k ⟨⟨a0,v,a2,a3,a4,a5,a6,a7⟩,f1,f2,f3,hi⟩) f0) e
noncomputable def EK.g2 (e:EK):V:=(e.f0).a2
noncomputable def EK.p2 (v:V) (e:EK) (k:EK→Bool):Bool:=EK.rec (motive:=fun _=>Bool) (fun f0 f1 f2 f3 hi=>N8.rec (motive:=fun _=>Bool) (fun a0 a1 a2 a3 a4 a5 a6 a7=>k ⟨⟨a0,a1,v,a3,a4,a5,a6,a7⟩,f1,f2,f3,hi⟩) f0) e
noncomputable def EK.g3 (e:EK):V:=(e.f0).a3
noncomputable def EK.p3 (v:V) (e:EK) (k:EK→Bool):Bool:=EK.rec (motive:=fun _=>Bool) (fun f0 f1 f2 f3 hi=>N8.rec (motive:=fun _=>Bool) (fun a0 a1 a2 a3 a4 a5 a6 a7=>k ⟨⟨a0,a1,a2,v,a4,a5,a6,a7⟩,f1,f2,f3,hi⟩) f0) e
noncomputable def EK.g4 (e:EK):V:=(e.f0).a4
noncomputable def EK.p4 (v:V) (e:EK) (k:EK→Bool):Bool:=EK.rec (motive:=fun _=>Bool) (fun f0 f1 f2 f3 hi=>N8.rec (motive:=fun _=>Bool) (fun a0 a1 a2 a3 a4 a5 a6 a7=>k ⟨⟨a0,a1,a2,a3,v,a5,a6,a7⟩,f1,f2,f3,hi⟩) f0) e
noncomputable def EK.g5 (e:EK):V:=(e.f0).a5
noncomputable def EK.p5 (v:V) (e:EK) (k:EK→Bool):Bool:=EK.rec (motive:=fun _=>Bool) (fun f0 f1 f2 f3 hi=>N8.rec (motive:=fun _=>Bool) (fun a0 a1 a2 a3 a4 a5 a6 a7=>k ⟨⟨a0,a1,a2,a3,a4,v,a6,a7⟩,f1,f2,f3,hi⟩) f0) e
noncomputable def EK.g6 (e:EK):V:=(e.f0).a6
noncomputable def EK.p6 (v:V) (e:EK) (k:EK→Bool):Bool:=EK.rec (motive:=fun _=>Bool) (fun f0 f1 f2 f3 hi=>N8.rec (motive:=fun _=>Bool) (fun a0 a1 a2 a3 a4 a5 a6 a7=>k ⟨⟨a0,a1,a2,a3,a4,a5,v,a7⟩,f1,f2,f3,hi⟩) f0) e
noncomputable def EK.g7 (e:EK):V:=(e.f0).a7
noncomputable def EK.p7 (v:V) (e:EK) (k:EK→Bool):Bool:=EK.rec (motive:=fun _=>Bool) (fun f0 f1 f2 f3 hi=>N8.rec (motive:=fun _=>Bool) (fun a0 a1 a2 a3 a4 a5 a6 a7=>k ⟨⟨a0,a1,a2,a3,a4,a5,a6,v⟩,f1,f2,f3,hi⟩) f0) e
noncomputable def EK.g8 (e:EK):V:=(e.f1).a0
noncomputable def EK.p8 (v:V) (e:EK) (k:EK→Bool):Bool:=EK.rec (motive:=fun _=>Bool) (fun f0 f1 f2 f3 hi=>N8.rec (motive:=fun _=>Bool) (fun a0 a1 a2 a3 a4 a5 a6 a7=>k ⟨f0,⟨v,a1,a2,a3,a4,a5,a6,a7⟩,f2,f3,hi⟩) f1) e
noncomputable def EK.g9 (e:EK):V:=(e.f1).a1
noncomputable def EK.p9 (v:V) (e:EK) (k:EK→Bool):Bool:=EK.rec (motive:=fun _=>Bool) (fun f0 f1 f2 f3 hi=>N8.rec (motive:=fun _=>Bool) (fun a0 a1 a2 a3 a4 a5 a6 a7=>k ⟨f0,⟨a0,v,a2,a3,a4,a5,a6,a7⟩,f2,f3,hi⟩) f1) e
noncomputable def EK.g10 (e:EK):V:=(e.f1).a2
noncomputable def EK.p10 (v:V) (e:EK) (k:EK→Bool):Bool:=EK.rec (motive:=fun _=>Bool) (fun f0 f1 f2 f3 hi=>N8.rec (motive:=fun _=>Bool) (fun a0 a1 a2 a3 a4 a5 a6 a7=>k ⟨f0,⟨a0,a1,v,a3,a4,a5,a6,a7⟩,f2,f3,hi⟩) f1) e
noncomputable def EK.g11 (e:EK):V:=(e.f1).a3
noncomputable def EK.p11 (v:V) (e:EK) (k:EK→Bool):Bool:=EK.rec (motive:=fun _=>Bool) (fun f0 f1 f2 f3 hi=>N8.rec (motive:=fun _=>Bool) (fun a0 a1 a2 a3 a4 a5 a6 a7=>k ⟨f0,⟨a0,a1,a2,v,a4,a5,a6,a7⟩,f2,f3,hi⟩) f1) e
noncomputable def EK.g12 (e:EK):V:=(e.f1).a4
noncomputable def EK.p12 (v:V) (e:EK) (k:EK→Bool):Bool:=EK.rec (motive:=fun _=>Bool) (fun f0 f1 f2 f3 hi=>N8.rec (motive:=fun _=>Bool) (fun a0 a1 a2 a3 a4 a5 a6 a7=>k ⟨f0,⟨a0,a1,a2,a3,v,a5,a6,a7⟩,f2,f3,hi⟩) f1) e
noncomputable def EK.g13 (e:EK):V:=(e.f1).a5
noncomputable def EK.p13 (v:V) (e:EK) (k:EK→Bool):Bool:=EK.rec (motive:=fun _=>Bool) (fun f0 f1 f2 f3 hi=>N8.rec (motive:=fun _=>Bool) (fun a0 a1 a2 a3 a4 a5 a6 a7=>k ⟨f0,⟨a0,a1,a2,a3,a4,v,a6,a7⟩,f2,f3,hi⟩) f1) e
noncomputable def EK.g14 (e:EK):V:=(e.f1).a6
noncomputable def EK.p14 (v:V) (e:EK) (k:EK→Bool):Bool:=EK.rec (motive:=fun _=>Bool) (fun f0 f1 f2 f3 hi=>N8.rec (motive:=fun _=>Bool) (fun a0 a1 a2 a3 a4 a5 a6 a7=>k ⟨f0,⟨a0,a1,a2,a3,a4,a5,v,a7⟩,f2,f3,hi⟩) f1) e
noncomputable def EK.g15 (e:EK):V:=(e.f1).a7
noncomputable def EK.p15 (v:V) (e:EK) (k:EK→Bool):Bool:=EK.rec (motive:=fun _=>Bool) (fun f0 f1 f2 f3 hi=>N8.rec (motive:=fun _=>Bool) (fun a0 a1 a2 a3 a4 a5 a6 a7=>k ⟨f0,⟨a0,a1,a2,a3,a4,a5,a6,v⟩,f2,f3,hi⟩) f1) e
noncomputable def EK.g16 (e:EK):V:=(e.f2).a0
noncomputable def EK.p16 (v:V) (e:EK) (k:EK→Bool):Bool:=EK.rec (motive:=fun _=>Bool) (fun f0 f1 f2 f3 hi=>N8.rec (motive:=fun _=>Bool) (fun a0 a1 a2 a3 a4 a5 a6 a7=>k ⟨f0,f1,⟨v,a1,a2,a3,a4,a5,a6,a7⟩,f3,hi⟩) f2) e
noncomputable def EK.g17 (e:EK):V:=(e.f2).a1
noncomputable def EK.p17 (v:V) (e:EK) (k:EK→Bool):Bool:=EK.rec (motive:=fun _=>Bool) (fun f0 f1 f2 f3 hi=>N8.rec (motive:=fun _=>Bool) (fun a0 a1 a2 a3 a4 a5 a6 a7=>k ⟨f0,f1,⟨a0,v,a2,a3,a4,a5,a6,a7⟩,f3,hi⟩) f2) e
noncomputable def EK.g18 (e:EK):V:=(e.f2).a2
noncomputable def EK.p18 (v:V) (e:EK) (k:EK→Bool):Bool:=EK.rec (motive:=fun _=>Bool) (fun f0 f1 f2 f3 hi=>N8.rec (motive:=fun _=>Bool) (fun a0 a1 a2 a3 a4 a5 a6 a7=>k ⟨f0,f1,⟨a0,a1,v,a3,a4,a5,a6,a7⟩,f3,hi⟩) f2) e
noncomputable def EK.g19 (e:EK):V:=(e.f2).a3
noncomputable def EK.p19 (v:V) (e:EK) (k:EK→Bool):Bool:=EK.rec (motive:=fun _=>Bool) (fun f0 f1 f2 f3 hi=>N8.rec (motive:=fun _=>Bool) (fun a0 a1 a2 a3 a4 a5 a6 a7=>k ⟨f0,f1,⟨a0,a1,a2,v,a4,a5,a6,a7⟩,f3,hi⟩) f2) e
noncomputable def EK.g20 (e:EK):V:=(e.f2).a4
noncomputable def EK.p20 (v:V) (e:EK) (k:EK→Bool):Bool:=EK.rec (motive:=fun _=>Bool) (fun f0 f1 f2 f3 hi=>N8.rec (motive:=fun _=>Bool) (fun a0 a1 a2 a3 a4 a5 a6 a7=>k ⟨f0,f1,⟨a0,a1,a2,a3,v,a5,a6,a7⟩,f3,hi⟩) f2) e
noncomputable def EK.g21 (e:EK):V:=(e.f2).a5
noncomputable def EK.p21 (v:V) (e:EK) (k:EK→Bool):Bool:=EK.rec (motive:=fun _=>Bool) (fun f0 f1 f2 f3 hi=>N8.rec (motive:=fun _=>Bool) (fun a0 a1 a2 a3 a4 a5 a6 a7=>k ⟨f0,f1,⟨a0,a1,a2,a3,a4,v,a6,a7⟩,f3,hi⟩) f2) e
noncomputable def EK.g22 (e:EK):V:=(e.f2).a6
noncomputable def EK.p22 (v:V) (e:EK) (k:EK→Bool):Bool:=EK.rec (motive:=fun _=>Bool) (fun f0 f1 f2 f3 hi=>N8.rec (motive:=fun _=>Bool) (fun a0 a1 a2 a3 a4 a5 a6 a7=>k ⟨f0,f1,⟨a0,a1,a2,a3,a4,a5,v,a7⟩,f3,hi⟩) f2) e
noncomputable def EK.g23 (e:EK):V:=(e.f2).a7
noncomputable def EK.p23 (v:V) (e:EK) (k:EK→Bool):Bool:=EK.rec (motive:=fun _=>Bool) (fun f0 f1 f2 f3 hi=>N8.rec (motive:=fun _=>Bool) (fun a0 a1 a2 a3 a4 a5 a6 a7=>k ⟨f0,f1,⟨a0,a1,a2,a3,a4,a5,a6,v⟩,f3,hi⟩) f2) e
noncomputable def EK.g24 (e:EK):V:=(e.f3).a0
noncomputable def EK.p24 (v:V) (e:EK) (k:EK→Bool):Bool:=EK.rec (motive:=fun _=>Bool) (fun f0 f1 f2 f3 hi=>N8.rec (motive:=fun _=>Bool) (fun a0 a1 a2 a3 a4 a5 a6 a7=>k ⟨f0,f1,f2,⟨v,a1,a2,a3,a4,a5,a6,a7⟩,hi⟩) f3) e
noncomputable def EK.g25 (e:EK):V:=(e.f3).a1
noncomputable def EK.p25 (v:V) (e:EK) (k:EK→Bool):Bool:=EK.rec (motive:=fun _=>Bool) (fun f0 f1 f2 f3 hi=>N8.rec (motive:=fun _=>Bool) (fun a0 a1 a2 a3 a4 a5 a6 a7=>k ⟨f0,f1,f2,⟨a0,v,a2,a3,a4,a5,a6,a7⟩,hi⟩) f3) e
noncomputable def EK.g26 (e:EK):V:=(e.f3).a2
noncomputable def EK.p26 (v:V) (e:EK) (k:EK→Bool):Bool:=EK.rec (motive:=fun _=>Bool) (fun f0 f1 f2 f3 hi=>N8.rec (motive:=fun _=>Bool) (fun a0 a1 a2 a3 a4 a5 a6 a7=>k ⟨f0,f1,f2,⟨a0,a1,v,a3,a4,a5,a6,a7⟩,hi⟩) f3) e
noncomputable def EK.g27 (e:EK):V:=(e.f3).a3
noncomputable def EK.p27 (v:V) (e:EK) (k:EK→Bool):Bool:=EK.rec (motive:=fun _=>Bool) (fun f0 f1 f2 f3 hi=>N8.rec (motive:=fun _=>Bool) (fun a0 a1 a2 a3 a4 a5 a6 a7=>k ⟨f0,f1,f2,⟨a0,a1,a2,v,a4,a5,a6,a7⟩,hi⟩) f3) e
noncomputable def EK.g28 (e:EK):V:=(e.f3).a4
noncomputable def EK.p28 (v:V) (e:EK) (k:EK→Bool):Bool:=EK.rec (motive:=fun _=>Bool) (fun f0 f1 f2 f3 hi=>N8.rec (motive:=fun _=>Bool) (fun a0 a1 a2 a3 a4 a5 a6 a7=>k ⟨f0,f1,f2,⟨a0,a1,a2,a3,v,a5,a6,a7⟩,hi⟩) f3) e
noncomputable def EK.g29 (e:EK):V:=(e.f3).a5
noncomputable def EK.p29 (v:V) (e:EK) (k:EK→Bool):Bool:=EK.rec (motive:=fun _=>Bool) (fun f0 f1 f2 f3 hi=>N8.rec (motive:=fun _=>Bool) (fun a0 a1 a2 a3 a4 a5 a6 a7=>k ⟨f0,f1,f2,⟨a0,a1,a2,a3,a4,v,a6,a7⟩,hi⟩) f3) e
noncomputable def EK.g30 (e:EK):V:=(e.f3).a6
noncomputable def EK.p30 (v:V) (e:EK) (k:EK→Bool):Bool:=EK.rec (motive:=fun _=>Bool) (fun f0 f1 f2 f3 hi=>N8.rec (motive:=fun _=>Bool) (fun a0 a1 a2 a3 a4 a5 a6 a7=>k ⟨f0,f1,f2,⟨a0,a1,a2,a3,a4,a5,v,a7⟩,hi⟩) f3) e
noncomputable def EK.g31 (e:EK):V:=(e.f3).a7
noncomputable def EK.p31 (v:V) (e:EK) (k:EK→Bool):Bool:=EK.rec (motive:=fun _=>Bool) (fun f0 f1 f2 f3 hi=>N8.rec (motive:=fun _=>Bool) (fun a0 a1 a2 a3 a4 a5 a6 a7=>k ⟨f0,f1,f2,⟨a0,a1,a2,a3,a4,a5,a6,v⟩,hi⟩) f3) e
noncomputable def EK.gh (g:Tw V 3→V) (e:EK):V:=g e.hi
noncomputable def EK.ph (u:Tw V 3→V→Tw V 3) (v:V) (e:EK) (k:EK→Bool):Bool:=EK.rec (motive:=fun _=>Bool) (fun f0 f1 f2 f3 hi=>k ⟨f0,f1,f2,f3,u hi v⟩) e
noncomputable def EC (i:Nat):Sl:=bif Nat.ble i 543 then Ln.rec (motive:=fun _=>Sl) (fun g u=>⟨EK.gh g,EK.ph u⟩) (AA V 3 (Nat.sub i 32))else⟨fun _=> .o,fun _ _ _=>false⟩
noncomputable def Bh (i:Nat):Sl:=
 bif Nat.ble i 31 then(bif Nat.ble i 15 then(bif Nat.ble i 7 then(bif Nat.ble i 3 then(bif Nat.ble i 1 then(bif Nat.ble i 0 then⟨EK.g0,EK.p0⟩else⟨EK.g1,EK.p1⟩)else(bif Nat.ble i 2 then⟨EK.g2,EK.p2⟩else⟨EK.g3,EK.p3⟩))else(bif Nat.ble i 5 then(bif Nat.ble i 4 then⟨EK.g4,EK.p4⟩else⟨EK.g5,EK.p5⟩)else(bif Nat.ble i 6 then⟨EK.g6,EK.p6⟩else⟨EK.g7,EK.p7⟩)))else(bif Nat.ble i 11 then(bif Nat.ble i 9 then(bif Nat.ble i 8 then⟨EK.g8,EK.p8⟩else⟨EK.g9,EK.p9⟩)else(bif Nat.ble i 10 then⟨EK.g10,EK.p10⟩else⟨EK.g11,EK.p11⟩))else(bif Nat.ble i 13 then(bif Nat.ble i 12 then⟨EK.g12,EK.p12⟩else⟨EK.g13,EK.p13⟩)else(bif Nat.ble i 14 then⟨EK.g14,EK.p14⟩else⟨EK.g15,EK.p15⟩))))else(bif Nat.ble i 23 then(bif Nat.ble i 19 then(bif Nat.ble i 17 then(bif Nat.ble i 16 then⟨EK.g16,EK.p16⟩else⟨EK.g17,EK.p17⟩)else(bif Nat.ble i 18 then⟨EK.g18,EK.p18⟩else⟨EK.g19,EK.p19⟩))else(bif Nat.ble i 21 then(bif Nat.ble i 20 then⟨EK.g20,EK.p20⟩else⟨EK.g21,EK.p21⟩)else(bif Nat.ble i 22 then⟨EK.g22,EK.p22⟩else⟨EK.g23,EK.p23⟩)))else(bif Nat.ble i 27 then(bif Nat.ble i 25 then(bif Nat.ble i 24 then⟨EK.g24,EK.p24⟩else⟨EK.g25,EK.p25⟩)else(bif Nat.ble i 26 then⟨EK.g26,EK.p26⟩else⟨EK.g27,EK.p27⟩))else(bif Nat.ble i 29 then(bif Nat.ble i 28 then⟨EK.g28,EK.p28⟩else⟨EK.g29,EK.p29⟩)else(bif Nat.ble i 30 then⟨EK.g30,EK.p30⟩else⟨EK.g31,EK.p31⟩)))))else EC i
structure KB where
 r:List S
 n:Nat
 fam:Nat
 d:Nat
abbrev HK:=Tw (Tw (Option KB) 3) 3
noncomputable def HK.zero:HK:=Tw.all (Tw.all none 3) 3
structure Bl where
 g:HK→Option KB
 m:Option KB→HK→(HK→Bool)→Bool
noncomputable def blM (u:HK→Option KB→HK) (b:Option KB) (h:HK) (k:HK→Bool):Bool:=k (u h b)
noncomputable def Bd (x:Nat):Bl:=
 bif Nat.ble x 262143 then Iz ⟨fun _=>none,fun _ _ _=>false⟩ (Nat.mod x 512) fun a=>Iz ⟨fun _=>none,fun _ _ _=>false⟩ (Nat.div x 512) fun b=>
  Ln.rec (motive:=fun _=>Bl) (fun g u=>⟨g,blM u⟩) (Ln.comp (AA (Tw (Option KB) 3) 3 a) (AA (Option KB) 3 b))
 else⟨fun _=>none,fun _ _ _=>false⟩
structure KS where
 h:HK
 nb:Nat
 fm:T (List (Nat×Nat×Nat))
 nf:Nat
noncomputable def KS.zero:KS:=⟨HK.zero,0,T.lf,0⟩
noncomputable def BQ (n:Nat) (k:Nat→Bool):Bool:=Nat.rec (motive:=fun _=>Bool) true (fun m _=>k m) (Nat.succ n)
section
variable (q:O→V)
def osR (x:O):S:=match q x with | .c s=>s |_=> .un
noncomputable def Nl (z:List S) (ps:List (Nat×Nat×O)):Option (List S):=
 List.rec (motive:=fun _=>List S→Option (List S)) (fun z=>some z) (fun p _ ih z=>
  match cellsOf (q p.2.2)with
  |none=>none
  |some l=>bif Nat.beq (Ad l) p.2.1&& Nat.ble (Nat.add p.1 p.2.1) (Ad z)then ih (AD z l p.1)else none) ps z
def onR (x:O):Option Nat:=match osR q x with | .i (.ofNat n)=>some n |_=>none
def IA (x:O):Option Nat:=match osR q x with | .i (.ofNat n)=>some n | .j _ (.ofNat n)=>some n |_=>none
def C8 (d:Nat):Option O→Option Nat
 |none=>some d
 |some x=>IA q x
noncomputable def Vy (xs:List O):Option (List (Nat×Nat)):=
 List.rec (some []) (fun x _ ih=>match osR q x,ih with | .p a b,some l=>some ((a,b)::l) |_,_=>none) xs
noncomputable def wvR:W→Option V
 | .mv x=>some (q x)
 | .pick c a b=>match osR q c with | .b x=>some (bif x then q a else q b) |_=>none
 | .nilc x=>match osR q x with | .p a b=>some (.c (.p a b)) | .f g cs=>some (.c (.f g cs)) |_=>none
 | .build z ps=>match Nl q z ps with |some l=>some (.a l) |none=>none
 | .bin op x y=>match osR q x,osR q y with
  | .i a,.i b=>A9 op a b
  | .j k a,.j k' b=>Gc op k a k' b
  | .s a,.s b=>Gd op a b
  | .i a,.j k' b=>CD (binOp op 0 (.int .i64 a) (.int k' b))
  | .j k a,.i b=>CD (binOp op 0 (.int k a) (.int .i64 b))
  |_,_=>none
 | .eqb ng x y=>match osR q x,osR q y with | .b a,.b b=>bb (xor ng (bif a then b else not b)) |_,_=>none
 | .eql ng x y=>match osR q x,osR q y with
  | .l0,.l0=>bb (not ng) | .l0,.l .. =>bb ng | .l ..,.l0=>bb ng |_,_=>none
 | .eqp ng x y=>match osR q x,osR q y with
  | .p0,.p0=>bb (not ng) | .p0,.p .. =>bb ng | .p ..,.p0=>bb ng |_,_=>none
 | .eqf ng x y=>match osR q x,osR q y with
  | .f0,.f0=>bb (not ng) | .f0,.f .. =>bb ng | .f ..,.f0=>bb ng |_,_=>none
 | .un op x=>match osR q x with
  | .b a=>match op with | .not=>bb (not a) |_=>none
  | .i a=>CD (Op.unary op (.int .i64 a))
  | .j k a=>CD (Op.unary op (.int k a))
  |_=>none
 | .cv k x=>match osR q x with
  | .i a=>some (.c (mkI k (k.wrap a)))
  | .j _ a=>some (.c (mkI k (k.wrap a)))
  |_=>none
 | .cvs x=>match osR q x with
  | .i (.ofNat a)=>bif Nat.ble a 127 then some (.c (.s [a]))else none
  | .j _ (.ofNat a)=>bif Nat.ble a 127 then some (.c (.s [a]))else none
  |_=>none
 | .mkf g cs=>match Vy q cs with |some l=>some (.c (.f g l)) |none=>none
 | .sls x lo hi=>match osR q x with
  | .s l=>match C8 q 0 lo,C8 q (Ad l) hi with
   |some a,some b=>bif Nat.ble a b&& Nat.ble b (Ad l)then some (.c (.s (Bq (Cb l a) (Nat.sub b a))))else none
   |_,_=>none
  |_=>none
 | .sll sz x lo hi mx=>match osR q x with
  | .l0=>match C8 q 0 lo,C8 q 0 hi,C8 q 0 mx with
   |some 0,some 0,some 0=>some (.c .l0)
   |_,_,_=>none
  | .l bl o n sz' full=>bif Nat.beq sz sz' then match mx with
   |none=>match C8 q 0 lo,C8 q n hi with
    |some a,some b=>bif Nat.ble a b&& Nat.ble b n then some (.c (.l bl (Nat.add o (Nat.mul a sz)) (Nat.sub b a) sz (full&& Nat.beq b n)))else none
    |_,_=>none
   |some m=>match C8 q 0 lo,C8 q n hi,IA q m with
    |some a,some b,some m=>bif Nat.ble a b&& Nat.ble b m&& Nat.ble m n then some (.c (.l bl (Nat.add o (Nat.mul a sz)) (Nat.sub b a) sz (Nat.beq b m)))else none
    |_,_,_=>none else none
  |_=>none
 | .fad off x=>match osR q x with | .p a b=>some (.c (.p a (Nat.add b off))) |_=>none
 | .fld off n x=>match q x with
  | .a l=>match n with
   |none=>match Ca l off with |some s=>some (.c s) |none=>none
   |some n=>bif Nat.ble (Nat.add off n) (Ad l)then some (.a (Bq (Cb l off) n))else none
  |_=>none
 | .iad sz x ix=>match osR q x with
  | .l bl o n sz' _=>match IA q ix with
   |some i=>bif Nat.beq sz sz'&& Nat.ble (Nat.succ i) n then some (.c (.p bl (Nat.add o (Nat.mul i sz))))else none
   |none=>none
  |_=>none
 | .ixs x ix=>match osR q x with
  | .s l=>match IA q ix with
   |some i=>match Ca l i with |some b=>some (.c (.j .u8 (.ofNat b))) |none=>none
   |none=>none
  |_=>none
 | .ext i x=>match q x with | .t l=>Ca l i |_=>none
 | .lns x=>match osR q x with
  | .s l=>some (.c (.i (.ofNat (Ad l))))
  |_=>none
 | .lnl x=>match osR q x with
  | .l0=>some (.c (.i 0))
  | .l _ _ n _ _=>some (.c (.i (.ofNat n)))
  |_=>none
 | .cpl x=>match osR q x with
  | .l0=>some (.c (.i 0))
  | .l _ _ n _ full=>bif full then some (.c (.i (.ofNat n)))else none
  |_=>none
 | .mnx mx x y=>match osR q x,osR q y with
  | .i a,.i b=>some (.c (.i (bif mx then(bif ile b a then a else b)else(bif ile a b then a else b))))
  |_,_=>none
 | .ibs x y=>match osR q x,osR q y with
  | .s l,.j .u8 (.ofNat c)=>bif Nat.ble c 255 then some (.c (.i (find c l 0)))else none
  |_,_=>none
noncomputable def avR:A→Option (List S× (Nat→V))
 | .al z=>some (z,fun x=> .c (.p x 0))
 | .box x=>match cellsOf (q x)with |some l=>some (l,fun x=> .c (.p x 0)) |none=>none
 | .bsl sz n z ps=>match Nl q z ps with |some l=>some (l,fun x=> .c (.l x 0 n sz true)) |none=>none
 | .mks sz bytes z n c=>match onR q n,onR q c with
  |some n,some c=>bif Nat.ble n c&& Nat.ble (Nat.mul bytes c) m47&& Nat.ble c m63 then some (BI z c,fun x=> .c (.l x 0 n sz (Nat.beq n c)))else none
  |_,_=>none
end
noncomputable def J5 {α:Type}(l:List α):List α:=List.rec (motive:=fun _=>List α) [] (fun _ t _=>t) l
noncomputable def ED {α:Type}(l:List α) (n:Nat):List α:=Nat.rec (motive:=fun _=>List α) l (fun _ ih=>J5 ih) n
noncomputable def atK {α:Type}(l:List α) (n:Nat) (k:α→Bool):Bool:=List.rec (motive:=fun _=>Bool) false (fun x _ _=>k x) (ED l n)
noncomputable def FM (l:List S):Nat→List S→List S:=
 List.rec (motive:=fun _=>Nat→List S→List S) (fun _ a=>a) (fun x _ ih m a=>Bool.rec (ih (Nat.sub m 1) (x::a)) a (Nat.beq m 0)) l
noncomputable def AL (l:List S):List S→List S:=List.rec (motive:=fun _=>List S→List S) (fun a=>a) (fun x _ ih a=>ih (x::a)) l
noncomputable def mkB (l:List S) (fam d:Nat):KB:=⟨AL l [],Ad l,fam,d⟩
noncomputable def FN (b:KB) (o n:Nat):Option (List S):=
 bif Nat.ble (Nat.add o n) b.n then Iz none (Nat.sub b.n (Nat.add o n)) fun m=>some (FM (ED b.r m) n [])else none
noncomputable def AI (s:KS) (x:Nat):Option KB:=(Bd x).g s.h
noncomputable def Cj (s:KS) (x o n:Nat):Option (List S):=
 match AI s x with |some b=>FN b o n |none=>none
noncomputable def IB (s:KS) (n:Option Nat):S→Option V
 | .p x o=>match n with
  |none=>match Cj s x o 1 with |some (v::_)=>some (.c v) |_=>none
  |some n=>match Cj s x o n with |some l=>some (.a l) |none=>none
 |_=>none
noncomputable def rvK (q:O→V) (s:KS):R→Option V
 | .ld n a=>IB s n (osR q a)
 | .bts x=>match osR q x with
  | .l0=>some (.c (.s []))
  | .l x o n sz _=>bif Nat.beq sz 1 then(match Cj s x o n with
   |some l=>match bytesIn l with |some b=>some (.c (.s b)) |none=>none
   |none=>none)else none
  |_=>none
noncomputable def Ck (s:KS) (x:Nat) (b:Option KB) (k:KS→Bool):Bool:=
 KS.rec (motive:=fun _=>Bool) (fun h nb fm nf=>(Bd x).m b h fun h=>k ⟨h,nb,fm,nf⟩) s
noncomputable def BR (s:KS) (b:KB) (k:KS→Bool):Bool:=
 KS.rec (motive:=fun _=>Bool) (fun h nb fm nf=>(Bd nb).m (some b) h fun h=>BQ (Nat.succ nb) fun nb=>k ⟨h,nb,fm,nf⟩) s
noncomputable def IC (x lo hi:Nat) (s:KS) (ms:List (Nat×Nat×Nat)):(KS→List (Nat×Nat×Nat)→Bool)→Bool:=
 List.rec (motive:=fun _=>(KS→List (Nat×Nat×Nat)→Bool)→Bool) (fun k=>k s []) (fun m _ ih k=>ih fun s l=>
  Bool.rec (Bool.rec (k s (m::l)) (Ck s m.1 none fun s=>k s l) (Nat.ble (Nat.succ m.2.1) hi&& Nat.ble (Nat.succ lo) (Nat.add m.2.1 m.2.2))) (k s (m::l)) (Nat.beq m.1 x)) ms
noncomputable def fmK (s:KS) (f:Nat) (ms:Option (List (Nat×Nat×Nat))):KS:= {s with fm:=T.upd ms s.fm f}
noncomputable def Dq (s:KS) (b:KB) (x o n:Nat) (k:KS→Bool):Bool:=
 Nat.rec (motive:=fun _=>Bool) (k s) (fun f _=>match s.fm.get f with
  |none=>false
  |some ms=>IC x (Nat.add b.d o) (Nat.add (Nat.add b.d o) n) s ms fun s l=>k (fmK s f (some l))) b.fam
noncomputable def DM (b:KB) (o n:Nat) (l:List S):KB:=⟨AD b.r (AL l []) (Nat.sub b.n (Nat.add o n)),b.n,b.fam,b.d⟩
noncomputable def EE (s:KS) (x o n:Nat) (l:List S) (k:KS→Bool):Bool:=
 match AI s x with
 |none=>false
 |some b=>bif Nat.beq (Ad l) n&& Nat.ble (Nat.add o n) b.n then Dq s b x o n fun s=>
   KB.rec (motive:=fun _=>Bool) (fun r m fam d=>Ck s x (some ⟨AD r (AL l []) (Nat.sub m (Nat.add o n)),m,fam,d⟩) k) b else false
noncomputable def Nm (s:KS) (sz:Nat):S→Option (Nat×List S)
 | .l0=>some (0,[])
 | .l x o n sz' _=>bif Nat.beq sz sz' then(match n with
  |0=>some (0,[])
  | .succ n=>match Cj s x o (Nat.mul (Nat.succ n) sz)with |some l=>some (Nat.succ n,l) |none=>none)else none
 |_=>none
noncomputable def ID (s:KS) (bl:Nat) (b:KB) (k:KS→Nat→Nat→List (Nat×Nat×Nat)→Bool):Bool:=
 match b.fam with
 |0=>KS.rec (motive:=fun _=>Bool) (fun h nb fm nf=>(Bd bl).m (some ⟨b.r,b.n,Nat.succ nf,0⟩) h fun h=>BQ (Nat.succ nf) fun nf'=>
   k ⟨h,nb,T.upd (some [(bl,0,b.n)]) fm nf,nf'⟩ 0 nf [(bl,0,b.n)]) s
 | .succ f=>match s.fm.get f with
  |none=>false
  |some ms=>k s b.d f ms
noncomputable def GB (s:KS) (f d lo hi:Nat) (ms:List (Nat×Nat×Nat)) (b:KB) (k:KS→Bool):Bool:=
 IC s.nb lo hi s ms fun s' l=>BR (fmK s' f (some ((s.nb,d,b.n)::l))) ⟨b.r,b.n,Nat.succ f,d⟩ k
noncomputable def GC (b:KB) (o n:Nat) (ns:List S):Option KB:=
 bif Nat.beq o 0&& Nat.beq n b.n then some ⟨AL ns b.r,Nat.add n (Ad ns),0,0⟩
 else match FN b o n with |some l=>some ⟨AL ns (AL l []),Nat.add n (Ad ns),0,0⟩ |none=>none
noncomputable def J6 (s:KS) (sz bytes:Nat) (x y:S) (k:V→KS→Bool):Bool:=
 match Nm s sz y with
 |none=>false
 |some (m,ns)=>
  match m with
  |0=>match x with | .l0=>k (.c x) s | .l _ _ _ _ _=>k (.c x) s |_=>false
  | .succ _=>
   match x with
   | .l0=>bif Nat.ble (Nat.mul m bytes) m47&& Nat.ble m m63 then BR s (mkB ns 0 0) (k (.c (.l s.nb 0 m sz false)))else false
   | .l bl o n sz' full=>
    bif Nat.beq sz sz'&& (Nat.ble (Nat.mul (Nat.add n m) bytes) m47&& Nat.ble (Nat.add n m) m63)then
     bif full&& Nat.beq n 0 then BR s (mkB ns 0 0) (k (.c (.l s.nb 0 (Nat.add n m) sz false)))
     else match AI s bl with
      |none=>false
      |some b=>match GC b o (Nat.mul n sz) ns with
       |none=>false
       |some nw=>
        bif full then BR s nw (k (.c (.l s.nb 0 (Nat.add n m) sz false)))
        else ID s bl b fun s' d f ms=>
         BQ (Nat.add (Nat.add d o) (Nat.mul n sz)) fun lo=>
         GB s' f (Nat.add d o) lo (Nat.add lo (Ad ns)) ms nw (k (.c (.l s.nb 0 (Nat.add n m) sz false)))
    else false
   |_=>false
noncomputable def J7 (s:KS) (sz:Nat) (z:List S) (x:S) (k:KS→Bool):Bool:=
 match x with
 | .l0=>k s
 | .l bl o n sz' _=>bif Nat.beq sz sz' then(bif Nat.beq n 0 then k s else EE s bl o (Nat.mul n sz) (BI z n) k)else false
 |_=>false
noncomputable def IE (s:KS) (sz bytes:Nat) (z:List S) (n:Option Nat) (x:S) (k:V→KS→Bool):Bool:=
 match x with
 | .l0=>match n with
  |some 0=>k (.c .l0) s
  |some (.succ m)=>bif Nat.ble (Nat.mul (Nat.succ m) bytes) m47&& Nat.ble (Nat.succ m) m63 then BR s (mkB (BI z (Nat.succ m)) 0 0) (k (.c (.l s.nb 0 (Nat.succ m) sz false)))else false
  |none=>false
 |_=>false
abbrev By:=Nat→List V→KS→(V→KS→Bool)→Bool
abbrev OpF:=By→EK→KS→(EK→KS→Bool)→Bool
structure OpB where
 f:OpF
noncomputable def AF (e:EK):O→V
 | .t i=>(Bh i).g e
 | .k v=>v
abbrev GtF:=EK→V
structure Gt where
 f:GtF
noncomputable def gt:O→Gt
 | .t i=>Sl.rec (motive:=fun _=>Gt) (fun g _=>⟨g⟩) (Bh i)
 | .k v=>⟨fun _=>v⟩
abbrev PtF:=V→EK→(EK→Bool)→Bool
structure Pt where
 f:PtF
noncomputable def pt:Option Nat→Pt
 |none=>⟨fun _ e k=>k e⟩
 |some i=>Sl.rec (motive:=fun _=>Pt) (fun _ m=>⟨m⟩) (Bh i)
noncomputable def vk (v:Option V) (k:V→Bool):Bool:=Option.rec (motive:=fun _=>Bool) false k v
noncomputable def bk (b:Bool) (k:V→Bool):Bool:=Bool.rec (motive:=fun _=>Bool) (k (.c (.b false))) (k (.c (.b true))) b
noncomputable def unC (v:V) (k:S→Bool):Bool:=@V.rec (fun _=>Bool) (fun _=>Bool) false k (fun _=>false) (fun _ _=>false) false (fun _ _ _ _=>false) v
noncomputable def unA (v:V) (k:List S→Bool):Bool:=@V.rec (fun _=>Bool) (fun _=>Bool) false (fun _=>false) k (fun _ _=>false) false (fun _ _ _ _=>false) v
noncomputable def unB (v:V) (k:Bool→Bool):Bool:=unC v fun s=>S.rec (motive:=fun _=>Bool) false k (fun _=>false) (fun _ _=>false) (fun _=>false) false (fun _ _=>false) false (fun _ _ _ _ _=>false) (fun _ _=>false) false s
noncomputable def unP (v:V) (k:Nat→Nat→Bool):Bool:=unC v fun s=>S.rec (motive:=fun _=>Bool) false (fun _=>false) (fun _=>false) (fun _ _=>false) (fun _=>false) false k false (fun _ _ _ _ _=>false) (fun _ _=>false) false s
noncomputable def unL (v:V) (k:Nat→Nat→Nat→Nat→Bool→Bool):Bool:=unC v fun s=>S.rec (motive:=fun _=>Bool) false (fun _=>false) (fun _=>false) (fun _ _=>false) (fun _=>false) false (fun _ _=>false) false k (fun _ _=>false) false s
noncomputable def D9 (f:Nat→Nat→(V→Bool)→Bool) (slow:Int→Int→(V→Bool)→Bool) (a b:Int) (k:V→Bool):Bool:=
 Int.rec (motive:=fun _=>Bool) (fun m=>Int.rec (motive:=fun _=>Bool) (fun n=>f m n k) (fun n=>slow (.ofNat m) (.negSucc n) k) b) (fun m=>slow (.negSucc m) b k) a
noncomputable def Nn (m n:Nat) (k:V→Bool):Bool:=BQ (Nat.add m n) fun z=>Bool.rec (motive:=fun _=>Bool) (vk (A9 .add (.ofNat m) (.ofNat n)) k) (k (.c (.i (.ofNat z)))) (Nat.ble z m63)
noncomputable def No (m n:Nat) (k:V→Bool):Bool:=Bool.rec (motive:=fun _=>Bool) (vk (A9 .sub (.ofNat m) (.ofNat n)) k) (BQ (Nat.sub m n) fun z=>k (.c (.i (.ofNat z)))) (Nat.ble n m&& Nat.ble m m63)
abbrev BFF:=Int→Int→(V→Bool)→Bool
structure BF where
 f:BFF
noncomputable def bf (op:BinOp):BF:=
 match op with
 | .add=>⟨D9 Nn fun a b k=>vk (A9 .add a b) k⟩
 | .sub=>⟨D9 No fun a b k=>vk (A9 .sub a b) k⟩
 | .eql=>⟨D9 (fun m n k=>bk (Nat.beq m n) k) fun a b k=>vk (A9 .eql a b) k⟩
 | .neq=>⟨D9 (fun m n k=>bk (not (Nat.beq m n)) k) fun a b k=>vk (A9 .neq a b) k⟩
 | .lss=>⟨D9 (fun m n k=>bk (Nat.ble (Nat.succ m) n) k) fun a b k=>vk (A9 .lss a b) k⟩
 | .leq=>⟨D9 (fun m n k=>bk (Nat.ble m n) k) fun a b k=>vk (A9 .leq a b) k⟩
 | .gtr=>⟨D9 (fun m n k=>bk (Nat.ble (Nat.succ n) m) k) fun a b k=>vk (A9 .gtr a b) k⟩
 | .geq=>⟨D9 (fun m n k=>bk (Nat.ble n m) k) fun a b k=>vk (A9 .geq a b) k⟩
 |op=>⟨fun a b k=>vk (A9 op a b) k⟩
noncomputable def GD (op:BinOp) (a b:S):Option V:=
 match a,b with
 | .i a,.i b=>A9 op a b
 | .j k a,.j k' b=>Gc op k a k' b
 | .s a,.s b=>Gd op a b
 | .i a,.j k' b=>CD (binOp op 0 (.int .i64 a) (.int k' b))
 | .j k a,.i b=>CD (binOp op 0 (.int k a) (.int .i64 b))
 |_,_=>none
noncomputable def Br (x:Gt) (d:Pt) (f:GtF→PtF→OpF):OpB:=Gt.rec (motive:=fun _=>OpB) (fun g=>Pt.rec (motive:=fun _=>OpB) (fun p=>⟨f g p⟩) d) x
noncomputable def C9 (x y:Gt) (d:Pt) (f:GtF→GtF→PtF→OpF):OpB:=Gt.rec (motive:=fun _=>OpB) (fun g=>Br y d (f g)) x
noncomputable def J8 (x y z:Gt) (d:Pt) (f:GtF→GtF→GtF→PtF→OpF):OpB:=Gt.rec (motive:=fun _=>OpB) (fun g=>C9 y z d (f g)) x
noncomputable def BS (d:Pt) (f:PtF→OpF):OpB:=Pt.rec (motive:=fun _=>OpB) (fun p=>⟨f p⟩) d
noncomputable def fMv (x:GtF) (d:PtF):OpF:=fun _ e s k=>d (x e) e fun e=>k e s
noncomputable def fW (w:W) (d:PtF):OpF:=fun _ e s k=>vk (wvR (AF e) w) fun v=>d v e fun e=>k e s
noncomputable def IF (op:BinOp) (f:BFF) (x y:GtF) (d:PtF):OpF:=fun _ e s k=>
 unC (x e) fun a=>unC (y e) fun b=>
  S.rec (motive:=fun _=>Bool) false (fun _=>false)
   (fun m=>S.rec (motive:=fun _=>Bool) false (fun _=>false) (fun n=>f m n fun v=>d v e fun e=>k e s)
    (fun j n=>vk (GD op (.i m) (.j j n)) fun v=>d v e fun e=>k e s) (fun _=>false) false (fun _ _=>false) false (fun _ _ _ _ _=>false) (fun _ _=>false) false b)
   (fun j m=>vk (GD op (.j j m) b) fun v=>d v e fun e=>k e s)
   (fun l=>vk (GD op (.s l) b) fun v=>d v e fun e=>k e s)
   false (fun _ _=>false) false (fun _ _ _ _ _=>false) (fun _ _=>false) false a
noncomputable def Np (off:Nat) (x:GtF) (d:PtF):OpF:=fun _ e s k=>unP (x e) fun a b=>BQ (Nat.add b off) fun c=>d (.c (.p a c)) e fun e=>k e s
noncomputable def cellAt (l:List S):Nat→(S→Bool)→Bool:=
 List.rec (motive:=fun _=>Nat→(S→Bool)→Bool) (fun _ _=>false) (fun x _ ih n k=>Bool.rec (motive:=fun _=>Bool) (ih (Nat.sub n 1) k) (k x) (Nat.beq n 0)) l
noncomputable def Nq (off:Nat) (x:GtF) (d:PtF):OpF:=fun _ e s k=>unA (x e) fun l=>cellAt l off fun v=>d (.c v) e fun e=>k e s
noncomputable def J9 (i:Int) (k:Nat→Bool):Bool:=Int.rec (motive:=fun _=>Bool) k (fun _=>false) i
noncomputable def unN (v:V) (k:Nat→Bool):Bool:=unC v fun s=>S.rec (motive:=fun _=>Bool) false (fun _=>false) (fun i=>J9 i k) (fun _ i=>J9 i k) (fun _=>false) false (fun _ _=>false) false (fun _ _ _ _ _=>false) (fun _ _=>false) false s
noncomputable def Nr (sz:Nat) (x y:GtF) (d:PtF):OpF:=fun _ e s k=>unL (x e) fun bl o n sz' _=>unN (y e) fun i=>
 Bool.rec (motive:=fun _=>Bool) false (BQ (Nat.add o (Nat.mul i sz)) fun c=>d (.c (.p bl c)) e fun e=>k e s) (Nat.beq sz sz'&& Nat.ble (Nat.succ i) n)
noncomputable def Ns (w:W) (x:GtF) (d:PtF):OpF:=fun _ e s k=>unC (x e) fun a=>
 S.rec (motive:=fun _=>Bool) false (fun _=>false) (fun _=>false) (fun _ _=>false) (fun _=>false) false (fun _ _=>false) (d (.c (.i 0)) e fun e=>k e s) (fun _ _ n _ _=>d (.c (.i (.ofNat n))) e fun e=>k e s) (fun _ _=>false) false a
noncomputable def Nt (c x y:GtF) (d:PtF):OpF:=fun _ e s k=>unB (c e) fun b=>Bool.rec (motive:=fun _=>Bool) (d (y e) e fun e=>k e s) (d (x e) e fun e=>k e s) b
noncomputable def unS (v:V) (k:List Nat→Bool):Bool:=unC v fun s=>S.rec (motive:=fun _=>Bool) false (fun _=>false) (fun _=>false) (fun _ _=>false) k false (fun _ _=>false) false (fun _ _ _ _ _=>false) (fun _ _=>false) false s
noncomputable def Nu (x y:GtF) (d:PtF):OpF:=fun _ e s k=>unS (x e) fun l=>unN (y e) fun i=>atK l i fun b=>d (.c (.j .u8 (.ofNat b))) e fun e=>k e s
noncomputable def Nv (x:GtF) (d:PtF):OpF:=fun _ e s k=>unS (x e) fun l=>BQ (Ad l) fun n=>d (.c (.i (.ofNat n))) e fun e=>k e s
noncomputable def IG (x:GtF) (lo hi:Option O) (d:PtF):OpF:=fun _ e s k=>unS (x e) fun l=>
 match C8 (AF e) 0 lo,C8 (AF e) (Ad l) hi with
 |some a,some b=>BQ a fun a=>BQ b fun b=>Bool.rec (motive:=fun _=>Bool) false (d (.c (.s (Bq (ED l a) (Nat.sub b a)))) e fun e=>k e s) (Nat.ble a b&& Nat.ble b (Ad l))
 |_,_=>false
noncomputable def opW (w:W) (d:Pt):OpB:=
 match w with
 | .mv x=>Br (gt x) d fMv
 | .bin op x y=>BF.rec (motive:=fun _=>OpB) (fun f=>C9 (gt x) (gt y) d (IF op f)) (bf op)
 | .fad off x=>Br (gt x) d (Np off)
 | .fld off none x=>Br (gt x) d (Nq off)
 | .iad sz x y=>C9 (gt x) (gt y) d (Nr sz)
 | .lnl x=>Br (gt x) d (Ns (.lnl x))
 | .pick c x y=>J8 (gt c) (gt x) (gt y) d Nt
 | .ixs x y=>C9 (gt x) (gt y) d Nu
 | .lns x=>Br (gt x) d Nv
 | .sls x lo hi=>Br (gt x) d fun x d=>IG x lo hi d
 |w=>BS d (fW w)
noncomputable def Nw (x:GtF) (d:PtF):OpF:=fun _ e s k=>
 unP (x e) fun a o=>Option.rec (motive:=fun _=>Bool) false (fun b=>KB.rec (motive:=fun _=>Bool) (fun r n _ _=>
  Bool.rec (motive:=fun _=>Bool) false (BQ (Nat.sub n (Nat.succ o)) fun m=>atK r m fun v=>d (.c v) e fun e=>k e s) (Nat.ble (Nat.succ o) n)) b) ((Bd a).g s.h)
noncomputable def fR (r:R) (d:PtF):OpF:=fun _ e s k=>vk (rvK (AF e) s r) fun v=>d v e fun e=>k e s
noncomputable def opR (r:R) (d:Pt):OpB:=
 match r with
 | .ld none x=>Br (gt x) d Nw
 |r=>BS d (fR r)
noncomputable def fAl (r:List S) (n:Nat) (d:PtF):OpF:=fun _ e s k=>KS.rec (motive:=fun _=>Bool) (fun h nb fm nf=>
 (Bd nb).m (some ⟨r,n,0,0⟩) h fun h=>d (.c (.p nb 0)) e fun e=>BQ (Nat.succ nb) fun nb=>k e ⟨h,nb,fm,nf⟩) s
noncomputable def Nx (a:A) (x:GtF) (d:PtF):OpF:=fun call e s k=>
 @V.rec (fun _=>Bool) (fun _=>Bool) false (fun c=>fAl [c] 1 d call e s k) (fun l=>BQ (Ad l) fun n=>fAl (AL l []) n d call e s k) (fun _ _=>false) false (fun _ _ _ _=>false) (x e)
noncomputable def fA (a:A) (d:PtF):OpF:=fun _ e s k=>
 match avR (AF e) a with
 |none=>false
 |some (l,f)=>d (f s.nb) e fun e=>BR s (mkB l 0 0) (k e)
noncomputable def opA (a:A) (d:Pt):OpB:=
 match a with
 | .al z=>Iz ⟨fun _ _ _ _=>false⟩ (Ad z) fun n=>BS d (fAl (AL z []) n)
 | .box x=>Br (gt x) d (Nx (.box x))
 |a=>BS d (fA a)
noncomputable def Ny (a v:GtF) (d:PtF):OpF:=fun _ e s k=>unP (a e) fun x o=>unC (v e) fun c=>
 Option.rec (motive:=fun _=>Bool) false (fun b=>bif Nat.ble (Nat.succ o) b.n then Dq s b x o 1 fun s=>
  KB.rec (motive:=fun _=>Bool) (fun r m fam d'=>Ck s x (some ⟨CK r c (Nat.sub m (Nat.succ o)),m,fam,d'⟩) fun s=>d .o e fun e=>k e s) b else false) ((Bd x).g s.h)
noncomputable def fSt (n:Nat) (a v:O) (d:PtF):OpF:=fun _ e s k=>
 match osR (AF e) a,cellsOf (AF e v)with
 | .p x o,some l=>EE s x o n l fun s=>d .o e fun e=>k e s
 |_,_=>false
noncomputable def Ka (n:Nat) (a v:O) (ga gv:GtF) (d:PtF):OpF:=fun call e s k=>
 @V.rec (fun _=>Bool) (fun _=>Bool) false (fun _=>Ny ga gv d call e s k) (fun _=>fSt n a v d call e s k) (fun _ _=>false) false (fun _ _ _ _=>false) (gv e)
noncomputable def Nz (sz bytes:Nat) (x y:GtF) (d:PtF):OpF:=fun _ e s k=>unC (x e) fun a=>unC (y e) fun b=>J6 s sz bytes a b fun v s=>d v e fun e=>k e s
structure Gts where
 l:List GtF
noncomputable def gts (xs:List O):Gts:=List.rec (motive:=fun _=>Gts) ⟨[]⟩ (fun x _ ih=>Gt.rec (motive:=fun _=>Gts) (fun g=>Gts.rec (motive:=fun _=>Gts) (fun l=>⟨g::l⟩) ih) (gt x)) xs
noncomputable def FO (e:EK) (xs:List GtF):List V:=List.rec [] (fun g _ ih=>g e::ih) xs
noncomputable def GE (xs:Gts) (d:Pt) (f:List GtF→PtF→OpF):OpB:=Gts.rec (motive:=fun _=>OpB) (fun l=>BS d (f l)) xs
noncomputable def NA (g:Nat) (xs:List GtF) (d:PtF):OpF:=fun call e s k=>call g (FO e xs) s fun v s=>d v e fun e=>k e s
noncomputable def NB (x:O) (xs:List GtF) (d:PtF):OpF:=fun call e s k=>
 match osR (AF e) x with
 | .f g cs=>call g (BL (FO e xs) (cs.map fun c=>V.c (.p c.1 c.2))) s fun v s=>d v e fun e=>k e s
 |_=>false
noncomputable def NC (sz:Nat) (z:List S) (x:O) (d:PtF):OpF:=fun _ e s k=>J7 s sz z (osR (AF e) x) fun s=>d .o e fun e=>k e s
noncomputable def ND (sz bytes:Nat) (z:List S) (x n:O) (d:PtF):OpF:=fun _ e s k=>IE s sz bytes z (onR (AF e) n) (osR (AF e) x) fun v s=>d v e fun e=>k e s
noncomputable def opM (m:M) (d:Pt):OpB:=
 match m with
 | .st n a v=>bif Nat.beq n 1 then C9 (gt a) (gt v) d (Ka n a v)else BS d (fSt n a v)
 | .app sz bytes x y=>C9 (gt x) (gt y) d (Nz sz bytes)
 | .call g xs=>GE (gts xs) d (NA g)
 | .cal x xs=>GE (gts xs) d (NB x)
 | .clr sz z x=>BS d (NC sz z x)
 | .apz sz bytes z x n=>BS d (ND sz bytes z x n)
noncomputable def Fd (o:MO) (d:Pt):OpB:=
 match o with
 | .w o=>opW o d
 | .r o=>opR o d
 | .a o=>opA o d
 | .m o=>opM o d
noncomputable def fG (want:Bool) (f:OpF) (t:GtF) (d:PtF):OpF:=fun call e s k=>
 match t e with
 | .c (.b x)=>bif (bif x then want else not want)then f call e s k else d (.t []) e fun e=>k e s
 | .t []=>d (.t []) e fun e=>k e s
 |_=>false
noncomputable def opG (dst:Option Nat) (g:Option (Nat×Bool)) (o:MO):OpB:=
 match g with
 |none=>Fd o (pt dst)
 |some (t,want)=>OpB.rec (motive:=fun _=>OpB) (fun f=>Br (gt (.t t)) (pt dst) (fG want f)) (Fd o (pt dst))
noncomputable def Fe (e:EK) (s:KS) (l:List (Nat×R)):Bool:=
 List.rec true (fun p _ ih=>match AF e (.t p.1)with
  | .t []=>ih
  |v=>match rvK (AF e) s p.2 with |some u=>vEq v u&& ih |none=>false) l
noncomputable def Ff (e:EK) (s:KS) (l:List (Nat×A)):Bool:=
 List.rec true (fun p _ ih=>match AF e (.t p.1)with
  | .t []=>ih
  |v=>match avR (AF e) p.2,DA v with
   |some (l,_),some x=>match AI s x with
    |some b=>lEq (AL b.r []) l&& Nat.beq b.fam 0&& Nat.beq b.d 0&& ih
    |none=>false
   |_,_=>false) l
noncomputable def f2 (n₁:Nat) (a₁ v₁:O) (n₂:Nat) (a₂ v₂:O):OpF:=fun _ e s k=>
 match osR (AF e) a₁,cellsOf (AF e v₁),osR (AF e) a₂,cellsOf (AF e v₂)with
 | .p x₁ o₁,some l₁,.p x₂ o₂,some l₂=>
  bif ((not (Nat.beq x₁ x₂)) || Nat.ble (Nat.add o₁ n₁) o₂ || Nat.ble (Nat.add o₂ n₂) o₁)&& Nat.beq (Ad l₁) n₁&& Nat.beq (Ad l₂) n₂ then
   match AI s x₁ with
   |none=>false
   |some b₁=>bif Nat.ble (Nat.add o₁ n₁) b₁.n then Dq s b₁ x₁ o₁ n₁ fun s=>match AI s x₂ with
    |none=>false
    |some b₂=>bif Nat.ble (Nat.add o₂ n₂) b₂.n then Dq s b₂ x₂ o₂ n₂ fun s=>match AI s x₁ with
     |none=>false
     |some b₁=>bif Nat.ble (Nat.add o₁ n₁) b₁.n then Ck s x₁ (some (DM b₁ o₁ n₁ l₁)) fun s=>match AI s x₂ with
      |none=>false
      |some b₂=>bif Nat.ble (Nat.add o₂ n₂) b₂.n then Ck s x₂ (some (DM b₂ o₂ n₂ l₂)) fun s=>k e s else false
     else false
    else false
   else false
  else false
 |_,_,_,_=>false
noncomputable def fMk (rs:List (Nat×R)) (as_:List (Nat×A)) (f:OpF):OpF:=fun call e s k=>f call e s fun e s=>bif Fe e s rs&& Ff e s as_ then k e s else false
noncomputable def Ea:Stp→OpB
 | .ev dst g o=>opG dst g o
 | .mk dst g o rs as_=>OpB.rec (motive:=fun _=>OpB) (fun f=>⟨fMk rs as_ f⟩) (opG dst g (.m o))
 | .e2 n₁ a₁ v₁ n₂ a₂ v₂=>⟨f2 n₁ a₁ v₁ n₂ a₂ v₂⟩
abbrev CdF:=By→EK→KS→(EK→KS→Bool)→(Nat→EK→KS→Bool)→(EK→KS→Bool)→Bool
structure CdB where
 f:CdF
noncomputable def Kb (f g:OpF):OpF:=fun call e s k=>f call e s fun e s=>g call e s k
noncomputable def Dr (l:List Stp):OpB:=List.rec (motive:=fun _=>OpB) ⟨fun _ e s k=>k e s⟩
 (fun x t ih=>List.rec (motive:=fun _=>OpB) (Ea x) (fun _ _ _=>OpB.rec (motive:=fun _=>OpB) (fun f=>OpB.rec (motive:=fun _=>OpB) (fun g=>⟨Kb f g⟩) ih) (Ea x)) t) l
noncomputable def Kc (f:OpF):CdF:=fun call e s kn _ _=>f call e s kn
noncomputable def NE (f g:CdF):CdF:=fun call e s kn kx kr=>f call e s (fun e s=>g call e s kn kx kr) kx kr
noncomputable def NF (c:GtF) (f g:CdF):CdF:=fun call e s kn kx kr=>unB (c e) fun x=>Bool.rec (motive:=fun _=>Bool) (g call e s kn kx kr) (f call e s kn kx kr) x
noncomputable def NG (id:Nat) (f:CdF):CdF:=fun call e s kn kx kr=>f call e s kn (fun i e s=>Bool.rec (motive:=fun _=>Bool) (kx i e s) (kn e s) (Nat.beq i id)) kr
noncomputable def NH (N:Nat) (f:CdF):CdF:=fun call e s kn kx kr=>
 Nat.rec (motive:=fun _=>EK→KS→Bool) (fun _ _=>false) (fun _ ih e s=>f call e s ih kx kr) N e s
noncomputable def seqB (a b:CdB):CdB:=CdB.rec (motive:=fun _=>CdB) (fun f=>CdB.rec (motive:=fun _=>CdB) (fun g=>⟨NE f g⟩) b) a
noncomputable def Kd (c:Gt) (a b:CdB):CdB:=Gt.rec (motive:=fun _=>CdB) (fun c=>CdB.rec (motive:=fun _=>CdB) (fun f=>CdB.rec (motive:=fun _=>CdB) (fun g=>⟨NF c f g⟩) b) a) c
noncomputable def Kf (id:Nat) (a:CdB):CdB:=CdB.rec (motive:=fun _=>CdB) (fun f=>⟨NG id f⟩) a
noncomputable def Kg (N:Nat) (a:CdB):CdB:=CdB.rec (motive:=fun _=>CdB) (fun f=>⟨NH N f⟩) a
noncomputable def cdB (N:Nat) (m:MC):CdB:=
 MC.rec (motive:=fun _=>CdB) ⟨fun _ e s kn _ _=>kn e s⟩ (fun l=>OpB.rec (motive:=fun _=>CdB) (fun f=>⟨Kc f⟩) (Dr l)) (fun _ _ a b=>seqB a b) (fun c _ _ a b=>Kd (gt c) a b) (fun id _ m=>Kf id m) (fun _ m=>Kg N m)
  (fun id=>⟨fun _ e s _ kx _=>kx id e s⟩) ⟨fun _ e s _ _ kr=>kr e s⟩ m
noncomputable def Kh (e:EK) (s:KS):MRes→Option V
 | .t i=>match AF e (.t i)with | .t _=>none |v=>some v
 | .c n i=>IB s n (osR (AF e) (.t i))
noncomputable def Ki (e:EK) (s:KS) (l:List MRes):Option (List V):=
 List.rec (some []) (fun x _ ih=>match Kh e s x,ih with |some v,some l=>some (v::l) |_,_=>none) l
noncomputable def IH (l:List MRes) (e:EK) (s:KS) (k:V→KS→Bool):Bool:=
 match Ki e s l with
 |some [v]=>k v s
 |some l=>k (.t l) s
 |none=>false
abbrev Kj:=EK→KS→(V→KS→Bool)→Bool
structure ResB where
 f:Kj
noncomputable def II (g:GtF):Kj:=fun e s k=> @V.rec (fun _=>Bool) (fun _=>Bool) (k (g e) s) (fun _=>k (g e) s) (fun _=>k (g e) s) (fun _ _=>false) false (fun _ _ _ _=>false) (g e)
noncomputable def Eb (l:List MRes):ResB:=
 match l with
 | [.t i]=>Gt.rec (motive:=fun _=>ResB) (fun g=>⟨II g⟩) (gt (.t i))
 |l=>⟨IH l⟩
noncomputable def IJ (vs:List V):Nat→(EK→Bool)→Bool:=
 List.rec (motive:=fun _=>Nat→(EK→Bool)→Bool) (fun _ k=>k EK.zero) (fun v _ ih i k=>ih (Nat.succ i) fun e=>(pt (some i)).f v e k) vs
structure FnB where
 f:By→List V→KS→(V→KS→Bool)→Bool
noncomputable def fFn (f:CdF) (r:Kj):By→List V→KS→(V→KS→Bool)→Bool:=fun call vs s k=>
 IJ vs 0 fun e=>f call e s (fun e s=>r e s k) (fun _ _ _=>false) (fun e s=>r e s k)
noncomputable def fnB (tbl:T MFn) (N:Nat) (ext:By) (g:Nat):FnB:=
 match tbl.get g with
 |none=>⟨fun _ vs s k=>ext g vs s k⟩
 |some f=>CdB.rec (motive:=fun _=>FnB) (fun c=>ResB.rec (motive:=fun _=>FnB) (fun r=>⟨fFn c r⟩) (Eb f.res)) (cdB N f.body)
noncomputable def fnK (tbl:T MFn) (N:Nat) (ext:By) (d:Nat):By:=
 Nat.rec (motive:=fun _=>By) (fun _ _ _ _=>false) (fun _ ih g vs s k=>(fnB tbl N ext g).f ih vs s k) d
def LR {α β:Type}(R:α→β→Prop):List α→List β→Prop
 | [],[]=>True
 |a::l,b::m=>R a b∧LR R l m
 |_,_=>False
section
variable {α β:Type}{R R':α→β→Prop}
theorem LR.mono (h:∀a b,R a b→R' a b):∀ {l:List α}{m:List β},LR R l m→LR R' l m
 | [],[],_=>trivial
 |_::_,_::_,hh=>⟨h _ _ hh.1,LR.mono h hh.2⟩
 | [],_::_,hh=>hh.elim
 |_::_,[],hh=>hh.elim
theorem LR.length:∀ {l:List α}{m:List β},LR R l m→l.length=m.length
 | [],[],_=>rfl
 |_::_,_::_,hh=>by simp[LR.length hh.2]
 | [],_::_,hh=>hh.elim
 |_::_,[],hh=>hh.elim
theorem LR.get:∀ {l:List α}{m:List β}{i:Nat}{a:α},LR R l m→l[i]?=some a→ ∃b,m[i]?=some b∧R a b
 | [],[],_,_,_,h=>by simp at h
 |x::l,y::m,0,a,hh,h=>by simp at h;subst h;exact⟨y,by simp,hh.1⟩
 |_::l,_::m,i+1,a,hh,h=>by
  have:=LR.get (i:=i) hh.2 (by simpa using h)
  simpa using this
 | [],_::_,_,_,hh,_=>hh.elim
 |_::_,[],_,_,hh,_=>hh.elim
theorem LR.of_get:∀ {l:List α}{m:List β},l.length=m.length→(∀ (i:Nat) (a:α) (b:β),l[i]?=some a→m[i]?=some b→R a b)→LR R l m
 | [],[],_,_=>trivial
 |a::l,b::m,hl,h=>⟨h 0 a b (by simp) (by simp),LR.of_get (by simpa using hl) fun i a b h1 h2=>h (i+1) a b (by simpa using h1) (by simpa using h2)⟩
 | [],_::_,hl,_=>by simp at hl
 |_::_,[],hl,_=>by simp at hl
theorem LR.append:∀ {l:List α}{m:List β}{l':List α}{m':List β},LR R l m→LR R l' m'→LR R (l++l') (m++m')
 | [],[],_,_,_,h'=>h'
 |_::_,_::_,_,_,h,h'=>⟨h.1,LR.append h.2 h'⟩
 | [],_::_,_,_,h,_=>h.elim
 |_::_,[],_,_,h,_=>h.elim
theorem LR.take:∀ {l:List α}{m:List β}(n:Nat),LR R l m→LR R (l.take n) (m.take n)
 | [],[],_,_=>by simp[LR]
 |_::_,_::_,0,_=>by simp[LR]
 |_::_,_::_,n+1,h=>by simp only[List.take_succ_cons];exact⟨h.1,LR.take n h.2⟩
 | [],_::_,_,h=>h.elim
 |_::_,[],_,h=>h.elim
theorem LR.drop:∀ {l:List α}{m:List β}(n:Nat),LR R l m→LR R (l.drop n) (m.drop n)
 | [],[],_,_=>by simp[LR]
 |_::_,_::_,0,h=>h
 |_::_,_::_,n+1,h=>by simp only[List.drop_succ_cons];exact LR.drop n h.2
 | [],_::_,_,h=>h.elim
 |_::_,[],_,h=>h.elim
theorem LR.map {γ:Type}(f:γ→β):∀ {l:List α}{m:List γ},LR (fun a c=>R a (f c)) l m→LR R l (m.map f)
 | [],[],_=>trivial
 |_::_,_::_,h=>⟨h.1,LR.map f h.2⟩
 | [],_::_,h=>h.elim
 |_::_,[],h=>h.elim
theorem LR.all {Q:β→Prop}(h:∀a b,R a b→Q b):∀ {l:List α}{m:List β},LR R l m→ ∀b∈m,Q b
 | [],[],_,b,hb=>by simp at hb
 |_::_,_::_,hh,b,hb=>by
  rcases List.mem_cons.1 hb with e |hb
  ·exact e▸h _ _ hh.1
  ·exact LR.all h hh.2 b hb
 | [],_::_,hh,_,_=>hh.elim
 |_::_,[],hh,_,_=>hh.elim
end
abbrev Rho:=Nat→Option (Nat×Nat×Nat)
def Rho.le (ρ ρ':Rho):Prop:=∀x y,ρ x=some y→ρ' x=some y
theorem Rho.le_refl (ρ:Rho):ρ.le ρ:=fun _ _ h=>h
theorem Rho.le_trans {a b c:Rho}(h:a.le b) (k:b.le c):a.le c:=fun _ _ e=>k _ _ (h _ _ e)
def PR (ρ:Rho) (x o:Nat) (v:Value):Prop:=∃cb sh z,ρ x=some (cb,sh,z)∧v= .pointer (some ⟨cb,sh+o,none⟩)
def LS (ρ:Rho) (x o n e:Nat) (full:Bool) (v:Value):Prop:=
 ∃cb sh z a cap,ρ x=some (cb,sh,z)∧v= .slice (some a) n cap∧n≤cap∧(full=true→cap=n)∧(0 < cap→a=⟨cb,sh+o,none⟩)∧sh+o+cap*e≤z∧0 < e
def SR (ρ:Rho):S→Value→Prop
 | .un,v=>v.oneCell'=true
 | .b x,v=>v= .bool x
 | .i n,v=>v= .int .i64 n
 | .j k n,v=>v= .int k n
 | .s l,v=>∃bs:ByteArray,v= .string bs∧bs.data.toList.map UInt8.toNat=l
 | .p0,v=>v= .pointer none
 | .p x o,v=>PR ρ x o v
 | .l0,v=>v= .slice none 0 0
 | .l x o n e full,v=>LS ρ x o n e full v
 | .f g cs,v=>∃arr:Array Value,v= .func (.func g) #[] arr∧LR (fun(c:Nat×Nat) v=>PR ρ c.1 c.2 v) cs arr.toList
 | .f0,v=>v= .nilFunc
def VR0 (ρ:Rho):V→Value→Prop
 | .o,_=>True
 | .c s,v=>SR ρ s v
 | .a l,v=>∃arr:Array Value,v= .agg arr∧LR (SR ρ) l arr.toList
 | .t _,_=>False
def VR (ρ:Rho):V→Value→Prop
 | .t l,v=>∃arr:Array Value,v= .tuple arr∧LR (VR0 ρ) l arr.toList
 | .o,_=>True
 | .c s,v=>SR ρ s v
 | .a l,v=>∃arr:Array Value,v= .agg arr∧LR (SR ρ) l arr.toList
theorem PR.mono {ρ ρ':Rho}(h:ρ.le ρ') {x o:Nat}{v:Value}:PR ρ x o v→PR ρ' x o v:=
 fun⟨cb,sh,z,h1,h2⟩=>⟨cb,sh,z,h _ _ h1,h2⟩
theorem SR.mono {ρ ρ':Rho}(h:ρ.le ρ') {s:S}{v:Value}(hs:SR ρ s v):SR ρ' s v:=by
 cases s with
 |p x o=>exact PR.mono h hs
 |l x o n e full=>obtain⟨cb,sh,z,a,cap,h1,hr⟩:=hs;exact⟨cb,sh,z,a,cap,h _ _ h1,hr⟩
 |f g cs=>obtain⟨arr,h1,h2⟩:=hs;exact⟨arr,h1,h2.mono fun _ _=>PR.mono h⟩
 |_=>exact hs
theorem VR0.mono {ρ ρ':Rho}(h:ρ.le ρ') {s:V}{v:Value}(hs:VR0 ρ s v):VR0 ρ' s v:=by
 cases s with
 |o=>trivial
 |c s=>exact SR.mono h hs
 |a l=>obtain⟨arr,h1,h2⟩:=hs;exact⟨arr,h1,h2.mono fun _ _=>SR.mono h⟩
 |t l=>exact hs.elim
theorem VR.mono {ρ ρ':Rho}(h:ρ.le ρ') {s:V}{v:Value}(hs:VR ρ s v):VR ρ' s v:=by
 cases s with
 |o=>trivial
 |c s=>exact SR.mono h hs
 |a l=>obtain⟨arr,h1,h2⟩:=hs;exact⟨arr,h1,h2.mono fun _ _=>SR.mono h⟩
 |t l=>obtain⟨arr,h1,h2⟩:=hs;exact⟨arr,h1,h2.mono fun _ _=>VR0.mono h⟩
theorem VR.of0 {ρ:Rho}{s:V}{v:Value}(h:VR0 ρ s v):VR ρ s v:=by cases s <;> first |exact h |exact h.elim
theorem SR.one {ρ:Rho}{s:S}{v:Value}(h:SR ρ s v):v.oneCell'=true:=by
 cases s with
 |un=>exact h
 |p x o=>obtain⟨_,_,_,_,rfl⟩:=h;rfl
 |l x o n e full=>obtain⟨_,_,_,_,_,_,rfl,_⟩:=h;rfl
 |f g cs=>obtain⟨_,rfl,_⟩:=h;rfl
 |s l=>obtain⟨_,rfl,_⟩:=h;rfl
 |_=>have h':=h;simp only[SR]at h';subst h';rfl
theorem VR.cells {ρ:Rho}{v:V}{cv:Value}{l:List S}(h:VR ρ v cv) (hl:cellsOf v=some l):LR (SR ρ) l cv.cells.toList:=by
 cases v with
 |o=>simp[cellsOf]at hl
 |c s=>
  simp only[cellsOf,Option.some.injEq]at hl;subst hl;have h1:=SR.one h;have:cv.cells= #[cv]:=by cases cv <;> first |rfl |simp[Value.oneCell']at h1
  rw[this];exact⟨h,trivial⟩
 |a l'=>
  simp only[cellsOf,Option.some.injEq]at hl;subst hl;obtain⟨arr,rfl,h2⟩:=h;exact h2
 |t l'=>simp[cellsOf]at hl
structure Rel (ρ:Rho) (s:St) (w:World):Prop where
 dom:∀x y,ρ x=some y→x < s.nb
 blk:∀x cb sh z,ρ x=some (cb,sh,z)→ ∃cs e,w.heap[cb]?=some (.cells cs e (0,0))∧cs.size=z
 con:∀x cb sh z b,ρ x=some (cb,sh,z)→s.h.get x=some b→sh+b.c.length≤z∧ ∀i sv,b.c[i]?=some sv→ ∃cv,w.cell? ⟨cb,sh+i,none⟩=some cv∧SR ρ sv cv
 inj:∀x y cb sh sh' z z' bx b',x≠y→ρ x=some (cb,sh,z)→ρ y=some (cb,sh',z')→s.h.get x=some bx→s.h.get y=some b'→bx.fam=b'.fam∧bx.fam≠0∧sh+b'.d=sh'+bx.d
 fam:∀x b f,s.h.get x=some b→b.fam=f+1→ ∃ms,s.fm.get f=some ms∧(x,b.d,b.c.length)∈ms
 nfl:∀x b,s.h.get x=some b→b.fam≤s.nf
 lt:∀x b,s.h.get x=some b→x < s.nb
structure Go (s:St) (ρ:Rho) (w:World) (s':St) (ρ':Rho) (w':World):Prop where
 le:ρ.le ρ'
 os:w'.os=w.os
 tape:w'.tape=w.tape
 output:w'.output=w.output
 size:w.heap.size≤w'.heap.size
 block:∀c,c < w.heap.size→(∀x sh z,ρ x≠some (c,sh,z))→w'.heap[c]?=w.heap[c]?
 new:∀x cb sh z,ρ' x=some (cb,sh,z)→(∃x0 sh0 z0,ρ x0=some (cb,sh0,z0))∨w.heap.size≤cb
 nbs:s.nb≤s'.nb
 fresh:∀x y,ρ' x=some y→ρ x=some y∨s.nb≤x
theorem Go.refl (s:St) (ρ:Rho) (w:World):Go s ρ w s ρ w:=⟨Rho.le_refl _,rfl,rfl,rfl,Nat.le_refl _,fun _ _ _=>rfl,fun x cb sh z h=> .inl ⟨x,sh,z,h⟩,Nat.le_refl _,fun _ _ h=> .inl h⟩
theorem Go.trans {s₁ s₂ s₃:St}{ρ₁ ρ₂ ρ₃:Rho}{w₁ w₂ w₃:World}(h:Go s₁ ρ₁ w₁ s₂ ρ₂ w₂) (k:Go s₂ ρ₂ w₂ s₃ ρ₃ w₃):Go s₁ ρ₁ w₁ s₃ ρ₃ w₃:=
 ⟨Rho.le_trans h.le k.le,k.os.trans h.os,k.tape.trans h.tape,k.output.trans h.output,Nat.le_trans h.size k.size,
 fun c hc hn=>(k.block c (Nat.lt_of_lt_of_le hc h.size) (fun x sh z e=>by
   rcases h.new x c sh z e with ⟨x0,sh0,z0,e0⟩ |h'
   ·exact hn _ _ _ e0
   ·omega)).trans (h.block c hc hn),
 fun x cb sh z e=>by
   rcases k.new x cb sh z e with ⟨x0,sh0,z0,e0⟩ |h'
   ·exact h.new _ _ _ _ e0
   ·exact .inr (Nat.le_trans h.size h'),
 Nat.le_trans h.nbs k.nbs,
 fun x y e=>by
   rcases k.fresh x y e with e' |e'
   ·exact h.fresh x y e'
   ·exact .inr (Nat.le_trans h.nbs e')⟩
theorem Go.states {s₁ s₂ t₁ t₂:St}{ρ ρ':Rho}{w w':World}(h:Go s₁ ρ w s₂ ρ' w') (h1:t₁.nb=s₁.nb) (h2:t₂.nb=s₂.nb):Go t₁ ρ w t₂ ρ' w':=
 ⟨h.le,h.os,h.tape,h.output,h.size,h.block,h.new,by rw[h1,h2];exact h.nbs,by rw[h1];exact h.fresh⟩
theorem Rel.drop {ρ:Rho}{s s':St}{w:World}(h:Rel ρ s w) (hb:s'.nb=s.nb) (hn:s'.nf=s.nf) (hh:∀x b,s'.h.get x=some b→s.h.get x=some b)
  (hf:∀x b f,s'.h.get x=some b→b.fam=f+1→ ∃ms,s'.fm.get f=some ms∧(x,b.d,b.c.length)∈ms):Rel ρ s' w:=
 ⟨fun x y e=>hb▸h.dom x y e,h.blk,fun x cb sh z b e e'=>h.con x cb sh z b e (hh _ _ e'),
 fun x y cb sh sh' z z' bx b' hne e1 e2 e3 e4=>h.inj x y cb sh sh' z z' bx b' hne e1 e2 (hh _ _ e3) (hh _ _ e4),hf,
 fun x b e=>hn▸h.nfl x b (hh _ _ e),fun x b e=>hb▸h.lt x b (hh _ _ e)⟩
theorem Rel.drew {ρ:Rho}{s:St}{w:World}(h:Rel ρ s w):Rel ρ s w.drew:=⟨h.dom,h.blk,h.con,h.inj,h.fam,h.nfl,h.lt⟩
theorem Go.drew {s s':St}{ρ ρ':Rho}{w w':World}(h:Go s ρ w s' ρ' w'):Go s ρ w s' ρ' w'.drew:=⟨h.le,h.os,h.tape,h.output,h.size,h.block,h.new,h.nbs,h.fresh⟩
theorem Rel.cellsAt {ρ:Rho}{s:St}{w:World}(h:Rel ρ s w) {x o n:Nat}{l:List S}(hl:cellsAt s x o n=some l) {cb sh z:Nat}(hx:ρ x=some (cb,sh,z)):
  l.length=n∧sh+o+n≤z∧ ∀i sv,l[i]?=some sv→ ∃cv,w.cell? ⟨cb,sh+o+i,none⟩=some cv∧SR ρ sv cv:=by
 unfold Ev.cellsAt at hl;cases hb:s.h.get x with
 |none=>simp[hb]at hl
 |some b=>
  simp only[hb,Dm,Dl,AB]at hl;obtain⟨hle,hl⟩:=AH hl
  ·have hle':o+n≤b.c.length:=Nat.le_of_ble_eq_true hle;simp only[Option.some.injEq]at hl;obtain⟨h1,h2⟩:=h.con x cb sh z b hx hb;subst hl;refine⟨by simp;omega,by omega,fun i sv hi=> ?_⟩;have hi':b.c[o+i]?=some sv:=by
    rw[List.getElem?_take]at hi;split at hi
    ·simpa using hi
    ·simp at hi
   have:=h2 _ _ hi'
   simpa [Nat.add_assoc] using this
theorem Rel.cells_there {ρ:Rho}{s:St}{w:World}(h:Rel ρ s w) {x o n:Nat}{l:List S}(hl:Ev.cellsAt s x o n=some l) {cb sh z:Nat}(hx:ρ x=some (cb,sh,z)):
  ∃cs:List Value,cs.length=n∧LR (SR ρ) l cs∧ ∀j v,cs[j]?=some v→w.cell? ((⟨cb,sh+o,none⟩:Addr).add j)=some v:=by
 obtain⟨h1,_,h3⟩:=h.cellsAt hl hx;have hadd:∀j,(⟨cb,sh+o,none⟩:Addr).add j=⟨cb,sh+o+j,none⟩:=fun j=>by unfold Addr.add;split <;> simp_all
 refine⟨(List.range n).map fun j=>(w.cell? ⟨cb,sh+o+j,none⟩).getD undef,by simp,?_,?_⟩
 ·refine LR.of_get (by simp[h1]) fun i a b ha hb=> ?_;obtain⟨cv,hc,hs⟩:=h3 i a ha;have hi:i < n:=by have:=(List.getElem?_eq_some_iff.1 ha).1;omega
  simp[hi,hc]at hb;exact hb▸hs
 ·intro j v hj;have hj':j < n:=by have:=(List.getElem?_eq_some_iff.1 hj).1;simpa using this
  rw[hadd];obtain⟨cv,hc,_⟩:=h3 j (l[j]'(by omega)) (by simp);simp[hj',hc]at hj;rw[hc,hj]
end Go.Ev
