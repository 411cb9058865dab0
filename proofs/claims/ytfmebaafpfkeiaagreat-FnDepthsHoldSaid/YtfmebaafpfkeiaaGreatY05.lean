/- Parts of the proof of FnDepthsHold, FnEnds, FnMeant, FnMovedWhenever, FnSizes. -/
import Derived.Test.YtfmebaafpfkeiaaGreatY01
import Derived.Test.YtfmebaafpfkeiaaGreatY04
set_option linter.unusedVariables false
set_option linter.unusedSimpArgs false
set_option maxRecDepth 1000000
set_option maxHeartbeats 16000000
namespace Go.Ev
open Go
def Ln.Ok {α β:Type}(l:Ln α β):Prop:=∀a b,l.g (l.u a b)=b
theorem NI (α:Type) (d:Nat):(sel α d).Ok:=by
 unfold sel;cases Nat.ble d 3 <;> cases Nat.ble d 1 <;> cases Nat.ble d 0 <;> cases Nat.ble d 2 <;> cases Nat.ble d 5 <;> cases Nat.ble d 4 <;> cases Nat.ble d 6 <;>
  exact fun _ _=>rfl
theorem Vz (α:Type) {d e:Nat}(hd:d < 8) (he:e < 8) (h:e≠d) (n:N8 α) (b:α):(sel α e).g ((sel α d).u n b)= (sel α e).g n:=by
 have h1:d=0∨d=1∨d=2∨d=3∨d=4∨d=5∨d=6∨d=7:=by omega
 have h2:e=0∨e=1∨e=2∨e=3∨e=4∨e=5∨e=6∨e=7:=by omega
 rcases h1 with rfl |rfl |rfl |rfl |rfl |rfl |rfl |rfl <;> rcases h2 with rfl |rfl |rfl |rfl |rfl |rfl |rfl |rfl <;> first |rfl |exact absurd rfl h
theorem Ln.comp_g {α β γ:Type}(a:Ln α β) (b:Ln β γ) (x:α):(a.comp b).g x=b.g (a.g x):=by cases a;cases b;rfl
theorem Ln.comp_u {α β γ:Type}(a:Ln α β) (b:Ln β γ) (x:α) (z:γ):(a.comp b).u x z=a.u x (b.u (a.g x) z):=by cases a;cases b;rfl
theorem Ln.comp_ok {α β γ:Type}{a:Ln α β}{b:Ln β γ}(ha:a.Ok) (hb:b.Ok):(a.comp b).Ok:=fun x z=>by
 rw[Ln.comp_g,Ln.comp_u,ha];exact hb _ _
theorem GF (α:Type):∀ (n x:Nat),(AA α n x).Ok
 |0,x=>fun _ _=>rfl
 |n+1,x=>Ln.comp_ok (NI (Tw α n) (Nat.mod x 8)) (GF α n (Nat.div x 8))
theorem IK (α:Type):∀ (n x y:Nat),x < 8^ n→y < 8^ n→y≠x→ ∀t b,(AA α n y).g ((AA α n x).u t b)= (AA α n y).g t
 |0,x,y,hx,hy,h=>by simp at hx hy;omega
 |n+1,x,y,hx,hy,h=>fun t b=>by
  have cg:∀t:Tw α (n+1),(AA α (n+1) y).g t= (AA α n (Nat.div y 8)).g ((sel (Tw α n) (Nat.mod y 8)).g t):=fun t=>Ln.comp_g _ _ t;have cu:(AA α (n+1) x).u t b= (sel (Tw α n) (Nat.mod x 8)).u t ((AA α n (Nat.div x 8)).u ((sel (Tw α n) (Nat.mod x 8)).g t) b):=Ln.comp_u _ _ t b;refine(cg _).trans (Eq.trans ?_ (cg t).symm);have e8:8^ (n+1)=8*8^ n:=by rw[Nat.pow_succ,Nat.mul_comm]
  have hmx:Nat.mod x 8 < 8:=Nat.mod_lt _ (by decide);have hmy:Nat.mod y 8 < 8:=Nat.mod_lt _ (by decide);by_cases hm:Nat.mod y 8=Nat.mod x 8
  ·have e1:(sel (Tw α n) (Nat.mod y 8)).g ((AA α (n+1) x).u t b)= (AA α n (Nat.div x 8)).u ((sel (Tw α n) (Nat.mod x 8)).g t) b:=by
    rw[cu,hm];exact NI (Tw α n) (Nat.mod x 8) t _
   rw[e1,hm];refine IK α n _ _ ?_ ?_ ?_ _ _
   ·show x/8 < _;omega
   ·show y/8 < _;omega
   ·intro hd;have hm':y%8=x%8:=hm;have hd':y/8=x/8:=hd;omega
  ·have e1:(sel (Tw α n) (Nat.mod y 8)).g ((AA α (n+1) x).u t b)= (sel (Tw α n) (Nat.mod y 8)).g t:=by
    rw[cu];exact Vz (Tw α n) hmx hmy hm t _
   rw[e1]
theorem GG {a b:Nat}(h:¬a≤b):Nat.ble a b=false:=by rw[Bool.eq_false_iff];intro h';exact h (Nat.le_of_ble_eq_true h')
theorem IL {i:Nat}(h:¬i≤31):Bh i=EC i:=by unfold Bh;rw[GG h];rfl
theorem IN {i:Nat}(h:i≤543):EC i=⟨EK.gh (AA V 3 (i - 32)).g,EK.ph (AA V 3 (i - 32)).u⟩:=by
 unfold EC;rw[Nat.ble_eq_true_of_le h]
 show(Ln.rec (motive:=fun _=>Sl) (fun g u=>⟨EK.gh g,EK.ph u⟩) (AA V 3 (i - 32)):Sl)=_
 cases AA V 3 (i - 32);rfl
theorem IP {i:Nat}(h:¬i≤543):EC i=⟨fun _=> .o,fun _ _ _=>false⟩:=by unfold EC;rw[GG h];rfl
theorem VA (i:Nat) {e e':EK}(h:e.hi=e'.hi):(EC i).g e= (EC i).g e':=by
 by_cases hi:i≤543
 ·rw[IN hi];show(AA V 3 (i - 32)).g e.hi= (AA V 3 (i - 32)).g e'.hi;rw[h]
 ·rw[IP hi]
def AQ (i:Nat):Prop:=∀ (v:V) (e:EK) (k:EK→Bool),(Bh i).m v e k=true→ ∃e',k e'=true∧e'.hi=e.hi∧ ∀j,j≤31→(Bh j).g e'=if j=i then v else(Bh j).g e
theorem AM {P:Nat→Prop}(h0:P 0) (h1:P 1) (h2:P 2) (h3:P 3) (h4:P 4) (h5:P 5) (h6:P 6) (h7:P 7) (h8:P 8) (h9:P 9) (h10:P 10) (h11:P 11) (h12:P 12) (h13:P 13) (h14:P 14) (h15:P 15) (h16:P 16) (h17:P 17) (h18:P 18) (h19:P 19) (h20:P 20) (h21:P 21) (h22:P 22) (h23:P 23) (h24:P 24) (h25:P 25) (h26:P 26) (h27:P 27) (h28:P 28) (h29:P 29) (h30:P 30) (h31:P 31):∀i,i≤31→P i
 |0,_=>h0
 |1,_=>h1
 |2,_=>h2
 |3,_=>h3
 |4,_=>h4
 |5,_=>h5
 |6,_=>h6
 |7,_=>h7
 |8,_=>h8
 |9,_=>h9
 |10,_=>h10
 |11,_=>h11
 |12,_=>h12
 |13,_=>h13
 |14,_=>h14
 |15,_=>h15
 |16,_=>h16
 |17,_=>h17
 |18,_=>h18
 |19,_=>h19
 |20,_=>h20
 |21,_=>h21
 |22,_=>h22
 |23,_=>h23
 |24,_=>h24
 |25,_=>h25
 |26,_=>h26
 |27,_=>h27
 |28,_=>h28
 |29,_=>h29
 |30,_=>h30
 |31,_=>h31
 |_+32,h=>absurd h (by omega)
theorem VB:AQ 0:=fun v e k h=>by
 cases e with
 |mk f0 f1 f2 f3 hi=>
  cases f0 with
  |mk a0 a1 a2 a3 a4 a5 a6 a7=>exact⟨_,h,rfl,AM rfl rfl rfl rfl rfl rfl rfl rfl rfl rfl rfl rfl rfl rfl rfl rfl rfl rfl rfl rfl rfl rfl rfl rfl rfl rfl rfl rfl rfl rfl rfl rfl⟩
theorem VC:AQ 1:=fun v e k h=>by
 cases e with
 |mk f0 f1 f2 f3 hi=>
  cases f0 with
  |mk a0 a1 a2 a3 a4 a5 a6 a7=>exact⟨_,h,rfl,AM rfl rfl rfl rfl rfl rfl rfl rfl rfl rfl rfl rfl rfl rfl rfl rfl rfl rfl rfl rfl rfl rfl rfl rfl rfl rfl rfl rfl rfl rfl rfl rfl⟩
theorem VD:AQ 2:=fun v e k h=>by
 cases e with
 |mk f0 f1 f2 f3 hi=>
  cases f0 with
  |mk a0 a1 a2 a3 a4 a5 a6 a7=>exact⟨_,h,rfl,AM rfl rfl rfl rfl rfl rfl rfl rfl rfl rfl rfl rfl rfl rfl rfl rfl rfl rfl rfl rfl rfl rfl rfl rfl rfl rfl rfl rfl rfl rfl rfl rfl⟩
theorem VE:AQ 3:=fun v e k h=>by
 cases e with
 |mk f0 f1 f2 f3 hi=>
  cases f0 with
  |mk a0 a1 a2 a3 a4 a5 a6 a7=>exact⟨_,h,rfl,AM rfl rfl rfl rfl rfl rfl rfl rfl rfl rfl rfl rfl rfl rfl rfl rfl rfl rfl rfl rfl rfl rfl rfl rfl rfl rfl rfl rfl rfl rfl rfl rfl⟩
theorem VF:AQ 4:=fun v e k h=>by
 cases e with
 |mk f0 f1 f2 f3 hi=>
  cases f0 with
  |mk a0 a1 a2 a3 a4 a5 a6 a7=>exact⟨_,h,rfl,AM rfl rfl rfl rfl rfl rfl rfl rfl rfl rfl rfl rfl rfl rfl rfl rfl rfl rfl rfl rfl rfl rfl rfl rfl rfl rfl rfl rfl rfl rfl rfl rfl⟩
theorem VG:AQ 5:=fun v e k h=>by
 cases e with
 |mk f0 f1 f2 f3 hi=>
  cases f0 with
  |mk a0 a1 a2 a3 a4 a5 a6 a7=>exact⟨_,h,rfl,AM rfl rfl rfl rfl rfl rfl rfl rfl rfl rfl rfl rfl rfl rfl rfl rfl rfl rfl rfl rfl rfl rfl rfl rfl rfl rfl rfl rfl rfl rfl rfl rfl⟩
theorem VH:AQ 6:=fun v e k h=>by
 cases e with
 |mk f0 f1 f2 f3 hi=>
  cases f0 with
  |mk a0 a1 a2 a3 a4 a5 a6 a7=>exact⟨_,h,rfl,AM rfl rfl rfl rfl rfl rfl rfl rfl rfl rfl rfl rfl rfl rfl rfl rfl rfl rfl rfl rfl rfl rfl rfl rfl rfl rfl rfl rfl rfl rfl rfl rfl⟩
theorem VI:AQ 7:=fun v e k h=>by
 cases e with
 |mk f0 f1 f2 f3 hi=>
  cases f0 with
  |mk a0 a1 a2 a3 a4 a5 a6 a7=>exact⟨_,h,rfl,AM rfl rfl rfl rfl rfl rfl rfl rfl rfl rfl rfl rfl rfl rfl rfl rfl rfl rfl rfl rfl rfl rfl rfl rfl rfl rfl rfl rfl rfl rfl rfl rfl⟩
theorem VJ:AQ 8:=fun v e k h=>by
 cases e with
 |mk f0 f1 f2 f3 hi=>
  cases f1 with
  |mk a0 a1 a2 a3 a4 a5 a6 a7=>exact⟨_,h,rfl,AM rfl rfl rfl rfl rfl rfl rfl rfl rfl rfl rfl rfl rfl rfl rfl rfl rfl rfl rfl rfl rfl rfl rfl rfl rfl rfl rfl rfl rfl rfl rfl rfl⟩
theorem VK:AQ 9:=fun v e k h=>by
 cases e with
 |mk f0 f1 f2 f3 hi=>
  cases f1 with
  |mk a0 a1 a2 a3 a4 a5 a6 a7=>exact⟨_,h,rfl,AM rfl rfl rfl rfl rfl rfl rfl rfl rfl rfl rfl rfl rfl rfl rfl rfl rfl rfl rfl rfl rfl rfl rfl rfl rfl rfl rfl rfl rfl rfl rfl rfl⟩
theorem VL:AQ 10:=fun v e k h=>by
 cases e with
 |mk f0 f1 f2 f3 hi=>
  cases f1 with
  |mk a0 a1 a2 a3 a4 a5 a6 a7=>exact⟨_,h,rfl,AM rfl rfl rfl rfl rfl rfl rfl rfl rfl rfl rfl rfl rfl rfl rfl rfl rfl rfl rfl rfl rfl rfl rfl rfl rfl rfl rfl rfl rfl rfl rfl rfl⟩
theorem VM:AQ 11:=fun v e k h=>by
 cases e with
 |mk f0 f1 f2 f3 hi=>
  cases f1 with
  |mk a0 a1 a2 a3 a4 a5 a6 a7=>exact⟨_,h,rfl,AM rfl rfl rfl rfl rfl rfl rfl rfl rfl rfl rfl rfl rfl rfl rfl rfl rfl rfl rfl rfl rfl rfl rfl rfl rfl rfl rfl rfl rfl rfl rfl rfl⟩
theorem VN:AQ 12:=fun v e k h=>by
 cases e with
 |mk f0 f1 f2 f3 hi=>
  cases f1 with
  |mk a0 a1 a2 a3 a4 a5 a6 a7=>exact⟨_,h,rfl,AM rfl rfl rfl rfl rfl rfl rfl rfl rfl rfl rfl rfl rfl rfl rfl rfl rfl rfl rfl rfl rfl rfl rfl rfl rfl rfl rfl rfl rfl rfl rfl rfl⟩
theorem VO:AQ 13:=fun v e k h=>by
 cases e with
 |mk f0 f1 f2 f3 hi=>
  cases f1 with
  |mk a0 a1 a2 a3 a4 a5 a6 a7=>exact⟨_,h,rfl,AM rfl rfl rfl rfl rfl rfl rfl rfl rfl rfl rfl rfl rfl rfl rfl rfl rfl rfl rfl rfl rfl rfl rfl rfl rfl rfl rfl rfl rfl rfl rfl rfl⟩
theorem VP:AQ 14:=fun v e k h=>by
 cases e with
 |mk f0 f1 f2 f3 hi=>
  cases f1 with
  |mk a0 a1 a2 a3 a4 a5 a6 a7=>exact⟨_,h,rfl,AM rfl rfl rfl rfl rfl rfl rfl rfl rfl rfl rfl rfl rfl rfl rfl rfl rfl rfl rfl rfl rfl rfl rfl rfl rfl rfl rfl rfl rfl rfl rfl rfl⟩
theorem VQ:AQ 15:=fun v e k h=>by
 cases e with
 |mk f0 f1 f2 f3 hi=>
  cases f1 with
  |mk a0 a1 a2 a3 a4 a5 a6 a7=>exact⟨_,h,rfl,AM rfl rfl rfl rfl rfl rfl rfl rfl rfl rfl rfl rfl rfl rfl rfl rfl rfl rfl rfl rfl rfl rfl rfl rfl rfl rfl rfl rfl rfl rfl rfl rfl⟩
theorem VS:AQ 16:=fun v e k h=>by
 cases e with
 |mk f0 f1 f2 f3 hi=>
  cases f2 with
  |mk a0 a1 a2 a3 a4 a5 a6 a7=>exact⟨_,h,rfl,AM rfl rfl rfl rfl rfl rfl rfl rfl rfl rfl rfl rfl rfl rfl rfl rfl rfl rfl rfl rfl rfl rfl rfl rfl rfl rfl rfl rfl rfl rfl rfl rfl⟩
theorem VT:AQ 17:=fun v e k h=>by
 cases e with
 |mk f0 f1 f2 f3 hi=>
  cases f2 with
  |mk a0 a1 a2 a3 a4 a5 a6 a7=>exact⟨_,h,rfl,AM rfl rfl rfl rfl rfl rfl rfl rfl rfl rfl rfl rfl rfl rfl rfl rfl rfl rfl rfl rfl rfl rfl rfl rfl rfl rfl rfl rfl rfl rfl rfl rfl⟩
theorem VU:AQ 18:=fun v e k h=>by
 cases e with
 |mk f0 f1 f2 f3 hi=>
  cases f2 with
  |mk a0 a1 a2 a3 a4 a5 a6 a7=>exact⟨_,h,rfl,AM rfl rfl rfl rfl rfl rfl rfl rfl rfl rfl rfl rfl rfl rfl rfl rfl rfl rfl rfl rfl rfl rfl rfl rfl rfl rfl rfl rfl rfl rfl rfl rfl⟩
theorem VW:AQ 19:=fun v e k h=>by
 cases e with
 |mk f0 f1 f2 f3 hi=>
  cases f2 with
  |mk a0 a1 a2 a3 a4 a5 a6 a7=>exact⟨_,h,rfl,AM rfl rfl rfl rfl rfl rfl rfl rfl rfl rfl rfl rfl rfl rfl rfl rfl rfl rfl rfl rfl rfl rfl rfl rfl rfl rfl rfl rfl rfl rfl rfl rfl⟩
theorem VX:AQ 20:=fun v e k h=>by
 cases e with
 |mk f0 f1 f2 f3 hi=>
  cases f2 with
  |mk a0 a1 a2 a3 a4 a5 a6 a7=>exact⟨_,h,rfl,AM rfl rfl rfl rfl rfl rfl rfl rfl rfl rfl rfl rfl rfl rfl rfl rfl rfl rfl rfl rfl rfl rfl rfl rfl rfl rfl rfl rfl rfl rfl rfl rfl⟩
theorem VY:AQ 21:=fun v e k h=>by
 cases e with
 |mk f0 f1 f2 f3 hi=>
  cases f2 with
  |mk a0 a1 a2 a3 a4 a5 a6 a7=>exact⟨_,h,rfl,AM rfl rfl rfl rfl rfl rfl rfl rfl rfl rfl rfl rfl rfl rfl rfl rfl rfl rfl rfl rfl rfl rfl rfl rfl rfl rfl rfl rfl rfl rfl rfl rfl⟩
theorem VZ:AQ 22:=fun v e k h=>by
 cases e with
 |mk f0 f1 f2 f3 hi=>
  cases f2 with
  |mk a0 a1 a2 a3 a4 a5 a6 a7=>exact⟨_,h,rfl,AM rfl rfl rfl rfl rfl rfl rfl rfl rfl rfl rfl rfl rfl rfl rfl rfl rfl rfl rfl rfl rfl rfl rfl rfl rfl rfl rfl rfl rfl rfl rfl rfl⟩
theorem V1:AQ 23:=fun v e k h=>by
 cases e with
 |mk f0 f1 f2 f3 hi=>
  cases f2 with
  |mk a0 a1 a2 a3 a4 a5 a6 a7=>exact⟨_,h,rfl,AM rfl rfl rfl rfl rfl rfl rfl rfl rfl rfl rfl rfl rfl rfl rfl rfl rfl rfl rfl rfl rfl rfl rfl rfl rfl rfl rfl rfl rfl rfl rfl rfl⟩
theorem V2:AQ 24:=fun v e k h=>by
 cases e with
 |mk f0 f1 f2 f3 hi=>
  cases f3 with
  |mk a0 a1 a2 a3 a4 a5 a6 a7=>exact⟨_,h,rfl,AM rfl rfl rfl rfl rfl rfl rfl rfl rfl rfl rfl rfl rfl rfl rfl rfl rfl rfl rfl rfl rfl rfl rfl rfl rfl rfl rfl rfl rfl rfl rfl rfl⟩
theorem V3:AQ 25:=fun v e k h=>by
 cases e with
 |mk f0 f1 f2 f3 hi=>
  cases f3 with
  |mk a0 a1 a2 a3 a4 a5 a6 a7=>exact⟨_,h,rfl,AM rfl rfl rfl rfl rfl rfl rfl rfl rfl rfl rfl rfl rfl rfl rfl rfl rfl rfl rfl rfl rfl rfl rfl rfl rfl rfl rfl rfl rfl rfl rfl rfl⟩
theorem V4:AQ 26:=fun v e k h=>by
 cases e with
 |mk f0 f1 f2 f3 hi=>
  cases f3 with
  |mk a0 a1 a2 a3 a4 a5 a6 a7=>exact⟨_,h,rfl,AM rfl rfl rfl rfl rfl rfl rfl rfl rfl rfl rfl rfl rfl rfl rfl rfl rfl rfl rfl rfl rfl rfl rfl rfl rfl rfl rfl rfl rfl rfl rfl rfl⟩
theorem V5:AQ 27:=fun v e k h=>by
 cases e with
 |mk f0 f1 f2 f3 hi=>
  cases f3 with
  |mk a0 a1 a2 a3 a4 a5 a6 a7=>exact⟨_,h,rfl,AM rfl rfl rfl rfl rfl rfl rfl rfl rfl rfl rfl rfl rfl rfl rfl rfl rfl rfl rfl rfl rfl rfl rfl rfl rfl rfl rfl rfl rfl rfl rfl rfl⟩
theorem V6:AQ 28:=fun v e k h=>by
 cases e with
 |mk f0 f1 f2 f3 hi=>
  cases f3 with
  |mk a0 a1 a2 a3 a4 a5 a6 a7=>exact⟨_,h,rfl,AM rfl rfl rfl rfl rfl rfl rfl rfl rfl rfl rfl rfl rfl rfl rfl rfl rfl rfl rfl rfl rfl rfl rfl rfl rfl rfl rfl rfl rfl rfl rfl rfl⟩
theorem V7:AQ 29:=fun v e k h=>by
 cases e with
 |mk f0 f1 f2 f3 hi=>
  cases f3 with
  |mk a0 a1 a2 a3 a4 a5 a6 a7=>exact⟨_,h,rfl,AM rfl rfl rfl rfl rfl rfl rfl rfl rfl rfl rfl rfl rfl rfl rfl rfl rfl rfl rfl rfl rfl rfl rfl rfl rfl rfl rfl rfl rfl rfl rfl rfl⟩
theorem V8:AQ 30:=fun v e k h=>by
 cases e with
 |mk f0 f1 f2 f3 hi=>
  cases f3 with
  |mk a0 a1 a2 a3 a4 a5 a6 a7=>exact⟨_,h,rfl,AM rfl rfl rfl rfl rfl rfl rfl rfl rfl rfl rfl rfl rfl rfl rfl rfl rfl rfl rfl rfl rfl rfl rfl rfl rfl rfl rfl rfl rfl rfl rfl rfl⟩
theorem V9:AQ 31:=fun v e k h=>by
 cases e with
 |mk f0 f1 f2 f3 hi=>
  cases f3 with
  |mk a0 a1 a2 a3 a4 a5 a6 a7=>exact⟨_,h,rfl,AM rfl rfl rfl rfl rfl rfl rfl rfl rfl rfl rfl rfl rfl rfl rfl rfl rfl rfl rfl rfl rfl rfl rfl rfl rfl rfl rfl rfl rfl rfl rfl rfl⟩
theorem Wa:∀i,i≤31→AQ i:=AM VB VC VD VE VF VG VH VI VJ VK VL VM VN VO VP VQ VS VT VU VW VX VY VZ V1 V2 V3 V4 V5 V6 V7 V8 V9
theorem Wb {i:Nat}{v:V}{e:EK}{k:EK→Bool}(h:(Bh i).m v e k=true):∃e',k e'=true∧ ∀j,(Bh j).g e'=if j=i then v else(Bh j).g e:=by
 by_cases h1:i≤31
 ·obtain⟨e',h2,h3,h4⟩:=Wa i h1 v e k h;refine⟨e',h2,fun j=> ?_⟩;by_cases hj:j≤31
  ·exact h4 j hj
  ·rw[if_neg (by omega),IL hj];exact VA j h3
 ·rw[IL h1]at h;by_cases h2:i≤543
  ·rw[IN h2]at h;cases e with
   |mk f0 f1 f2 f3 hi=>
    refine⟨⟨f0,f1,f2,f3,(AA V 3 (i - 32)).u hi v⟩,h,fun j=> ?_⟩;by_cases hj:j≤31
    ·rw[if_neg (by omega)];exact AM (P:=fun j=>(Bh j).g ⟨f0,f1,f2,f3,(AA V 3 (i - 32)).u hi v⟩= (Bh j).g ⟨f0,f1,f2,f3,hi⟩) rfl rfl rfl rfl rfl rfl rfl rfl rfl rfl rfl rfl rfl rfl rfl rfl rfl rfl rfl rfl rfl rfl rfl rfl rfl rfl rfl rfl rfl rfl rfl rfl j hj
    ·rw[IL hj];by_cases hj2:j≤543
     ·rw[IN hj2]
      show(AA V 3 (j - 32)).g ((AA V 3 (i - 32)).u hi v)=if j=i then v else(AA V 3 (j - 32)).g hi
      by_cases hji:j=i
      ·subst hji;rw[if_pos rfl];exact GF V 3 _ _ _
      ·rw[if_neg hji];exact IK V 3 _ _ (by show i - 32 < 512;omega) (by show j - 32 < 512;omega) (by omega) _ _
     ·rw[IP hj2,if_neg (by omega)]
  ·rw[IP h2]at h;cases h
def RE (e:EK) (t:E):Prop:=AF e=ov t
theorem RE.gt {e:EK}{t:E}(h:RE e t) (x:O):(gt x).f e=ov t x:=by
 rw[←h];cases x with
 |t i=>show(Sl.rec (motive:=fun _=>Gt) (fun g _=>⟨g⟩) (Bh i):Gt).f e= (Bh i).g e;cases Bh i;rfl
 |k v=>rfl
theorem Wc (t:E) (d:Option Nat) (v:V) (x:O):ov (put t d v) x=match d,x with |some i,.t j=>if j=i then v else ov t (.t j) |_,x=>ov t x:=by
 cases d with
 |none=>rfl
 |some i=>
  cases x with
  |k v=>rfl
  |t j=>
   show(match (T.upd (some v) t i).get j with |some v=>v |none=>V.o)=_
   rw[T.get_upd];by_cases h:j=i
   ·simp[h]
   ·simp only[if_neg h];rfl
theorem RE.put {e:EK}{t:E}(h:RE e t) {d:Option Nat}{v:V}{k:EK→Bool}(hk:(pt d).f v e k=true):∃e',RE e' (put t d v)∧k e'=true:=by
 cases d with
 |none=>exact⟨e,h,hk⟩
 |some i=>
  have hk':(Bh i).m v e k=true:=by
   have h':(Sl.rec (motive:=fun _=>Pt) (fun _ m=>⟨m⟩) (Bh i):Pt).f v e k=true:=hk
   revert h'
   cases Bh i;exact fun h=>h
  obtain⟨e',h1,h2⟩:=Wb hk';refine⟨e',?_,h1⟩
  funext x
  rw[Wc];cases x with
  |k v=>rfl
  |t j=>
   show(Bh j).g e'=if j=i then v else ov t (.t j)
   rw[h2,←h];rfl
theorem RE.zero:RE EK.zero T.lf:=by
 funext x
 cases x with
 |k v=>rfl
 |t i=>
  show(Bh i).g EK.zero=ov T.lf (.t i)
  have hz:ov T.lf (.t i)= .o:=by show(match (T.lf:T V).get i with |some v=>v |none=>V.o)=_;rw[T.get_lf]
  rw[hz];have hall:∀n x,(AA V n x).g (Tw.all .o n)= .o:=by
   intro n;induction n with
   |zero=>intro x;rfl
   |succ n ih=>
    intro x
    show(Ln.comp (sel (Tw V n) (Nat.mod x 8)) (AA V n (Nat.div x 8))).g (N8.all (Tw.all .o n))= .o
    rw[Ln.comp_g];have:(sel (Tw V n) (Nat.mod x 8)).g (N8.all (Tw.all .o n))=Tw.all .o n:=by
     have h1:Nat.mod x 8 < 8:=Nat.mod_lt _ (by decide);generalize Nat.mod x 8=d at h1;have h2:d=0∨d=1∨d=2∨d=3∨d=4∨d=5∨d=6∨d=7:=by omega
     rcases h2 with rfl |rfl |rfl |rfl |rfl |rfl |rfl |rfl <;> rfl
    rw[this,ih]
  by_cases h1:i≤31
  ·exact AM (P:=fun i=>(Bh i).g EK.zero= .o) rfl rfl rfl rfl rfl rfl rfl rfl rfl rfl rfl rfl rfl rfl rfl rfl rfl rfl rfl rfl rfl rfl rfl rfl rfl rfl rfl rfl rfl rfl rfl rfl i h1
  ·rw[IL h1];by_cases h2:i≤543
   ·rw[IN h2];exact hall 3 _
   ·rw[IP h2]
theorem NJ (t:E) (d:Nat) (x:Option O):C8 (ov t) d x=onD t d x:=by cases x <;> rfl
theorem We (t:E) (w:W):wvR (ov t) w=wv t w:=by cases w <;> rfl
theorem NK (t:E) (a:A):avR (ov t) a=av t a:=by cases a <;> rfl
theorem DN {v:Option V}{k:V→Bool}(h:vk v k=true):∃u,v=some u∧k u=true:=by
 cases v with
 |none=>cases h
 |some u=>exact⟨u,rfl,h⟩
theorem FP {b:Bool}{k:V→Bool}(h:bk b k=true):k (.c (.b b))=true:=by cases b <;> exact h
theorem Ds {v:V}{k:S→Bool}(h:unC v k=true):∃s,v= .c s∧k s=true:=by
 cases v with
 |c s=>exact⟨s,rfl,h⟩
 |_=>cases h
theorem NL {v:V}{k:Bool→Bool}(h:unB v k=true):∃n,v= .c (.b n)∧k n=true:=by
 obtain⟨s,rfl,h⟩:=Ds h;cases s with
 |b n=>exact⟨n,rfl,h⟩
 |_=>cases h
theorem Kk {v:V}{k:Nat→Nat→Bool}(h:unP v k=true):∃a b,v= .c (.p a b)∧k a b=true:=by
 obtain⟨s,rfl,h⟩:=Ds h;cases s with
 |p a b=>exact⟨a,b,rfl,h⟩
 |_=>cases h
theorem Wf {v:V}{k:List S→Bool}(h:unA v k=true):∃l,v= .a l∧k l=true:=by
 cases v with
 |a l=>exact⟨l,rfl,h⟩
 |_=>cases h
theorem Wg {v:V}{k:Nat→Nat→Nat→Nat→Bool→Bool}(h:unL v k=true):∃a b c d e,v= .c (.l a b c d e)∧k a b c d e=true:=by
 obtain⟨s,rfl,h⟩:=Ds h;cases s with
 |l a b c d e=>exact⟨a,b,c,d,e,rfl,h⟩
 |_=>cases h
theorem NM:∀ {l:List S}{n:Nat}{k:S→Bool},cellAt l n k=true→ ∃s,l[n]?=some s∧k s=true
 | [],n,k,h=>by cases h
 |x::l,n,k,h=>by
  have h':Bool.rec (motive:=fun _=>Bool) (cellAt l (n - 1) k) (k x) (Nat.beq n 0)=true:=h;cases n with
  |zero=>exact⟨x,rfl,h'⟩
  |succ n=>
   have h2:cellAt l n k=true:=h';obtain⟨s,h3,h4⟩:=NM h2;exact⟨s,by simpa using h3,h4⟩
theorem EF {f:Nat→Nat→(V→Bool)→Bool}{op:BinOp}{a b:Int}{k:V→Bool}(hf:∀m n k,f m n k=true→ ∃v,A9 op (.ofNat m) (.ofNat n)=some v∧k v=true)
  (h:D9 f (fun a b k=>vk (A9 op a b) k) a b k=true):∃v,A9 op a b=some v∧k v=true:=by
 cases a with
 |ofNat m=>
  cases b with
  |ofNat n=>exact hf _ _ _ h
  |negSucc n=>exact DN h
 |negSucc m=>exact DN h
theorem Wh {m n:Nat}{k:V→Bool}(h:Nn m n k=true):∃v,A9 .add (.ofNat m) (.ofNat n)=some v∧k v=true:=by
 have h':Bool.rec (motive:=fun _=>Bool) (vk (A9 .add (.ofNat m) (.ofNat n)) k) (k (.c (.i (.ofNat (m+n))))) (Nat.ble (m+n) m63)=true:=h;cases hb:Nat.ble (m+n) m63 with
 |false=>rw[hb]at h';exact DN h'
 |true=>
  rw[hb]at h';refine⟨_,?_,h'⟩
  show some (V.c (.i (w64 (Int.add (.ofNat m) (.ofNat n)))))=_
  rw[show Int.add (.ofNat m) (.ofNat n)= .ofNat (m+n)from rfl];unfold w64;simp only[hb,cond_true]
theorem Wi {m n:Nat}{k:V→Bool}(h:No m n k=true):∃v,A9 .sub (.ofNat m) (.ofNat n)=some v∧k v=true:=by
 have h':Bool.rec (motive:=fun _=>Bool) (vk (A9 .sub (.ofNat m) (.ofNat n)) k) (k (.c (.i (.ofNat (m - n))))) (Nat.ble n m&& Nat.ble m m63)=true:=h;cases hb:(Nat.ble n m&& Nat.ble m m63)with
 |false=>rw[hb]at h';exact DN h'
 |true=>
  rw[hb]at h';refine⟨_,?_,h'⟩
  show some (V.c (.i (w64 (Int.sub (.ofNat m) (.ofNat n)))))=_
  obtain⟨h1,h2⟩:=(Bool.and_eq_true _ _).mp hb;have h1:=Nat.le_of_ble_eq_true h1;have h2:=Nat.le_of_ble_eq_true h2;have e:Int.sub (.ofNat m) (.ofNat n)= .ofNat (m - n):=by
   show(m:Int) - (n:Int)= ((m - n:Nat):Int)
   omega
  have hb':Nat.ble (m - n) m63=true:=Nat.ble_eq_true_of_le (by omega);rw[e];unfold w64;simp only[hb',cond_true]
theorem NP (m n:Nat):(not (Nat.ble n m))=Nat.ble (m+1) n:=by
 by_cases h:n≤m
 ·rw[Nat.ble_eq_true_of_le h,GG (by omega)];rfl
 ·rw[GG h,Nat.ble_eq_true_of_le (by omega)];rfl
theorem Wj {op:BinOp}{a b:Int}{k:V→Bool}(h:(bf op).f a b k=true):∃v,A9 op a b=some v∧k v=true:=by
 cases op with
 |add=>exact EF (fun _ _ _=>Wh) h
 |sub=>exact EF (fun _ _ _=>Wi) h
 |eql=>exact EF (fun _ _ _ h=>⟨_,rfl,FP h⟩) h
 |neq=>exact EF (fun _ _ _ h=>⟨_,rfl,FP h⟩) h
 |lss=>exact EF (fun m n _ h=>⟨_,by show some (V.c (.b (not (Nat.ble n m))))=some (V.c (.b (Nat.ble (m+1) n)));rw[NP],FP h⟩) h
 |leq=>exact EF (fun _ _ _ h=>⟨_,rfl,FP h⟩) h
 |gtr=>exact EF (fun m n _ h=>⟨_,by show some (V.c (.b (not (Nat.ble m n))))=some (V.c (.b (Nat.ble (n+1) m)));rw[NP],FP h⟩) h
 |geq=>exact EF (fun _ _ _ h=>⟨_,rfl,FP h⟩) h
 |_=>exact DN h
def KB.bk (b:KB):Bk:=⟨b.r.reverse,b.fam,b.d⟩
structure RS (s:KS) (u:St):Prop where
 nb:u.nb=s.nb
 nf:u.nf=s.nf
 fm:u.fm=s.fm
 h:∀x,u.h.get x= (AI s x).map KB.bk
 n:∀x b,AI s x=some b→b.n=b.r.length
noncomputable def Dt (x:Nat):Ln HK (Option KB):=Ln.comp (AA (Tw (Option KB) 3) 3 (x%512)) (AA (Option KB) 3 (x/512))
theorem blk_ok {x:Nat}(h:x≤262143):Bd x=⟨(Dt x).g,blM (Dt x).u⟩:=by
 unfold Bd;rw[Nat.ble_eq_true_of_le h]
 show(Ln.rec (motive:=fun _=>Bl) (fun g u=>⟨g,blM u⟩) (Dt x):Bl)=_
 cases Dt x;rfl
theorem Kl {x:Nat}(h:¬x≤262143):Bd x=⟨fun _=>none,fun _ _ _=>false⟩:=by
 unfold Bd;rw[GG h];rfl
theorem Wl (x:Nat):(Dt x).Ok:=Ln.comp_ok (GF _ _ _) (GF _ _ _)
theorem Wm {x y:Nat}(hx:x≤262143) (hy:y≤262143) (h:y≠x) (t:HK) (b:Option KB):(Dt y).g ((Dt x).u t b)= (Dt y).g t:=by
 have cg:∀t:HK,(Dt y).g t= (AA (Option KB) 3 (y/512)).g ((AA (Tw (Option KB) 3) 3 (y%512)).g t):=fun t=>Ln.comp_g _ _ t;have cu:(Dt x).u t b= (AA (Tw (Option KB) 3) 3 (x%512)).u t ((AA (Option KB) 3 (x/512)).u ((AA (Tw (Option KB) 3) 3 (x%512)).g t) b):=Ln.comp_u _ _ t b;rw[cg,cg,cu];by_cases hm:y%512=x%512
 ·rw[hm,GF];exact IK (Option KB) 3 _ _ (by show x/512 < 512;omega) (by show y/512 < 512;omega) (by omega) _ _
 ·rw[IK (Tw (Option KB) 3) 3 _ _ (by show x%512 < 512;omega) (by show y%512 < 512;omega) hm]
theorem IQ {x:Nat}{b:Option KB}{h:HK}{k:HK→Bool}(hk:(Bd x).m b h k=true):∃h',k h'=true∧ ∀y,(Bd y).g h'=if y=x then b else(Bd y).g h:=by
 by_cases h1:x≤262143
 ·rw[blk_ok h1]at hk;refine⟨(Dt x).u h b,hk,fun y=> ?_⟩;by_cases hy:y=x
  ·subst hy;rw[if_pos rfl,blk_ok h1];exact Wl y _ _
  ·rw[if_neg hy];by_cases hy1:y≤262143
   ·rw[blk_ok hy1];exact Wm h1 hy1 hy _ _
   ·rw[Kl hy1]
 ·rw[Kl h1]at hk;cases hk
theorem Wn {s:KS}{x:Nat}{b:Option KB}{k:KS→Bool}(h:Ck s x b k=true):
  ∃s',k s'=true∧s'.nb=s.nb∧s'.nf=s.nf∧s'.fm=s.fm∧ ∀y,AI s' y=if y=x then b else AI s y:=by
 cases s with
 |mk hh nb fm nf=>
  obtain⟨h',h1,h2⟩:=IQ (k:=fun h=>k ⟨h,nb,fm,nf⟩) h;exact⟨_,h1,rfl,rfl,rfl,h2⟩
theorem RS.set {s:KS}{u:St}(r:RS s u) {x:Nat}{b:Option KB}(hb:∀c,b=some c→c.n=c.r.length) {k:KS→Bool}(h:Ck s x b k=true):
  ∃s',k s'=true∧RS s' {u with h:=T.upd (b.map KB.bk) u.h x}∧s'.nb=s.nb:=by
 obtain⟨s',h1,h2,h3,h4,h5⟩:=Wn h;refine⟨s',h1,⟨by rw[h2];exact r.nb,by rw[h3];exact r.nf,by rw[h4];exact r.fm,fun y=> ?_,fun y c hc=> ?_⟩,h2⟩
 ·show(T.upd (b.map KB.bk) u.h x).get y=_
  rw[T.get_upd,h5];by_cases hy:y=x
  ·rw[if_pos hy,if_pos hy]
  ·rw[if_neg hy,if_neg hy];exact r.h y
 ·rw[h5]at hc;by_cases hy:y=x
  ·rw[if_pos hy]at hc;exact hb c hc
  ·rw[if_neg hy]at hc;exact r.n y c hc
theorem RS.allocB {s:KS}{u:St}(r:RS s u) {b:KB}(hb:b.n=b.r.length) {k:KS→Bool}(h:BR s b k=true):
  ∃s',k s'=true∧RS s' {u with h:=T.upd (some b.bk) u.h u.nb,nb:=Nat.succ u.nb}:=by
 cases s with
 |mk hh nb fm nf=>
  obtain⟨h',h1,h2⟩:=IQ (k:=fun h=>BQ (Nat.succ nb) fun nb=>k ⟨h,nb,fm,nf⟩) h;have h1':k ⟨h',Nat.succ nb,fm,nf⟩=true:=h1;have e:u.nb=nb:=r.nb;refine⟨_,h1',⟨by show Nat.succ u.nb=_;rw[e],r.nf,r.fm,fun y=> ?_,fun y c hc=> ?_⟩⟩
  ·show(T.upd (some b.bk) u.h u.nb).get y= ((Bd y).g h').map KB.bk
   rw[T.get_upd,h2,e];by_cases hy:y=nb
   ·rw[if_pos hy,if_pos hy];rfl
   ·rw[if_neg hy,if_neg hy];exact r.h y
  ·have hc':(Bd y).g h'=some c:=hc;rw[h2]at hc';by_cases hy:y=nb
   ·rw[if_pos hy]at hc';simp only[Option.some.injEq]at hc';exact hc'▸hb
   ·rw[if_neg hy]at hc';exact r.n y c hc'
theorem CN:∀ (l a:List S),AL l a=l.reverse++a
 | [],a=>rfl
 |x::l,a=>by show AL l (x::a)=_;rw[CN l];simp
theorem NQ:∀ (l:List S) (m:Nat) (a:List S),FM l m a= (l.take m).reverse++a
 | [],m,a=>by simp[FM]
 |x::l,m,a=>by
  show Bool.rec (motive:=fun _=>List S) (FM l (m - 1) (x::a)) a (Nat.beq m 0)=_
  cases m with
  |zero=>rfl
  |succ m=>show FM l m (x::a)=_;rw[NQ l];simp
theorem Wo (l:List S) (f d:Nat):(mkB l f d).bk=⟨l,f,d⟩:=by simp[mkB,KB.bk,CN]
theorem Wp (l:List S) (f d:Nat):(mkB l f d).n= (mkB l f d).r.length:=by simp[mkB,CN,AB]
theorem RS.alloc {s:KS}{u:St}(r:RS s u) {l:List S}{k:KS→Bool}(h:BR s (mkB l 0 0) k=true):∃s',k s'=true∧RS s' (Ev.alloc u l):=by
 obtain⟨s',h1,h2⟩:=r.allocB (Wp l 0 0) h;rw[Wo]at h2;exact⟨s',h1,h2⟩
theorem IR {α:Type}(l:List α):∀n,ED l n=l.drop n
 |0=>rfl
 |n+1=>by
  show J5 (ED l n)=_
  rw[IR l n];have:∀m:List α,J5 m=m.drop 1:=fun m=>by cases m <;> rfl
  rw[this,List.drop_drop]
theorem NS {α:Type}{l:List α}{n:Nat}{k:α→Bool}(h:atK l n k=true):∃x,l[n]?=some x∧k x=true:=by
 unfold atK at h;rw[IR]at h;cases hd:l.drop n with
 |nil=>rw[hd]at h;cases h
 |cons x t=>
  rw[hd]at h;refine⟨x,?_,h⟩;have:=congrArg (fun l=>l[0]?) hd
  simpa using this
theorem NT {b:KB}(hn:b.n=b.r.length) {o n:Nat}{l:List S}(h:FN b o n=some l):Nat.ble (Nat.add o n) (Ad b.bk.c)=true∧l=Bq (Cb b.bk.c o) n:=by
 unfold FN at h;obtain⟨h1,h2⟩:=AH h;have h1':o+n≤b.r.length:=hn▸Nat.le_of_ble_eq_true h1;have h2:some (FM (ED b.r (b.n - (o+n))) n [])=some l:=h2;simp only[Option.some.injEq]at h2;refine⟨by rw[AB];simp only[KB.bk,List.length_reverse];exact Nat.ble_eq_true_of_le h1',?_⟩;rw[←h2,NQ,Dm,IR,Dl]
 show(List.take n (List.drop (b.n - (o+n)) b.r)).reverse++ []=List.take n (List.drop o b.r.reverse)
 rw[hn,List.append_nil];apply List.ext_getElem?;intro i;rw[List.getElem?_take];by_cases hi:i < n
 ·rw[if_pos hi,List.getElem?_reverse (by simp;omega),List.getElem?_take,if_pos (by simp;omega),List.getElem?_drop,List.getElem?_drop,List.getElem?_reverse (by omega)]
  congr 1
  simp;omega
 ·rw[if_neg hi,List.getElem?_eq_none (by simp;omega)]
theorem RS.cells {s:KS}{u:St}(r:RS s u) {x o n:Nat}{l:List S}(h:Cj s x o n=some l):cellsAt u x o n=some l:=by
 unfold Cj at h;split at h
 ·rename_i b hb;unfold cellsAt;rw[r.h x,hb];obtain⟨h1,h2⟩:=NT (r.n x b hb) h;simp only[Option.map_some,h1,cond_true,h2]
 ·cases h
theorem Wq {l:List S}{o n:Nat}(hn:n=l.length) (ho:o+1≤n):l[n - (o+1)]?=Ca l.reverse o:=by
 rw[Ew,List.getElem?_reverse (by omega)]
 congr 1
 omega
theorem RS.ldv {s:KS}{u:St}(r:RS s u) {n:Option Nat}{p:S}{v:V}(h:IB s n p=some v):Ev.ldv u n p=some v:=by
 cases p with
 |p x o=>
  cases n with
  |none=>
   have h':(match Cj s x o 1 with |some (v::_)=>some (V.c v) |_=>none)=some v:=h;split at h'
   ·rename_i c t hc;simp only[Option.some.injEq]at h';subst h';have h2:=r.cells hc
    show(match u.h.get x with |some b=>(match Ca b.c o with |some v=>some (V.c v) |none=>none) |none=>none)=_
    unfold cellsAt at h2;split at h2
    ·rename_i b hb;obtain⟨h3,h4⟩:=AH h2;simp only[Option.some.injEq,Dm,Dl]at h4;have:b.c[o]?=some c:=by
      have:=congrArg (fun l=>l[0]?) h4
      simpa using this
     simp only[hb,Ew,this]
    ·cases h2
   ·cases h'
  |some n=>
   have h':(match Cj s x o n with |some l=>some (V.a l) |none=>none)=some v:=h;split at h'
   ·rename_i l hl
    show(match cellsAt u x o n with |some l=>some (V.a l) |none=>none)=some v
    rw[r.cells hl];exact h'
   ·cases h'
 |_=>cases h
theorem RS.rv {s:KS}{u:St}(r:RS s u) {t:E}{o:R}{v:V}(h:rvK (ov t) s o=some v):Ev.rv t u o=some v:=by
 cases o with
 |ld n a=>exact r.ldv h
 |bts x=>
  have h':(match os t x with
   | .l0=>some (V.c (.s []))
   | .l x o n sz _=>bif Nat.beq sz 1 then(match Cj s x o n with
    |some l=>match bytesIn l with |some b=>some (.c (.s b)) |none=>none
    |none=>none)else none
   |_=>none)=some v:=h
  show(match os t x with
   | .l0=>some (V.c (.s []))
   | .l x o n sz _=>bif Nat.beq sz 1 then(match cellsAt u x o n with
    |some l=>match bytesIn l with |some b=>some (.c (.s b)) |none=>none
    |none=>none)else none
   |_=>none)=some v
  split at h'
  ·rename_i hx;exact h'
  ·rename_i x o n sz fl hx;obtain⟨h1,h2⟩:=AH h';simp only[h1,cond_true];split at h2
   ·rename_i l hl;rw[r.cells hl];exact h2
   ·cases h2
  ·cases h'
theorem NU {b:KB}(hn:b.n=b.r.length) {o n:Nat}{l:List S}(hl:l.length=n) (ho:o+n≤b.n):(DM b o n l).bk=⟨AD b.bk.c l o,b.fam,b.d⟩ ∧(DM b o n l).n= (DM b o n l).r.length:=by
 have e1:(DM b o n l).r=AD b.r l.reverse (b.n - (o+n)):=by simp[DM,CN]
 constructor
 ·show(⟨(DM b o n l).r.reverse,b.fam,b.d⟩:Bk)=_
  congr 1
  rw[e1,DF,DF]
  show _=List.take o b.r.reverse++ (l++List.drop (o+l.length) b.r.reverse)
  apply List.ext_getElem?;intro i;have hlen:(List.take (b.n - (o+n)) b.r++ (l.reverse++List.drop (b.n - (o+n)+l.reverse.length) b.r)).length=b.r.length:=by simp;omega
  by_cases hi:i < b.r.length
  ·rw[List.getElem?_reverse (by rw[hlen];exact hi),hlen];simp only[List.getElem?_append,List.length_take,List.length_reverse,List.getElem?_take,List.getElem?_drop];by_cases h1:i < o
   ·rw[if_neg (by omega),if_neg (by omega),if_pos (by omega),if_pos (by omega),List.getElem?_reverse (by omega)]
    congr 1;omega
   ·by_cases h2:i < o+n
    ·rw[if_neg (by omega),if_pos (by omega),if_neg (by omega),if_pos (by omega),List.getElem?_reverse (by omega)]
     congr 1;omega
    ·rw[if_pos (by omega),if_pos (by omega),if_neg (by omega),if_neg (by omega),List.getElem?_reverse (by omega)]
     congr 1;omega
  ·rw[List.getElem?_eq_none (by rw[List.length_reverse,hlen];omega),List.getElem?_eq_none (by simp;omega)]
 ·show b.n=_
  rw[e1,DF];simp;omega
theorem NV (x lo hi:Nat) (h:T Bk):∀ms,(kill x lo hi h ms).1.get x=h.get x
 | []=>rfl
 |m::ms=>by
  have ih:=NV x lo hi h ms
  show(bif Nat.beq m.1 x then((kill x lo hi h ms).1,m::(kill x lo hi h ms).2)
   else bif Nat.ble (Nat.succ m.2.1) hi&& Nat.ble (Nat.succ lo) (Nat.add m.2.1 m.2.2)then(T.upd none (kill x lo hi h ms).1 m.1,(kill x lo hi h ms).2)
   else((kill x lo hi h ms).1,m::(kill x lo hi h ms).2)).1.get x=_
  cases hb:Nat.beq m.1 x with
  |true=>exact ih
  |false=>
   cases (Nat.ble (Nat.succ m.2.1) hi&& Nat.ble (Nat.succ lo) (Nat.add m.2.1 m.2.2))with
   |false=>exact ih
   |true=>
    show(T.upd none (kill x lo hi h ms).1 m.1).get x=_
    rw[T.get_upd,if_neg (by intro e;rw[e]at hb;simp at hb)];exact ih
theorem RS.kill {x lo hi:Nat}{s:KS}{u:St}(r:RS s u):∀ {ms:List (Nat×Nat×Nat)}{k:KS→List (Nat×Nat×Nat)→Bool},IC x lo hi s ms k=true→
  ∃s',k s' (Ev.kill x lo hi u.h ms).2=true∧RS s' {u with h:=(Ev.kill x lo hi u.h ms).1}∧s'.nb=s.nb
 | [],k,h=>⟨s,h,r,rfl⟩
 |m::ms,k,h=>by
  obtain⟨s',h1,h2,h3⟩:=RS.kill r (ms:=ms) (k:=fun s l=>
   Bool.rec (Bool.rec (k s (m::l)) (Ck s m.1 none fun s=>k s l) (Nat.ble (Nat.succ m.2.1) hi&& Nat.ble (Nat.succ lo) (Nat.add m.2.1 m.2.2))) (k s (m::l)) (Nat.beq m.1 x)) h
  have e:Ev.kill x lo hi u.h (m::ms)= (bif Nat.beq m.1 x then((Ev.kill x lo hi u.h ms).1,m::(Ev.kill x lo hi u.h ms).2)
   else bif Nat.ble (Nat.succ m.2.1) hi&& Nat.ble (Nat.succ lo) (Nat.add m.2.1 m.2.2)then(T.upd none (Ev.kill x lo hi u.h ms).1 m.1,(Ev.kill x lo hi u.h ms).2)
   else((Ev.kill x lo hi u.h ms).1,m::(Ev.kill x lo hi u.h ms).2)):=rfl
  cases hb:Nat.beq m.1 x with
  |true=>
   rw[hb]at h1 e;simp only[cond_true]at e;rw[e];exact⟨s',h1,h2,h3⟩
  |false=>
   rw[hb]at h1 e;simp only[cond_false]at e;cases hc:(Nat.ble (Nat.succ m.2.1) hi&& Nat.ble (Nat.succ lo) (Nat.add m.2.1 m.2.2))with
   |false=>
    rw[hc]at h1 e;simp only[cond_false]at e;rw[e];exact⟨s',h1,h2,h3⟩
   |true=>
    rw[hc]at h1 e;simp only[cond_true]at e;rw[e];obtain⟨s'',k1,k2,k3⟩:=h2.set (b:=none) (fun c hc=>by cases hc) h1;exact⟨s'',k1,k2,k3.trans h3⟩
theorem RS.prep {s:KS}{u:St}(r:RS s u) {x o n:Nat}{b:KB}(hb:AI s x=some b) (hle:Nat.ble (Nat.add o n) b.n=true) {k:KS→Bool}(h:Dq s b x o n k=true):
  ∃s' u',Ev.prep u x o n=some u'∧RS s' u'∧k s'=true∧s'.nb=s.nb∧AI s' x=some b:=by
 have hn:=r.n x b hb;have e1:u.h.get x=some b.bk:=by rw[r.h x,hb];rfl
 have e2:Nat.ble (Nat.add o n) (Ad b.bk.c)=true:=by rw[AB];simp only[KB.bk,List.length_reverse];rw[←hn];exact hle
 cases b with
 |mk br bn bf bd=>
  cases bf with
  |zero=>
   have h':k s=true:=h;have e1':u.h.get x=some ⟨br.reverse,0,bd⟩:=e1;have e2':Nat.ble (Nat.add o n) (Ad br.reverse)=true:=e2;refine⟨s,u,?_,r,h',rfl,hb⟩;unfold Ev.prep;simp only[e1',e2',cond_true]
  |succ f=>
   have h':(match s.fm.get f with
    |none=>false
    |some ms=>IC x (Nat.add bd o) (Nat.add (Nat.add bd o) n) s ms fun s l=>k (fmK s f (some l)))=true:=h
   split at h'
   ·cases h'
   ·rename_i ms hms;obtain⟨s',h1,h2,h3⟩:=r.kill h';have e1':u.h.get x=some ⟨br.reverse,f+1,bd⟩:=e1;have e2':Nat.ble (Nat.add o n) (Ad br.reverse)=true:=e2;have hms':u.fm.get f=some ms:=by rw[r.fm];exact hms
    refine⟨fmK s' f (some (Ev.kill x (Nat.add bd o) (Nat.add (Nat.add bd o) n) u.h ms).2),
     {u with h:=(Ev.kill x (Nat.add bd o) (Nat.add (Nat.add bd o) n) u.h ms).1,fm:=T.upd (some (Ev.kill x (Nat.add bd o) (Nat.add (Nat.add bd o) n) u.h ms).2) u.fm f},?_,?_,h1,h3,?_⟩
    ·unfold Ev.prep;simp only[e1',e2',cond_true,hms']
    ·have hf:u.fm=s'.fm:=h2.fm;exact⟨h2.nb,h2.nf,by unfold fmK;simp only[hf],h2.h,h2.n⟩
    ·have q1:(AI s' x).map KB.bk=some (KB.bk ⟨br,bn,Nat.succ f,bd⟩):=by
      rw[←h2.h x]
      show(Ev.kill x (Nat.add bd o) (Nat.add (Nat.add bd o) n) u.h ms).1.get x=_
      rw[NV];exact e1
     show AI s' x=_
     cases hg:AI s' x with
     |none=>rw[hg]at q1;cases q1
     |some c=>
      rw[hg]at q1;have hcn:=h2.n x c hg;simp only[Option.map_some,Option.some.injEq,KB.bk,Bk.mk.injEq,List.reverse_inj]at q1;cases c with
      |mk cr cn cf cd=>
       obtain⟨q1,q2,q3⟩:=q1;simp only at q1 q2 q3 hcn hn;subst q1 q2 q3;rw[hcn,hn]
theorem RS.store {s:KS}{u:St}(r:RS s u) {x o n:Nat}{l:List S}{k:KS→Bool}(h:EE s x o n l k=true):
  ∃s' u',Ev.store u x o n l=some u'∧RS s' u'∧k s'=true:=by
 unfold EE at h;split at h
 ·cases h
 ·rename_i b hb;cases hc:(Nat.beq (Ad l) n&& Nat.ble (Nat.add o n) b.n)with
  |false=>rw[hc]at h;cases h
  |true=>
   rw[hc]at h;have h:Dq s b x o n (fun s=>KB.rec (motive:=fun _=>Bool) (fun r m fam d=>Ck s x (some ⟨AD r (AL l []) (Nat.sub m (Nat.add o n)),m,fam,d⟩) k) b)=true:=h;obtain⟨c1,c2⟩:=(Bool.and_eq_true _ _).mp hc;obtain⟨s',u',h1,h2,h3,h4,h5⟩:=r.prep hb c2 h;have hl:l.length=n:=by rw[←AB];exact Nat.eq_of_beq_eq_true c1
   obtain⟨p1,p2⟩:=NU (r.n x b hb) hl (Nat.le_of_ble_eq_true c2);have h3:Ck s' x (some (DM b o n l)) k=true:=by cases b;exact h3
   obtain⟨s'',k1,k2,k3⟩:=h2.set (fun c hc=>by simp only[Option.some.injEq]at hc;exact hc▸p2) h3;refine⟨s'',_,?_,k2,k1⟩;unfold Ev.store;simp only[c1,cond_true,h1];unfold Ev.setc;rw[h2.h x,h5];simp only[Option.map_some,p1];rfl
theorem Wr {l:List S}{c:S}{k:Nat}(h:k < l.length):CK l c k=AD l [c] k:=by
 rw[Sy,DF];apply List.ext_getElem?;intro i;rw[List.getElem?_set];simp only[List.getElem?_append,List.length_take,List.getElem?_take,List.getElem?_drop,List.length_singleton];by_cases h1:k=i
 ·subst h1;rw[if_pos rfl,if_pos h,if_neg (by omega),if_pos (by omega)];rw[show k - min k l.length=0 by omega];rfl
 ·rw[if_neg h1];by_cases h2:i < k
  ·rw[if_pos (by omega),if_pos h2]
  ·rw[if_neg (by omega),if_neg (by omega)]
   congr 1;omega
theorem RS.store1 {s:KS}{u:St}(r:RS s u) {x o:Nat}{c:S}{k:KS→Bool}{b:KB}(hb:AI s x=some b) (hle:Nat.ble (Nat.succ o) b.n=true)
  (h:Dq s b x o 1 (fun s=>KB.rec (motive:=fun _=>Bool) (fun r m fam d'=>Ck s x (some ⟨CK r c (Nat.sub m (Nat.succ o)),m,fam,d'⟩) k) b)=true):
  ∃s' u',Ev.store u x o 1 [c]=some u'∧RS s' u'∧k s'=true:=by
 have hlt:o+1≤b.n:=Nat.le_of_ble_eq_true hle;have hn:=r.n x b hb;refine r.store (n:=1) (l:=[c]) ?_;unfold EE;rw[hb]
 show(bif Nat.beq (Ad [c]) 1&& Nat.ble (Nat.add o 1) b.n then Dq s b x o 1 (fun s=>
   KB.rec (motive:=fun _=>Bool) (fun r m fam d=>Ck s x (some ⟨AD r (AL [c] []) (Nat.sub m (Nat.add o 1)),m,fam,d⟩) k) b)else false)=true
 rw[show Nat.ble (Nat.add o 1) b.n=true from hle];cases b with
 |mk br bn bf bd=>
  have hlt':o+1≤bn:=hlt;have hn':bn=br.length:=hn;have e:CK br c (Nat.sub bn (Nat.succ o))=AD br [c] (bn - (o+1)):=by
   rw[show CK br c (Nat.sub bn (Nat.succ o))=CK br c (bn - (o+1))from rfl,Wr (by omega)]
  have h':Dq s ⟨br,bn,bf,bd⟩ x o 1 (fun s=>Ck s x (some ⟨CK br c (Nat.sub bn (Nat.succ o)),bn,bf,bd⟩) k)=true:=h;rw[e]at h';exact h'
end Go.Ev
