/- Parts of the proof of FnFuel. -/
import Derived.Test.YtifhcbeaiijkcaaGreatZ09
import Derived.Test.YtifhcbeaiijkcaaGreatRows
import Derived.Test.YtifhcbeaiijkcaaGreatZ05
import Derived.IntWalk
import Derived.Deep.AppendLies
import Derived.Test.YtifhcbeaiijkcaaGreatZ00
import Derived.Test.YtifhcbeaiijkcaaGreatZ04
import Derived.Test.YtifhcbeaiijkcaaGreatZ08
set_option linter.unusedVariables false
set_option linter.unusedSimpArgs false
set_option maxRecDepth 1000000
set_option maxHeartbeats 16000000
section
namespace Go.Proofs.YtifhcbeaiijkcaaGreat
open Go.RowKit
open _root_.Go.World renaming alloc→Wa,setCell→Ws
open _root_.Go.Proofs.Tryz renaming prog→Pq
theorem Ns:∀ (ks:List Nd) (i:Nat) (h:i < ks.length) (y:Nd),wgN.wgNs (ks.set i y)+wgN ks[i]=wgN.wgNs ks+wgN y
 |k::ks,0,h,y=>by simp only[List.set_cons_zero,List.getElem_cons_zero,wgN.wgNs];omega
 |k::ks,i+1,h,y=>by
  have:=Ns ks i (by simpa using h) y;simp only[List.set_cons_succ,List.getElem_cons_succ,wgN.wgNs];omega
structure El (w:World) (P m M b o s e N:Nat) (y:Nd) (kv:Value):Prop where
 at_:NdAt w b o y kv
 ow:OwI w s e kv y.kids
 nb:¬(s≤b∧b < e)
 hb:b=P∨(m≤b∧b < M)
 hs:m≤s∧e≤M
 fr:∀i,w.frozen? ⟨b,i,none⟩=false
 lt:b < w.heap.size
 hP:¬(m≤P∧P < M)∧P < w.heap.size∧M≤w.heap.size
 po:b=P→o=1
 wg:N+wgN y≤1000
 hol:∀ (w':World) (y':Nd) (kv':Value),(∀c,(c=P∨m≤c∧c < M)→c≠b→ ¬(s≤c∧c < e)→w'.heap[c]?=w.heap[c]?)→w.heap.size≤w'.heap.size→(∀i,i < o∨o+5≤i→w'.cell? ⟨b,i,none⟩=w.cell? ⟨b,i,none⟩)→NdAt w' b o y' kv'→RdNs w'.heap.size w' kv' y'.kids→
  ∃x' kvx,NdAt w' P 1 x' kvx∧RdNs w'.heap.size w' kvx x'.kids∧wgN x'≤N+wgN y'
theorem El.start {w:World}{P m M:Nat}{x:Nd}{kv:Value}(h:NdAt w P 1 x kv) (ho:OwI w m M kv x.kids) (hP:¬(m≤P∧P < M)) (hl:P < w.heap.size) (hM:M≤w.heap.size) (hf:∀i,w.frozen? ⟨P,i,none⟩=false) (hw:wgN x≤1000):El w P m M P 1 m M 0 x kv:=
 ⟨h,ho,hP,.inl rfl,⟨Ad _,Ad _⟩,hf,hl,⟨hP,hl,hM⟩,fun _=>rfl,by omega,fun w' y' kv' _ _ _ h1 h2=>⟨y',kv',h1,h2,by omega⟩⟩
theorem El.kept {w w':World}{P m M b o s e N:Nat}{y:Nd}{kv:Value}(h:El w P m M b o s e N y kv) (hs:w.heap.size≤w'.heap.size) (hk:∀c,(c=P∨m≤c∧c < M)→w'.heap[c]?=w.heap[c]?):El w' P m M b o s e N y kv:=by
 have hb:=hk b h.hb;obtain⟨a0,a1,a2,a3,a4⟩:=h.at_;refine⟨⟨(An hb).trans a0,(An hb).trans a1,(An hb).trans a2,(An hb).trans a3,(An hb).trans a4⟩,h.ow.keep (fun c h1 h2 _=>hk c (.inr ⟨by have:=h.hs;omega,by have:=h.hs;omega⟩)),h.nb,h.hb,h.hs,fun i=>(DG hb).trans (h.fr i),Aj h.lt hs,⟨h.hP.1,Aj h.hP.2.1 hs,Ar h.hP.2.2 hs⟩,h.po,h.wg,fun w2 y' kv' h1 h2 h3 h4 h5=> ?_⟩;exact h.hol w2 y' kv' (fun c e1 e2 e3=>(h1 c e1 e2 e3).trans (hk c e1)) (Ar hs h2) (fun i hi=>(h3 i hi).trans (An hb)) h4 h5
theorem El.kid {w:World}{P m M b o s e N:Nat}{y:Nd}{kv:Value}(h:El w P m M b o s e N y kv) {i:Nat}(hi:i < y.kids.length):∃b2 cap s2 e2 N2 kv2,kv= .slice (some ⟨b2,0,none⟩) y.kids.length cap∧y.kids.length≤cap∧El w P m M b2 (i*5) s2 e2 N2 y.kids[i] kv2:=by
 obtain⟨ks,hks⟩:∃ks,y.kids=ks:=⟨_,rfl⟩;have ho:=h.ow;rw[hks]at ho hi;have hgoal:∃b2 cap s2 e2 N2 kv2,kv= .slice (some ⟨b2,0,none⟩) ks.length cap∧ks.length≤cap∧El w P m M b2 (i*5) s2 e2 N2 ks[i] kv2:=by
  cases ho with
  |nil=>exact absurd hi (Ay _)
  |row _ _ b2 cap lo _ kvs ss es hb2 hrow hin hd hk=>
   obtain⟨r1,r2⟩:=Et hrow;have hl2:=(hrow.lt b2 rfl).2;obtain⟨i1,i2,i3⟩:=hin i hi;have hsm:=h.hs;have hcell:∀j,j < ks.length→ ∀t,t < 5→w.cell? ⟨b2,j*5+t,none⟩= (ndC (ks[j]?.getD Nd.zero) (kvs j))[t]?:=fun j hj t ht=>by
    rw[Er hrow (j*5+t) (by rw[Fj];have:(j+1)*5≤ks.length*5:=Dq _ hj;omega)];unfold CR;exact CQ (at_:=fun j=>ndC (ks[j]?.getD Nd.zero) (kvs j)) (fun _ _=>rfl) hj ht
   have hat:∀j (hj:j < ks.length),NdAt w b2 (j*5) ks[j] (kvs j):=fun j hj=>by
    have h5:=fun t ht=>hcell j hj t ht;rw[Bl hj]at h5;exact⟨h5 0 (by omega),h5 1 (by omega),h5 2 (by omega),h5 3 (by omega),h5 4 (by omega)⟩
   have hbb:b≠b2:=fun e1=>h.nb (by rw[e1];exact hb2);have hws:=AT (As hi);have hwy:=Aw y;rw[hks]at hwy;refine⟨b2,cap,ss i,es i,N+wgN y - wgN ks[i],kvs i,rfl,r2,⟨hat i hi,hk i hi,i3,.inr ⟨by omega,by omega⟩,⟨by omega,by omega⟩,fun t=>IN hrow t,hl2,h.hP,fun e1=>(h.hP.1 ⟨by omega,by omega⟩).elim,by have:=h.wg;omega,fun w' y' kv' h1 h2 h3 h4 h5=> ?_⟩⟩;have hbsame:w'.heap[b]?=w.heap[b]?:=h1 b h.hb hbb (fun e1=>h.nb ⟨by omega,by omega⟩);obtain⟨x',kvx,g1,g2,g3⟩:=h.hol w' (.mk y.op y.n y.s y.t (ks.set i y')) (.slice (some ⟨b2,0,none⟩) ks.length cap)
    (fun c e1 e2 e3=>h1 c e1 (fun e4=>e3 (by rw[e4];exact hb2)) (fun e4=>e3 ⟨by omega,by omega⟩)) h2 (fun t ht=>An hbsame)
    (by
     obtain⟨a0,a1,a2,a3,a4⟩:=h.at_;exact⟨(An hbsame).trans a0,(An hbsame).trans a1,(An hbsame).trans a2,(An hbsame).trans a3,(An hbsame).trans a4⟩)
    (by
     show RdNs w'.heap.size w' (.slice (some ⟨b2,0,none⟩) ks.length cap) (ks.set i y')
     have hlen:(ks.set i y').length=ks.length:=List.length_set;rw[←hlen];refine .row b2 0 cap (ks.set i y') (fun j=>if j=i then kv' else kvs j) (Aj hl2 h2) (Aj hl2 h2) ⟨by rw[hlen];exact r1,by rw[hlen];exact r2⟩ (fun j hj=> ?_) (fun j hj=> ?_)
     ·rw[hlen]at hj;by_cases hji:j=i
      ·subst hji;rw[Ag rfl,Pt,BU];exact h4
      ·rw[Ab hji,List.getElem_set_ne (fun e1=>hji e1.symm),BU];obtain⟨a0,a1,a2,a3,a4⟩:=hat j hj;have hout:∀t,t < 5→(j*5+t < i*5∨i*5+5≤j*5+t):=fun t ht=>by omega
       exact⟨(h3 _ (hout 0 (by omega))).trans a0,(h3 _ (hout 1 (by omega))).trans a1,(h3 _ (hout 2 (by omega))).trans a2,(h3 _ (hout 3 (by omega))).trans a3,(h3 _ (hout 4 (by omega))).trans a4⟩
     ·rw[hlen]at hj;by_cases hji:j=i
      ·subst hji;rw[Ag rfl,Pt];exact h5
      ·rw[Ab hji,List.getElem_set_ne (fun e1=>hji e1.symm)];obtain⟨j1,j2,j3⟩:=hin j hj;have hdis:es j≤ss i∨es i≤ss j:=by
        rcases FP j i with e1 |e1
        ·exact .inl (hd j i e1 hi)
        ·exact .inr (hd i j (by omega) hj)
       refine((hk j hj).keep (fun c e1 e2 _=>h1 c (.inr ⟨by omega,by omega⟩) (fun e3=>j3 (by rw[←e3];exact⟨e1,e2⟩)) (fun e3=>by omega))).ow.rd)
   refine⟨x',kvx,g1,g2,?_⟩;have hset:=Ns ks i hi y';have:wgN (.mk y.op y.n y.s y.t (ks.set i y'))=y.s.size+y.t.size+wgN.wgNs (ks.set i y'):=rfl;omega
 obtain⟨b2,cap,s2,e2,N2,kv2,h1,h2,h3⟩:=hgoal;subst hks;exact⟨b2,cap,s2,e2,N2,kv2,h1,h2,h3⟩
def bytesIn (b:List Int):Prop:=∀j,0≤b.getD j 0∧b.getD j 0≤255
def Dc (n:Int):Prop:=-9223372036854775808≤n∧n≤9223372036854775807
structure Cur (w:World) (g:Nat) (v:Value) (m:Nat):Prop where
 ex:∃ (i:Nat) (h:Int),Bx w g #[v,.int .i64 i,.int .i64 h]∧i≤m∧Dc h
theorem QO (x:Int):Dc (wrap64 x):=by unfold wrap64 Dc;omega
theorem QP {B:Nat}(v:Value) (zs:List Int) (w:World) (hr:Rd B .u8 w v zs) (hz:bytesIn zs) (hl:zs.length≤4294967296):
  Calls Pq 45 #[v] w fun e w'=>(∃g,e= .returned (.pointer (some ⟨g,0,none⟩))∧w.heap.size≤g∧Cur w' g v zs.length)∧Below w.heap.size w w':=by
 obtain⟨a,c,rfl⟩:=hr.form;have hc:∀k,k < zs.length→ ∃b off,a=some ⟨b,off,none⟩ ∧w.cell? ⟨b,off+k,none⟩=some (.int .u8 (zs.getD k 0)):=by
  intro k hk;rcases hr with ⟨h',_⟩ |⟨b,off,c',hv,_,_,_,hcell⟩
  ·rw[h']at hk;simp at hk
  ·cases hv;exact⟨b,off,rfl,hcell k hk⟩
 have HC:=Aa hc;clear hr hc;go_enter Tryz.func45,Tryz.ntmps45;go_wp2
 go_loop [3,4] (fun t i=>∃ (k:Nat) (h:Int),k≤zs.length∧i= .int .i64 k∧t= .int .i64 h∧0≤h∧h≤9223372036) (fun _ i=>zs.length - (intOf i).toNat)
 case atStart=>exact⟨0,_,Av _,rfl,rfl,by omega,by omega⟩
 case round=>
  obtain⟨k,h,hk,rfl,rfl,h0,h1⟩:=hrel;by_cases hlt:k < zs.length
  ·by_cases h4:k < 4000
   ·obtain⟨b,off,rfl,c0⟩:=HC.out k hlt;obtain⟨x0,x1⟩:=hz k;obtain⟨x,hxx⟩:∃x,zs.getD k 0=x:=⟨_,rfl⟩;rw[hxx]at c0 x0 x1;have hki:(k:Int) < (zs.length:Int):=by omega
    have hk4:(k:Int) < 4000:=by omega
    clear hxx hz;go_wp2
    go_round
    case rel=>exact⟨k+1,_,hlt,by go_num,rfl,by omega,by omega⟩
    case measure=>simp[intOf];omega
   ·have hk4:¬(k:Int) < 4000:=by omega
    have hki:(k:Int) < (zs.length:Int):=by omega
    go_wp2;go_ret;refine⟨⟨w.heap.size,rfl,Ad _,⟨0,h,?_,Av _,by unfold Dc;omega⟩⟩,(Ac _ _).alloc (Ad _) _⟩;exact(Bx.alloc rfl).2
  ·have hki:¬(k:Int) < (zs.length:Int):=by omega
   go_wp2;go_ret;refine⟨⟨w.heap.size,rfl,Ad _,⟨0,h,?_,Av _,by unfold Dc;omega⟩⟩,(Ac _ _).alloc (Ad _) _⟩;exact(Bx.alloc rfl).2
theorem Bx.set_ {w:World}{g:Nat}{cur:Array Value}(h:Bx w g cur) (i:Nat) (hi:i < cur.size) (u:Value):Bx (w.setCell ⟨g,i,none⟩ u) g (cur.setIfInBounds i u):=by
 refine⟨by rw[AS];exact h.1,fun j=> ?_,fun j=>by rw[World.frozen?_setCell];exact h.2.2 j⟩;by_cases hj:i=j
 ·subst hj;rw[Pr _ _ _ ((h.2.1 i).trans (IY hi))];simp[hi]
 ·rw[I1 _ _ _ _ (by intro he;injection he;exact hj (by assumption)),h.2.1 j,Array.getElem?_setIfInBounds_ne hj]
theorem HG (w:World) (n:Nat) (row:Option Nat):w.grownBy (w.drewN n) row:=⟨rfl,rfl,rfl,Ad _,fun _ _ _=>rfl⟩
def QQ (e:Ending):Prop:=∃x:Int,e= .returned (.int .i64 x)∧0≤x∧x≤255
theorem QR {B g:Nat}(v:Value) (zs:List Int) (w:World) (hC:Cur w g v zs.length) (hr:Rd B .u8 w v zs) (hz:bytesIn zs) (hl:zs.length≤4294967296) (hg:B≤g):
  Calls Pq 151 #[.pointer (some ⟨g,0,none⟩)] w fun e w'=>QQ e∧Cur w' g v zs.length∧w.grownBy w' (some g):=by
 obtain⟨i,h,kb,hi,hh⟩:=hC;obtain⟨a,c,rfl⟩:=hr.form;have hc:∀k,k < zs.length→ ∃b off,a=some ⟨b,off,none⟩ ∧b≠g∧b < w.heap.size∧w.cell? ⟨b,off+k,none⟩=some (.int .u8 (zs.getD k 0)):=by
  intro k hk;rcases hr with ⟨h',_⟩ |⟨b,off,c',hv,hB,hbs,_,hcell⟩
  ·rw[h']at hk;simp at hk
  ·cases hv;exact⟨b,off,rfl,by omega,hbs,hcell k hk⟩
 have HC:=Aa hc;obtain⟨h0,h1⟩:=hh;have k2:=fun(x:Int)=>kb.set_ 2 (by simp) (.int .i64 x);have q1:=kb.2.1;have f1:=kb.2.2;have K2:=Aa k2;clear hr hc k2 kb;go_enter Tryz.func151,Tryz.ntmps151;go_wp2_with fail;generalize hx:w.setCell ⟨g,2,none⟩ _=w1;have hy:∃y,Dc y∧w.setCell ⟨g,2,none⟩ (.int .i64 y)=w1:=⟨_,QO _,hx⟩;clear hx;obtain⟨y,hy0,rfl⟩:=hy;have k2:=K2.out y;have g2:=grownBy.setCell w g 2 (.int .i64 y);generalize hx:w.setCell ⟨g,2,none⟩ (.int .i64 y)=w1 at k2 g2 ⊢;clear hx q1 f1 K2;have k2':Bx w1 g #[.slice a zs.length c,.int .i64 i,.int .i64 y]:=by simpa using k2
 have q1:=k2'.2.1;clear k2;go_quiet (fail);have k3:=k2'.below (below_drewN (Ac _ w1) nq) k2'.1;have g3:=g2.trans' (HG w1 nq (some g));generalize hx:w1.drewN nq=w2 at k3 g3 ⊢;clear hx q1 k2' g2 nq w1;go_wp2_with fail;obtain⟨x,hxe⟩:∃x,bits .xor .i64 (y/8589934592) (y/35184372088832)%256=x:=⟨_,rfl⟩;have hx0:0≤x:=by rw[←hxe];exact KS _ (by decide)
 have hx1:x < 256:=by rw[←hxe];exact Int.emod_lt_of_pos _ (by decide)
 rw[hxe];clear hxe;have q1:=k3.2.1;by_cases hlt:i < zs.length
 ·obtain⟨b,off,rfl,hbg,hbs,c0⟩:=HC.out i hlt;obtain⟨d,hd⟩:∃d,zs.getD i 0=d:=⟨_,rfl⟩;obtain⟨d0,d1⟩:=hz i;rw[hd]at c0 d0 d1;have c1:=(g3.cell_far ⟨b,off+i,none⟩ hbs (by intro h;exact hbg (Ah h))).trans c0;have hii:(i:Int) < (zs.length:Int):=by omega
  clear hd hz c0;go_quiet (fail);have k4:=k3.below (below_drewN (Ac _ w2) nq) k3.1;have g4:=g3.trans' (HG w2 nq (some g));have c4:(w2.drewN nq).cell? ⟨b,off+i,none⟩=some (.int .u8 d):=c1;generalize hx:w2.drewN nq=w3 at k4 g4 c4 ⊢;clear hx q1 k3 g3 c1 nq w2;have q1:=k4.2.1;go_wp2_with fail;go_quiet (fail);have k5:=k4.below (below_drewN (Ac _ w3) nq) k4.1;have g5:=g4.trans' (HG w3 nq (some g));generalize hx:w3.drewN nq=w4 at k5 g5 ⊢;clear hx q1 k4 g4 c4 nq w3;have q1:=k5.2.1;have f1:=k5.2.2;have k6:=Aa (k5.set_ 1 (by simp) (.int .i64 ((i:Int)+1)));have g6:=Aa (g5.trans' (grownBy.setCell w4 g 1 (.int .i64 ((i:Int)+1))));clear k5 g5;go_wp2;go_ret;exact⟨⟨_,rfl,by omega,by omega⟩,⟨i+1,y,by simpa using k6.out,hlt,hy0⟩,g6.out⟩
 ·have hii:¬(i:Int) < (zs.length:Int):=by omega
  clear hz HC;go_quiet (fail);have k4:=k3.below (below_drewN (Ac _ w2) nq) k3.1;have g4:=g3.trans' (HG w2 nq (some g));generalize hx:w2.drewN nq=w3 at k4 g4 ⊢;clear hx q1 k3 g3 nq w2;go_wp2;go_ret;exact⟨⟨_,rfl,by omega,by omega⟩,⟨i,y,k4,hi,hy0⟩,g4⟩
theorem Rd.grown_row {B g:Nat}{k:IntKind}{w w':World}{v:Value}{zs:List Int}(h:Rd B k w v zs) (hg:w.grownBy w' (some g)) (hB:B≤g):Rd B k w' v zs:=by
 rcases h with h |⟨b,off,cap,h1,h2,h3,h4,h5⟩
 ·exact .inl h
 ·exact .inr ⟨b,off,cap,h1,h2,Nat.lt_of_lt_of_le h3 hg.size,h4,fun j hj=>(hg.cell_far ⟨b,off+j,none⟩ h3 (by intro h;have:=Option.some.inj h;dsimp only at this;omega)).trans (h5 j hj)⟩
def L0 (n:Int) (e:Ending):Prop:=∃r:Int,e= .returned (.int .i64 r)∧(n≤0→r=0)∧(0 < n→0≤r∧r < n)
theorem FZ {B g:Nat}(v:Value) (zs:List Int) (n:Int) (w:World) (hC:Cur w g v zs.length) (hr:Rd B .u8 w v zs) (hz:bytesIn zs) (hl:zs.length≤4294967296) (hg:B≤g) (hn:Dc n):
  Calls Pq 90 #[.pointer (some ⟨g,0,none⟩),.int .i64 n] w fun e w'=>L0 n e∧Cur w' g v zs.length∧w.grownBy w' (some g):=by
 have HB:=Aa (fun(W:World) (hC:Cur W g v zs.length) (hr:Rd B .u8 W v zs)=>QR v zs W hC hr hz hl hg);obtain⟨n0,n1⟩:=hn;by_cases h0:n≤0
 ·have Cc:=hC;clear HB hC hr;go_enter Tryz.func90,Tryz.ntmps90;go_wp2;go_ret;exact⟨⟨0,rfl,fun _=>rfl,fun h=>by omega⟩,Cc,grownBy.refl _ _⟩
 ·have hp:0 < n:=by omega
  by_cases h256:n≤256
  ·have HC:=Aa hC;have HR:=Aa hr;clear hC hr;go_enter Tryz.func90,Tryz.ntmps90;go_wp2_with fail;refine(HB.out w HC.out HR.out).mono ?_;rintro e w1 ⟨⟨x,rfl,x0,x1⟩,c1,g1⟩;have C1:=Aa c1;have G1:=Aa g1;have m0:0≤x%n:=KS _ (by omega);have m1:x%n < n:=Int.emod_lt_of_pos _ hp;clear c1 g1;go_wp2;go_ret;exact⟨⟨_,rfl,fun h=>by omega,fun _=>⟨m0,m1⟩⟩,C1.out,G1.out⟩
  ·have HC:=Aa hC;have HR:=Aa hr;clear hC hr;go_enter Tryz.func90,Tryz.ntmps90;go_wp2_with fail;refine(HB.out w HC.out HR.out).mono ?_;rintro e w1 ⟨⟨x1,rfl,x10,x11⟩,c1,g1⟩;have C1:=Aa c1;have G1:=Aa g1;clear c1 g1;go_wp2_with fail;refine(HB.out w1 C1.out (HR.out.grown_row G1.out hg)).mono ?_;rintro e w2 ⟨⟨x2,rfl,x20,x21⟩,c2,g2⟩;have C2:=Aa c2;have G2:=Aa (G1.out.trans' g2);clear c2 g2;go_wp2_with fail;refine(HB.out w2 C2.out (HR.out.grown_row G2.out hg)).mono ?_;rintro e w3 ⟨⟨x3,rfl,x30,x31⟩,c3,g3⟩;have C3:=Aa c3;have G3:=Aa (G2.out.trans' g3);clear c3 g3;go_wp2_with fail;refine(HB.out w3 C3.out (HR.out.grown_row G3.out hg)).mono ?_;rintro e w4 ⟨⟨x4,rfl,x40,x41⟩,c4,g4⟩;have C4:=Aa c4;have G4:=Aa (G3.out.trans' g4);clear c4 g4;have HM:=Aa (fun(y:Int)=>And.intro (KS y (show n≠0 by omega)) (Int.emod_lt_of_pos y hp));go_wp2;go_ret;exact⟨⟨_,rfl,fun h=>by omega,fun _=>HM.out _⟩,C4.out,G4.out⟩
theorem L1 {B B2 g:Nat}(v u:Value) (zs ys:List Int) (w:World) (hC:Cur w g v zs.length) (hr:Rd B .u8 w v zs) (hz:bytesIn zs) (hl:zs.length≤4294967296) (hg:B≤g)
  (hy:Rd B2 .i64 w u ys) (h0:0 < ys.length) (h1:ys.length≤4294967296) (hne:∀a n c,u= .slice (some a) n c→a.block≠g):
  Calls Pq 47 #[.pointer (some ⟨g,0,none⟩),u] w fun e w'=>(∃x,e= .returned (.int .i64 x)∧x∈ys)∧Cur w' g v zs.length∧w.grownBy w' (some g):=by
 have HB:=Aa (fun(W:World) (hC:Cur W g v zs.length) (hr:Rd B .u8 W v zs)=>FZ v zs ys.length W hC hr hz hl hg (by unfold Dc;omega));rcases hy with ⟨h',_⟩ |⟨b,off,c,rfl,hb2,hbs,hm,hc⟩
 ·rw[h']at h0;simp at h0
 have hbg:b≠g:=hne _ _ _ rfl;have HC:=Aa hC;have HR:=Aa hr;have HY:=Aa hc;clear hC hr hc hne;go_enter Tryz.func47,Tryz.ntmps47;go_wp2_with fail;refine(HB.out w HC.out HR.out).mono ?_;rintro e w1 ⟨⟨r,rfl,_,hr2⟩,c1,g1⟩;obtain⟨r0,r1⟩:=hr2 (by omega);obtain⟨k,rfl⟩:=Pp r0;have c0:=(g1.cell_far ⟨b,off+k,none⟩ hbs (by intro h;exact hbg (Ah h))).trans (HY.out k (by omega));have hmem:ys.getD k 0∈ys:=by
  rw[List.getD_eq_getElem?_getD,Bl (show k < ys.length by omega)];exact As _
 obtain⟨x,hx⟩:∃x,ys.getD k 0=x:=⟨_,rfl⟩;rw[hx]at c0 hmem;have C1:=Aa c1;have G1:=Aa g1;have HM:=Aa hmem;clear c1 g1 hx hmem hr2;go_wp2;go_ret;exact⟨⟨x,rfl,HM.out⟩,C1.out,G1.out⟩
theorem QT {w0 w w':World}{g:Nat}{r:Option Nat}(h:w0.grownBy w (some g)) (k:w.grownBy w' r) (hr:∀i,r=some i→i=g∨w0.heap.size≤i):w0.grownBy w' (some g):=by
 refine⟨k.os.trans h.os,k.tape.trans h.tape,k.output.trans h.output,Ar h.size k.size,fun i hi hne=> ?_⟩;refine(k.block i (Aj hi h.size) (fun e=> ?_)).trans (h.block i hi hne);rcases hr i e.symm with rfl |h'
 ·exact hne rfl
 ·omega
theorem Cur.below {w w':World}{g m:Nat}{v:Value}(h:Cur w g v m) (hb:Below w.heap.size w w'):Cur w' g v m:=by
 obtain⟨i,x,k,hh⟩:=h;exact⟨i,x,k.below hb k.1,hh⟩
theorem Cur.lt {w:World}{g m:Nat}{v:Value}(h:Cur w g v m):g < w.heap.size:=by
 obtain⟨i,x,k,hh⟩:=h;exact k.1
theorem Cur.kept {w w':World}{g m:Nat}{v:Value}{r:Option Nat}(h:Cur w g v m) (hg:w.grownBy w' r) (hr:some g≠r):Cur w' g v m:=by
 obtain⟨i,x,k,hh⟩:=h;exact⟨i,x,k.grown hg hr,hh⟩
theorem Rd.made {w x:World}{A:Array Value}{e:TypeId}(h:w.alloc (.cells A e)=x) (ys:List Int) (hA:A= (ys.map (Value.int .i64)).toArray) (hl:ys.length≤4294967296):Rd x.heap.size .i64 x (.slice (some ⟨w.heap.size,0,none⟩) ys.length ys.length) ys:=by
 subst hA;obtain⟨_,k⟩:=Bx.alloc h;refine .inr ⟨w.heap.size,0,ys.length,rfl,k.1,k.1,⟨by unfold maxLen;omega,Ad _⟩,fun j hj=> ?_⟩;rw[BU,k.2.1 j];simp[List.getD,Bl hj]
theorem L3 {B:Nat}(v:Value) (zs:List Int) (w:World) (hr:Rd B .u8 w v zs):
  Calls Pq 13 #[v] w fun e w'=>e= .returned (.bool (decide (1048576 < zs.length)))∧w=w':=by
 have hl:=hr.len;unfold maxLen at hl;obtain⟨a,c,rfl⟩:=hr.form;clear hr;go_enter Tryz.func13,Tryz.ntmps13;go_wp2;go_ret;exact⟨Ae (by rw[decide_eq_decide];omega),rfl⟩
theorem QS {B g:Nat}(v:Value) (zs:List Int) (n:Int) (w:World) (hC:Cur w g v zs.length) (hr:Rd B .u8 w v zs) (hz:bytesIn zs) (hl:zs.length≤4294967296) (hg:B≤g) (hn:Dc n):
  Calls Pq 150 #[.pointer (some ⟨g,0,none⟩),.int .i64 n] w fun e w'=>(∃b,e= .returned (.bool b))∧Cur w' g v zs.length∧w.grownBy w' (some g):=by
 have HB:=Aa (FZ v zs n w hC hr hz hl hg hn);clear hC hr;go_enter Tryz.func150,Tryz.ntmps150;go_wp2_with fail;refine HB.out.mono ?_;rintro e w1 ⟨⟨r,rfl,_,_⟩,c1,g1⟩;have C1:=Aa c1;have G1:=Aa g1;clear c1 g1;go_wp2;go_ret;exact⟨⟨_,rfl⟩,C1.out,G1.out⟩
def Gy:List (List Nat):=[Go.Ev.src0,Go.Ev.src1,Go.Ev.src2,Go.Ev.src3,Go.Ev.src4,Go.Ev.src5,Go.Ev.src6]
def Jo (v:Value) (s:List Nat):Prop:=∃bs:ByteArray,v= .string bs∧bs.data.toList.map UInt8.toNat=s
def L2 (w:World) (g:Nat) (n:Nat):Prop:=g < w.heap.size∧ ∀k,k < n→ ∃v,w.cell? ⟨g,k,none⟩=some v∧Jo v (Gy.getD k [])
theorem QU (w:World):
  Calls Pq 201 #[] w fun e w'=>∃g,e= .returned (.slice (some ⟨g,0,none⟩) 7 7)∧w.heap.size≤g∧L2 w' g 7∧Below w.heap.size w w':=by
 go_enter Tryz.func201,Tryz.ntmps201;go_wp2;go_ret;refine⟨_,rfl,Ad _,⟨by simp,fun k hk=> ?_⟩,(Ac _ _).alloc (Ad _) _⟩;have hk':k=0∨k=1∨k=2∨k=3∨k=4∨k=5∨k=6:=by omega
 rw[KI _ _ _ _ rfl];rcases hk' with rfl |rfl |rfl |rfl |rfl |rfl |rfl
 all_goals exact⟨_,rfl,_,rfl,by decide+kernel⟩
theorem QV {B g b:Nat}(v:Value) (zs:List Int) (w:World) (hC:Cur w g v zs.length) (hr:Rd B .u8 w v zs) (hz:bytesIn zs) (hl:zs.length≤4294967296) (hg:B≤g)
  (hT:L2 w b 7) (hne:b≠g):
  Calls Pq 91 #[.pointer (some ⟨g,0,none⟩),.slice (some ⟨b,0,none⟩) 7 7] w fun e w'=>(∃x k,e= .returned x∧k < 7∧Jo x (Gy.getD k []))∧Cur w' g v zs.length∧w.grownBy w' (some g):=by
 have HB:=Aa (fun(W:World) (hC:Cur W g v zs.length) (hr:Rd B .u8 W v zs)=>FZ v zs 7 W hC hr hz hl hg (by unfold Dc;omega));have HC:=Aa hC;have HR:=Aa hr;have HT:=Aa hT;clear hC hr hT;go_enter Tryz.func91,Tryz.ntmps91;go_wp2_with fail;refine(HB.out w HC.out HR.out).mono ?_;rintro e w1 ⟨⟨r,rfl,_,hr2⟩,c1,g1⟩;obtain⟨r0,r1⟩:=hr2 (by omega);obtain⟨k,rfl⟩:=Pp r0;have hk:k < 7:=by omega
 obtain⟨x,c0,sx⟩:=HT.out.2 k hk;have c0:=(g1.cell_far ⟨b,k,none⟩ HT.out.1 (by intro h;exact hne (Ah h))).trans c0;have C1:=Aa c1;have G1:=Aa g1;obtain⟨bs,hx,hs⟩:=sx;subst hx;have HS:=Aa hs;clear c1 g1 hr2 hs;go_wp2;go_ret;exact⟨⟨_,k,rfl,hk,_,rfl,HS.out⟩,C1.out,G1.out⟩
structure Dr (w:World) (g:Nat) (cv:Value) (m:Nat) (W:World):Prop where
 grown:w.grownBy W (some g)
 cur:Cur W g cv m
theorem Dr.below {w W W':World}{g:Nat}{cv:Value}{m:Nat}(d:Dr w g cv m W) (hb:Below W.heap.size W W'):Dr w g cv m W':=
 ⟨⟨hb.os.trans d.grown.os,hb.tape.trans d.grown.tape,hb.output.trans d.grown.output,Ar d.grown.size hb.size,fun q h1 h2=>(hb.block q (Aj h1 d.grown.size)).trans (d.grown.block q h1 h2)⟩,d.cur.below hb⟩
theorem Dr.step {w W W':World}{g:Nat}{cv:Value}{m:Nat}(d:Dr w g cv m W) (c:Cur W' g cv m) (hg:W.grownBy W' (some g)):Dr w g cv m W':=⟨QT d.grown hg (fun i hi=> .inl (Ah hi).symm),c⟩
theorem Dr.refl {w:World}{g:Nat}{cv:Value}{m:Nat}(c:Cur w g cv m):Dr w g cv m w:=⟨grownBy.refl _ _,c⟩
theorem Dr.trans {w W W':World}{g:Nat}{cv:Value}{m:Nat}(d:Dr w g cv m W) (d':Dr W g cv m W'):Dr w g cv m W':=d.step d'.cur d'.grown
theorem Dr.size {w W:World}{g:Nat}{cv:Value}{m:Nat}(d:Dr w g cv m W):w.heap.size≤W.heap.size:=d.grown.size
theorem Dr.low {w W:World}{g:Nat}{cv:Value}{m:Nat}(d:Dr w g cv m W) (hg:g < w.heap.size):Below g w W:=Below.of_grown d.grown (by omega) (fun k hk=>by cases hk;exact Ad _)
theorem Dr.bx {w W:World}{g:Nat}{cv:Value}{m:Nat}(d:Dr w g cv m W) {b:Nat}{cur:Array Value}(k:Bx w b cur) (hb:b≠g):Bx W b cur:=k.grown d.grown (fun e=>hb (Ah e))
theorem QW {B g:Nat}(v:Value) (zs:List Int) (w:World) (hC:Cur w g v zs.length) (hr:∀W,Below w.heap.size w W→Rd B .u8 W v zs) (hz:bytesIn zs) (hl:zs.length≤4294967296) (hg:B≤g):
  Calls Pq 149 #[.pointer (some ⟨g,0,none⟩)] w fun e w'=>(∃x k,e= .returned x∧k < 7∧Jo x (Gy.getD k []))∧Dr w g v zs.length w':=by
 have HP:=Aa (QU w);have HR:=Aa hr;have HC:=Aa hC;have hlt:g < w.heap.size:=hC.lt;clear hr hC;go_enter Tryz.func149,Tryz.ntmps149;go_wp2_with fail;refine HP.out.mono ?_;rintro e w1 ⟨b,rfl,hb,ht,b1⟩;have HQ:=Aa (QV v zs w1 (HC.out.below b1) (HR.out _ b1) hz hl hg ht (by omega));have B1:=Aa b1;clear ht b1;go_wp2_with fail;refine HQ.out.mono ?_;rintro e w2 ⟨⟨x,k,rfl,hk,sx⟩,c2,g2⟩;have B2:=Aa (show Dr w g v zs.length w2 from((Dr.refl HC.out).below B1.out).step c2 g2);obtain⟨bs,hx,hs⟩:=sx;subst hx;have HS:=Aa hs;clear c2 g2 hs;go_wp2;go_ret;exact⟨⟨_,k,rfl,hk,_,rfl,HS.out⟩,B2.out⟩
theorem El.inR {w:World}{P m M b o s e N c:Nat}{y:Nd}{kv:Value}(h:El w P m M b o s e N y kv) (hc:c=P∨m≤c∧c < M):c < w.heap.size:=by
 have:=h.hP;rcases hc with rfl |hc
 ·exact this.2.1
 ·omega
theorem El.drew {w w':World}{P m M b o s e N g:Nat}{y:Nd}{kv:Value}(h:El w P m M b o s e N y kv) (hg:w.grownBy w' (some g)) (h1:g < m) (h2:g≠P):El w' P m M b o s e N y kv:=
 h.kept hg.size (fun c hc=>hg.block c (h.inR hc) (fun e1=>by
  have:=Ah e1;subst this;rcases hc with hc |hc
  ·exact h2 hc
  ·omega))
theorem El.below {w w':World}{P m M b o s e N:Nat}{y:Nd}{kv:Value}(h:El w P m M b o s e N y kv) (hb:Below w.heap.size w w'):El w' P m M b o s e N y kv:=
 h.kept hb.size (fun c hc=>hb.block c (h.inR hc))
theorem CZ {n:Nat}{e:Ending}(h:L0 n e) (h0:0 < n):∃i:Nat,e= .returned (.int .i64 i)∧i < n:=by
 obtain⟨r,rfl, -,h2⟩:=h;obtain⟨a,b⟩:=h2 (by omega);exact⟨r.toNat,by rw[Int.toNat_of_nonneg a],by omega⟩
def PkR (w:World) (g:Nat) (cv:Value) (n P m M:Nat) (e:Ending) (w':World):Prop:=∃b o s f N y kv,e= .returned (.pointer (some ⟨b,o,none⟩))∧El w' P m M b o s f N y kv∧Dr w g cv n w'
theorem UU {B g:Nat}(cv:Value) (zs:List Int) (w:World) (hC:Cur w g cv zs.length) (hr:∀W,Dr w g cv zs.length W→Rd B .u8 W cv zs) (hz:bytesIn zs) (hl:zs.length≤4294967296) (hg:B≤g)
  {P m M b o s e N:Nat} {y:Nd} {kv:Value} (hE:El w P m M b o s e N y kv) (hgm:g < m) (hgP:g≠P):
  Calls Pq 89 #[.pointer (some ⟨g,0,none⟩),.pointer (some ⟨b,o,none⟩)] w (PkR w g cv zs.length P m M):=by
 have HON:=Aa (fun(W:World) (d:Dr w g cv zs.length W)=>QS cv zs 5 W d.cur (hr W d) hz hl hg (by unfold Dc;omega));have HBE:=Aa (fun(W:World) (d:Dr w g cv zs.length W) (n:Nat) (hn:n≤1048576)=>FZ cv zs n W d.cur (hr W d) hz hl hg (by unfold Dc;omega));have D0:=Aa (Dr.refl hC);clear hC hr;go_enter Tryz.func89,Tryz.ntmps89;go_wp2
 go_loopw [5,1] (fun i p wr=>∃ (k b o s e N:Nat) (y:Nd) (kv:Value),k≤9∧i= .int .i64 k∧p= .pointer (some ⟨b,o,none⟩)∧El wr P m M b o s e N y kv∧Dr w g cv zs.length wr) (fun i _ _=>9 - (intOf i).toNat)
 case atStart=>exact⟨0,b,o,s,e,N,y,kv,by omega,rfl,rfl,hE,D0.out⟩
 case round=>
  clear hE;obtain⟨k,b,o,s,e,N,y,kv,hk,rfl,rfl,hE,hD⟩:=hrel;obtain⟨ka,kc,rfl⟩:=hE.ow.form;have HE:=Aa hE;have HD:=Aa hD;have c4:=hE.at_.2.2.2.2;have hbl:=hE.lt;clear hE hD;by_cases h9:k < 9
  ·have h9i:(k:Int) < 9:=by omega
   by_cases h0:0 < y.kids.length
   ·have h0i:(0:Int) < (y.kids.length:Int):=by omega
    have hks:y.kids.length≤1000:=by have:=AU y.kids;have:=Aw y;have:=HE.out.wg;omega
    go_wp2_with fail;refine(HON.out wr HD.out).mono ?_;rintro ee w2 ⟨⟨bl,rfl⟩,cu2,g2⟩;have HE2:=Aa (HE.out.drew g2 hgm hgP);have HD2:=Aa (HD.out.step cu2 g2);have c4:=HE2.out.at_.2.2.2.2;have hb2:=HE2.out.lt;clear cu2 g2;cases bl with
    |true=>
     go_wp2;go_ret;exact⟨b,o,s,e,N,y,_,rfl,HE2.out,HD2.out⟩
    |false=>
     go_wp2_with fail;refine wp_region_held_drew (S:=(fun W'=>W'.cell? ⟨b,o+4,none⟩=some (.slice ka y.kids.length kc))) (by kernel_rfl) (by first | (dsimp only;exact c4) | (exact c4)) (fun hHeld=> ?_);generalize hxd:World.drew _=x1 at hHeld ⊢;have hd1:Below w2.heap.size w2 x1:=by rw[←hxd];exact(Ac _ _).drew
     clear hxd;have HE3:=Aa (HE2.out.below hd1);have HD3:=Aa (HD2.out.below hd1);refine tkH (i:=0) ?_;refine tkH (i:=1) ?_;refine tkH (i:=2) ?_;refine tkH (i:=3) ?_;refine tkH (i:=4) ?_;refine tkH (i:=5) ?_;refine tkH (i:=6) ?_;refine tkH (i:=7) ?_;refine tkH (i:=8) ?_;refine tkH (i:=9) ?_;refine rdH (i:=10) (fun K hK=> ?_);go_simp;refine(HBE.out x1 HD3.out y.kids.length (by omega)).mono ?_;rintro ee w4 ⟨hu,cu4,g4⟩;obtain⟨i,rfl,hi1⟩:=CZ hu h0;refine bkH hK (by first | (dsimp only;exact(HE3.out.drew g4 hgm hgP).at_.2.2.2.2) | (exact(HE3.out.drew g4 hgm hgP).at_.2.2.2.2)) (fun hHeld=> ?_);clear hK K;have HE4:=Aa (HE3.out.drew g4 hgm hgP);have HD4:=Aa (HD3.out.step cu4 g4);obtain⟨b2,cap,s2,e2,N2,kv2,hv,hcap,hEk⟩:=HE4.out.kid (i:=i) hi1;cases hv
     have hii:(i:Int) < (y.kids.length:Int):=by omega
     have hii0:(0:Int)≤ (i:Int):=by omega
     clear hd1 cu4 g4;refine tkH (i:=11) ?_;refine tkH (i:=12) ?_;refine Bs (by kernel_rfl) ?_ _;have HEK:=Aa hEk;clear hEk;go_wp2;go_roundw
     case rel=>exact⟨k+1,b2,_,s2,e2,N2,_,kv2,by omega,by go_num,by simp,HEK.out,HD4.out⟩
     case measure=>simp[intOf];omega
   ·have h0i:¬((0:Int) < (y.kids.length:Int)):=by omega
    go_wp2;go_ret;exact⟨b,o,s,e,N,y,_,rfl,HE.out,HD.out⟩
  ·have h9i:¬((k:Int) < 9):=by omega
   go_wp2;go_ret;exact⟨b,o,s,e,N,y,_,rfl,HE.out,HD.out⟩
end Go.Proofs.YtifhcbeaiijkcaaGreat
end
section
namespace Go.Proofs.YtifhcbeaiijkcaaGreat
open Go.RowKit Go.Ev
open _root_.Go.World renaming alloc→Wa,setCell→Ws
open _root_.Go.Proofs.Tryz renaming prog→Pq
abbrev Cells:=Nat→Nat→Nat→Option (List S)
def Gc (g:S→S→S→S→S→Option Nat):List S→Option Nat
 | []=>some 0
 |a::b::c::d::e::r=>match g a b c d e with
  |some W=>match Gc g r with
   |some V=>some (1+W+V)
   |none=>none
  |none=>none
 |_=>none
def Ez (g:S→S→S→S→Option Nat):List S→Option Nat
 | []=>some 0
 |a::b::c::d::r=>match g a b c d with
  |some W=>match Ez g r with
   |some V=>some (1+W+V)
   |none=>none
  |none=>none
 |_=>none
def Gd (g:S→S→Option Nat):List S→Option Nat
 | []=>some 0
 |a::b::r=>match g a b with
  |some W=>match Gd g r with
   |some V=>some (1+W+V)
   |none=>none
  |none=>none
 |_=>none
def FD (g:S→S→S→Option Nat):List S→Option Nat
 | []=>some 0
 |a::b::c::r=>match g a b c with
  |some W=>match FD g r with
   |some V=>some (1+W+V)
   |none=>none
  |none=>none
 |_=>none
def slR (C:Cells) (e:Nat) (g:List S→Option Nat) (x o:Nat):Nat→Option Nat
 |0=>some 0
 | .succ m=>match C x o (Nat.mul (Nat.succ m) e)with
  |some l=>g l
  |none=>none
def slW (C:Cells) (e:Nat) (g:List S→Option Nat):S→Option Nat
 | .l0=>some 0
 | .l x o n sz _=>bif Nat.beq sz e&& Nat.ble n 1000 then slR C e g x o n else none
 |_=>none
theorem ID {C:Cells}{e:Nat}{g:List S→Option Nat}{s:S}{W:Nat}(h:slW C e g s=some W):(s= .l0∧W=0)∨ ∃x o n fl,s= .l x o n e fl∧((n=0∧W=0)∨ ∃l,0 < n∧n≤1000∧C x o (n*e)=some l∧g l=some W):=by
 cases s with
 |l0=>exact .inl ⟨rfl,(Ah h).symm⟩
 |l x o n sz fl=>
  have h:(bif Nat.beq sz e&& Nat.ble n 1000 then slR C e g x o n else none)=some W:=h;cases hb:(Nat.beq sz e&& Nat.ble n 1000)with
  |false=>rw[hb]at h;cases h
  |true=>
   rw[hb]at h;have h:slR C e g x o n=some W:=h;obtain⟨hb1,hb2⟩:=(AH _ _).mp hb;obtain rfl:=I3 hb1;have hn:=Ce hb2;refine .inr ⟨x,o,n,fl,rfl,?_⟩;cases n with
   |zero=>exact .inl ⟨rfl,(Ah h).symm⟩
   |succ m=>
    have h:(match C x o (Nat.mul (Nat.succ m) sz)with |some l=>g l |none=>none)=some W:=h;cases hc:C x o (Nat.mul (Nat.succ m) sz)with
    |none=>rw[hc]at h;cases h
    |some l=>
     rw[hc]at h;exact .inr ⟨l,Nat.succ_pos m,hn,rfl,h⟩
 |_=>cases h
def EA:S→Bool
 | .i _=>true
 |_=>false
def sLen:S→Option Nat
 | .s l=>some l.length
 |_=>none
def GS:Option Nat→Option Nat→Option Nat→Option Nat
 |some a,some b,some c=>some (a+b+c)
 |_,_,_=>none
def ndW (C:Cells):Nat→S→S→S→S→S→Option Nat
 |0,_,_,_,_,_=>none
 |f+1,n1,n2,s1,s2,k=>bif EA n1&& EA n2 then GS (sLen s1) (sLen s2) (slW C 5 (Gc (ndW C f)) k)else none
def tyW (C:Cells):Nat→S→S→S→S→Option Nat
 |0,_,_,_,_=>none
 |f+1,n1,n2,s1,k=>bif EA n1&& EA n2 then GS (sLen s1) (some 0) (slW C 4 (Ez (tyW C f)) k)else none
theorem IF {a b c:Option Nat}{W:Nat}(h:GS a b c=some W):∃x y z,a=some x∧b=some y∧c=some z∧W=x+y+z:=by
 cases a with
 |none=>cases h
 |some x=>cases b with
  |none=>cases h
  |some y=>cases c with
   |none=>cases h
   |some z=>exact⟨x,y,z,rfl,rfl,rfl,(Ah h).symm⟩
theorem IG {s:S}(h:EA s=true):∃n,s= .i n:=by cases s <;> first |exact⟨_,rfl⟩ |cases h
theorem GT {s:S}{n:Nat}(h:sLen s=some n):∃l,s= .s l∧n=l.length:=by cases s <;> first |exact⟨_,rfl,(Ah h).symm⟩ |cases h
theorem SQ {C:Cells}{f W:Nat}{n1 n2 s1 s2 k:S}(h:ndW C (f+1) n1 n2 s1 s2 k=some W):∃a b l1 l2 V,n1= .i a∧n2= .i b∧s1= .s l1∧s2= .s l2∧slW C 5 (Gc (ndW C f)) k=some V∧W=l1.length+l2.length+V:=by
 unfold ndW at h;cases hb:(EA n1&& EA n2)with
 |false=>rw[hb]at h;cases h
 |true=>
  rw[hb]at h;obtain⟨i1,i2⟩:=(AH _ _).mp hb;obtain⟨a,rfl⟩:=IG i1;obtain⟨b,rfl⟩:=IG i2;obtain⟨x,y,z,h1,h2,h3,rfl⟩:=IF h;obtain⟨l1,rfl,rfl⟩:=GT h1;obtain⟨l2,rfl,rfl⟩:=GT h2;exact⟨a,b,l1,l2,z,rfl,rfl,rfl,rfl,h3,rfl⟩
theorem SS {C:Cells}{f W:Nat}{n1 n2 s1 k:S}(h:tyW C (f+1) n1 n2 s1 k=some W):∃a b l1 V,n1= .i a∧n2= .i b∧s1= .s l1∧slW C 4 (Ez (tyW C f)) k=some V∧W=l1.length+V:=by
 unfold tyW at h;cases hb:(EA n1&& EA n2)with
 |false=>rw[hb]at h;cases h
 |true=>
  rw[hb]at h;obtain⟨i1,i2⟩:=(AH _ _).mp hb;obtain⟨a,rfl⟩:=IG i1;obtain⟨b,rfl⟩:=IG i2;obtain⟨x,y,z,h1,h2,h3,rfl⟩:=IF h;obtain⟨l1,rfl,rfl⟩:=GT h1;cases h2
  exact⟨a,b,l1,z,rfl,rfl,rfl,h3,by omega⟩
def cnW (C:Cells) (f:Nat) (s1 k:S):Option Nat:=GS (sLen s1) (some 0) (slW C 4 (Ez (tyW C f)) k)
def Nt:S→Bool
 | .i v=>decide (0≤v∧v≤100)
 |_=>false
def dtW (C:Cells) (f:Nat) (s1 v k:S):Option Nat:=bif Nt v then GS (sLen s1) (some 0) (slW C 2 (Gd (cnW C f)) k)else none
theorem ST {C:Cells}{f W:Nat}{s1 k:S}(h:cnW C f s1 k=some W):∃l1 V,s1= .s l1∧slW C 4 (Ez (tyW C f)) k=some V∧W=l1.length+V:=by
 obtain⟨x,y,z,h1,h2,h3,rfl⟩:=IF h;obtain⟨l1,rfl,rfl⟩:=GT h1;cases h2
 exact⟨l1,z,rfl,h3,by omega⟩
theorem SU {C:Cells}{f W:Nat}{s1 v k:S}(h:dtW C f s1 v k=some W):∃l1 n V,s1= .s l1∧v= .i n∧(0≤n∧n≤100)∧slW C 2 (Gd (cnW C f)) k=some V∧W=l1.length+V:=by
 unfold dtW at h;cases hv:Nt v with
 |false=>rw[hv]at h;cases h
 |true=>
  rw[hv]at h;have hn:∃n,v= .i n∧(0≤n∧n≤100):=by cases v <;> first |exact⟨_,rfl,of_decide_eq_true hv⟩ |cases hv
  obtain⟨n,rfl,hn⟩:=hn;obtain⟨x,y,z,h1,h2,h3,rfl⟩:=IF h;obtain⟨l1,rfl,rfl⟩:=GT h1;cases h2
  exact⟨l1,n,z,rfl,rfl,hn,h3,by omega⟩
def J5:Option Nat→Option Nat→Bool
 |some W,some V=>Nat.ble W 1000&& Nat.ble V 1000
 |_,_=>false
theorem SV {a b:Option Nat}(h:J5 a b=true):∃W V,a=some W∧b=some V∧W≤1000∧V≤1000:=by
 cases a with
 |none=>cases h
 |some W=>cases b with
  |none=>cases h
  |some V=>
   obtain⟨h1,h2⟩:=(AH _ _).mp (show(Nat.ble W 1000&& Nat.ble V 1000)=true from h);exact⟨W,V,rfl,rfl,Ce h1,Ce h2⟩
def pgW (C:Cells):List S→Bool
 | [d,a,b,s,t,k]=>J5 (slW C 3 (FD (dtW C 30)) d) (ndW C 30 a b s t k)
 |_=>false
theorem SW {C:Cells}{p:List S}(h:pgW C p=true):∃d a b s t k W V,p=[d,a,b,s,t,k]∧slW C 3 (FD (dtW C 30)) d=some W∧ndW C 30 a b s t k=some V∧W≤1000∧V≤1000:=by
 match p,h with
 | [d,a,b,s,t,k],h=>
  obtain⟨W,V,h1,h2,h3,h4⟩:=SV (show J5 (slW C 3 (FD (dtW C 30)) d) (ndW C 30 a b s t k)=true from h);exact⟨d,a,b,s,t,k,W,V,rfl,h1,h2,h3,h4⟩
section
variable {C C':Cells}(h:∀x o n l,C x o n=some l→C' x o n=some l)
include h
end
theorem SX {B:Nat}{ρ:Rho}{u:St}{w:World}{x o n e m:Nat}{full:Bool}{v:Value}{l:List S}(hr:Rel ρ u w) (h:LS ρ x o n e full v) (hB:∀x cb sh z,ρ x=some (cb,sh,z)→cb < B) (hc:cellsAt u x o m=some l) (hn:0 < n):
  l.length=m∧ ∃cb off cap,v= .slice (some ⟨cb,off,none⟩) n cap∧(cb < B∧cb < w.heap.size)∧n≤cap∧ ∀t sv,l[t]?=some sv→ ∃cv,w.cell? ⟨cb,off+t,none⟩=some cv∧SR ρ sv cv:=by
 obtain⟨cb,sh,z,a,cap,e1,rfl,e2,e3,e4,e5,e6⟩:=h;have ha:=e4 (by omega);subst ha;obtain⟨h1,h2,h3⟩:=hr.cellsAt hc e1;have hlt:cb < w.heap.size:=by
  obtain⟨cs,el,f1,_⟩:=hr.blk x cb sh z e1;rcases FP cb w.heap.size with h |h
  ·exact h
  ·rw[KQ h]at f1;cases f1
 exact⟨h1,cb,sh+o,cap,rfl,⟨hB _ _ _ _ e1,hlt⟩,e2,h3⟩
theorem GU {bs:ByteArray}{l:List Nat}(h:bs.data.toList.map UInt8.toNat=l):bs.size=l.length:=by
 rw[←h,Hk,Array.length_toList];rfl
section
variable {B:Nat}{ρ:Rho}{w:World}
theorem Nu {g:S→S→S→S→S→Option Nat}(hg:∀a b c d e W va vb vc vd ve,g a b c d e=some W→SR ρ a va→SR ρ b vb→SR ρ c vc→SR ρ d vd→SR ρ e ve→ ∃x:Nd,va= .int .i64 x.op∧vb= .int .i64 x.n∧vc= .string x.s∧vd= .string x.t∧RdNs B w ve x.kids∧wgN x=W):
  ∀ (l:List S) (W:Nat) (cell:Nat→Option Value),Gc g l=some W→(∀t sv,l[t]?=some sv→ ∃cv,cell t=some cv∧SR ρ sv cv)→
   ∃ (ks:List Nd) (kv:Nat→Value),ks.length*5=l.length∧wgN.wgNs ks=W∧ ∀j (h:j < ks.length),(cell (j*5)=some (.int .i64 ks[j].op)∧cell (j*5+1)=some (.int .i64 ks[j].n)∧cell (j*5+2)=some (.string ks[j].s)∧cell (j*5+3)=some (.string ks[j].t)∧cell (j*5+4)=some (kv j))∧RdNs B w (kv j) ks[j].kids
 | [],W,cell,h,hc=>⟨[],fun _=> .int .i64 0,rfl,Ah h,fun j hj=>absurd hj (Ay j)⟩
 | [_],W,cell,h,hc=>by cases h
 | [_,_],W,cell,h,hc=>by cases h
 | [_,_,_],W,cell,h,hc=>by cases h
 | [_,_,_,_],W,cell,h,hc=>by cases h
 |a::b::c::d::e::r,W,cell,h,hc=>by
  unfold Gc at h;cases h1:g a b c d e with
  |none=>rw[h1]at h;cases h
  |some V=>
   rw[h1]at h;cases h2:Gc g r with
   |none=>rw[h2]at h;cases h
   |some U=>
    rw[h2]at h;have hW:1+V+U=W:=Ah h;obtain⟨va,ca,sa⟩:=hc 0 a rfl;obtain⟨vb,cb,sb⟩:=hc 1 b rfl;obtain⟨vc,cc,sc⟩:=hc 2 c rfl;obtain⟨vd,cd,sd⟩:=hc 3 d rfl;obtain⟨ve,ce,se⟩:=hc 4 e rfl;obtain⟨x,rfl,rfl,rfl,rfl,hk,hx⟩:=hg _ _ _ _ _ _ _ _ _ _ _ h1 sa sb sc sd se;obtain⟨ks,kv,hl,hw,hks⟩:=Nu hg r U (fun t=>cell (t+5)) h2 (fun t sv ht=>hc (t+5) sv (by simpa using ht));refine⟨x::ks,fun j=>match j with |0=>ve |j+1=>kv j,by simp only[List.length_cons];omega,by rw[wgN.wgNs];omega,fun j hj=> ?_⟩;cases j with
    |zero=>exact⟨⟨ca,cb,cc,cd,ce⟩,hk⟩
    |succ j=>
     have:=hks j (by simpa using hj);simp only[List.getElem_cons_succ];rw[show(j+1)*5=j*5+5 by omega];exact this
theorem Nv {g:S→S→S→S→Option Nat}(hg:∀a b c e W va vb vc ve,g a b c e=some W→SR ρ a va→SR ρ b vb→SR ρ c vc→SR ρ e ve→ ∃x:Tp,va= .int .i64 x.op∧vb= .int .i64 x.n∧vc= .string x.s∧RdTps B w ve x.kids∧wgT x=W):
  ∀ (l:List S) (W:Nat) (cell:Nat→Option Value),Ez g l=some W→(∀t sv,l[t]?=some sv→ ∃cv,cell t=some cv∧SR ρ sv cv)→
   ∃ (ks:List Tp) (kv:Nat→Value),ks.length*4=l.length∧wgT.wgTs ks=W∧ ∀j (h:j < ks.length),(cell (j*4)=some (.int .i64 ks[j].op)∧cell (j*4+1)=some (.int .i64 ks[j].n)∧cell (j*4+2)=some (.string ks[j].s)∧cell (j*4+3)=some (kv j))∧RdTps B w (kv j) ks[j].kids
 | [],W,cell,h,hc=>⟨[],fun _=> .int .i64 0,rfl,Ah h,fun j hj=>absurd hj (Ay j)⟩
 | [_],W,cell,h,hc=>by cases h
 | [_,_],W,cell,h,hc=>by cases h
 | [_,_,_],W,cell,h,hc=>by cases h
 |a::b::c::e::r,W,cell,h,hc=>by
  unfold Ez at h;cases h1:g a b c e with
  |none=>rw[h1]at h;cases h
  |some V=>
   rw[h1]at h;cases h2:Ez g r with
   |none=>rw[h2]at h;cases h
   |some U=>
    rw[h2]at h;have hW:1+V+U=W:=Ah h;obtain⟨va,ca,sa⟩:=hc 0 a rfl;obtain⟨vb,cb,sb⟩:=hc 1 b rfl;obtain⟨vc,cc,sc⟩:=hc 2 c rfl;obtain⟨ve,ce,se⟩:=hc 3 e rfl;obtain⟨x,rfl,rfl,rfl,hk,hx⟩:=hg _ _ _ _ _ _ _ _ _ h1 sa sb sc se;obtain⟨ks,kv,hl,hw,hks⟩:=Nv hg r U (fun t=>cell (t+4)) h2 (fun t sv ht=>hc (t+4) sv (by simpa using ht));refine⟨x::ks,fun j=>match j with |0=>ve |j+1=>kv j,by simp only[List.length_cons];omega,by rw[wgT.wgTs];omega,fun j hj=> ?_⟩;cases j with
    |zero=>exact⟨⟨ca,cb,cc,ce⟩,hk⟩
    |succ j=>
     have:=hks j (by simpa using hj);simp only[List.getElem_cons_succ];rw[show(j+1)*4=j*4+4 by omega];exact this
theorem Nw {g:S→S→Option Nat}(hg:∀a e W va ve,g a e=some W→SR ρ a va→SR ρ e ve→ ∃x:Cn,va= .string x.name∧RdTps B w ve x.args∧wgC x=W):
  ∀ (l:List S) (W:Nat) (cell:Nat→Option Value),Gd g l=some W→(∀t sv,l[t]?=some sv→ ∃cv,cell t=some cv∧SR ρ sv cv)→
   ∃ (ks:List Cn) (kv:Nat→Value),ks.length*2=l.length∧C9 ks=W∧ ∀j (h:j < ks.length),(cell (j*2)=some (.string ks[j].name)∧cell (j*2+1)=some (kv j))∧RdTps B w (kv j) ks[j].args
 | [],W,cell,h,hc=>⟨[],fun _=> .int .i64 0,rfl,Ah h,fun j hj=>absurd hj (Ay j)⟩
 | [_],W,cell,h,hc=>by cases h
 |a::e::r,W,cell,h,hc=>by
  unfold Gd at h;cases h1:g a e with
  |none=>rw[h1]at h;cases h
  |some V=>
   rw[h1]at h;cases h2:Gd g r with
   |none=>rw[h2]at h;cases h
   |some U=>
    rw[h2]at h;have hW:1+V+U=W:=Ah h;obtain⟨va,ca,sa⟩:=hc 0 a rfl;obtain⟨ve,ce,se⟩:=hc 1 e rfl;obtain⟨x,rfl,hk,hx⟩:=hg _ _ _ _ _ h1 sa se;obtain⟨ks,kv,hl,hw,hks⟩:=Nw hg r U (fun t=>cell (t+2)) h2 (fun t sv ht=>hc (t+2) sv (by simpa using ht));refine⟨x::ks,fun j=>match j with |0=>ve |j+1=>kv j,by simp only[List.length_cons];omega,by rw[C9];omega,fun j hj=> ?_⟩;cases j with
    |zero=>exact⟨⟨ca,ce⟩,hk⟩
    |succ j=>
     have:=hks j (by simpa using hj);simp only[List.getElem_cons_succ];rw[show(j+1)*2=j*2+2 by omega];exact this
theorem Nx {g:S→S→S→Option Nat}(hg:∀a b e W va vb ve,g a b e=some W→SR ρ a va→SR ρ b vb→SR ρ e ve→ ∃x:Dt,va= .string x.name∧vb= .int .i64 x.vars∧RdCns B w ve x.cons∧wgD x=W∧0≤x.vars∧x.vars≤100):
  ∀ (l:List S) (W:Nat) (cell:Nat→Option Value),FD g l=some W→(∀t sv,l[t]?=some sv→ ∃cv,cell t=some cv∧SR ρ sv cv)→
   ∃ (ks:List Dt) (kv:Nat→Value),ks.length*3=l.length∧AR ks=W∧(∀d∈ks,0≤d.vars∧d.vars≤100)∧ ∀j (h:j < ks.length),(cell (j*3)=some (.string ks[j].name)∧cell (j*3+1)=some (.int .i64 ks[j].vars)∧cell (j*3+2)=some (kv j))∧RdCns B w (kv j) ks[j].cons
 | [],W,cell,h,hc=>⟨[],fun _=> .int .i64 0,rfl,Ah h,fun d hd=>(by simp at hd),fun j hj=>absurd hj (Ay j)⟩
 | [_],W,cell,h,hc=>by cases h
 | [_,_],W,cell,h,hc=>by cases h
 |a::b::e::r,W,cell,h,hc=>by
  unfold FD at h;cases h1:g a b e with
  |none=>rw[h1]at h;cases h
  |some V=>
   rw[h1]at h;cases h2:FD g r with
   |none=>rw[h2]at h;cases h
   |some U=>
    rw[h2]at h;have hW:1+V+U=W:=Ah h;obtain⟨va,ca,sa⟩:=hc 0 a rfl;obtain⟨vb,cb,sb⟩:=hc 1 b rfl;obtain⟨ve,ce,se⟩:=hc 2 e rfl;obtain⟨x,rfl,rfl,hk,hx,hv⟩:=hg _ _ _ _ _ _ _ h1 sa sb se;obtain⟨ks,kv,hl,hw,hvs,hks⟩:=Nx hg r U (fun t=>cell (t+3)) h2 (fun t sv ht=>hc (t+3) sv (by simpa using ht));refine⟨x::ks,fun j=>match j with |0=>ve |j+1=>kv j,by simp only[List.length_cons];omega,by rw[AR];omega,fun d hd=> ?_,fun j hj=> ?_⟩
    ·rcases List.mem_cons.1 hd with rfl |hd
     ·exact hv
     ·exact hvs d hd
    ·cases j with
     |zero=>exact⟨⟨ca,cb,ce⟩,hk⟩
     |succ j=>
      have:=hks j (by simpa using hj);simp only[List.getElem_cons_succ];rw[show(j+1)*3=j*3+3 by omega];exact this
variable {u:St}(hr:Rel ρ u w) (hB:∀x cb sh z,ρ x=some (cb,sh,z)→cb < B)
include hr hB
theorem II {e n x o:Nat}{fl:Bool}{l:List S}{v:Value}(hs:SR ρ (.l x o n e fl) v) (hn:0 < n) (hc:cellsAt u x o (n*e)=some l):l.length=n*e∧ ∃cb off cap,v= .slice (some ⟨cb,off,none⟩) n cap∧(cb < B∧cb < w.heap.size)∧n≤cap∧ ∀t sv,l[t]?=some sv→ ∃cv,w.cell? ⟨cb,off+t,none⟩=some cv∧SR ρ sv cv:=
 SX hr (show LS ρ x o n e fl v from hs) hB hc hn
theorem Ny:∀ (f:Nat) (a b c d e:S) (W:Nat) (va vb vc vd ve:Value),ndW (cellsAt u) f a b c d e=some W→SR ρ a va→SR ρ b vb→SR ρ c vc→SR ρ d vd→SR ρ e ve→ ∃x:Nd,va= .int .i64 x.op∧vb= .int .i64 x.n∧vc= .string x.s∧vd= .string x.t∧RdNs B w ve x.kids∧wgN x=W
 |0,a,b,c,d,e,W,va,vb,vc,vd,ve,h,sa,sb,sc,sd,se=>by cases h
 |f+1,a,b,c,d,e,W,va,vb,vc,vd,ve,h,sa,sb,sc,sd,se=>by
  obtain⟨n1,n2,l1,l2,V,rfl,rfl,rfl,rfl,h1,rfl⟩:=SQ h;cases sa
  cases sb
  obtain⟨b1,rfl,hb1⟩:=sc;obtain⟨b2,rfl,hb2⟩:=sd;have e1:=GU hb1;have e2:=GU hb2;have hk:∃ks,RdNs B w ve ks∧wgN.wgNs ks=V:=by
   rcases ID h1 with ⟨rfl,rfl⟩ |⟨x,o,n,fl,rfl,⟨rfl,rfl⟩ |⟨l,hn,hn2,hc,hg⟩⟩
   ·cases se;exact⟨[],.nil _ _,rfl⟩
   ·obtain⟨cb,sh,z,ad,cap,_,rfl,_⟩:=(show LS ρ x o 0 5 fl ve from se);exact⟨[],.nil _ _,rfl⟩
   ·obtain⟨hl,cb,off,cap,rfl,hcb,hcap,hcell⟩:=II hr hB se hn hc;obtain⟨ks,kv,hkl,hkw,hks⟩:=Nu (B:=B) (w:=w) (ρ:=ρ) (Ny f) l V (fun t=>w.cell? ⟨cb,off+t,none⟩) hg hcell;have hkn:ks.length=n:=by omega
    refine⟨ks,?_,hkw⟩;rw[←hkn];exact .row cb off cap ks kv hcb.1 hcb.2 ⟨by unfold maxLen;omega,by omega⟩ (fun j hj=>by
     obtain⟨⟨c0,c1,c2,c3,c4⟩, -⟩:=hks j hj;exact⟨c0,by rw[Da];exact c1,by rw[Da];exact c2,by rw[Da];exact c3,by rw[Da];exact c4⟩) (fun j hj=>(hks j hj).2)
  obtain⟨ks,hk1,hk2⟩:=hk;exact⟨.mk n1 n2 b1 b2 ks,rfl,rfl,rfl,rfl,hk1,by show b1.size+b2.size+wgN.wgNs ks=_;omega⟩
theorem Nz {f V:Nat}{e:S}{ve:Value}(IH:∀ (a b c e:S) (W:Nat) (va vb vc ve:Value),tyW (cellsAt u) f a b c e=some W→SR ρ a va→SR ρ b vb→SR ρ c vc→SR ρ e ve→ ∃x:Tp,va= .int .i64 x.op∧vb= .int .i64 x.n∧vc= .string x.s∧RdTps B w ve x.kids∧wgT x=W)
  (h1:slW (cellsAt u) 4 (Ez (tyW (cellsAt u) f)) e=some V) (se:SR ρ e ve):∃ks,RdTps B w ve ks∧wgT.wgTs ks=V:=by
 rcases ID h1 with ⟨rfl,rfl⟩ |⟨x,o,n,fl,rfl,⟨rfl,rfl⟩ |⟨l,hn,hn2,hc,hg⟩⟩
 ·cases se;exact⟨[],.nil _ _,rfl⟩
 ·obtain⟨cb,sh,z,ad,cap,_,rfl,_⟩:=(show LS ρ x o 0 4 fl ve from se);exact⟨[],.nil _ _,rfl⟩
 ·obtain⟨hl,cb,off,cap,rfl,hcb,hcap,hcell⟩:=II hr hB se hn hc;obtain⟨ks,kv,hkl,hkw,hks⟩:=Nv (B:=B) (w:=w) (ρ:=ρ) IH l V (fun t=>w.cell? ⟨cb,off+t,none⟩) hg hcell;have hkn:ks.length=n:=by omega
  refine⟨ks,?_,hkw⟩;rw[←hkn];exact .row cb off cap ks kv hcb.1 hcb.2 ⟨by unfold maxLen;omega,by omega⟩ (fun j hj=>by
   obtain⟨⟨c0,c1,c2,c3⟩, -⟩:=hks j hj;exact⟨c0,by rw[Da];exact c1,by rw[Da];exact c2,by rw[Da];exact c3⟩) (fun j hj=>(hks j hj).2)
theorem NA:∀ (f:Nat) (a b c e:S) (W:Nat) (va vb vc ve:Value),tyW (cellsAt u) f a b c e=some W→SR ρ a va→SR ρ b vb→SR ρ c vc→SR ρ e ve→ ∃x:Tp,va= .int .i64 x.op∧vb= .int .i64 x.n∧vc= .string x.s∧RdTps B w ve x.kids∧wgT x=W
 |0,a,b,c,e,W,va,vb,vc,ve,h,sa,sb,sc,se=>by cases h
 |f+1,a,b,c,e,W,va,vb,vc,ve,h,sa,sb,sc,se=>by
  obtain⟨n1,n2,l1,V,rfl,rfl,rfl,h1,rfl⟩:=SS h;cases sa
  cases sb
  obtain⟨b1,rfl,hb1⟩:=sc;have e1:=GU hb1;obtain⟨ks,hk1,hk2⟩:=Nz hr hB (NA f) h1 se;exact⟨.mk n1 n2 b1 ks,rfl,rfl,rfl,hk1,by show b1.size+wgT.wgTs ks=_;omega⟩
theorem SY {f:Nat}(a e:S) (W:Nat) (va ve:Value) (h:cnW (cellsAt u) f a e=some W) (sa:SR ρ a va) (se:SR ρ e ve):∃x:Cn,va= .string x.name∧RdTps B w ve x.args∧wgC x=W:=by
 obtain⟨l1,V,rfl,h1,rfl⟩:=ST h;obtain⟨b1,rfl,hb1⟩:=sa;have e1:=GU hb1;obtain⟨ks,hk1,hk2⟩:=Nz hr hB (NA hr hB f) h1 se;exact⟨⟨b1,ks⟩,rfl,hk1,by show b1.size+wgT.wgTs ks=_;omega⟩
theorem S5 {f:Nat}(a b e:S) (W:Nat) (va vb ve:Value) (h:dtW (cellsAt u) f a b e=some W) (sa:SR ρ a va) (sb:SR ρ b vb) (se:SR ρ e ve):∃x:Dt,va= .string x.name∧vb= .int .i64 x.vars∧RdCns B w ve x.cons∧wgD x=W∧0≤x.vars∧x.vars≤100:=by
 obtain⟨l1,nv,V,rfl,rfl,hv,h1,rfl⟩:=SU h;obtain⟨b1,rfl,hb1⟩:=sa;cases sb
 have e1:=GU hb1;have hk:∃ks,RdCns B w ve ks∧C9 ks=V:=by
  rcases ID h1 with ⟨rfl,rfl⟩ |⟨x,o,n,fl,rfl,⟨rfl,rfl⟩ |⟨l,hn,hn2,hc,hg⟩⟩
  ·cases se;exact⟨[],.inl ⟨rfl,_,_,rfl⟩,rfl⟩
  ·obtain⟨cb,sh,z,ad,cap,_,rfl,_⟩:=(show LS ρ x o 0 2 fl ve from se);exact⟨[],.inl ⟨rfl,_,_,rfl⟩,rfl⟩
  ·obtain⟨hl,cb,off,cap,rfl,hcb,hcap,hcell⟩:=II hr hB se hn hc;obtain⟨ks,kv,hkl,hkw,hks⟩:=Nw (B:=B) (w:=w) (ρ:=ρ) (SY hr hB) l V (fun t=>w.cell? ⟨cb,off+t,none⟩) hg hcell;have hkn:ks.length=n:=by omega
   refine⟨ks,.inr ⟨cb,off,cap,kv,by rw[hkn],hcb.1,hcb.2,⟨by unfold maxLen;omega,by omega⟩,fun j hj=> ?_⟩,hkw⟩;obtain⟨⟨c0,c1⟩,h2⟩:=hks j hj;exact⟨c0,by rw[Da];exact c1,h2⟩
 obtain⟨ks,hk1,hk2⟩:=hk;exact⟨⟨b1,nv,ks⟩,rfl,rfl,hk1,by show b1.size+C9 ks=_;omega,hv⟩
theorem S7 {p:List S}{l:List Value}(h:pgW (cellsAt u) p=true) (hl:LR (SR ρ) p l):∃ (ds:List Dt) (x:Nd) (dv kv:Value),l=[dv,.int .i64 x.op,.int .i64 x.n,.string x.s,.string x.t,kv]∧RdDts B w dv ds∧RdNs B w kv x.kids∧AR ds≤1000∧wgN x≤1000∧ ∀d∈ds,0≤d.vars∧d.vars≤100:=by
 obtain⟨d,a,b,s,t,k,W,V,rfl,h1,h2,hW,hV⟩:=SW h
 match l,hl with
 | [dv,va,vb,vs,vt,kv],⟨sd,sa,sb,ss,st,sk,_⟩=>
  obtain⟨x,rfl,rfl,rfl,rfl,hk,hx⟩:=Ny hr hB 30 a b s t k V va vb vs vt kv h2 sa sb ss st sk;have hd:∃ds,RdDts B w dv ds∧AR ds=W∧ ∀d∈ds,0≤d.vars∧d.vars≤100:=by
   rcases ID h1 with ⟨rfl,rfl⟩ |⟨x,o,n,fl,rfl,⟨rfl,rfl⟩ |⟨l,hn,hn2,hc,hg⟩⟩
   ·cases sd;exact⟨[],.inl ⟨rfl,_,_,rfl⟩,rfl,by simp⟩
   ·obtain⟨cb,sh,z,ad,cap,_,rfl,_⟩:=(show LS ρ x o 0 3 fl dv from sd);exact⟨[],.inl ⟨rfl,_,_,rfl⟩,rfl,by simp⟩
   ·obtain⟨hl,cb,off,cap,rfl,hcb,hcap,hcell⟩:=II hr hB sd hn hc;obtain⟨ks,kv,hkl,hkw,hvs,hks⟩:=Nx (B:=B) (w:=w) (ρ:=ρ) (S5 hr hB) l W (fun t=>w.cell? ⟨cb,off+t,none⟩) hg hcell;have hkn:ks.length=n:=by omega
    refine⟨ks,.inr ⟨cb,off,cap,kv,by rw[hkn],hcb.1,hcb.2,⟨by unfold maxLen;omega,by omega⟩,fun j hj=> ?_⟩,hkw,hvs⟩;obtain⟨⟨c0,c1,c2⟩,h3⟩:=hks j hj;exact⟨c0,by rw[Da];exact c1,by rw[Da];exact c2,h3⟩
  obtain⟨ds,hd1,hd2,hd3⟩:=hd;exact⟨ds,x,dv,kv,rfl,hd1,hk,by omega,by omega,hd3⟩
end
noncomputable def kwB (l:List Nat) (ks:List (List Nat)):Bool:=List.rec (motive:=fun _=>Bool) false (fun x _ ih=>bif Go.Ev.seq l x then true else ih) ks
theorem ND (l:List Nat):∀ks,kwB l ks=ks.contains l
 | []=>rfl
 |x::ks=>by
  show(bif Go.Ev.seq l x then true else kwB l ks)=_
  rw[ND l ks,Go.Ev.seq_eq,List.contains_cons];cases (l==x) <;> rfl
noncomputable def kwE:Nat→List V→St→Option (V×St):=fun g vs u=>bif Nat.beq g 215 then(match vs with
 | [.c (.s l)]=>some (.c (.b (kwB l kws)),u)
 |_=>none)else none
theorem Tg {g : Nat} {f : Func} (h1 : Tryz.prog.funcs[g]? = some f) (hn : (f.name == "runtime.NumGoroutine") = false) (hb : f.body.isNone = false) (args : Array Value) (w : World) : (callFunc g args).run Pq w = .ok (.enter g args) w := by
 unfold callFunc;simp only[Sem.run_bind,run_program,Result.andThen_ok,h1,hn,Dh,Di,hb];rfl
theorem Th:CT Pq kwE:=by
 intro g vs s v s' h ρ w cargs hl hr;unfold kwE at h;cases hg:Nat.beq g 215 with
 |false=>rw[hg]at h;cases h
 |true=>
  rw[hg]at h;have hg':=I3 hg;subst hg';rw[cond_true]at h;split at h
  ·rename_i l;simp only[Af,Ax]at h;obtain⟨rfl,rfl⟩:=h
   match cargs,hl with
   | [c],hl=>
    obtain⟨bs,rfl,hbs⟩:∃bs:ByteArray,c= .string bs∧bs.data.toList.map UInt8.toNat=l:=hl.1;refine⟨Tg Tryz.func215 (by kernel_rfl) (by kernel_rfl) _ _,(Oh bs w).mono ?_⟩;rintro e w' ⟨rfl,hb⟩;have e2:kwB l kws=kws.contains (Bq bs):=by rw[ND];unfold Bq;rw[hbs]
    exact⟨_,ρ,rfl,by rw[e2];rfl,hr.later hb,Rho.le_refl _,hb.os,hb.tape,hb.output,hb.size,fun c hc _=>hb.block c hc,fun x cb sh z e=> .inl ⟨x,sh,z,e⟩,Ad _,fun _ _ e=> .inl e⟩
   | [],hl=>exact hl.elim
   |_::_::_,hl=>exact hl.2.elim
  ·cases h
noncomputable def J6:Nat→List V→St→Option (V×St):=fn tbl 100000 kwE 400
theorem Ti:CT Pq J6:=Mw MU MV R5 100000 (fun call nt hc=>Rz follows MU MV hc) Th 400
noncomputable def EB (src:List Nat):Bool:=match J6 148 [.c (.s src)] St.zero with
 |some (v,u)=>isP v fun p=>Nat.beq (Bi p) 6&& pgW (cellsAt u) p
 |none=>false
structure PipeP (src:List Nat) (p:List S) (uP:St):Prop where
 parse:Ent Pq 148 [.c (.s src)] St.zero (.t [.a p,.c (.i (-1))]) uP
 len:p.length=6
 rd:pgW (cellsAt uP) p=true
theorem FE {src:List Nat}(h:EB src=true):∃p uP,PipeP src p uP:=by
 unfold EB at h;cases hc:J6 148 [.c (.s src)] St.zero with
 |none=>rw[hc]at h;cases h
 |some x=>
  obtain⟨v,u⟩:=x;rw[hc]at h;obtain⟨p,rfl,a4⟩:=Q6 (k:=fun p=>Nat.beq (Bi p) 6&& pgW (cellsAt u) p) h;obtain⟨a40,a41⟩:=(AH _ _).mp a4;exact⟨p,u,Q5 Ti hc,by rw[←Cq];exact I3 a40,a41⟩
end Go.Proofs.YtifhcbeaiijkcaaGreat
end
section
namespace Go.Proofs.YtifhcbeaiijkcaaGreat
open Go
open _root_.Go.World renaming alloc→Wa,setCell→Ws
open _root_.Go.Proofs.Tryz renaming prog→Pq
section
variable {P:Program}{ops:Array Oper}{Q:Exit→Act→World→Prop}{md:Region.Mode}{S:World→Prop}{n:Nat}
def Cy (P:Program) (md:Region.Mode) (ops:Array Oper) (Q:Exit→Act→World→Prop) (S:World→Prop) (n:Nat):Nat→Array Bool→Act→World→Prop
 |0,listed,a,w=>(List.range n).all (fun j=>listed.getD j true)=true∧wpAny P md ops Q (ops.size - n) listed a w
 |f+1,listed,a,w=>Region.ready md ops listed≠ []∧ ∀i∈Region.ready md ops listed,i < n∧wpOp P ops Q i (fun a' w'=>S w'∧Cy P md ops Q S n f (listed.setIfInBounds i true) a' w') a w
theorem Np:∀ (f:Nat) (listed:Array Bool) (a:Act) (w:World),Cy P md ops Q S n f listed a w→wpAny P md ops Q (f+ (ops.size - n)) listed a w
 |0,listed,a,w,h=>by
  rw[BU];exact h.2
 |f+1,listed,a,w,h=>by
  rw[show f+1+ (ops.size - n)= (f+ (ops.size - n))+1 by omega];exact⟨fun h0=>absurd h0 h.1,fun i hi=>wpOp_mono (fun a' w' h'=>Np f _ a' w' h'.2) (h.2 i hi).2⟩
def IC (md:Region.Mode) (ops:Array Oper) (n:Nat):Bool:=
 (List.range ops.size).all fun t=>decide (t < n) || (List.range n).all fun i=>match ops[t]? with |some o=>o.after.any fun e=>Region.binds md e&& decide (e.on=i) |none=>true
theorem Nq (hw:IC md ops n=true) {listed:Array Bool}{i j:Nat}(hin:i < n) (hun:listed.getD i true=false) (hj:j∈Region.ready md ops listed):j < n:=by
 obtain⟨hjun,oj,hoj,hall⟩:=En.1 hj;rcases FP j n with h |h
 ·exact h
 exfalso;have hlt:j < ops.size:=(Gq.1 hoj).1;simp only[IC,Be,Hg,EK,Hl]at hw;rcases hw j hlt with h1 |h1
 ·omega
 ·have h2:=h1 i hin;rw[hoj]at h2;simp only[Array.any_eq_true',AH,Hl]at h2;obtain⟨e,he,hb,rfl⟩:=h2;have h3:=hall e he hb;rw[getD_both hun]at h3;cases h3
theorem SM {i:Nat}{oi:Oper}{v:Value}(hi:ops[i]?=some oi) (hsel:∀ (j:Nat) (o:Oper) cs b,ops[j]?=some o→o.op≠ .select cs b)
  (hQ:∀c a w,Q (.panic c) (a.put oi.dst v) w→Q (.panic c) a w)
  (hw:IC md ops n=true) (hin:i < n):
  ∀ (f:Nat) (listed:Array Bool) (a:Act) (w:World),HeadInv md ops n listed→
   (∀j oj,ops[j]?=some oj→j≠i→listed.getD j true=false→(∀e∈oj.after,Region.binds md e=true→e.on≠i)→oi.apart ops oj=true)→
   i∈Region.ready md ops listed→YieldsIf P ops S oi v a→S w→
   Cy P md ops Q S n f (listed.setIfInBounds i true) (a.put oi.dst v) w→Cy P md ops Q S n (f+1) listed a w:=by
 intro f;induction f with
 |zero=>
  intro listed a w inv _ hr hy hS H;have hun:=(En.1 hr).1;refine⟨fun h=>(by rw[h]at hr;cases hr),fun j hj=> ?_⟩;have hjn:j < n:=Nq hw hin hun hj;refine⟨hjn,?_⟩;by_cases hji:j=i
  ·subst hji;exact hy.wpOp hi hS ⟨hS,H⟩
  ·have h1:=Be.1 H.1 j (Hg.2 hjn);rw[getD_set_ne true (fun e=>hji e.symm)]at h1;have h2:=(En.1 hj).1;rw[h1]at h2;cases h2
 |succ f ih=>
  intro listed a w inv hfree hr hy hS H;have hun:=(En.1 hr).1;refine⟨fun h=>(by rw[h]at hr;cases hr),fun j hj=> ?_⟩;have hjn:j < n:=Nq hw hin hun hj;refine⟨hjn,?_⟩;by_cases hji:j=i
  ·subst hji;exact hy.wpOp hi hS ⟨hS,H⟩
  ·have h1:=(H.2 j (ready_mono hj hji)).2;obtain⟨hjun,oj,hoj,hall⟩:=En.1 hj;have hnot:∀e∈oj.after,Region.binds md e=true→e.on≠i:=fun e he hb heq=>by
    have h1:=hall e he hb;rw[heq,getD_both hun]at h1;cases h1
   have h2:=wpOp_putIf hoj (hfree j oj hoj hji hjun hnot) (fun cs b=>hsel i oi cs b hi) (fun cs b=>hsel j oj cs b hoj) hQ hy h1;have hfree':∀k ok,ops[k]?=some ok→k≠i→(listed.setIfInBounds j true).getD k true=false→
     (∀e∈ok.after,Region.binds md e=true→e.on≠i)→oi.apart ops ok=true:=fun k ok hk hki hun hno=>by
    refine hfree k ok hk hki ?_ hno;by_cases hjk:j=k
    ·subst hjk;exact hjun
    ·rw[getD_set_ne true hjk]at hun;exact hun
   refine wpOp_mono (fun a' w' h3=>⟨h3.2.1,ih (listed.setIfInBounds j true) a' w' (inv.set hj hjn) hfree' (ready_mono hr (Ne.symm hji)) h3.1 h3.2.1 ?_⟩) h2;rw[Array.setIfInBounds_comm _ _ hji];exact h3.2.2
def J4 (md:Region.Mode) (ops:Array Oper) (n:Nat) (i:Nat) (listed:Array Bool):Bool:=
 Region.noSelect ops&& (IC md ops n&& (decide (i < n)&& IB md ops n listed))
theorem SN {i:Nat}{oi:Oper}{v:Value}{fuel:Nat}{listed:Array Bool}{a:Act}{w:World}(hi:ops[i]?=some oi)
  (hs:J4 md ops n i listed=true) (hf:Region.free md ops listed i=true) (hr:(Region.ready md ops listed).contains i=true)
  (hQ:∀c a w,Q (.panic c) (a.put oi.dst v) w→Q (.panic c) a w) (hy:YieldsIf P ops S oi v a) (hS:S w)
  (h:Cy P md ops Q S n fuel (listed.setIfInBounds i true) (a.put oi.dst v) w):Cy P md ops Q S n (fuel+1) listed a w:=by
 simp only[J4,AH,Hl]at hs;obtain⟨h1,h2,h5,h6⟩:=hs;exact SM hi (Region.noSelect_spec h1) hQ h2 h5 fuel listed a w (No h6) (Region.free_spec hi hf) (by simpa using hr) hy hS h
def AllReadyU (P:Program) (md:Region.Mode) (ops:Array Oper) (Q:Exit→Act→World→Prop) (S:World→Prop) (n:Nat) (fuel:Nat) (listed:Array Bool) (a:Act) (w:World) (rs:List Nat):Prop:=
 ∀i∈rs,wpOp P ops Q i (fun a' w'=>S w'∧Cy P md ops Q S n fuel (listed.setIfInBounds i true) a' w') a w
theorem AllReadyU.nil {fuel:Nat}{listed:Array Bool}{a:Act}{w:World}:AllReadyU P md ops Q S n fuel listed a w []:=fun _ h=>by cases h
theorem AllReadyU.cons {fuel:Nat}{listed:Array Bool}{a:Act}{w:World}{i:Nat}{o:Oper}{rs:List Nat}(ho:ops[i]?=some o)
  (h:∀K':Act→World→Prop,Shut (∀a w,S w→(S w→Cy P md ops Q S n fuel (listed.setIfInBounds i true) a w)→K' a w)→if Region.wanted o (yielded ops a.tmps)=true then Oper.wp P o a w K' Q else K' (a.put o.dst undef) w)
  (hs:AllReadyU P md ops Q S n fuel listed a w rs):AllReadyU P md ops Q S n fuel listed a w (i::rs):=fun j hj=>by
 rcases List.mem_cons.1 hj with rfl |hj
 ·exact wpOp_step ho (fun K' hK=>h K' (fun a w hS hW=>hK a w ⟨hS,hW hS⟩))
 ·exact hs j hj
theorem Nr {rs:List Nat}{fuel:Nat}{listed:Array Bool}{a:Act}{w:World}(hr:Region.ready md ops listed=rs) (hne:(rs≠ [])∧ ∀i∈rs,i < n)
  (h:AllReadyU P md ops Q S n fuel listed a w rs):Cy P md ops Q S n (fuel+1) listed a w:=⟨hr▸hne.1,fun i hi=>⟨hne.2 i (hr▸hi),h i (hr▸hi)⟩⟩
theorem SO {listed:Array Bool}{a:Act}{w:World}(hr:(List.range n).all (fun j=>listed.getD j true)=true) (h:wpAny P md ops Q (ops.size - n) listed a w):Cy P md ops Q S n 0 listed a w:=⟨hr,h⟩
theorem SP (n:Nat) {id:Nat}{a:Act}{w:World}(hm:P.follows .mixedOrders=true) (hn:decide (n≤ops.size)=true) (hS:S w.drew)
  (h:S w.drew→Cy P .any ops Q S n n (Array.replicate ops.size false) a w.drew):(Code.region id ops true).wp P Q a w:=by
 have hn':n≤ops.size:=by simpa using hn
 refine wp_region_any hm ?_;have:=Np _ _ _ _ (h hS);rw[show n+ (ops.size - n)=ops.size by omega]at this;exact this
end
section
variable {P:Program}{ops:Array Oper}{Q:Exit→Act→World→Prop}{md:Region.Mode}{S:World→Prop}{n:Nat}
theorem tkU {i:Nat}{oi:Oper}{v:Value}{fuel:Nat}{listed:Array Bool}{a a':Act}{w:World}(h:Cy P md ops Q S n fuel (listed.setIfInBounds i true) a' w) (hi:ops[i]?=some oi:=by (simp only[List.getElem?_toArray,List.getElem?_cons_succ,List.getElem?_cons_zero];rfl))
  (hs:J4 md ops n i listed=true:=by kernel_rfl) (hf:Region.free md ops listed i=true:=by kernel_rfl) (hr:(Region.ready md ops listed).contains i=true:=by kernel_rfl)
  (hQ:∀c a w,Q (.panic c) (a.put oi.dst v) w→Q (.panic c) a w:=by exact fun _ _ _ h=>h) (hy:YieldsIf P ops S oi v a:=by exact Or.inl ⟨by rfl,by (intro w hSw;(try dsimp only at hSw);go_simp;(try with_reducible rfl))⟩) (hS:S w:=by assumption)
  (ha:a.put oi.dst v=a':=by first | (simp only[Act.put,List.setIfInBounds_toArray,List.set_cons_zero,List.set_cons_succ];done) | (simp only[Act.put,List.setIfInBounds_toArray,List.set_cons_zero,List.set_cons_succ];rfl) |rfl):Cy P md ops Q S n (fuel+1) listed a w:=by
 subst ha;exact SN hi hs hf hr hQ hy hS h
theorem bkU {fuel:Nat}{listed:Array Bool}{a a':Act}{w:World}{K:Act→World→Prop}(hK:Shut (∀a w,S w→(S w→Cy P md ops Q S n fuel listed a w)→K a w)) (hS:S w) (h:S w→Cy P md ops Q S n fuel listed a' w)
  (ha:a=a':=by first | (simp only[Act.put,List.setIfInBounds_toArray,List.set_cons_zero,List.set_cons_succ];done) | (simp only[Act.put,List.setIfInBounds_toArray,List.set_cons_zero,List.set_cons_succ];rfl) |rfl):K a w:=by
 subst ha;exact hK.out _ _ hS h
theorem rdU {i:Nat}{o:Oper}{fuel:Nat}{listed:Array Bool}{a:Act}{w:World}(h:∀K':Act→World→Prop,Shut (∀a w,S w→(S w→Cy P md ops Q S n fuel (listed.setIfInBounds i true) a w)→K' a w)→if Region.wanted o (yielded ops a.tmps)=true then Oper.wp P o a w K' Q else K' (a.put o.dst undef) w)
  (hr:Region.ready md ops listed=[i]:=by kernel_rfl) (hn:i < n:=by decide) (ho:ops[i]?=some o:=by (simp only[List.getElem?_toArray,List.getElem?_cons_succ,List.getElem?_cons_zero];rfl)):Cy P md ops Q S n (fuel+1) listed a w:=
 Nr hr (by simpa using hn) (AllReadyU.cons ho h AllReadyU.nil)
end
end Go.Proofs.YtifhcbeaiijkcaaGreat
end
section
namespace Go.Proofs.YtifhcbeaiijkcaaGreat
open Go.RowKit
open _root_.Go.World renaming alloc→Wa,setCell→Ws
open _root_.Go.Proofs.Tryz renaming prog→Pq
mutual
def Cg:Vl→Int→Int
 | .con _ ks,m=>Dl ks 1 m
 | .int _,_=>1
 | .fn _ _ _ _,_=>1
def Dl:List Vl→Int→Int→Int
 | [],n,_=>n
 |k::ks,n,m=>if n > m then n else Dl ks (n+Cg k (m - n)) m
end
theorem Qe (v:Vl) (m:Int):Cg v m=Dl (ksV v) 1 m:=by cases v <;> (unfold Cg;rfl)
theorem Fh (v:Vl):Au v=1+Au.countVs (ksV v):=by cases v <;> rfl
theorem Hr {v:Vl}:∀ {ks:List Vl},v∈ks→Au v≤Au.countVs ks
 |x::xs,h=>by
  unfold Au.countVs;rcases List.mem_cons.1 h with rfl |h
  ·omega
  ·have:=Hr h;omega
theorem Qf (ks:List Vl) {n m:Int}(h:n > m):Dl ks n m=n:=by cases ks with |nil=>rfl |cons k ks=>unfold Dl;rw[Ag h]
mutual
theorem Je:∀ (v:Vl) (m:Int),0≤m→(if(Au v:Int)≤m then Cg v m=Au v else Cg v m=m+1)
 | .con s ks,m,hm=>by
  have:=Lr ks 1 m (by omega);unfold Cg;have e:Au (.con s ks)=1+Au.countVs ks:=rfl;rw[e];by_cases h:(1:Int)+Au.countVs ks≤m
  ·rw[Ag (by omega)]at this ⊢;omega
  ·rw[Ab (by omega)]at this ⊢;exact this
 | .int n,m,hm=>by
  show if((1:Nat):Int)≤m then(1:Int)= ((1:Nat):Int)else(1:Int)=m+1
  split <;> omega
 | .fn _ _ _ _,m,hm=>by
  show if((1:Nat):Int)≤m then(1:Int)= ((1:Nat):Int)else(1:Int)=m+1
  split <;> omega
theorem Lr:∀ (ks:List Vl) (n m:Int),n≤m+1→(if n+ (Au.countVs ks:Int)≤m then Dl ks n m=n+Au.countVs ks else Dl ks n m=m+1)
 | [],n,m,hn=>by
  show if n+ ((0:Nat):Int)≤m then n=n+ ((0:Nat):Int)else n=m+1
  split <;> omega
 |k::ks,n,m,hn=>by
  have e:Au.countVs (k::ks)=Au k+Au.countVs ks:=rfl;rw[e];unfold Dl;by_cases hgt:n > m
  ·rw[Ag hgt,Ab (by omega)];omega
  ·rw[Ab hgt];have h1:=Je k (m - n) (by omega);by_cases hk:(Au k:Int)≤m - n
   ·rw[Ag hk]at h1;have h2:=Lr ks (n+Cg k (m - n)) m (by omega);rw[h1]at h2 ⊢;by_cases h3:n+ (Au k:Int)+Au.countVs ks≤m
    ·rw[Ag (by omega)]at h2 ⊢;omega
    ·rw[Ab (by omega)]at h2 ⊢;exact h2
   ·rw[Ab hk]at h1;rw[h1,Qf ks (by omega),Ab (by omega)];omega
end
theorem Ls (v:Vl):Cg v 4000 > 4000↔Au v > 4000:=by
 have:=Je v 4000 (by decide);split at this <;> omega
theorem Qg {v:Vl}{m:Int}(hm:0≤m):1≤Cg v m∧Cg v m≤m+1:=by
 have:=Je v m hm;have h1:=Fh v;split at this <;> omega
theorem Lt {B g:Nat}{X:Nat→Prop}{r:Option Nat}{w:World}:∀ (N:Nat) (v:Vl) (tv:Value) (m:Int),Au v < N→0≤m→m≤4000→RdX B X g r w tv (.th v)→
  Calls Pq 51 #[tv,.int .i64 m] w fun e w'=>e= .returned (.int .i64 (Cg v m))∧w'=w
 |0,v,tv,m,hN,hm,hm4,ht=>by omega
 |N+1,v,tv,m,hN,hm,hm4,ht=>by
  have IH:=Aa (fun(j:Nat) (hj:j < (ksV v).length) (tv:Value) (m:Int) (h1:0≤m) (h2:m≤4000) (h:RdX B X g r w tv (.th (ksV v)[j]))=>(by
   have:=Hr (As hj);have:=Fh v;exact Lt N (ksV v)[j] tv m (by omega) h1 h2 h:Calls Pq 51 #[tv,.int .i64 m] w fun e w'=>e= .returned (.int .i64 (Cg (ksV v)[j] m))∧w'=w))
  have HE:=Aa (Qe v m);obtain⟨tb,tkv,tnm,tx,tbv,tev,rfl,tk,tc,pv,hpv,hvs⟩:=ht.th_form;obtain⟨ta,tcp,rfl⟩:=hpv.form;have hvl:=hpv.len;unfold maxLen at hvl;unfold thC at tc;have HPV:=Aa hpv;have HVS:=Aa hvs;clear ht hN hpv hvs;generalize kdV v=kd at*;generalize nmV v=nv at*;generalize tgV v=sv at*;generalize Cg v m=cv at*;generalize ksV v=vs at*;go_enter Tryz.func51,Tryz.ntmps51;go_wp2
  go_loop [5,13] (fun n i=>∃ (k:Nat) (c:Int),k≤vs.length∧i= .int .i64 k∧n= .int .i64 c∧1≤c∧c≤m+1∧Hid (Dl (vs.drop k) c m=cv)) (fun _ i=>vs.length - (intOf i).toNat)
  case atStart=>exact⟨0,1,Av _,rfl,rfl,by omega,by omega,Aa HE.out.symm⟩
  case round=>
   obtain⟨k,c,hk,rfl,rfl,hc1,hc2,hcv⟩:=hrel;by_cases hlt:k < vs.length
   ·obtain⟨pb,po,pcap,hpe,hpk,hpc,hpcell⟩:=HPV.out.at_ hlt;cases hpe
    have hki:(k:Int) < (vs.length:Int):=by omega
    have hk0:(0:Int)≤ (k:Int):=by omega
    have hu:=HVS.out k hlt;obtain⟨pvb,hpvb⟩:=hu.th_ptr;rw[hpvb]at hpcell hu;have HU:=Aa hu;have IHk:=Aa (IH.out k hlt);have HST:=Aa (show Dl (vs.drop k) c m=if c > m then c else Dl (vs.drop (k+1)) (c+Cg vs[k] (m - c)) m by rw[List.drop_eq_getElem_cons hlt,Dl]);clear hu hpvb;generalize vs[k]=u at*;by_cases hgt:c > m
    ·have hy:=Aa (hcv.out.symm.trans (HST.out.trans (Ag hgt)));go_wp2;go_ret;exact⟨AK hy.out.symm,rfl⟩
    ·have hy:=Aa ((HST.out.trans (Ab hgt)).symm.trans hcv.out);have hle:=Qg (v:=u) (m:=m - c) (by omega);go_wp2_with fail;refine(IHk.out _ (m - c) (by omega) (by omega) HU.out).mono ?_;rintro e w2 ⟨rfl,rfl⟩;generalize Cg u (m - c)=q at*;go_wp2
     go_round
     case rel=>exact⟨k+1,c+q,hlt,by go_num,by go_num,by omega,by omega,hy⟩
     case measure=>simp[intOf];omega
   ·obtain rfl:k=vs.length:=by omega
    have hy:=Aa (hcv.out.symm.trans (show Dl (vs.drop vs.length) c m=c by rw[Ff];rfl));go_wp2;go_ret;exact⟨AK hy.out.symm,rfl⟩
theorem Tryz.infoVl:(Tryz.prog.info? 60).map (fun i=>(i.zero,i.size,i.bytes))=some (some (.agg #[.int .i64 0,.int .i64 0,.string ⟨#[]⟩,.slice none 0 0]),4,56):=by kernel_rfl
def vlC (u:Vl) (kv:Value):Array Value:= #[.int .i64 (kdV u),.int .i64 (nmV u),.string (tgV u),kv]
def RwV (A:Nat→Prop) (w:World) (v:Value) (n:Nat) (cs:Nat→Array Value):Prop:=
 (n=0∧ ∃a cap,v= .slice a 0 cap)∨ ∃b off cap,v= .slice (some ⟨b,off,none⟩) n cap∧(A b∧b < w.heap.size)∧(n≤maxLen∧n≤cap)∧ ∀j,j < n→ ∀i,i < 4→w.cell? ⟨b,off+ (j*4+i),none⟩= (cs j)[i]?
inductive RdTv (A:Nat→Prop) (w:World):Vl→Array Value→Prop
 |mk (u:Vl) (kv:Value) (cs:Nat→Array Value) (hk:RwV A w kv (ksV u).length cs) (hv:∀j (h:j < (ksV u).length),RdTv A w (ksV u)[j] (cs j)):RdTv A w u (vlC u kv)
theorem RwV.later {A A':Nat→Prop}{w w':World}{v:Value}{n:Nat}{cs:Nat→Array Value}(h:RwV A w v n cs) (t:∀b,A b→b < w.heap.size→A' b∧b < w'.heap.size∧w'.heap[b]?=w.heap[b]?):RwV A' w' v n cs:=by
 rcases h with h |⟨b,off,cap,h1,h2,h3,h4⟩
 ·exact .inl h
 ·obtain⟨t1,t2,t3⟩:=t b h2.1 h2.2;exact .inr ⟨b,off,cap,h1,⟨t1,t2⟩,h3,fun j hj i hi=>(An t3).trans (h4 j hj i hi)⟩
theorem RdTv.later {A A':Nat→Prop}{w w':World}{u:Vl}{c:Array Value}(h:RdTv A w u c) (t:∀b,A b→b < w.heap.size→A' b∧b < w'.heap.size∧w'.heap[b]?=w.heap[b]?):RdTv A' w' u c:=by
 induction h with
 |mk u kv cs hk _ ih=>exact .mk u kv cs (hk.later t) ih
theorem RdTv.cells {A:Nat→Prop}{w:World}{u:Vl}{c:Array Value}(h:RdTv A w u c):∃kv,c=vlC u kv:=by
 cases h with
 |mk u kv cs _ _=>exact⟨kv,rfl⟩
theorem RdTv.form {A:Nat→Prop}{w:World}{u:Vl}{kv:Value}(h:RdTv A w u (vlC u kv)):∃a cap,kv= .slice a (ksV u).length cap:=by
 obtain⟨c,hc⟩:∃c,vlC u kv=c:=⟨_,rfl⟩;rw[hc]at h;cases h with
 |mk _ kv2 cs hk _=>
  have:kv=kv2:=by have:=AX (fun a:Array Value=>a[3]?) hc;exact Ah this
  subst this;rcases hk with ⟨h0,a,cap,rfl⟩ |⟨b,off,cap,rfl,_⟩
  ·exact⟨a,cap,by rw[h0]⟩
  ·exact⟨_,cap,rfl⟩
structure Shw (w W:World) (u:Vl) (k:Nat) (kv:Value):Prop where
 bb:Below w.heap.size w W
 bo:Bx W w.heap.size #[.int .i64 0,.int .i64 0,.string ⟨#[]⟩,.slice none 0 0]
 bt:Bx W (w.heap.size+1) (vlC u kv)
 row:∃ (ps:List Value) (cs:Nat→Array Value),W.ownsRow (w.heap.size+2) 60 4 kv k ps∧(∀j,j < k→ ∀i,i < 4→ps[j*4+i]?= (cs j)[i]?)∧
  ∀j (h:j < (ksV u).length),j < k→RdTv (fun b=>w.heap.size+2≤b∧kv.ownBlock≠some b) W (ksV u)[j] (cs j)
section
variable {w W W':World}{u:Vl}{k:Nat}{kv:Value}
theorem Shw.same (h:Shw w W u k kv) (b:Below W.heap.size W W'):Shw w W' u k kv:=by
 obtain⟨ps,cs,ho,hp,hr⟩:=h.row;exact⟨h.bb.trans (b.mono h.bb.size),h.bo.below b h.bo.1,h.bt.below b h.bt.1,ps,cs,CE ho b (Cj ho),hp,fun j hj hk=>(hr j hj hk).later fun q hq hl=>⟨hq,Aj hl b.size,b.block q hl⟩⟩
theorem Shw.form (h:Shw w W u k kv):∃a cap,kv= .slice a k cap:=by
 obtain⟨ps,cs,ho, -⟩:=h.row;exact A2 ho
theorem Shw.app (h:Shw w W u k kv) {M:Nat}{c:Array Value}(hk:k < (ksV u).length) (hM:∀q,kv.ownBlock=some q→q < M) (hMW:M≤W.heap.size) (hwM:w.heap.size+2≤M)
  (hc:RdTv (fun b=>M≤b) W (ksV u)[k] c):∃ps,W.ownsRow (w.heap.size+2) 60 4 kv k ps∧ ∀ (v':Value) (w4:World),w4.ownsRow (w.heap.size+2) 60 4 v' (k+1) (ps++c.toList)→W.grownBy w4 kv.ownBlock→
  (v'.ownBlock=kv.ownBlock∨ ∃q,v'.ownBlock=some q∧W.heap.size≤q)→Shw w (w4.setCell ⟨w.heap.size+1,3,none⟩ v') u (k+1) v':=by
 obtain⟨ps2,cs,hps,hp2,hr2⟩:=h.row;refine⟨ps2,hps,fun v' w4 ho hg hat=> ?_⟩;have hsz:w4.heap.size= (w4.setCell ⟨w.heap.size+1,3,none⟩ v').heap.size:=(AS ..).symm;have hl:=hps.1;have hq0:∀q,kv.ownBlock=some q→w.heap.size+2≤q:=fun q hq=>(hps.lt q hq).1;have hs:=grownBy.setCell w4 (w.heap.size+1) 3 v';have hblk:∀b,b < W.heap.size→b≠w.heap.size+1→kv.ownBlock≠some b→(w4.setCell ⟨w.heap.size+1,3,none⟩ v').heap[b]?=W.heap[b]?:=fun b hb h1 h2=>
  (hs.block b (Aj hb hg.size) (fun e=>h1 (Ah e))).trans (hg.block b hb (fun e=>h2 e.symm))
 have hbW:Below w.heap.size W (w4.setCell ⟨w.heap.size+1,3,none⟩ v'):=⟨hg.os,hg.tape,hg.output,by rw[←hsz];exact hg.size,fun q hq=>hblk q (by have:=h.bb.size;omega) (by omega) (fun e=>by have:=hq0 q e;omega)⟩;refine⟨h.bb.trans hbW,?_,?_,ps2++c.toList,fun j=>if j=k then c else cs j,ho.kept hs ?_,fun j hj i hi=> ?_,fun j hj hjk=> ?_⟩
 ·have:=hblk w.heap.size h.bo.1 (by omega) (fun e=>by have:=hq0 _ e;omega);exact⟨by rw[←hsz];exact Aj h.bo.1 hg.size,fun j=>(An this).trans (h.bo.2.1 j),fun j=>(DG this).trans (h.bo.2.2 j)⟩
 ·have h4:Bx w4 (w.heap.size+1) (vlC u kv):=h.bt.grown hg (fun e=>by have:=hq0 _ e.symm;omega);have:=h4.st 3 (by simp[vlC]) v'
  simpa [vlC] using this
 ·cases hq:v'.ownBlock with
  |none=>exact .inl rfl
  |some q=>exact .inr (fun e=>by have:=(ho.lt q hq).1;have:=Ah e;omega)
 ·dsimp only;by_cases hj2:j=k
  ·subst hj2;rw[Ag rfl,Cp (by omega),hl,show j*4+i - j*4=i by omega,Array.getElem?_toList]
  ·rw[Ab hj2,BV (by omega)];exact hp2 j (by omega) i hi
 ·dsimp only;by_cases hj2:j=k
  ·subst hj2;rw[Ag rfl];refine hc.later fun q hq hl2=>⟨⟨by omega,fun e=> ?_⟩,by rw[←hsz];exact Aj hl2 hg.size,hblk q hl2 (by omega) (fun e=>by have:=hM q e;omega)⟩
   rcases hat with e2 |⟨q2,e2,e3⟩
   ·have:=hM q (e2.symm.trans e);omega
   ·rw[e2]at e;have:=Ah e;omega
  ·rw[Ab hj2];refine(hr2 j hj (by omega)).later fun q hq hl2=>⟨⟨hq.1,fun e=> ?_⟩,by rw[←hsz];exact Aj hl2 hg.size,hblk q hl2 (by omega) hq.2⟩
   rcases hat with e2 |⟨q2,e2,e3⟩
   ·exact hq.2 (e2.symm.trans e)
   ·rw[e2]at e;have:=Ah e;omega
theorem Shw.done (h:Shw w W u (ksV u).length kv):RdTv (fun b=>w.heap.size+2≤b) W u (vlC u kv):=by
 obtain⟨ps,cs,ho,hp,hr⟩:=h.row;refine .mk u kv cs ?_ (fun j hj=>(hr j hj hj).later fun q hq hl=>⟨hq.1,hl,rfl⟩);have hb:=fun q hq=>ho.lt q hq;rcases ho.2 with ⟨rfl,h0⟩ |⟨q,cap,cu,rfl,hbq,hgg,hn,hm,hc,ht⟩
 ·exact .inl ⟨h0,_,_,rfl⟩
 ·refine .inr ⟨q,0,cap,rfl,hb q rfl,⟨by omega,hn⟩,fun j hj i hi=> ?_⟩;rw[BU,FM W q _ cu _ (0,0) hgg,←hp j hj i hi,←ht,Ej,Ag (by omega),Array.getElem?_toList]
end
def Sm {α:Type}(n:Nat) (r:Rs α):Prop:=match r with
 | .ok _ s=>s.out.length+s.fuel≤n
 | .bad _ o=>o.length≤n
theorem Sm.bind {α β:Type}{n:Nat}{r:Rs α}{k:α→Es→Rs β}(h:Sm n r) (hk:∀a s,r= .ok a s→s.out.length+s.fuel≤n→Sm n (k a s)):Sm n (r.bind k):=by
 cases r with
 |ok a s=>exact hk a s rfl h
 |bad c o=>exact h
theorem Sm.mono {α:Type}{n n':Nat}{r:Rs α}(h:Sm n r) (hn:n≤n'):Sm n' r:=by
 cases r with
 |ok a s=>exact Ar h hn
 |bad c o=>exact Ar h hn
theorem Fc {α:Type}{n:Nat}{a:α}{s:Es}(h:s.out.length+s.fuel≤n):Sm n (.ok a s):=h
theorem FG {α:Type}{n:Nat}{c:Int}{s:Es}(h:s.out.length+s.fuel≤n):Sm (α:=α) n (.bad c s.out):=by unfold Sm;dsimp only;omega
theorem Kw {n:Nat}(v:Vl) (s:Es) (h:s.out.length+s.fuel≤n):Sm n (asInt v s):=by
 cases v with
 |int k=>exact Fc h
 |_=>exact FG h
section
variable {E:Nd→Env→Es→Rs Vl}(hE:∀x env s n,s.out.length+s.fuel≤n→Sm n (E x env s))
include hE
theorem OS (env:Env):∀ks s n,s.out.length+s.fuel≤n→Sm n (Bd E env ks s)
 | [],s,n,h=>Fc h
 |k::ks,s,n,h=>(hE _ _ _ _ h).bind fun v s1 _ h1=>(OS env ks s1 n h1).bind fun vs s2 _ h2=>Fc h2
theorem OT (env:Env) (v:Vl):∀az s n,s.out.length+s.fuel≤n→Sm n (A5 E env v az s)
 | [],s,n,h=>FG h
 |a::az,s,n,h=>by
  unfold A5;split
  ·exact hE _ _ _ _ h
  ·exact OT env v az s n h
theorem VB (f x:Vl) (s:Es) (n:Nat) (h:s.out.length+s.fuel≤n):Sm n (Cd E f x s):=by
 cases f with
 |fn=>exact hE _ _ _ _ h
 |_=>exact FG h
theorem VC {ar:Str→Option Nat}(x:Nd) (env:Env) (s:Es) (n:Nat) (h:s.out.length+s.fuel≤n):Sm (n+1) (AF ar E x env s):=by
 have up:∀r:Rs Vl,Sm n r→Sm (n+1) r:=fun r h=>h.mono (AQ n);unfold AF;by_cases h1:x.op=1
 ·rw[Ag h1];exact up _ (Fc h)
 rw[Ab h1];by_cases h2:x.op=2
 ·rw[Ag h2];cases look env x.s with
  |some v=>exact up _ (Fc h)
  |none=>exact up _ (FG h)
 rw[Ab h2];by_cases h3:x.op=3
 ·rw[Ag h3];exact up _ (Fc h)
 rw[Ab h3];by_cases h4:x.op=4
 ·rw[Ag h4];exact up _ ((hE _ _ _ _ h).bind fun f s1 _ a1=>(hE _ _ _ _ a1).bind fun a s2 _ a2=>VB hE _ _ _ _ a2)
 rw[Ab h4];by_cases h6:x.op=6
 ·rw[Ag h6];exact up _ (hE _ _ _ _ h)
 rw[Ab h6];by_cases h7:x.op=7
 ·rw[Ag h7];exact up _ ((hE _ _ _ _ h).bind fun v s1 _ a1=>OT hE _ _ _ _ _ a1)
 rw[Ab h7];by_cases h15:x.op=15
 ·rw[Ag h15];refine up _ ((OS hE _ _ _ _ h).bind fun vs s1 _ a1=> ?_);by_cases ha:ar x.s=some x.kids.length
  ·rw[Ag ha];exact Fc a1
  ·rw[Ab ha];exact FG a1
 rw[Ab h15];refine((hE _ _ _ _ h).mono (AQ n)).bind fun v s1 e1 a1=> ?_;have b1:s1.out.length+s1.fuel≤n:=by have:=hE (x.kid 0) env s n h;rw[e1]at this;exact this
 by_cases h5:x.op=5
 ·rw[Ag h5];exact up _ (hE _ _ _ _ b1)
 rw[Ab h5];refine((Kw v s1 b1).mono (AQ n)).bind fun a s2 e2 a2=> ?_;have b2:s2.out.length+s2.fuel≤n:=by have:=Kw v s1 b1;rw[e2]at this;exact this
 by_cases h16:x.op=16
 ·rw[if_pos h16];unfold Sm;dsimp only;rw[List.length_append,List.length_singleton];omega
 rw[Ab h16];by_cases h9:x.op=9
 ·rw[Ag h9];by_cases ha:a≠0
  ·rw[Ag ha];exact up _ (hE _ _ _ _ b2)
  ·rw[Ab ha];exact up _ (hE _ _ _ _ b2)
 rw[Ab h9];exact up _ ((hE _ _ _ _ b2).bind fun v2 s3 _ a3=>(Kw _ _ a3).bind fun b s4 _ a4=>Fc a4)
end
theorem OU (ar:Str→Option Nat):∀m x env s n,s.out.length+s.fuel≤n→Sm n (Ai ar m x env s)
 |0,x,env,s,n,h=>FG h
 |m+1,x,env,s,n,h=>by
  unfold Ai;split
  ·exact FG h
  ·rename_i f hf;have:=VC (OU ar m) (ar:=ar) x env ⟨f,s.out⟩ (s.out.length+f) (Ad _);exact this.mono (by omega)
theorem EF {ar:Str→Option Nat}{m:Nat}{x:Nd}{env:Env}{s s':Es}{v:Vl}(h:Ai ar m x env s= .ok v s'):s'.out.length+s'.fuel≤s.out.length+s.fuel:=by
 have:=OU ar m x env s _ (Ad _);rw[h]at this;exact this
theorem Ev.app {B g:Nat}{lv:Value}{W w4:World}{f:Int}{o:List Int}{r:Option Nat}{ov v':Value}{x:Int}(h:Ev B g lv W f 0 o r) (hb:Bx W g #[lv,.int .i64 f,.int .i64 0,ov]) (hr:ov.ownBlock=r)
  (ho:w4.ownsRow B 3 1 v' (o.length+1) (o.map (Value.int .i64)++ [.int .i64 x])) (hg:W.grownBy w4 ov.ownBlock) (hat:v'.ownBlock=ov.ownBlock∨v'.ownBlock=some (W.heap.size+1)):
  Ev B g lv (w4.setCell ⟨g,3,none⟩ v') f 0 (o++ [x]) v'.ownBlock∧Tw g r v'.ownBlock W (w4.setCell ⟨g,3,none⟩ v'):=by
 have hne:v'.ownBlock≠some g:=by
  rcases hat with e |e
  ·rw[e,hr];exact h.ne
  ·rw[e];intro e2;have:=Ah e2;have:=h.lt;omega
 have hne2:some g≠ov.ownBlock:=by rw[hr];exact fun e=>h.ne e.symm
 have k4:=hb.grown hg hne2;have hlt:∀k,v'.ownBlock=some k→B≤k∧k < w4.heap.size:=fun k e=>ho.lt k e;refine⟨⟨⟨v',by simpa using k4.st 3 (by simp) v',?_,rfl⟩,⟨h.gB.1,by rw[AS];exact Ar h.gB.2 hg.size⟩,hne⟩,⟨hg.os,hg.tape,hg.output,by rw[AS];exact hg.size,fun k hk hkg hkr=> ?_,fun k e=>⟨?_,by rw[AS];exact(hlt k e).2⟩,fun _=>hne⟩⟩
 ·have:=ho.kept (grownBy.setCell w4 g 3 v') (.inr hne)
  simpa using this
 ·exact((grownBy.setCell w4 g 3 v').block k (Aj hk hg.size) (fun e=>hkg (Ah e))).trans (hg.block k hk (fun e=>hkr (by rw[←hr];exact e.symm)))
 ·rcases hat with e2 |e2
  ·rw[e2,hr]at e;exact .inl e
  ·rw[e2]at e;have:=Ah e;right;omega
theorem RdX.fn_form {B g:Nat}{X:Nat→Prop}{r:Option Nat}{w:World}{tv:Value}{arg self:Str}{body:Nd}{env:Env}(h:RdX B X g r w tv (.th (.fn arg self body env))):∃b bv ev,tv= .pointer (some ⟨b,0,none⟩)∧Kp X g r w b∧(∀j,w.cell? ⟨b,j,none⟩= (thC 3 0 eS AB arg body bv ev)[j]?)∧RdNs B w bv body.kids∧RdX B X g r w ev (.sc (if self=eS then env else(self,.fn arg self body env)::env)):=by
 have h':=h;cases h with
 |fn b arg body env bv ev hk hc hx he=>exact⟨b,bv,ev,rfl,hk,hc,hx,by rw[Ag rfl];exact he⟩
 |rec_ b sb arg self body env bv ev hn hk hc hs hd hx he=>exact⟨b,bv,_,rfl,hk,hc,hx,by rw[Ab hn];exact .cons _ _ _ _ _ _ hs hd h' he⟩
theorem VD {E:Nd→Env→Es→Rs Vl}{f x:Vl}{s:Es}(h:kdV f≠3):Cd E f x s= .bad 2 s.out:=by cases f <;> first |rfl | (simp[kdV]at h)
theorem OV {v:Vl}(h:kdV v=3):∃arg self body env,v= .fn arg self body env:=by
 cases v with
 |fn a b c d=>exact⟨a,b,c,d,rfl⟩
 |int=>simp[kdV]at h
 |con=>simp[kdV]at h
theorem RdNs.rest {B:Nat}{w:World}{b off cap:Nat}{ks:List Nd}(h:RdNs B w (.slice (some ⟨b,off,none⟩) ks.length cap) ks) (h2:2≤ks.length):RdNs B w (.slice (some ⟨b,off+5,none⟩) (ks.length - 1) (cap - 1)) (ks.drop 1):=by
 cases ks with
 |nil=>simp at h2
 |cons y ys=>
  obtain⟨b',off',cap',hv,hc,ht⟩:=h.tail;cases hv
  exact ht ⟨b,off+5,none⟩ (fun _=>rfl)
theorem VE {x:Nd}(h:Ao x=true) (o:x.op=7):2≤x.kids.length:=by
 rw[G8,Ag o]at h;simp only[AH,FO]at h;exact h.2.2.2.1
theorem VF {x:Nd}(h:Ao x=true) (o:x.op=7) {k:Nat}(hk:k < (x.kids.drop 1).length):∃p e,(x.kids.drop 1)[k].kids=[p,e]∧BG p=true∧Ao e=true:=by
 obtain⟨e,az,hkk, -,ha⟩:=GQ h o;have hm:(x.kids.drop 1)[k]∈az:=by
  have e1:x.kids.drop 1=az:=by rw[hkk];rfl
  exact e1▸As hk
 exact Iw (ha _ hm)
theorem VG (E:Nd→Env→Es→Rs Vl) (env:Env) (v:Vl) {az:List Nd}{k:Nat}(hk:k < az.length) (s:Es):A5 E env v (az.drop k) s=match Br (az[k].kid 0) v env with |some e=>E (az[k].kid 1) e s |none=>A5 E env v (az.drop (k+1)) s:=by
 rw[List.drop_eq_getElem_cons hk];rfl
end Go.Proofs.YtifhcbeaiijkcaaGreat
end
