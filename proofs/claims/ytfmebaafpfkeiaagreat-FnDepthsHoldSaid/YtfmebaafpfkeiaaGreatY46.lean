/- Parts of the proof of FnDepthsHold. -/
import Derived.Test.YtfmebaafpfkeiaaGreatY16
import Derived.Test.YtfmebaafpfkeiaaGreatY20
import Derived.Test.YtfmebaafpfkeiaaGreatY11
import Derived.Test.YtfmebaafpfkeiaaGreatY13
import Derived.Test.YtfmebaafpfkeiaaGreatY17
import Derived.IntWalk
import Derived.Test.YtfmebaafpfkeiaaGreatY47
import Derived.Test.YtfmebaafpfkeiaaGreatY48
import Derived.Test.YtfmebaafpfkeiaaGreatY49
set_option linter.unusedVariables false
set_option linter.unusedSimpArgs false
set_option maxRecDepth 1000000
set_option maxHeartbeats 16000000
section
namespace Go.Proofs.YtfmebaafpfkeiaaGreat
open Go.RowKit
theorem QD {c m:Int}(hm:-2147483648≤m∧m≤2147483648):(-2147483648≤Ag c m∧Ag c m≤2147483648)∧(0≤A0 c∧A0 c≤1):=by
 unfold Ag A0;refine⟨?_,?_⟩
 ·repeat' split
  all_goals omega
 ·repeat' split
  all_goals omega
def Je (o:O3) (d:Int):Value:=if Fu o d then .tuple #[.int .i64 0,.bool false]else .tuple #[.int .i64 (Hr o d),.bool true]
theorem QE (c n m d:Int) (w:World) (hr:1≤c∧c≤21) (hn:-2147483648≤n∧n≤2147483648) (hm:-2147483648≤m∧m≤2147483648) (hd:1≤d∧d≤60):
  Calls Tryz.prog 78 #[.agg #[.int .i64 c,.int .i64 n,.int .i64 m],.int .i64 d] w fun e w'=>e= .returned (Je ⟨c,n,m⟩ d)∧Below w.heap.size w w':=by
 have HE:=Lib.hid (fun(W:World)=>Bi c n m hr W);obtain⟨⟨t0,t1⟩,p0,p1⟩:=QD (c:=c) hm;unfold Je Fu Hr;dsimp only;obtain⟨T,hT⟩:∃T,Ag c m=T:=⟨_,rfl⟩;obtain⟨P,hP⟩:∃P,A0 c=P:=⟨_,rfl⟩;rw[hT,hP]at HE ⊢;rw[hT]at t0 t1;rw[hP]at p0 p1;clear hT hP;have e1:IntKind.i64.wrap (d - 1)=d - 1:=IntWalk.i64_in _ (by omega);have e2:IntKind.i64.wrap (d - T)=d - T:=IntWalk.i64_in _ (by omega);have e3:IntKind.i64.wrap (d - T+P)=d - T+P:=IntWalk.i64_in _ (by omega);go_enter Tryz.func78,Tryz.ntmps78;go_wp2_with fail;generalize hxx:w.alloc _=x0;obtain⟨bb,k1⟩:=Bx.alloc hxx;clear hxx;have ck1:=k1.2.1;have yk1:=k1.1;refine(HE.out x0).mono ?_;rintro e w1 ⟨rfl,b1⟩;clear ck1 yk1;replace k1:=k1.below b1 k1.1;replace bb:=bb.trans (b1.mono bb.size);clear b1;by_cases hc2:c=2
 ·subst hc2;have ck1:=k1.2.1;have yk1:=k1.1;have zk1:=k1.2.2;go_wp2
  all_goals go_ret2
  all_goals refine⟨?_,bb⟩
  all_goals(simp_all;try omega)
 ·by_cases hc7:c=7
  ·subst hc7;have ck1:=k1.2.1;have yk1:=k1.1;have zk1:=k1.2.2;go_wp2
   all_goals go_ret2
   all_goals refine⟨?_,bb⟩
   all_goals(simp_all;try omega)
  ·have ck1:=k1.2.1;have yk1:=k1.1;have zk1:=k1.2.2;go_wp2
   all_goals go_ret2
   all_goals refine⟨?_,bb⟩
   all_goals(simp_all;try omega)
theorem QF (w:World) (x:Int) (e:TypeId):Rd (w.alloc (.cells #[.int .i64 x] e)).heap.size .i64 (w.alloc (.cells #[.int .i64 x] e)) (.slice (some ⟨w.heap.size,0,none⟩) 1 1) [x]:=by
 refine .inr ⟨w.heap.size,0,1,rfl,by simp,by simp,⟨by unfold maxLen;simp,Nat.le_refl _⟩,fun j hj=> ?_⟩;have:j=0:=by simpa using hj
 subst this;rw[World.cell?_alloc_at _ _ _ _ rfl];rfl
theorem QG (w:World) (x y:Int) (e:TypeId):Rd (w.alloc (.cells #[.int .i64 x,.int .i64 y] e)).heap.size .i64 (w.alloc (.cells #[.int .i64 x,.int .i64 y] e)) (.slice (some ⟨w.heap.size,0,none⟩) 2 2) [x,y]:=by
 refine .inr ⟨w.heap.size,0,2,rfl,by simp,by simp,⟨by unfold maxLen;simp,Nat.le_refl _⟩,fun j hj=> ?_⟩;have:j=0∨j=1:=by simp at hj;omega
 rcases this with rfl |rfl
 all_goals
  rw[World.cell?_alloc_at _ _ _ _ rfl];rfl
theorem QH (c n m:Int) (p:Nat) (hp:p≤3000) (w:World) (hr:1≤c∧c≤21):
  Calls Tryz.prog 79 #[.agg #[.int .i64 c,.int .i64 n,.int .i64 m],.int .i64 p] w fun e w'=>∃v,e= .returned v∧Rd w'.heap.size .i64 w' v (fol ⟨c,n,m⟩ p)∧(∀i,v.ownBlock=some i→w.heap.size≤i)∧Below w.heap.size w w':=by
 have e1:IntKind.i64.wrap ((p:Int)+1)= (p:Int)+1:=IntWalk.i64_in _ (by omega);have hcs:c=1∨c=2∨c=3∨c=4∨c=5∨c=6∨c=7∨c=8∨c=9∨c=10∨c=11∨c=12∨c=13∨c=14∨c=15∨c=16∨c=17∨c=18∨c=19∨c=20∨c=21:=by omega
 obtain⟨F,hF⟩:∃F,fol ⟨c,n,m⟩ (p:Int)=F:=⟨_,rfl⟩;rw[hF];rcases hcs with rfl |rfl |rfl |rfl |rfl |rfl |rfl |rfl |rfl |rfl |rfl |rfl |rfl |rfl |rfl |rfl |rfl |rfl |rfl |rfl |rfl
 all_goals
  simp[fol]at hF;subst hF;go_enter Tryz.func79,Tryz.ntmps79;go_wp2_with fail;generalize hxx:w.alloc _=x0;obtain⟨bx,k1⟩:=Bx.alloc hxx;have sx:x0.heap.size=w.heap.size+1:=by rw[←hxx,World.size_alloc]
  clear hxx;have ck:=k1.2.1;have yk:=k1.1;go_wp2;go_ret
  first
   |exact⟨.slice none 0 0,rfl,.inl ⟨rfl,_,_,rfl⟩,fun i hi=>(by cases hi),bx⟩
   |exact⟨.slice (some ⟨w.heap.size+1,0,none⟩) 2 2,rfl,by rw[←sx];exact QG _ _ _ _,fun i hi=>(by have:w.heap.size+1=i:=Option.some.inj hi;omega),bx.alloc bx.size _⟩
   |exact⟨.slice (some ⟨w.heap.size+1,0,none⟩) 1 1,rfl,by rw[←sx];exact QF _ _ _,fun i hi=>(by have:w.heap.size+1=i:=Option.some.inj hi;omega),bx.alloc bx.size _⟩
theorem Jh {P:Nat→Prop}(h:∃n,P n):∃m,P m∧ ∀n,P n→m≤n:=by
 obtain⟨n,hn⟩:=h;induction n using Nat.strongRecOn with
 |_ n ih=>
  by_cases hh:∃k,k < n∧P k
  ·obtain⟨k,hk,hp⟩:=hh;exact ih k hk hp
  ·exact⟨n,hn,fun k hk=>Nat.le_of_not_lt (fun hl=>hh ⟨k,hl,hk⟩)⟩
noncomputable def EY (P:Nat→Prop):Nat:=by classical exact if h:∃n,P n then Classical.choose (Jh h)else 0
theorem QN {P:Nat→Prop}(h:∃n,P n):P (EY P):=by
 unfold EY;rw[dif_pos h];exact(Classical.choose_spec (Jh h)).1
theorem QO {P:Nat→Prop}{n:Nat}(h:P n):EY P≤n:=by
 unfold EY;rw[dif_pos ⟨n,h⟩];exact(Classical.choose_spec (Jh ⟨n,h⟩)).2 n h
def QI (r:Option (List Int)) (e:Ending) (w':World):Prop:=
 match r with
 |some ds=>∃v,e= .returned (.tuple #[v,.bool true])∧Rd w'.heap.size .i64 w' v ds
 |none=>e= .returned (.tuple #[.slice none 0 0,.bool false])
theorem QJ {base:Nat}{w:World}{e:TypeId}(u:Value) (hb:base≤w.heap.size):(w.alloc (.cells #[u] e)).ownsRow base e 1 (.slice (some ⟨w.heap.size,0,none⟩) 1 1) 1 [u]:=
 ⟨rfl,.inr ⟨w.heap.size,1,#[u],rfl,hb,heap_alloc_new w _,Nat.le_refl _,by unfold maxLen;omega,rfl,rfl⟩⟩
theorem QK (xs:List Value) (os:List O3) (h:xs.length=os.length) (h0:0 < os.length):(Cn (fun _=>Value.int .i64 (-1)) xs os.length).set 0 (.int .i64 1)= (F9 os).map (Value.int .i64):=by
 rw[OH _ _ _ h];unfold F9;rw[List.map_set,List.map_replicate]
 congr 1
 refine List.ext_getElem (by simp) fun i h1 h2=>by simp
def Jf (base:Nat) (gr N:Nat) (w:World) (td:Value) (out todo:List Int):Prop:=
 w.ownsRow base 3 1 (.slice (some ⟨gr,0,none⟩) N N) N (out.map (Value.int .i64))∧w.ownsRow base 3 1 td todo.length (todo.map (Value.int .i64))∧td.ownBlock≠some gr
def DpSt (os:List O3) (r:Option (List Int)) (base gr N:Nat) (td:Value) (w:World) (n:Nat):Prop:=∃out todo,Jf base gr N w td out todo∧Fv fol os n out todo=some r
theorem DpSt.step {os:List O3}{r:Option (List Int)}{base gr N:Nat}{td:Value}{w:World}(h:∃n,DpSt os r base gr N td w n):
  ∃m out todo,EY (DpSt os r base gr N td w)=m+1∧Jf base gr N w td out todo∧Fv fol os (m+1) out todo=some r:=by
 obtain⟨out,todo,h1,h2⟩:=QN h;cases hn:EY (DpSt os r base gr N td w)with
 |zero=>rw[hn]at h2;cases h2
 |succ m=>rw[hn]at h2;exact⟨m,out,todo,rfl,h1,h2⟩
theorem QL {B:Nat}(fv:Value) (fs:List F2) (f:Nat) (w:World) (hr:RdF B w fv fs) (hin:∀x∈fs,Gv x) (hfl:f < fs.length) (hfn:fs.length≤60) (hok:A3 fs=true) (os:List O3) (hos:(fs.getD f fn0).os=os) (h0:0 < os.length) (hN:os.length≤3000)
  (hop:∀p:Nat,p < os.length→(1≤ (opT os p).c∧(opT os p).c≤21)∧(-2147483648≤ (opT os p).n∧(opT os p).n≤2147483648)∧(-2147483648≤ (opT os p).m∧(opT os p).m≤2147483648))
  (r:Option (List Int)) (F:Nat) (hd:Fv fol os F (F9 os) [0]=some r):
  Calls Tryz.prog 26 #[fv,.int .i64 f] w fun e w'=>QI r e w'∧Below w.heap.size w w':=by
 obtain⟨i0,hi,hz0,hz1,hz2⟩:=info_parts Tryz.infoI2;have HF:=Lib.hid (by have:=M0 fv fs w hr hin (by omega);rw[hok]at this;exact this:Calls Tryz.prog 52 #[fv] w fun e w'=>e= .returned (.bool true)∧Below w.heap.size w w');have e1:IntKind.i64.wrap ((fs.length:Int) - 1)= (fs.length:Int) - 1:=IntWalk.i64_in _ (by omega);have HI:=Lib.hid (fun(W:World)=>(by have:=AT (f:Int) 0 ((fs.length:Int) - 1) W;rw[show inB (f:Int) 0 ((fs.length:Int) - 1)=true from Aw.2 (by omega)]at this;exact this:Calls Tryz.prog 54 #[.int .i64 f,.int .i64 0,.int .i64 ((fs.length:Int) - 1)] W fun e w'=>e= .returned (.bool true)∧W=w'));have HR:=Lib.hid (fun(W:World) (hb:Below w.heap.size w W)=>hr.below' hb);obtain⟨fb,foff,fcap,lv,hfv,hfb0,hfb,_,_,cf1,ro⟩:=(hr.below' (Below.refl w.heap.size w)).at_ hfl;subst hfv;rw[DJ hfl]at hos;rw[hos]at ro;obtain⟨ob,ooff,ocap,hlv,hob0,hob,_,_⟩:=RdE.at_ ro h0;subst hlv;have HC:=Lib.hid (fun(W:World) (hb:Below w.heap.size w W)=>(hb.cell (p:=⟨fb,foff+f*2+1,none⟩) hfb).trans cf1);have RO:=Lib.hid (fun(W:World) (hb:Below w.heap.size w W)=>RdE.below' ro hb);obtain⟨N,hNN⟩:∃N,os.length=N:=⟨_,rfl⟩;have HN:=Lib.hid hNN;rw[hNN]at h0 hN hop HC;have HOP:=Lib.hid hop;have HD:=Lib.hid hd;have hfi:(f:Int) < (fs.length:Int):=by omega
 clear hr hin hok hos cf1 ro hop hd hob0 hfb0;go_enter Tryz.func26,Tryz.ntmps26;go_wp2_with fail;refine HF.out.mono ?_;rintro e w1 ⟨rfl,b1⟩;go_wp2_with fail;refine(HI.out w1).mono ?_;rintro e w2 ⟨rfl,rfl⟩;have cf:=HC.out w1 b1;have z1:=b1.size;have B1:=Lib.hid b1;clear b1 HF HI;go_wp2_with (refine wpList_make_full _ rfl (.tmp 32) (.tmp 32) 27 rfl w.heap.size 3 i0 (.int .i64 0) 1 Tryz.underlying27 hi hz0 hz1 .i64 .i64 _ _ N rfl rfl rfl rfl ?_ ?_ ?_ ?_)
 ·rw[hz2];omega
 ·unfold maxLen;omega
 ·exact z1
 ·intro w3 hown hgrow;have b3:=B1.out.trans (Below.of_grown hgrow (by omega) (fun k hk=>by cases hk));obtain⟨xs,hown,hlen⟩:∃xs,w3.ownsRow w.heap.size 3 1 (.slice (some ⟨w1.heap.size,0,none⟩) N N) N xs∧xs.length=N:=⟨_,hown,by simpa using hown.1⟩;obtain⟨gr,hgr⟩:∃gr,w1.heap.size=gr:=⟨_,rfl⟩;rw[hgr]at hown z1 ⊢;have HL:=Lib.hid hlen;have HOW:=Lib.hid hown;have B3:=Lib.hid b3;clear hgr hlen hown b3 hgrow B1 cf;go_wp2
  go_loopw [36] (fun i wr=>∃k:Nat,k≤N∧i= .int .i64 k∧wr.ownsRow w.heap.size 3 1 (.slice (some ⟨gr,0,none⟩) N N) N (Cn (fun _=>Value.int .i64 (-1)) xs k)∧Below w.heap.size w wr) (fun i _=>N - (intOf i).toNat)
  case atStart=>exact⟨0,Nat.zero_le _,rfl,by rw[OG];exact HOW.out,B3.out⟩
  case round=>
   clear HOW B3;obtain⟨k,hk,rfl,hon,hb⟩:=hrel;by_cases hlt:k < N
   ·have c1:=AN hon k hlt;rw[OJ _ _ _ (by rw[HL.out];exact hlt)]at c1;have f1:=Cy hon k;have on3:=Eh hon k hlt (.int .i64 (-1));rw[OI (fun _=>Value.int .i64 (-1)) xs k (by rw[HL.out];exact hlt)]at on3;have b4:=hb.setCell (p:=⟨gr,k,none⟩) (by dsimp only;omega) (.int .i64 (-1));have hki:(k:Int) < (N:Int):=by omega
    have ON3:=Lib.hid on3;have B4:=Lib.hid b4;clear on3 b4 hon hb;go_wp2;go_roundw
    case rel=>exact⟨k+1,hlt,by go_num,ON3.out,B4.out⟩
    case measure=>simp[intOf];omega
   ·have hkN:k=N:=by omega
    rw[hkN]at hon ⊢;have hzb:=hb.size;obtain⟨u,hu⟩:∃u,(Cn (fun _=>Value.int .i64 (-1)) xs N)[0]?=some u:=⟨_,List.getElem?_eq_getElem (by rw[Yh _ _ _ (by rw[HL.out];exact Nat.le_refl _),HL.out];exact h0)⟩;have c1:=AN hon 0 h0;rw[hu]at c1;have f1:=Cy hon 0;have on3:=Eh hon 0 h0 (.int .i64 1);have e2:=QK xs os (HL.out.trans HN.out.symm) (by rw[HN.out];exact h0);rw[HN.out]at e2;rw[e2]at on3;have b4:=hb.setCell (p:=⟨gr,0,none⟩) (by dsimp only;omega) (.int .i64 1);have zs:(wr.setCell ⟨gr,0,none⟩ (.int .i64 1)).heap.size=wr.heap.size:=by simp
    have hgl:gr < wr.heap.size:=(hon.lt _ rfl).2;have ON3:=Lib.hid on3;have B4:=Lib.hid b4;have hki:(0:Int) < (N:Int):=by omega
    clear on3 b4 hon hb e2 hu HL hlt hk;go_wp2;clear hkN c1 f1 u;obtain⟨wy,hwy⟩:∃wy,wr.setCell ⟨gr,0,none⟩ (.int .i64 1)=wy:=⟨_,rfl⟩;rw[hwy]at ON3 B4 zs ⊢;rw[←zs]at hzb hgl ⊢;clear hwy zs;have hS:DpSt os r w.heap.size gr N (.slice (some ⟨wy.heap.size,0,none⟩) 1 1) (wy.alloc (.cells #[.int .i64 0] 3)) F:=
     ⟨F9 os,[0],⟨ON3.out.alloc _,QJ _ hzb,fun h=>by have:wy.heap.size=gr:=Option.some.inj h;omega⟩,HD.out⟩
    have HSt:=Lib.hid hS;have B5:=Lib.hid (show Below w.heap.size w (wy.alloc (.cells #[.int .i64 0] 3))from B4.out.alloc hzb _);clear hS ON3 B4;generalize wy.alloc _=wz at HSt B5 ⊢;generalize hv0:Value.slice (some ⟨wy.heap.size,0,none⟩) 1 1=v0 at HSt ⊢;clear hv0 hzb hgl
    go_loopw [9] (fun td W=>(∃n,DpSt os r w.heap.size gr N td W n)∧Below w.heap.size w W) (fun td W=>EY (DpSt os r w.heap.size gr N td W))
    case atStart=>exact⟨⟨F,HSt.out⟩,B5.out⟩
    case round=>
     clear HSt B5 HD;obtain⟨hex,hb⟩:=hrel;obtain⟨m,out,todo,hm,⟨o1,o2,hne⟩,hrun⟩:=DpSt.step hex;have HM:=Lib.hid hm;clear hm hex;obtain⟨ta,tc,rfl⟩:=AC o2;have hzb:=hb.size;unfold Fv at hrun;by_cases ht0:todo.length=0
     ·rw[if_pos ht0]at hrun;cases hrun
      have hol:out.length=N:=by have:=o1.1;simpa using this
      have O1:=Lib.hid o1;have BB:=Lib.hid hb;have h00:¬(0:Int) < (todo.length:Int):=by omega
      have h01:¬(todo.length:Int) > (0:Int):=by omega
      clear o1 o2 hb;go_wp2;go_ret2;refine⟨⟨_,rfl,?_⟩,BB.out⟩;exact Rd.of_own O1.out
     ·rw[if_neg ht0]at hrun;have ht1:(todo.length:Int) > (0:Int):=by omega
      cases hdk:dOk os out todo
      ·rw[hdk]at hrun;simp at hrun
      rw[hdk,if_pos rfl]at hrun;unfold dOk at hdk;simp only[Bool.and_eq_true,decide_eq_true_eq]at hdk;obtain⟨⟨⟨d1,d2⟩,d3⟩,⟨d4,d5⟩,d6,d7⟩:=hdk;obtain⟨a,ha⟩:∃a:Nat,CY todo=a:=⟨(CY todo).toNat,by omega⟩;rw[ha]at d4 d5 d6 d7 hrun;rw[Int.toNat_natCast]at d6 d7 hrun;obtain⟨d,hdd⟩:∃d,out.getD a 0=d:=⟨_,rfl⟩;rw[hdd]at d6 d7 hrun;have hNa:a < N:=by omega
      have hopa:=HOP.out a hNa;obtain⟨o,ho⟩:∃o,opT os (a:Int)=o:=⟨_,rfl⟩;rw[ho]at hopa hrun;obtain⟨p1,p2,p3⟩:=hopa;obtain⟨kt,hkt⟩:∃kt,todo.length=kt+1:=⟨todo.length - 1,by omega⟩;obtain⟨tg,rfl,ct⟩:=Hl o2 kt (by omega);have hta:todo[kt]'(by omega)= (a:Int):=by
       have h1:todo.getD (todo.length - 1) 0= (a:Int):=ha;rw[show todo.length - 1=kt by omega,List.getD_eq_getElem?_getD,List.getElem?_eq_getElem (by omega)]at h1;exact h1
      rw[List.getElem?_map,List.getElem?_eq_getElem (by omega),Option.map_some,hta]at ct;have co:=AN o1 a hNa;rw[List.getElem?_map,List.getElem?_eq_getElem (by omega),Option.map_some,show out[a]'(by omega)=d by rw[←hdd,List.getD_eq_getElem?_getD,List.getElem?_eq_getElem (by omega)];rfl]at co;obtain⟨ob',ooff',ocap',hlv,_,hobW,_,ocells⟩:=RdE.at_ (RO.out wr hb) (show a < os.length by omega);cases hlv
      rw[show os[a]'(by omega)=o by rw[←ho];unfold opT;rw[Int.toNat_natCast,List.getD_eq_getElem?_getD,List.getElem?_eq_getElem (by omega)];rfl]at ocells;have q0:wr.cell? ⟨ob,ooff+a*3,none⟩=some (.int .i64 o.c):=ocells 0 (by decide);have q1:wr.cell? ⟨ob,ooff+a*3+1,none⟩=some (.int .i64 o.n):=ocells 1 (by decide);have q2:wr.cell? ⟨ob,ooff+a*3+2,none⟩=some (.int .i64 o.m):=ocells 2 (by decide);have hcap:=DU o2;have e3:IntKind.i64.wrap ((todo.length:Int) - 1)= (kt:Int):=by rw[IntWalk.i64_in _ (by omega)];omega
      have hkc:(kt:Int)≤ (tc:Int):=by omega
      have hk0:(0:Int)≤ (kt:Int):=by omega
      have hkl:(kt:Int) < (todo.length:Int):=by omega
      have hai:(a:Int) < (N:Int):=by omega
      have htk:=G5 o2 (k:=kt) (by omega);rw[Nat.mul_one,←List.map_take,show todo.take kt=todo.dropLast by rw[List.dropLast_eq_take,hkt,Nat.add_sub_cancel]]at htk;have hdl:todo.dropLast.length=kt:=by rw[List.length_dropLast];omega
      have hgW:gr < wr.heap.size:=(o1.lt _ rfl).2;have OT:=Lib.hid htk;have HKT:=Lib.hid hkt;have HDL:=Lib.hid hdl;have O1:=Lib.hid o1;have BB:=Lib.hid hb;have HRUN:=Lib.hid hrun;have HL2:=Lib.hid (And.intro d1 d3);obtain⟨oc,on,om⟩:=o;dsimp only at p1 p2 p3 q0 q1 q2;have HA:=Lib.hid (fun(W:World)=>QE oc on om d W p1 p2 p3 ⟨d6,d7⟩);unfold Je at HA;have HFo:=Lib.hid (fun(W:World)=>QH oc on om a (by omega) W p1);clear hkt hdl o1 o2 hb hrun htk ocells ho hta hdd ha d1 d2 d3 d4 d5;have split:∀P:Prop,(Fu ⟨oc,on,om⟩ d=true→P)→(Fu ⟨oc,on,om⟩ d=false→P)→P:=fun P h1 h2=>by
       cases h:Fu ⟨oc,on,om⟩ d
       ·exact h2 h
       ·exact h1 h
      refine split _ (fun hab=> ?_) (fun hab=> ?_)
      ·rw[hab]at HA;have hrn:r=none:=by have:=HRUN.out;rw[hab]at this;exact(Option.some.inj this).symm
       clear HRUN hab split;go_wp2_with fail;refine wp_region_held_drew (S:=(fun w'=>w'.cell? ⟨ob,ooff+a*3,none⟩=some (.int .i64 oc)∧w'.cell? ⟨ob,ooff+a*3+1,none⟩=some (.int .i64 on)∧w'.cell? ⟨ob,ooff+a*3+2,none⟩=some (.int .i64 om)∧w'.cell? ⟨gr,a,none⟩=some (.int .i64 d))) (by kernel_rfl) (by first | (dsimp only;exact⟨q0,q1,q2,co⟩) | (exact⟨q0,q1,q2,co⟩)) (fun hHeld=> ?_);refine tkH (i:=0) ?_;refine tkH (i:=1) ?_;refine tkH (i:=2) ?_;refine tkH (i:=3) ?_;refine tkH (i:=4) ?_;refine tkH (i:=5) ?_;refine tkH (i:=6) ?_;refine tkH (i:=7) ?_;generalize hxd:wr.drew=W1 at hHeld;have hd1:Below wr.heap.size wr W1:=by rw[←hxd];exact(Below.refl _ _).drew
       have zd:=hd1.size;refine rdH (i:=8) (fun K hK=> ?_);go_simp;refine(HA.out W1).mono ?_;rintro e W2 ⟨rfl,b2⟩;refine bkH hK (by first | (dsimp only;exact⟨(b2.cell (by dsimp only;omega)).trans hHeld.1,(b2.cell (by dsimp only;omega)).trans hHeld.2.1,(b2.cell (by dsimp only;omega)).trans hHeld.2.2.1,(b2.cell (by dsimp only;omega)).trans hHeld.2.2.2⟩) | (exact⟨(b2.cell (by dsimp only;omega)).trans hHeld.1,(b2.cell (by dsimp only;omega)).trans hHeld.2.1,(b2.cell (by dsimp only;omega)).trans hHeld.2.2.1,(b2.cell (by dsimp only;omega)).trans hHeld.2.2.2⟩)) (fun hHeld=> ?_);clear hK K;refine tkH (i:=9) ?_;refine tkH (i:=10) ?_;refine tkH (i:=11) ?_;refine tkH (i:=12) ?_;refine tkH (i:=13) ?_;refine wpAnyH_done (by kernel_rfl) ?_ _;have BB2:=Lib.hid (BB.out.trans ((hd1.trans (b2.mono zd)).mono BB.out.size));go_wp2;go_ret2;rw[hrn];exact⟨rfl,BB2.out⟩
      ·rw[hab]at HA;have hrun:=HRUN.out;rw[hab,if_neg (by simp)]at hrun;obtain⟨D,hD⟩:∃D,Hr ⟨oc,on,om⟩ d=D:=⟨_,rfl⟩;obtain⟨l,hl⟩:∃l,fol ⟨oc,on,om⟩ (a:Int)=l:=⟨_,rfl⟩;rw[hD]at HA hrun;rw[hl]at HFo hrun;have HRUN2:=Lib.hid hrun;have HAB:=Lib.hid hab;clear HRUN hrun hab split;go_wp2_with fail;refine wp_region_held_drew (S:=(fun w'=>w'.cell? ⟨ob,ooff+a*3,none⟩=some (.int .i64 oc)∧w'.cell? ⟨ob,ooff+a*3+1,none⟩=some (.int .i64 on)∧w'.cell? ⟨ob,ooff+a*3+2,none⟩=some (.int .i64 om)∧w'.cell? ⟨gr,a,none⟩=some (.int .i64 d))) (by kernel_rfl) (by first | (dsimp only;exact⟨q0,q1,q2,co⟩) | (exact⟨q0,q1,q2,co⟩)) (fun hHeld=> ?_);refine tkH (i:=0) ?_;refine tkH (i:=1) ?_;refine tkH (i:=2) ?_;refine tkH (i:=3) ?_;refine tkH (i:=4) ?_;refine tkH (i:=5) ?_;refine tkH (i:=6) ?_;refine tkH (i:=7) ?_;generalize hxd:wr.drew=W1 at hHeld;have hd1:Below wr.heap.size wr W1:=by rw[←hxd];exact(Below.refl _ _).drew
       have zd:=hd1.size;refine rdH (i:=8) (fun K hK=> ?_);go_simp;refine(HA.out W1).mono ?_;rintro e W2 ⟨rfl,b2⟩;refine bkH hK (by first | (dsimp only;exact⟨(b2.cell (by dsimp only;omega)).trans hHeld.1,(b2.cell (by dsimp only;omega)).trans hHeld.2.1,(b2.cell (by dsimp only;omega)).trans hHeld.2.2.1,(b2.cell (by dsimp only;omega)).trans hHeld.2.2.2⟩) | (exact⟨(b2.cell (by dsimp only;omega)).trans hHeld.1,(b2.cell (by dsimp only;omega)).trans hHeld.2.1,(b2.cell (by dsimp only;omega)).trans hHeld.2.2.1,(b2.cell (by dsimp only;omega)).trans hHeld.2.2.2⟩)) (fun hHeld=> ?_);clear hK K;refine tkH (i:=9) ?_;refine tkH (i:=10) ?_;refine tkH (i:=11) ?_;refine tkH (i:=12) ?_;refine tkH (i:=13) ?_;refine wpAnyH_done (by kernel_rfl) ?_ _;have bw2:=hd1.trans (b2.mono zd);have BB2:=Lib.hid (BB.out.trans (bw2.mono BB.out.size));have O2:=Lib.hid (Al O1.out bw2 (Af O1.out));have OT2:=Lib.hid (Al OT.out bw2 (Af OT.out));have hgW2:gr < W2.heap.size:=Nat.lt_of_lt_of_le hgW bw2.size;have hcell:=fun(j:Nat) (u:Value) (h:wr.cell? ⟨ob,j,none⟩=some u)=>(bw2.cell (p:=⟨ob,j,none⟩) (by dsimp only;omega)).trans h;have t0:=hcell _ _ q0;have t1:=hcell _ _ q1;have t2:=hcell _ _ q2;clear hcell q0 q1 q2 co ct BB O1 OT hgW bw2 hd1 b2 zd hxd hHeld HA;go_wp2_with fail;refine(HFo.out W2).mono ?_;rintro e W3 ⟨lv,rfl,rl,lfr,b3⟩;obtain⟨la,lc,rfl⟩:=rl.form;have BB3:=Lib.hid (BB2.out.trans (b3.mono BB2.out.size));have O3':=Lib.hid (Al O2.out b3 (Af O2.out));have OT3:=Lib.hid (Al OT2.out b3 (Af OT2.out));have hl1:∀i,(Value.slice la l.length lc).ownBlock=some i→i≠gr:=fun i hi e=>by have:=lfr i hi;omega
       have hl2:∀i,(Value.slice la l.length lc).ownBlock=some i→(Value.slice (some ⟨tg,0,none⟩) kt tc).ownBlock≠some i:=fun i hi e=>by
        have h1:=lfr i hi;have h2:tg=i:=Option.some.inj e;have:=(OT2.out.lt tg rfl).2;omega
       have hne2:(Value.slice (some ⟨tg,0,none⟩) kt tc).ownBlock≠some gr:=hne;have hgW3:gr < W3.heap.size:=Nat.lt_of_lt_of_le hgW2 b3.size;cases hdi:dIn D l out todo.dropLast with
       |none=>have:=HRUN2.out;rw[hdi]at this;cases this
       |some X=>
       have hX:=HRUN2.out;rw[hdi]at hX;have HX:=Lib.hid hX;have HDI:=Lib.hid hdi;have RL:=Lib.hid rl;have HL3:=Lib.hid (show l.length≤2 by rw[←hl];unfold fol;split <;> (try split) <;> (try split) <;> (try split) <;> simp);clear hX hdi HRUN2 rl lfr b3 BB2 O2 OT2 hne hl t0 t1 t2 hgW2;go_wp2
       go_loopw [9,81] (fun td i W=>∃ (j:Nat) (out2 todo2:List Int),j≤l.length∧i= .int .i64 j∧Jf w.heap.size gr N W td out2 todo2∧(∀q,(Value.slice la l.length lc).ownBlock=some q→td.ownBlock≠some q)∧Rd W.heap.size .i64 W (.slice la l.length lc) l∧
        Hid (dIn D (l.drop j) out2 todo2=some X)∧out2.length=N∧todo2.length≤100000+j∧Below w.heap.size w W) (fun _ i _=>l.length - (intOf i).toNat)
       case atStart=>exact⟨0,out,todo.dropLast,Nat.zero_le _,rfl,⟨O3'.out,by rw[HDL.out];exact OT3.out,hne2⟩,hl2,RL.out,HDI,HL2.out.1.trans HN.out,by rw[HDL.out];have:=HL2.out.2;have:=HKT.out;omega,BB3.out⟩
       case round=>
        clear O3' OT3 BB3 RL HDI hl2 hne2;obtain⟨j,out2,todo2,hj,rfl,⟨o1,o2,hne3⟩,hdj,rl,hdi,hol,htl,hb⟩:=hrel;obtain⟨ta2,tc2,rfl⟩:=AC o2;have hl3:=HL3.out;have hzb:=hb.size;by_cases hlt:j < l.length
        ·have hq:=hdi.out;rw[List.drop_eq_getElem_cons hlt]at hq;unfold dIn at hq;obtain⟨q,hqq⟩:∃q,l[j]=q:=⟨_,rfl⟩;rw[hqq]at hq;by_cases hin:0≤q∧q < out2.length
         case neg=>rw[if_neg hin]at hq;cases hq
         rw[if_pos hin]at hq;obtain⟨p,rfl⟩:∃p:Nat,q=p:=⟨q.toNat,by omega⟩;rw[Int.toNat_natCast]at hq;have hp:p < N:=by omega
         have RLk:=Lib.hid rl;rcases rl with ⟨h',_⟩ |⟨bl,off,c',hv,_,hbs,hmx,hc⟩
         ·rw[h']at hlt;simp at hlt
         cases hv
         have c0:=hc j hlt;rw[List.getD_eq_getElem?_getD,List.getElem?_eq_getElem hlt,Option.getD_some,hqq]at c0;obtain⟨x,hx⟩:∃x,out2.getD p 0=x:=⟨_,rfl⟩;have co:=AN o1 p hp;rw[List.getElem?_map,List.getElem?_eq_getElem (by omega),Option.map_some,show out2[p]'(by omega)=x by rw[←hx,List.getD_eq_getElem?_getD,List.getElem?_eq_getElem (by omega)];rfl]at co;rw[hx]at hq;have hji:(j:Int) < (l.length:Int):=by omega
         have hpi:(p:Int) < (N:Int):=by omega
         have HOL:=Lib.hid hol;have hgwr:gr < wr.heap.size:=(o1.lt _ rfl).2;clear hc hx hol hqq hdi hin hmx;by_cases hneg:x < 0
         ·rw[if_pos hneg]at hq;have f1:=Cy o1 p;have os1:=Eh o1 p hp (.int .i64 D);rw[←List.map_set]at os1;have g3:=grownBy.setCell wr gr p (.int .i64 D);have ot1:=o2.kept g3 (.inr hne3);have rl1:=Rd.grow RLk.out g3 (fun i hi e=>hl1 i hi (Option.some.inj e));have b4:=hb.setCell (p:=⟨gr,p,none⟩) (by dsimp only;omega) (.int .i64 D);have OS1:=Lib.hid os1;have OT1:=Lib.hid ot1;have RL1:=Lib.hid rl1;have B4:=Lib.hid b4;have HQ:=Lib.hid hq;have hxl:x < (0:Int):=hneg;clear os1 ot1 rl1 b4 hq o1 o2 hb RLk g3;have e5:(wr.setCell ⟨gr,p,none⟩ (.int .i64 D)).heap.size=wr.heap.size:=by simp
          go_wp2_with (at_builtin;refine Fq rfl _ _ 27 rfl w.heap.size 3 i0 (.int .i64 0) 1 8 Tryz.underlying27 hi hz0 hz1 hz2 rfl (by decide) _ _ _ rfl OT1.out #[_] rfl ?_ wr.heap.size e5 rfl ?_ ?_ ?_ ?_)
          ·rfl
          ·unfold maxLen;omega
          ·omega
          ·rw[e5];exact hzb
          ·intro v' w4 ho4 hg4 hat4;have k1:=OS1.out.kept hg4 (.inr (fun h=>hne3 h.symm));have k2:w4.ownsRow w.heap.size 3 1 v' (todo2++ [(p:Int)]).length ((todo2++ [(p:Int)]).map (Value.int .i64)):=by simpa using ho4
           have k3:v'.ownBlock≠some gr:=by
            rcases hat4 with h |h
            ·rw[h];exact hne3
            ·rw[h];intro h';have:=Option.some.inj h';omega
           have k4:∀i,(Value.slice (some ⟨bl,off,none⟩) l.length lc).ownBlock=some i→v'.ownBlock≠some i:=fun i hi=>by
            have hi':bl=i:=Option.some.inj hi;rcases hat4 with h |h
            ·rw[h];exact hdj i hi
            ·rw[h];intro h';have:=Option.some.inj h';omega
           have k5:=Rd.grow RL1.out hg4 (fun i hi e=>hdj i hi e.symm);have k6:=B4.out.trans (Below.of_grown hg4 (by rw[e5];exact hzb) (fun k hk=>(OT1.out.lt k hk).1));have c2:=AN k1 p hp;rw[List.map_set,List.getElem?_set_self (by rw[List.length_map,HOL.out];exact hp)]at c2;have K:=Lib.hid (And.intro (And.intro k1 (And.intro k2 k3)) (And.intro k4 (And.intro k5 k6)));have hlen2:(out2.set p D).length=N:=by rw[List.length_set];exact HOL.out
           have HL4:=Lib.hid hlen2;clear k1 k2 k3 k4 k5 k6 ho4 hg4 hat4 hlen2 OS1 OT1 RL1 B4 c0 co f1 e5;go_wp2;go_roundw
           case rel=>exact⟨j+1,out2.set p D,todo2++ [(p:Int)],hlt,by go_num,K.out.1,K.out.2.1,K.out.2.2.1,HQ,HL4.out,by simp;omega,K.out.2.2.2⟩
           case measure=>simp[intOf];omega
         ·rw[if_neg hneg]at hq;have O1:=Lib.hid (And.intro o1 (And.intro o2 hne3));have BB:=Lib.hid hb;clear o1 o2 hb;by_cases heq:x=D
          ·rw[if_pos heq]at hq;have HQ:=Lib.hid hq;subst heq;clear hq;go_wp2;go_roundw
           case rel=>exact⟨j+1,out2,todo2,hlt,by go_num,O1.out,hdj,RLk.out,HQ,HOL.out,by omega,BB.out⟩
           case measure=>simp[intOf];omega
          ·rw[if_neg heq]at hq;have hXn:=HX.out;cases hq
           have hrn:r=none:=(Option.some.inj hXn).symm;have hnx:(x !=D)=true:=by simpa using heq
           clear hXn heq;go_wp2;go_ret2
           try rw[hrn]
           exact⟨rfl,BB.out⟩
        ·obtain rfl:j=l.length:=by omega
         have hq:=hdi.out;rw[List.drop_length]at hq;have hXe:X=some (out2,todo2):=(Option.some.inj hq).symm;subst hXe;have O1:=Lib.hid (And.intro o1 (And.intro o2 hne3));have BB:=Lib.hid hb;clear o1 o2 hb hdi hq rl;go_wp2;go_roundw
         case rel=>exact⟨⟨m,out2,todo2,O1.out,HX.out⟩,BB.out⟩
         case measure=>
          rw[HM.out];exact Nat.lt_succ_of_le (QO ⟨out2,todo2,O1.out,HX.out⟩)
theorem P8 {B:Nat}(v:Value) (zs:List Int) (w:World) (hr:Rd B .u8 w v zs) (hz:bytesIn zs) (hl:zs.length≤1048576) (i:Nat) (hi:i≤1048576):
  Calls Tryz.prog 27 #[v,.int .i64 i] w fun e w'=>∃x:Nat,e= .returned (.int .i64 x)∧x < 256∧w=w':=by
 obtain⟨a,c,rfl⟩:=hr.form;have hc:∀k,k < zs.length→ ∃b off,a=some ⟨b,off,none⟩ ∧w.cell? ⟨b,off+k,none⟩=some (.int .u8 (zs.getD k 0)):=by
  intro k hk;rcases hr with ⟨h',_⟩ |⟨b,off,c',hv,hB,hbs,_,hcell⟩
  ·rw[h']at hk;simp at hk
  ·cases hv;exact⟨b,off,rfl,hcell k hk⟩
 clear hr;by_cases hlt:i < zs.length
 ·obtain⟨b,off,rfl,c0⟩:=hc i hlt;obtain⟨d0,d1⟩:=hz i;obtain⟨d,hd⟩:∃d,zs.getD i 0=d:=⟨_,rfl⟩;rw[hd]at c0 d0 d1;have hii:(i:Int) < (zs.length:Int):=by omega
  clear hd hz hc;obtain⟨d',rfl⟩:∃d':Nat,d=d':=⟨d.toNat,by omega⟩;go_enter Tryz.func27,Tryz.ntmps27;go_wp2;go_ret;exact⟨d',rfl,by omega,rfl⟩
 ·have hii:¬(i:Int) < (zs.length:Int):=by omega
  clear hz hc;go_enter Tryz.func27,Tryz.ntmps27;go_wp2;go_ret;obtain⟨x,hx⟩:∃x:Nat,((i:Int)*7+zs.length)%256=x:=⟨(((i:Int)*7+zs.length)%256).toNat,by omega⟩;exact⟨x,DQ (by omega),by omega,rfl⟩
end Go.Proofs.YtfmebaafpfkeiaaGreat
end
section
namespace Go.Proofs.YtfmebaafpfkeiaaGreat.fnDepthsHold
open Go.ChangeShapes Go.WideShapes Go.ChangeAt Go.RowKit
theorem bt {a b:Bool}(h:a=true) (k:b=true):(a&& b)=true:=by rw[h,k];rfl
theorem joined:joinedFacts Tryz.prog 8 Tryz.f8 Rows.fnDepthsHoldSpec Rows.fnDepthsHoldRow=true:=(bt (bt (bt (bt (bt (bt (bt (bt (bt (bt (bt (bt (bt (bt (bt (bt (bt (bt (bt (bt (bt (bt (bt (bt (bt (bt (bt (bt (bt (bt (bt j0 j1) j2) j3) j4) j5) j6) j7) j8) j9) j10) j11) j12) j13) j14) j15) j16) j17) j18) j19) j20) j21) j22) j23) j24) j25) j26) j27) j28) j29) j30) j31)
end Go.Proofs.YtfmebaafpfkeiaaGreat.fnDepthsHold
end
