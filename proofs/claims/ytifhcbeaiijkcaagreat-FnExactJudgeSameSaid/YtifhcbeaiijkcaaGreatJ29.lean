/- Parts of the proof of FnExactJudgeSame. -/
import Derived.Test.YtifhcbeaiijkcaaGreatJ20
import Derived.Test.YtifhcbeaiijkcaaGreatJ28
import Derived.Test.YtifhcbeaiijkcaaGreatJ27
import Derived.Test.YtifhcbeaiijkcaaGreatJ25
import Derived.Test.YtifhcbeaiijkcaaGreatJ23
set_option linter.unusedVariables false
set_option linter.unusedSimpArgs false
set_option maxRecDepth 1000000
set_option maxHeartbeats 16000000
namespace Go.Proofs.YtifhcbeaiijkcaaGreat
open Go.RowKit
open _root_.Go.World renaming alloc→Wa,setCell→Ws
open _root_.Go.Proofs.Tryz renaming prog→Pq
theorem TP {B:Nat}(v vr:Value) (ws rs:List Int) (h b n:Int) (w:World) (hr:Rd B .i64 w v ws) (hw:EI ws) (hlen:ws.length≤4294967296) (hq:Rd B .i64 w vr rs)
  (bh:-9223372036854775808≤h∧h≤9223372036854775807) (ib:-9223372036854775808≤b∧b≤9223372036854775807) (bn:-9223372036854775808≤n∧n≤9223372036854775807):
  Calls Pq 76 #[.agg #[v,.int .i64 h,.int .i64 b,.int .i64 n],vr] w fun e w'=>e= .returned (.bool (El ws h b n rs))∧Below w.heap.size w w':=by
 have hO:=fun(W:World) (hb:Below w.heap.size w W)=>LZ v ws h b n W (hr.below' hb) hw hlen bh ib bn;have RQ:=Aa (fun(W:World) (hb:Below w.heap.size w W)=>hq.below' hb);obtain⟨a,cap,hv⟩:=hr.form;obtain⟨qa,qc,rfl⟩:=hq.form;cases hok:Cf ws h b n
 ·rw[hok]at hO;have HO:=Aa hO;have HF:=Aa (Mi (rs:=rs) hok);subst hv;clear hO hr hw bh ib bn hok hq;go_enter Tryz.func76,Tryz.ntmps76;go_wp2_with fail;generalize hx:w.alloc _=x;obtain⟨bb,k1⟩:=Bx.alloc hx;clear hx;refine(HO.out _ bb).mono ?_;rintro e w1 ⟨rfl,b1⟩;replace k1:=k1.below b1 k1.1;replace bb:=bb.trans (b1.mono bb.size);clear b1;go_wp2;go_ret;exact⟨Ac HF.out.symm,bb⟩
 ·rw[hok]at hO;have HO:=Aa hO;obtain⟨h',b',n',ps,rfl,rfl,rfl,hR⟩:=Right.of hok;have hS:=fun(W:World) (hb:Below w.heap.size w W)=>JK v ws h' b' n' W (hr.below' hb) hw hR.frame;rw[hR.some]at hS;have HS:=Aa hS;have HF:=Aa (GB (rs:=rs) hok hR.some);have hC:=fun(g:Nat) (u:Value) (W:World) (r:Rd W.heap.size .i64 W u (AS ps)) (hg:W.cell? ⟨g,0,none⟩=some u) (hu:Rd w.heap.size .i64 W (.slice qa rs.length qc) rs)=>
   PF g u (.slice qa rs.length qc) ps rs W r hR.sorted (by have:=hR.len;have:=hR.n_le;omega) hg hu
  have HC:=Aa hC;subst hv;clear hO hr hw bh ib bn hok hq hS hR hC;go_enter Tryz.func76,Tryz.ntmps76;go_wp2_with fail;generalize hx:w.alloc _=x;obtain⟨bb,k1⟩:=Bx.alloc hx;clear hx;refine(HO.out _ bb).mono ?_;rintro e w1 ⟨rfl,b1⟩;replace k1:=k1.below b1 k1.1;replace bb:=bb.trans (b1.mono bb.size);clear b1;have ck1:=k1.2.1;have yk1:=k1.1;go_wp2_with fail;refine(HS.out _ bb).mono ?_;rintro e w2 ⟨⟨u,rfl,o2⟩,b2⟩;clear ck1 yk1;replace k1:=k1.below b2 k1.1;replace bb:=bb.trans (b2.mono bb.size);clear b2;rw[Fs,←Ep]at o2;obtain⟨a2,c2,rfl⟩:=AR o2;go_wp2_with fail;generalize hx:w2.alloc _=x3;obtain⟨bx,k3⟩:=Bx.alloc hx;clear hx;replace o2:=Bm o2 bx (A5 o2);replace bb:=bb.trans (bx.mono bb.size);clear bx;refine(HC.out _ _ _ (Rd.of_own o2) (k3.2.1 0) (RQ.out _ bb)).mono ?_;rintro e w4 ⟨rfl,rfl⟩;go_wp2;go_ret;exact⟨Ac (by rw[HF.out]),bb⟩
def U7 (xs:List Int) (e:Ending):Prop:=∃r:Int,e= .returned (.int .i64 r)∧(0≤r↔xs.all AU=false)
theorem JY {xs:List Int}{x:Int}{k:Nat}(hk:k < xs.length) (hx:xs.getD k 0=x) (h:AU x=false):xs.all AU=false:=by
 rw[Ec];exact⟨x,Hq hk hx,by rw[h];simp⟩
theorem JZ {xs:List Int}(h:∀j,j < xs.length→AU (xs.getD j 0)=true):xs.all AU=true:=by
 rw[BA];intro x hx;obtain⟨i,hi,he⟩:=DG hx;have:=h i hi
 simpa [List.getD,Ay hi,he] using this
theorem J0 {xs:List Int}{k:Nat}(h:∀j,j < k→AU (xs.getD j 0)=true) (he:AU (xs.getD k 0)=true):∀j,j < k+1→AU (xs.getD j 0)=true:=by
 intro j hj;by_cases e:j=k
 ·subst e;exact he
 ·exact h j (by omega)
theorem U8 (x:Int) (w:World):
  Calls Pq 80 #[.int .i64 x] w fun e w'=>e= .returned (.bool (!AU x))∧w=w':=by
 go_enter Tryz.func80,Tryz.ntmps80;go_wp2_with (go_at_call 81;refine(DP _ _).mono ?_;rintro e w' ⟨rfl,rfl⟩);go_ret;exact⟨rfl,rfl⟩
theorem U9 {B:Nat}(u:Value) (xs:List Int) (w:World) (hu:Rd B .i64 w u xs):
  Calls Pq 142 #[u,.func (.func 80) #[] #[]] w fun e w'=>U7 xs e∧w=w':=by
 have hx:=hu.len;unfold maxLen at hx;have HF:=Aa (fun x=>U8 x w);rcases hu with ⟨rfl,a,cap,rfl⟩ |⟨b,off,cap,rfl,hB,hbs,hm,hc⟩
 ·go_enter Tryz.func142,Tryz.ntmps142;go_wp2;refine FD 1 ?_;rw[FE];go_wp2;go_ret;exact⟨⟨-1,rfl,by simp⟩,rfl⟩
 ·go_enter Tryz.func142,Tryz.ntmps142;go_wp2
  go_loop [5,8] (fun _ i=>∃k:Nat,k≤xs.length∧i= .int .i64 k∧Hid (∀j,j < k→AU (xs.getD j 0)=true)) (fun _ i=>xs.length - (intOf i).toNat)
  case atStart=>exact⟨0,Ao _,rfl,fun j hj=>by omega⟩
  case round=>
   obtain⟨k,hk,rfl,hd⟩:=hrel;by_cases hlt:k < xs.length
   ·have c1:=hc k hlt;obtain⟨x,hx⟩:∃x,xs.getD k 0=x:=⟨_,rfl⟩;rw[hx]at c1;have HX:=Aa hx;clear hc hx;cases he:AU x
    ·go_wp2_with fail;refine(HF.out x).mono ?_;rintro e w' ⟨rfl,rfl⟩;rw[he];go_wp2;go_ret;exact⟨⟨k,rfl,by simp only[Kb,true_iff];exact JY hlt HX.out he⟩,rfl⟩
    ·go_wp2_with fail;refine(HF.out x).mono ?_;rintro e w' ⟨rfl,rfl⟩;rw[he];go_wp2
     go_round
     case rel=>exact⟨k+1,hlt,by go_num,J0 hd.out (by rw[HX.out];exact he)⟩
     case measure=>simp[intOf];omega
   ·go_wp2;go_ret;exact⟨⟨-1,rfl,⟨fun h=>by omega,fun h=>by rw[JZ (fun j hj=>hd.out j (by omega))]at h;cases h⟩⟩,rfl⟩
theorem Va {B:Nat}(u:Value) (xs:List Int) (w:World) (hu:Rd B .i64 w u xs):
  Calls Pq 79 #[u,.func (.func 80) #[] #[]] w fun e w'=>e= .returned (.bool (!xs.all AU))∧w=w':=by
 have HI:=Aa (U9 u xs w hu);clear hu;go_enter Tryz.func79,Tryz.ntmps79;go_wp2_with fail;refine HI.out.mono ?_;rintro e w' ⟨⟨r,rfl,hr⟩,rfl⟩;have HR:=Aa hr;clear hr;go_wp2
 all_goals go_ret
 all_goals exact⟨Ac (by have:=HR.out;rw[Ds];simp only[Du,IF];exact this),rfl⟩
def Bc (L:VmL):Bool:=CL L.fs&& (El L.zs L.h L.b L.n L.ss&& (decide (L.ss.length≤600)&& (inB L.code 0 5&& (CY L.fs L.ss.length L.cs L.code&& L.os.all AU))))
theorem Vb {B:Nat}(fv hv sv cv ov:Value) (L:VmL) (w:World) (hr:RdV B w fv hv sv cv ov L) (hi:D9 L) (hl:Bw L≤1048576):
  Calls Pq 35 #[vmV fv hv sv cv ov L] w fun e w'=>e= .returned (.bool (Bc L))∧Below w.heap.size w w':=by
 have hcl:=fun(W:World) (hb:Below w.heap.size w W)=>OO fv hv sv cv ov L W (hr.below' hb) hl;obtain⟨fs,zs,h,b,n,ss,cs,os,code,each⟩:=L;obtain⟨if_,iz,ih,ib,in_,is,_,hio,hcd⟩:=hi;dsimp only at if_ iz ih ib in_ is hio hcd hcl;unfold Bw at hl;dsimp only at hl;have hfn:=fun(W:World) (hb:Below w.heap.size w W)=>Qt fv fs W (hr.f.below' hb) if_ (by omega);have hro:=fun(W:World) (hb:Below w.heap.size w W)=>TP hv sv zs ss h b n W (hr.z.below' hb) iz (by omega) (hr.s.below' hb) ih ib in_;have hco:=fun(W:World) (hb:Below w.heap.size w W)=>Va ov os W (hr.o.below' hb);obtain⟨fa,fc,rfl⟩:=hr.f.form;obtain⟨ha,hc,rfl⟩:=hr.z.form;obtain⟨sa,sc,rfl⟩:=hr.s.form;obtain⟨ca,cc,rfl⟩:=hr.c.form;obtain⟨oa,oc,rfl⟩:=hr.o.form;clear hr if_ iz ih ib in_ is hio hcd;unfold vmV at hcl ⊢;unfold Bc;dsimp only at hcl ⊢;obtain⟨q1,hq1⟩:∃q,CL fs=q:=⟨_,rfl⟩;obtain⟨q2,hq2⟩:∃q,El zs h b n ss=q:=⟨_,rfl⟩;obtain⟨q3,hq3⟩:∃q,decide (ss.length≤600)=q:=⟨_,rfl⟩;obtain⟨q4,hq4⟩:∃q,inB code 0 5=q:=⟨_,rfl⟩;obtain⟨q5,hq5⟩:∃q,CY fs ss.length cs code=q:=⟨_,rfl⟩;obtain⟨q6,hq6⟩:∃q,os.all AU=q:=⟨_,rfl⟩;rw[hq1]at hfn;rw[hq2]at hro;rw[hq5]at hcl;rw[hq6]at hco;rw[hq1,hq2,hq3,hq4,hq5,hq6];have HQ3:=Aa hq3;have HF:=Aa hfn;have HRO:=Aa hro;have HW:=Aa (fun(W:World)=>(by have:=A8 code 0 5 W;rw[hq4]at this;exact this:Calls Pq 77 #[.int .i64 code,.int .i64 0,.int .i64 5] W _));have HC:=Aa hcl;have HO:=Aa hco;clear hq1 hq2 hq3 hq4 hq5 hq6 hfn hro hcl hco;go_enter Tryz.func35,Tryz.ntmps35;go_wp2_with fail;generalize hx:w.alloc _=x;obtain⟨bb,k1⟩:=Bx.alloc hx;clear hx;have ck1:=k1.2.1;have yk1:=k1.1;go_wp2_with fail;refine(HF.out _ bb).mono ?_;rintro e w1 ⟨rfl,b1⟩;clear ck1 yk1;replace k1:=k1.below b1 k1.1;replace bb:=bb.trans (b1.mono bb.size);clear b1;cases q1
 ·go_wp2;go_ret;exact⟨rfl,bb⟩
 have ck1:=k1.2.1;have yk1:=k1.1;go_wp2_with fail;refine(HRO.out _ bb).mono ?_;rintro e w2 ⟨rfl,b2⟩;clear ck1 yk1;replace k1:=k1.below b2 k1.1;replace bb:=bb.trans (b2.mono bb.size);clear b2;have ck1:=k1.2.1;have yk1:=k1.1;cases q2
 ·go_wp2;go_ret;exact⟨rfl,bb⟩
 cases q3
 case true=>
  have h3i:(ss.length:Int)≤600:=by have:=of_decide_eq_true HQ3.out;omega
  go_wp2_with fail;refine(HW.out _).mono ?_;rintro e w3 ⟨rfl,rfl⟩;cases q4
  ·go_wp2;go_ret;exact⟨rfl,bb⟩
  go_wp2_with fail;refine(HC.out _ bb).mono ?_;rintro e w4 ⟨rfl,b4⟩;clear ck1 yk1;replace k1:=k1.below b4 k1.1;replace bb:=bb.trans (b4.mono bb.size);clear b4;have ck1:=k1.2.1;have yk1:=k1.1;cases q5
  ·go_wp2;go_ret;exact⟨rfl,bb⟩
  go_wp2_with fail;refine(HO.out _ bb).mono ?_;rintro e w5 ⟨rfl,rfl⟩;cases q6
  ·go_wp2;go_ret;exact⟨rfl,bb⟩
  ·go_wp2;go_ret;exact⟨rfl,bb⟩
 case false=>
  have h3i:¬((ss.length:Int)≤600):=by have:=of_decide_eq_false HQ3.out;omega
  go_wp2;go_ret;exact⟨rfl,bb⟩
structure OwnV (base:Nat) (w:World) (fv hv sv cv ov:Value) (L:VmL):Prop where
 f:OwnF base w fv L.fs
 z:w.ownsRow base 3 1 hv L.zs.length (L.zs.map (Value.int .i64))
 s:w.ownsRow base 3 1 sv L.ss.length (L.ss.map (Value.int .i64))
 c:w.ownsRow base 127 3 cv L.cs.length (By O3.enc L.cs)
 o:w.ownsRow base 3 1 ov L.os.length (L.os.map (Value.int .i64))
theorem RdV.forms {B:Nat}{w:World}{fv hv sv cv ov:Value}{L:VmL}(h:RdV B w fv hv sv cv ov L):∃fa fc ha hc sa sc ca cc oa oc,fv= .slice fa L.fs.length fc∧hv= .slice ha L.zs.length hc∧sv= .slice sa L.ss.length sc∧cv= .slice ca L.cs.length cc∧ov= .slice oa L.os.length oc:=by
 obtain⟨fa,fc,e1⟩:=h.f.form;obtain⟨ha,hc,e2⟩:=h.z.form;obtain⟨sa,sc,e3⟩:=h.s.form;obtain⟨ca,cc,e4⟩:=h.c.form;obtain⟨oa,oc,e5⟩:=h.o.form;exact⟨fa,fc,ha,hc,sa,sc,ca,cc,oa,oc,e1,e2,e3,e4,e5⟩
theorem RdV.of_own {base:Nat}{w:World}{fv hv sv cv ov:Value}{L:VmL}(h:OwnV base w fv hv sv cv ov L):RdV w.heap.size w fv hv sv cv ov L:=
 ⟨RdF.of_own h.f,Rd.of_own h.z,Rd.of_own h.s,RdE.of_own O3.enc_len h.c,Rd.of_own h.o⟩
theorem OwnV.below {base:Nat}{w w':World}{fv hv sv cv ov:Value}{L:VmL}(h:OwnV base w fv hv sv cv ov L) (hb:Below w.heap.size w w'):OwnV base w' fv hv sv cv ov L:=
 ⟨h.f.below hb,Bm h.z hb (A5 h.z),Bm h.s hb (A5 h.s),Bm h.c hb (A5 h.c),Bm h.o hb (A5 h.o)⟩
theorem OwnF.setCell {base:Nat}{w:World}{v:Value}{fs:List F2}(h:OwnF base w v fs) {a:Addr}(ha:a.block < base) (u:Value):OwnF base (w.setCell a u) v fs:=by
 obtain⟨fl,h1,h2,h3,h4⟩:=h;exact⟨fl,CE h1 ha u,h2,fun j a b=>⟨(h3 j a b).1,CE (h3 j a b).2 ha u⟩,h4⟩
structure Tv (w:World) (g:Nat) (A Z C:Array Value):Prop where
 k1:Bx w g A
 k2:Bx w (g+1) Z
 k3:Bx w (g+2) C
theorem Tv.below {w w':World}{g:Nat}{A Z C:Array Value}(t:Tv w g A Z C) (hb:Below w.heap.size w w'):Tv w' g A Z C:=⟨t.k1.below hb t.k1.1,t.k2.below hb t.k2.1,t.k3.below hb t.k3.1⟩
theorem Tv.set {w:World}{g:Nat}{A Z C:Array Value}(t:Tv w g A Z C) (i:Nat) (hi:i < C.size) (u:Value):Tv (w.setCell ⟨g+2,i,none⟩ u) g A Z (C.setIfInBounds i u):=
 ⟨t.k1.grown (grownBy.setCell w (g+2) i u) (fun h=>by have:=Am h;omega),t.k2.grown (grownBy.setCell w (g+2) i u) (fun h=>by have:=Am h;omega),t.k3.put i hi u⟩
theorem Vf {B:Nat}(fv hv sv cv ov:Value) (L:VmL) (w:World) (hr:RdV B w fv hv sv cv ov L) (hn:Bw L≤4294967296):
  Calls Pq 9 #[vmV fv hv sv cv ov L] w fun e w'=>∃fv' hv' sv' cv' ov',e= .returned (vmV fv' hv' sv' cv' ov' L)∧OwnV w.heap.size w' fv' hv' sv' cv' ov' L∧Below w.heap.size w w':=by
 obtain⟨fs,zs,h,b,n,ss,cs,os,code,each⟩:=L;have HR:=Aa (fun(W:World) (hb:Below w.heap.size w W)=>hr.below' hb);obtain⟨fa,fc,rfl⟩:=hr.f.form;obtain⟨ha,hc,rfl⟩:=hr.z.form;obtain⟨sa,sc,rfl⟩:=hr.s.form;obtain⟨ca,cc,rfl⟩:=hr.c.form;obtain⟨oa,oc,rfl⟩:=hr.o.form;clear hr;unfold Bw at hn;unfold vmV;dsimp only at hn ⊢;have F1:=Aa (fun(W:World) (hb:Below w.heap.size w W)=>Qv _ fs W (HR.out W hb).f (by omega) (by omega));have F2:=Aa (fun(W:World) (hb:Below w.heap.size w W)=>QI _ zs h b n W (HR.out W hb).z (by omega));have F3:=Aa (fun(W:World) (hb:Below w.heap.size w W)=>JX _ ss W (HR.out W hb).s (by omega));have F4:=Aa (fun(W:World) (hb:Below w.heap.size w W)=>OL _ cs W (HR.out W hb).c (by omega));have F5:=Aa (fun(W:World) (hb:Below w.heap.size w W)=>JX _ os W (HR.out W hb).o (by omega));clear hn;go_enter Tryz.func9,Tryz.ntmps9;go_wp2_with fail;generalize hx:((w.alloc _).alloc _).alloc _=x;obtain⟨bb,k1,k2,k3,sx⟩:=Jq hx;have T:=Tv.mk k1 k2 k3;have hxs:w.heap.size+3≤x.heap.size:=Nat.le_of_eq sx.symm;clear hx k1 k2 k3 sx;have q1:=T.k1.2.1;go_wp2_with fail;refine(F1.out _ bb).mono ?_;rintro e w1 ⟨v1,rfl,o1,b1⟩;obtain⟨a1,d1,rfl⟩:=o1.form;have zx1:=b1.size;replace T:=T.below b1;replace bb:=(bb.trans (b1.mono bb.size)).setCell (p:=⟨w.heap.size+2,0,none⟩) (by show _≤_+2;omega) (.slice a1 fs.length d1);replace o1:=o1.setCell (a:=⟨w.heap.size+2,0,none⟩) (by show _+2 < _;omega) (.slice a1 fs.length d1);clear q1 b1;have q1:=T.k1.2.1;have q3:=T.k3.2.1;have f3:=T.k3.2.2;have y3:=T.k3.1;replace T:=T.set 0 (by simp) (.slice a1 fs.length d1);go_wp2_with fail;refine(F2.out _ bb).mono ?_;rintro e w2 ⟨v2,rfl,o2,b2⟩;clear q1 q3 f3 y3;obtain⟨a2,d2,rfl⟩:=AR o2;have zx2:=b2.size;rw[AP]at zx2;replace T:=T.below b2;replace o1:=o1.below b2;replace o2:=CS o2 (show w1.heap.size≤_ by simp);replace bb:=((((bb.trans (b2.mono bb.size)).setCell (p:=⟨w.heap.size+2,1,none⟩) (by show _≤_+2;omega) (.slice a2 zs.length d2)).setCell (p:=⟨w.heap.size+2,2,none⟩) (by show _≤_+2;omega) (.int .i64 h)).setCell (p:=⟨w.heap.size+2,3,none⟩) (by show _≤_+2;omega) (.int .i64 b)).setCell (p:=⟨w.heap.size+2,4,none⟩) (by show _≤_+2;omega) (.int .i64 n);replace o1:=(((o1.setCell (a:=⟨w.heap.size+2,1,none⟩) (by show _+2 < _;omega) (.slice a2 zs.length d2)).setCell (a:=⟨w.heap.size+2,2,none⟩) (by show _+2 < _;omega) (.int .i64 h)).setCell (a:=⟨w.heap.size+2,3,none⟩) (by show _+2 < _;omega) (.int .i64 b)).setCell (a:=⟨w.heap.size+2,4,none⟩) (by show _+2 < _;omega) (.int .i64 n);replace o2:=CE (a:=⟨w.heap.size+2,4,none⟩) (CE (a:=⟨w.heap.size+2,3,none⟩) (CE (a:=⟨w.heap.size+2,2,none⟩) (CE (a:=⟨w.heap.size+2,1,none⟩) o2 (by show _+2 < _;omega) (.slice a2 zs.length d2)) (by show _+2 < _;omega) (.int .i64 h)) (by show _+2 < _;omega) (.int .i64 b)) (by show _+2 < _;omega) (.int .i64 n);clear b2;have q1:=T.k1.2.1;have q3:=T.k3.2.1;have f3:=T.k3.2.2;have y3:=T.k3.1;replace T:=(((T.set 1 (by simp) (.slice a2 zs.length d2)).set 2 (by simp) (.int .i64 h)).set 3 (by simp) (.int .i64 b)).set 4 (by simp) (.int .i64 n);go_wp2_with fail;refine(F3.out _ bb).mono ?_;rintro e w3 ⟨v3,rfl,o3,b3⟩;clear q1 q3 f3 y3;obtain⟨a3,d3,rfl⟩:=AR o3;have zx3:=b3.size;rw[AP,AP,AP,AP]at zx3;replace T:=T.below b3;replace o1:=(o1.below b3).setCell (a:=⟨w.heap.size+2,5,none⟩) (by show _+2 < _;omega) (.slice a3 ss.length d3);replace o2:=CE (a:=⟨w.heap.size+2,5,none⟩) (Bm o2 b3 (A5 o2)) (by show _+2 < _;omega) (.slice a3 ss.length d3);replace o3:=CE (a:=⟨w.heap.size+2,5,none⟩) (CS o3 (show w2.heap.size≤_ by simp)) (by show _+2 < _;omega) (.slice a3 ss.length d3);replace bb:=(bb.trans (b3.mono bb.size)).setCell (p:=⟨w.heap.size+2,5,none⟩) (by show _≤_+2;omega) (.slice a3 ss.length d3);clear b3;have q1:=T.k1.2.1;have q3:=T.k3.2.1;have f3:=T.k3.2.2;have y3:=T.k3.1;replace T:=T.set 5 (by simp) (.slice a3 ss.length d3);go_wp2_with fail;refine(F4.out _ bb).mono ?_;rintro e w4 ⟨v4,rfl,o4,b4⟩;clear q1 q3 f3 y3;obtain⟨a4,d4,rfl⟩:=AR o4;have zx4:=b4.size;rw[AP]at zx4;replace T:=T.below b4;replace o1:=(o1.below b4).setCell (a:=⟨w.heap.size+2,6,none⟩) (by show _+2 < _;omega) (.slice a4 cs.length d4);replace o2:=CE (a:=⟨w.heap.size+2,6,none⟩) (Bm o2 b4 (A5 o2)) (by show _+2 < _;omega) (.slice a4 cs.length d4);replace o3:=CE (a:=⟨w.heap.size+2,6,none⟩) (Bm o3 b4 (A5 o3)) (by show _+2 < _;omega) (.slice a4 cs.length d4);replace o4:=CE (a:=⟨w.heap.size+2,6,none⟩) (CS o4 (show w3.heap.size≤_ by simp)) (by show _+2 < _;omega) (.slice a4 cs.length d4);replace bb:=(bb.trans (b4.mono bb.size)).setCell (p:=⟨w.heap.size+2,6,none⟩) (by show _≤_+2;omega) (.slice a4 cs.length d4);clear b4;have q1:=T.k1.2.1;have q3:=T.k3.2.1;have f3:=T.k3.2.2;have y3:=T.k3.1;replace T:=T.set 6 (by simp) (.slice a4 cs.length d4);go_wp2_with fail;refine(F5.out _ bb).mono ?_;rintro e w5 ⟨v5,rfl,o5,b5⟩;clear q1 q3 f3 y3;obtain⟨a5,d5,rfl⟩:=AR o5;have zx5:=b5.size;rw[AP]at zx5;replace T:=T.below b5;have O1:=Aa (o1.below b5);have O2:=Aa (Bm o2 b5 (A5 o2));have O3:=Aa (Bm o3 b5 (A5 o3));have O4:=Aa (Bm o4 b5 (A5 o4));have O5:=Aa (CS o5 (show w4.heap.size≤_ by simp));have BB:=Aa (bb.trans (b5.mono bb.size));clear b5 o1 o2 o3 o4 o5 bb;have q1:=T.k1.2.1;have q2:=T.k2.2.1;have q3:=T.k3.2.1;have f2:=T.k2.2.2;have f3:=T.k3.2.2;have y2:=T.k2.1;have y3:=T.k3.1;go_wp2;refine Aq (v:= .agg #[.slice a1 fs.length d1,.slice a2 zs.length d2,.int .i64 h,.int .i64 b,.int .i64 n,.slice a3 ss.length d3,.slice a4 cs.length d4,.slice a5 os.length d5,.int .i64 code,.bool each]) ?_ rfl ⟨_,_,_,_,_,rfl,⟨?_,?_,?_,?_,?_⟩,?_⟩
 ·simp[results,Tryz.results9,go_sem,q2]
 ·refine OwnF.base (base:=x.heap.size) ?_ (by omega)
  repeat(refine OwnF.setCell ?_ (by first | (show _+1 < _;omega) | (show _+2 < _;omega)) _)
  exact O1.out
 ·refine CS (base:=w1.heap.size) ?_ (by omega)
  repeat(refine CE ?_ (by first | (show _+1 < _;omega) | (show _+2 < _;omega)) _)
  exact O2.out
 ·refine CS (base:=w2.heap.size) ?_ (by omega)
  repeat(refine CE ?_ (by first | (show _+1 < _;omega) | (show _+2 < _;omega)) _)
  exact O3.out
 ·refine CS (base:=w3.heap.size) ?_ (by omega)
  repeat(refine CE ?_ (by first | (show _+1 < _;omega) | (show _+2 < _;omega)) _)
  exact O4.out
 ·refine CS (base:=w4.heap.size) ?_ (by omega)
  repeat(refine CE ?_ (by first | (show _+1 < _;omega) | (show _+2 < _;omega)) _)
  exact O5.out
 ·repeat(refine Df ?_ (by first | (show _≤_+1;omega) | (show _≤_+2;omega)) _)
  exact BB.out
theorem Rd.grow_lt' {B g:Nat}{k:IntKind}{w W:World}{v:Value}{zs:List Int}(h:Rd B k w v zs) (hg:w.grownBy W (some g)) (hB:B≤g):Rd W.heap.size k W v zs:=by
 rcases h with h |⟨b,off,cap,rfl,h2,h3,h4,h5⟩
 ·exact .inl h
 ·have hl:=Ah h3 hg.size;exact .inr ⟨b,off,cap,rfl,hl,hl,h4,fun j hj=>(CD (hg.block b h3 (fun e=>by have:=Am e;omega))).trans (h5 j hj)⟩
theorem Ow {B:Nat}(ds:List Dt) (zs:List Int) (h b n:Int) (lv hv:Value) (x:Int) (w:World) (hz:Rd B .i64 w hv zs) (zi:EI zs) (hlen:zs.length≤4294967296)
  (bh:-9223372036854775808≤h∧h≤9223372036854775807) (bb0:-9223372036854775808≤b∧b≤9223372036854775807) (bn:-9223372036854775808≤n∧n≤9223372036854775807) (hd:RdDts B w lv ds) (hwd:AN ds≤1048576):
  Calls Pq 82 #[lv,.agg #[hv,.int .i64 h,.int .i64 b,.int .i64 n],.int .i64 x] w (OcR w (Cx ds zs h b n x)):=by
 have HO:=Aa (fun(W:World) (hb:Below w.heap.size w W)=>LZ hv zs h b n W (hz.below' hb) zi hlen bh bb0 bn);have HD:=Aa (fun(W:World) (hb:Below w.heap.size w W)=>hd.later' hb);obtain⟨la,lc,rfl⟩:=hd.form;cases hok:Cf zs h b n with
 |false=>
  have hr:Cx ds zs h b n x=none:=by unfold Cx;rw[Ae (by rw[hok];decide)]
  rw[hr];rw[hok]at HO;obtain⟨ha,hc,rfl⟩:=hz.form;clear hz hd hr hok bh bb0 bn;go_enter Tryz.func82,Tryz.ntmps82;go_wp2_with fail;generalize hxx:Wa (Wa _ _) _=x0;obtain⟨bb,k4,k6,sx⟩:=BV hxx;clear hxx;have ck4:=k4.2.1;have yk4:=k4.1;refine(HO.out x0 bb).mono ?_;rintro e w1 ⟨rfl,b1⟩;clear ck4 yk4;have k61:=k6.below b1 k6.1;have BB:=Aa (bb.trans (b1.mono bb.size));have K61:=Aa k61;clear b1 k4 k6 bb sx;have ck61:=k61.2.1;have yk61:=k61.1;have zk61:=k61.2.2;go_wp2;obtain⟨k7,g7⟩:=Bx.st4 K61.out (.int .i64 0) (.int .i64 0) (.string ⟨#[]⟩) (.slice none 0 0);have q7:=k7.2.1;refine Aq (v:= .tuple #[.agg #[.int .i64 0,.int .i64 0,.string ⟨#[]⟩,.slice none 0 0],.bool false]) ?_ rfl ⟨Below.grown_at BB.out g7 BB.out.size (by omega),rfl⟩;simp[results,Tryz.results82,go_sem,q7]
 |true=>
  obtain⟨h',b',n',ps,rfl,rfl,rfl,hR⟩:=Right.of hok;have HRES:=Aa (show Cx ds zs h' b' n' x= (AK ds zs ps 200 x 4000).map Prod.fst by
   unfold Cx;rw[Af hok,Dq,Dq,hR.some];rfl)
  rw[hok]at HO;generalize Cx ds zs h' b' n' x=res at*;have F:=hR.frame;have h0:=F.h0;have hl2:=F.len;have HZ:=Aa (fun(W:World) (hb:Below w.heap.size w W)=>hz.below' hb);have HS:=Aa (fun(W:World) (hb:Below w.heap.size w W)=>(by have:=JK hv zs h' b' n' W (hz.below' hb) zi F;rw[hR.some]at this;exact this:Calls Pq 139 #[.agg #[hv,.int .i64 h',.int .i64 b',.int .i64 n']] W fun e w'=>Told W e w' (some ps)∧Below W.heap.size W w'));rcases hz with ⟨hn,_⟩ |⟨hb0,ha,hc,rfl,_⟩
  ·rw[hn]at hl2;simp at hl2;omega
  clear hd hok bh bb0 bn h0 hl2 F;go_enter Tryz.func82,Tryz.ntmps82;go_wp2_with fail;generalize hxx:Wa (Wa _ _) _=x0;obtain⟨bb,k4,k6,sx⟩:=BV hxx;clear hxx;have ck4:=k4.2.1;have yk4:=k4.1;refine(HO.out x0 bb).mono ?_;rintro e w1 ⟨rfl,b1⟩;clear ck4 yk4;replace k4:=k4.below b1 k4.1;replace k6:=k6.below b1 k6.1;replace bb:=bb.trans (b1.mono bb.size);clear b1;have ck4:=k4.2.1;have yk4:=k4.1;go_wp2_with fail;refine(HS.out w1 bb).mono ?_;rintro e w2 ⟨⟨pv,rfl,op⟩,b2⟩;clear ck4 yk4;obtain⟨pa,pc,rfl⟩:=AR op;replace k4:=k4.below b2 k4.1;replace k6:=k6.below b2 k6.1;replace bb:=bb.trans (b2.mono bb.size);clear b2;have rp:Rd w2.heap.size .i64 w2 (.slice pa ps.length pc) (AS ps):=by
   rw[Fs]at op;have h2:w2.ownsRow w1.heap.size 3 1 (.slice pa ps.length pc) (AS ps).length ((AS ps).map (Value.int .i64)):=by rw[Ep];exact op
   exact Rd.of_own h2
  have RP:=Aa rp;clear op rp;have ck4:=k4.2.1;have yk4:=k4.1;have zk4:=k4.2.2;go_wp2_with fail;generalize hxx:w2.alloc _=w3;obtain⟨b3,kG⟩:=Bx.alloc hxx;clear hxx;clear ck4 yk4 zk4;have hGw:w.heap.size+1 < w2.heap.size:=k6.1;have RP3:=Aa (RP.out.below b3 (Ad _));replace k4:=k4.below b3 k4.1;replace k6:=k6.below b3 k6.1;replace bb:=bb.trans (b3.mono bb.size);clear b3;have z3:=k6.1;obtain⟨G,hG⟩:∃G,w2.heap.size=G:=⟨_,rfl⟩;rw[hG]at kG hGw RP3 ⊢;have hbw:∀W,w3.grownBy W (some G)→Below w.heap.size w W:=fun W hW=>Below.grown_at bb hW bb.size (by omega);have T:Bkr w3 G ds zs ps h' b' n' (.slice la ds.length lc) (.slice pa ps.length pc) (.slice (some ⟨hb0,ha,none⟩) zs.length hc):=
   ⟨hR,zi,fun W hW=>(HZ.out W (hbw W hW)).mono (hbw W hW).size,fun W hW=>RP3.out.grow_lt' hW (Ad _),fun W hW=>(HD.out W (hbw W hW)).later' (Ab W.heap.size W),hwd⟩
  have HV:=Kl T 200 x 4000 w3 (Ad _) (Ad _) (grownBy.refl _ _) kG;refine HV.mono ?_;rintro e w4 ⟨g4,hres⟩;have bb4:=Aa (hbw w4 g4);replace k6:=k6.grown g4 (fun e=>by have:=Am e;omega);have K6:=Aa k6;have hsz:=g4.size;cases hb:AK ds zs ps 200 x 4000 with
  |none=>
   rw[hb]at hres;dsimp only at hres;subst hres;have hr:res=none:=by rw[HRES.out,hb];rfl
   subst hr;clear T HV hbw k4 kG bb hb g4 HRES;have ck6:=k6.2.1;have yk6:=k6.1;have zk6:=k6.2.2;go_wp2;obtain⟨k7,g7⟩:=Bx.st4 K6.out (.int .i64 0) (.int .i64 0) (.string ⟨#[]⟩) (.slice none 0 0);have q7:=k7.2.1;refine Aq (v:= .tuple #[.agg #[.int .i64 0,.int .i64 0,.string ⟨#[]⟩,.slice none 0 0],.bool false]) ?_ rfl ⟨Below.grown_at bb4.out g7 bb4.out.size (by omega),rfl⟩;simp[results,Tryz.results82,go_sem,q7]
  |some q=>
   obtain⟨u,l2⟩:=q;rw[hb]at hres;dsimp only at hres;obtain⟨⟨kv,rfl,rt⟩,kG4⟩:=hres;obtain⟨a7,c7,rfl⟩:=rt.form;have hr:res=some u:=by rw[HRES.out,hb];rfl
   subst hr;have RT:=Aa rt;clear T HV hbw k4 kG bb hb g4 HRES kG4 rt;unfold vlC;have ck6:=k6.2.1;have yk6:=k6.1;have zk6:=k6.2.2;go_wp2;obtain⟨k7,g7⟩:=Bx.st4 K6.out (.int .i64 (kdV u)) (.int .i64 (nmV u)) (.string (tgV u)) (.slice a7 (ksV u).length c7);have q7:=k7.2.1;refine Aq (v:= .tuple #[.agg #[.int .i64 (kdV u),.int .i64 (nmV u),.string (tgV u),.slice a7 (ksV u).length c7],.bool true]) ?_ rfl ⟨Below.grown_at bb4.out g7 bb4.out.size (by omega),.slice a7 (ksV u).length c7,rfl,(RT.out.grown g7 z3).later fun q hq hl=>⟨by omega,hl,rfl⟩⟩;simp[results,Tryz.results82,go_sem,q7]
def Cq (ds:List Dt) (L:VmL):Option Vl:=if L.code=1∧L.ss.length=1 then Cx ds L.zs L.h L.b L.n (L.ss.getD 0 0)else none
theorem Ox {B:Nat}(ds:List Dt) (L:VmL) (lv fv hv sv cv ov:Value) (w:World) (hd:RdDts B w lv ds) (hwd:AN ds≤1048576) (hr:RdV B w fv hv sv cv ov L) (hi:D9 L) (hz:Bw L≤1048576):
  Calls Pq 37 #[lv,vmV fv hv sv cv ov L] w (OcR w (Cq ds L)):=by
 have hr0:=hr.below' (Ab w.heap.size w);have HBK:=Aa (fun(x:Int) (W:World) (hb:Below w.heap.size w W)=>Ow ds L.zs L.h L.b L.n lv hv x W (hr0.z.below' hb) hi.2.1 (by unfold Bw at hz;omega) hi.2.2.1 hi.2.2.2.1 hi.2.2.2.2.1 (hd.later' hb) hwd);obtain⟨la,lc,rfl⟩:=hd.form;have hs:=hr0.s;obtain⟨fa,fc,ha,hcp,sa,sc,ca,cc,oa,oc,rfl,rfl,rfl,rfl,rfl⟩:=hr0.forms;have hsl:L.ss.length≤1048576:=by unfold Bw at hz;omega
 by_cases hgood:L.code=1∧L.ss.length=1
 ·have HRES:=Aa (show Cq ds L=Cx ds L.zs L.h L.b L.n (L.ss.getD 0 0)from Af hgood);generalize Cq ds L=res at*;obtain⟨hcode,hlen⟩:=hgood;obtain⟨x,hx⟩:∃x,L.ss=[x]:=by
   match h:L.ss,hlen with
   | [x],_=>exact⟨x,rfl⟩
  rw[hx]at HRES;have HB:=Aa (fun(W:World) (hb:Below w.heap.size w W)=>(by have:=HBK.out x W hb;rw[show Cx ds L.zs L.h L.b L.n x=res from HRES.out.symm]at this;exact this:Calls Pq 82 #[.slice la ds.length lc,.agg #[.slice ha L.zs.length hcp,.int .i64 L.h,.int .i64 L.b,.int .i64 L.n],.int .i64 x] W (OcR W res)));rcases hs with ⟨h',_⟩ |⟨sb,soff,sc',hv',hsb,hsb',_,hcell⟩
  ·rw[hx]at h';cases h'
  have c0:w.cell? ⟨sb,soff,none⟩=some (.int .i64 x):=by
   have:=hcell 0 (by rw[hx];simp);rw[hx]at this
   simpa using this
  injection hv' with e1 e2 e3
  subst e1 e3;obtain⟨fs,zs,hh,bb0,nn,ss,cs,os,code,each⟩:=L;dsimp only at*;subst hcode hx;clear hcell hr0 hr hi hz hd HBK HRES hlen hsl;unfold vmV;dsimp only[List.length_cons,List.length_nil];go_enter Tryz.func37,Tryz.ntmps37;go_wp2_with fail;generalize hxx:(w.alloc _).alloc _=x0;obtain⟨bb,k3,k4,sx⟩:=BV hxx;clear hxx;have c1:=(bb.cell (p:=⟨sb,soff,none⟩) hsb').trans c0;clear c0;refine wp_region_held_drew (S:=(fun w'=>(∀j,w'.cell? ⟨w.heap.size,j,none⟩= #[.slice fa fs.length fc,.slice ha zs.length hcp,.int .i64 hh,.int .i64 bb0,.int .i64 nn,.slice (some ⟨sb,soff,none⟩) 1 sc,.slice ca cs.length cc,.slice oa os.length oc,.int .i64 1,.bool each][j]?)∧w'.cell? ⟨sb,soff,none⟩=some (.int .i64 x))) (by kernel_rfl) (by first | (dsimp only;exact⟨k3.2.1,c1⟩) | (exact⟨k3.2.1,c1⟩)) (fun hHeld=> ?_);refine tkH (i:=0) ?_;refine tkH (i:=1) ?_;refine tkH (i:=2) ?_;refine tkH (i:=3) ?_;refine tkH (i:=4) ?_;refine tkH (i:=5) ?_;refine tkH (i:=6) ?_;generalize hxd:x0.drew=x1 at hHeld;have hd:Below x0.heap.size x0 x1:=by rw[←hxd];exact(Ab _ _).drew
  have k31:=k3.below hd k3.1;have k41:=k4.below hd k4.1;have bb1:=bb.trans (hd.mono bb.size);have z1:=k41.1;have hsx:sb < x1.heap.size:=by omega
  clear hxd hd k3 k4 bb c1;refine rdH (i:=7) (fun K hK=> ?_);go_simp;refine(HB.out x1 bb1).mono ?_;rintro e w4 ho;obtain⟨k',n',s',a',l',c',rfl,b4,rt⟩:=ho.open;refine bkH hK (by first | (dsimp only;exact⟨(k31.below b4 k31.1).2.1,(b4.cell (p:=⟨sb,soff,none⟩) hsx).trans hHeld.2⟩) | (exact⟨(k31.below b4 k31.1).2.1,(b4.cell (p:=⟨sb,soff,none⟩) hsx).trans hHeld.2⟩)) (fun hHeld=> ?_);clear hK K;refine tkH (i:=8) ?_;refine tkH (i:=9) ?_;have k44:=k41.below b4 k41.1;have k34:=k31.below b4 k31.1;have bb4:=bb1.trans (b4.mono bb1.size);have RT:=Aa rt;have z4:=b4.size;obtain⟨kz,gz⟩:=k44.st4 (.int .i64 k') (.int .i64 n') (.string s') (.slice a' l' c');have KZ:=Aa kz;have GZ:=Aa gz;clear rt kz gz b4 ho;have ck44:=k44.2.1;have yk44:=k44.1;have zk44:=k44.2.2;refine rdH (i:=10) (fun K hK=> ?_);go_simp;refine bkH hK (by first | (dsimp only;exact⟨(k34.grown GZ.out (fun e=>by have:=Option.some.inj e;omega)).2.1,(GZ.out.cell_far ⟨sb,soff,none⟩ (by show sb < _;omega) (fun e=>by have h9:sb=w.heap.size+1:=Option.some.inj e;omega)).trans hHeld.2⟩) | (exact⟨(k34.grown GZ.out (fun e=>by have:=Option.some.inj e;omega)).2.1,(GZ.out.cell_far ⟨sb,soff,none⟩ (by show sb < _;omega) (fun e=>by have h9:sb=w.heap.size+1:=Option.some.inj e;omega)).trans hHeld.2⟩)) (fun hHeld=> ?_);clear hK K;refine tkH (i:=11) ?_;refine A2 (by kernel_rfl) ?_ _;clear ck44 yk44 zk44;generalize hxx:Ws _ _ _=wz at KZ GZ ⊢;clear hxx;have q6:=KZ.out.2.1;have gz:=GZ.out;go_wp2;refine Aq (v:= .tuple #[.agg #[.int .i64 k',.int .i64 n',.string s',.slice a' l' c'],.bool res.isSome]) ?_ rfl (OcR.close (Below.grown_at bb4 gz bb4.size (by omega)) ((RT.out.grown gz (by omega)).later fun q hq hl=>⟨by omega,hl,rfl⟩));simp[results,Tryz.results37,go_sem,q6]
 ·have hres:Cq ds L=none:=Ae hgood;rw[hres];clear hres HBK hr0 hr hd hs;obtain⟨fs,zs,hh,bb0,nn,ss,cs,os,code,each⟩:=L;dsimp only at*;unfold vmV;dsimp only;have K:∀w6:World,Bx w6 (w.heap.size+1) #[.int .i64 0,.int .i64 0,.string ⟨#[]⟩,.slice none 0 0]→Below w.heap.size w w6→True:=fun _ _ _=>trivial;clear K;by_cases hc1:code=1
  ·subst hc1;have hl:¬ss.length=1:=fun h=>hgood ⟨rfl,h⟩;have hlb:((ss.length:Int) !=1)=true:=by simp;omega
   clear hgood hl;go_enter Tryz.func37,Tryz.ntmps37;go_wp2;generalize hxx:Wa (Wa _ _) _=x0;obtain⟨bb,k3,k4,sx⟩:=BV hxx;have q6:=k4.2.1;refine Aq (v:= .tuple #[.agg #[.int .i64 0,.int .i64 0,.string ⟨#[]⟩,.slice none 0 0],.bool false]) ?_ rfl ⟨bb,rfl⟩;simp[results,Tryz.results37,go_sem,q6]
  ·have hlb:(code !=1)=true:=by simpa using hc1
   clear hgood hc1;go_enter Tryz.func37,Tryz.ntmps37;go_wp2;generalize hxx:Wa (Wa _ _) _=x0;obtain⟨bb,k3,k4,sx⟩:=BV hxx;have q6:=k4.2.1;refine Aq (v:= .tuple #[.agg #[.int .i64 0,.int .i64 0,.string ⟨#[]⟩,.slice none 0 0],.bool false]) ?_ rfl ⟨bb,rfl⟩;simp[results,Tryz.results37,go_sem,q6]
theorem LJ {B:Nat}(v:Value) (fs:List F2) (w:World) (hr:RdF B w v fs) (hf:∀x∈fs,FN x) (hlen:fs.length≤4294967296):
  Calls Pq 63 #[v] w fun e w'=>e= .returned (.bool (CL fs))∧Below w.heap.size w w':=by
 have HR:=Aa (fun(W:World) (hb:Below w.heap.size w W)=>hr.below' hb);have HF:=Aa hf;by_cases hq:inB (fs.length:Int) 1 60=true
 ·have hl:=Ct.1 hq;have h0:0 < fs.length:=by omega
  obtain⟨b,off,cap,lv,rfl,hB,hbs,hcap,q0,q1,ro⟩:=hr.at_ h0;obtain⟨la,lc,rfl⟩:=ro.form;have hz:fs[0]=fs.getD 0 fn0:=(EV h0).symm;rw[hz]at q0;obtain⟨F,hF⟩:∃F,(fs.getD 0 fn0).f=F:=⟨_,rfl⟩;rw[hF]at q0;rw[Nat.zero_mul,Nat.add_zero]at q0;have h0i:(0:Int) < (fs.length:Int):=by omega
  by_cases hF0:F=0
  ·subst hF0;have HH:=Aa (show(inB (fs.length:Int) 1 60&& ((fs.getD 0 fn0).f==0))=true by rw[hq,hF];rfl);clear hr hf hF hz ro q1;go_enter Tryz.func63,Tryz.ntmps63;go_wp2_with (go_at_call 65;refine(AZ _ _ _ _).mono ?_;rw[hq];rintro e w' ⟨rfl,rfl⟩);clear q0
   go_loopw [3] (fun i wr=>∃k:Nat,k≤fs.length∧i= .int .i64 k∧Below w.heap.size w wr∧Hid (∀j (h:j < fs.length),j < k→Dj fs[j]=true∧DL fs j=true)) (fun i _=>fs.length - (intOf i).toNat)
   case atStart=>exact⟨0,Ao _,rfl,Ab _ _,Aa (fun j _ h=>absurd h (by omega))⟩
   case round=>
    obtain⟨k,hk,rfl,hb,hd⟩:=hrel;by_cases hlt:k < fs.length
    ·obtain⟨b',off',cap',lv',hs,_,hbs',_,c0,c1,ro⟩:=(HR.out _ hb).at_ hlt;cases hs
     obtain⟨la',lc',rfl⟩:=ro.form;have hkl:(k:Int) < (fs.length:Int):=by omega
     have hoi:=(HF.out _ (An hlt)).2;have HO:=Aa (fun(W:World) (hb:Below w.heap.size w W) (o:O3) (ho:DB o) (hh1:0≤fs[k].f∧fs[k].f≤20) (hh2:fs[k].os.length≤3000)=>Ss _ fs k o W (HR.out W hb) hlt ho hh1 (by omega) hh2);obtain⟨x,hx⟩:∃x,fs[k]=x:=⟨_,rfl⟩;obtain⟨q3,hq3⟩:∃q,inB x.f 0 20=q:=⟨_,rfl⟩;obtain⟨q4,hq4⟩:∃q,inB (x.os.length:Int) 1 3000=q:=⟨_,rfl⟩;rw[hx]at c0 c1 ro hoi;simp only[hx]at HO;have HOX:=Aa hoi;have HX:=Aa hx;have RO:=Aa (fun(W:World) (h:Below wr.heap.size wr W)=>RdE.below' ro h);have HC1:=Aa (fun(W:World) (h:Below wr.heap.size wr W)=>(h.cell (p:=⟨b,off+k*2+1,none⟩) hbs').trans c1);have HB:=Aa hb;have hbz:=hb.size;clear hx ro hb hoi;cases q3
     ·have HBAD:=Aa (Ht hlt (by rw[HX.out];unfold Dj;rw[hq3];rfl));go_wp2_with (go_at_call 65;refine(AZ _ _ _ _).mono ?_;simp only[hq3];rintro e w' ⟨rfl,rfl⟩);go_ret;exact⟨Ac HBAD.out.symm,HB.out⟩
     cases q4
     ·have HBAD:=Aa (Ht hlt (by rw[HX.out];unfold Dj;rw[hq3,hq4];rfl));go_wp2_with (go_at_call 65;refine(AZ _ _ _ _).mono ?_;simp only[hq3,hq4];rintro e w' ⟨rfl,rfl⟩);go_ret;exact⟨Ac HBAD.out.symm,HB.out⟩
     ·have hh1:=Ct.1 hq3;have hh2:=Ct.1 hq4;have HHD:=Aa (show Dj x=true by unfold Dj;rw[hq3,hq4];rfl);go_wp2_with (go_at_call 65;refine(AZ _ _ _ _).mono ?_;simp only[hq3,hq4];rintro e w' ⟨rfl,rfl⟩);clear c0 c1 hq3 hq4;obtain⟨z,rfl⟩:∃z,z=wr:=⟨wr,rfl⟩
      go_loopw [5] (fun i wy=>∃t:Nat,t≤x.os.length∧i= .int .i64 t∧Below z.heap.size z wy∧Hid (∀j (h:j < x.os.length),j < t→Dl fs k x.os[j]=true)) (fun i _=>x.os.length - (intOf i).toNat)
      case atStart=>exact⟨0,Ao _,rfl,Ab _ _,Aa (fun j _ h=>absurd h (by omega))⟩
      case round=>
       obtain⟨t,ht,rfl,hb,hd3⟩:=hrel;have hbw:=HB.out.trans (hb.mono hbz);have c1:=HC1.out _ hb;by_cases htl:t < x.os.length
       ·obtain⟨bo,offo,capo,hso,_,hbso,_,d0,d1,d2⟩:=RdO.at_ (RO.out _ hb) htl;cases hso
        have htt:(t:Int) < (x.os.length:Int):=by omega
        have hoo:=HOX.out _ (An htl);obtain⟨q5,hq5⟩:∃q,Dl fs k x.os[t]=q:=⟨_,rfl⟩;have ho:=fun(W:World) (hb:Below w.heap.size w W)=>HO.out W hb x.os[t] hoo hh1 (by omega);rw[hq5]at ho;have HO5:=Aa ho;have HQ5:=Aa hq5;have HB3:=Aa hb;have HBW:=Aa hbw;clear ho hq5 hoo hb hbw;go_wp2_with fail;refine(HO5.out _ HBW.out).mono ?_;rintro e w9 ⟨rfl,b9⟩;have B9:=Aa (HB3.out.trans (b9.mono HB3.out.size));have BW9:=Aa (HBW.out.trans (b9.mono HBW.out.size));clear b9 d0 d1 d2 c1 HB3 HBW HO5;cases q5
        ·have HBAD:=Aa (Hu hlt (LD hlt (by rw[HX.out];exact htl) (by have:=HQ5.out;simp only[HX.out];exact this)));go_wp2;go_ret;exact⟨Ac HBAD.out.symm,BW9.out⟩
        ·go_wp2;go_roundw
         case rel=>exact⟨t+1,htl,by go_num,B9.out,Aa (fun j h hj=>by
          by_cases e:j=t
          ·subst e;exact HQ5.out
          ·exact hd3.out j h (by omega))⟩
         case measure=>simp[intOf];omega
       ·obtain rfl:t=x.os.length:=by omega
        obtain⟨E,hE⟩:∃E:Nat,x.os.length - 1=E:=⟨_,rfl⟩;have hEl:E < x.os.length:=by omega
        obtain⟨bo,offo,capo,hso,_,hbso,_,d0,_,_⟩:=RdO.at_ (RO.out _ hb) hEl;cases hso
        have e1:IntKind.i64.wrap ((x.os.length:Int) - 1)= (E:Int):=by rw[AX _ (by omega)];omega
        have e2:(E:Int) < (x.os.length:Int):=by omega
        obtain⟨C,hC⟩:∃C,x.os[E].c=C:=⟨_,rfl⟩;rw[hC]at d0;have hlc:Fm x=C:=by
         obtain⟨_,h2⟩:=LI (x:=x) rfl (by omega);rw[←h2,←hC];simp only[hE]
        have HLC:=Aa hlc;have HBW:=Aa hbw;have HD3:=hd3;clear hC hlc hE hb hbw;by_cases hC:C=7∨C=19∨C=21
        ·have HYES:=Aa (LH hlt (fun j hj=>by
          have h1:j < x.os.length:=by rw[←HX.out];exact hj
          have h2:=HD3.out j h1 h1;simp only[HX.out];exact h2) (by rw[HX.out];unfold Fo;rw[HLC.out];rcases hC with rfl |rfl |rfl <;> rfl))
         rcases hC with rfl |rfl |rfl
         all_goals go_wp2
         all_goals go_roundw
         all_goals first
          |exact⟨k+1,hlt,by go_num,HBW.out,Aa (fun j h hj=>by
            by_cases e:j=k
            ·subst e;exact⟨by rw[HX.out];exact HHD.out,HYES.out⟩
            ·exact hd.out j h (by omega))⟩
          | (simp[intOf];omega)
        ·have HBAD:=Aa (Hu hlt (LF hlt (by rw[HX.out];unfold Fo;rw[HLC.out];simp;omega)));have n1:(C !=7)=true:=by simp;omega
         have n2:(C !=19)=true:=by simp;omega
         have n3:(C !=21)=true:=by simp;omega
         have n4:C≠7:=by omega
         have n5:C≠19:=by omega
         have n6:C≠21:=by omega
         clear hC;go_wp2;go_ret;exact⟨Ac HBAD.out.symm,HBW.out⟩
    ·obtain rfl:k=fs.length:=by omega
     have HYES:=Aa (LG HH.out (fun j h=>(hd.out j h h).1) (fun j hj=>(hd.out j hj hj).2));go_wp2;go_ret;exact⟨Ac HYES.out.symm,hb⟩
  ·have HH:=Aa (Hs (fs:=fs) (by rw[hF];simp[hF0]));have hFn:(F !=0)=true:=by simp[hF0]
   clear hr hf hF hz ro q1;go_enter Tryz.func63,Tryz.ntmps63;go_wp2_with (go_at_call 65;refine(AZ _ _ _ _).mono ?_;rw[hq];rintro e w' ⟨rfl,rfl⟩);go_ret;exact⟨Ac HH.out.symm,Ab _ _⟩
 ·have hq:inB (fs.length:Int) 1 60=false:=by simpa using hq
  have HH:=Aa (Hs (fs:=fs) (by rw[hq];rfl));obtain⟨a,cap,rfl⟩:=hr.form;clear hr hf;go_enter Tryz.func63,Tryz.ntmps63;go_wp2_with (go_at_call 65;refine(AZ _ _ _ _).mono ?_;rw[hq];rintro e w' ⟨rfl,rfl⟩);go_ret;exact⟨Ac HH.out.symm,Ab _ _⟩
end Go.Proofs.YtifhcbeaiijkcaaGreat
