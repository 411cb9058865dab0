/- Parts of the proof of FnExactJudgeSame. -/
import Derived.Test.YtifhcbeaiijkcaaGreatJ27
import Derived.Deep.SlicePairs
import Derived.Lib.SmallJoins
import Derived.Test.YtifhcbeaiijkcaaGreatJ02
import Derived.BigQuiet
set_option linter.unusedVariables false
set_option linter.unusedSimpArgs false
set_option maxRecDepth 1000000
set_option maxHeartbeats 16000000
section
namespace Go.Proofs.YtifhcbeaiijkcaaGreat
open Go.RowKit
open _root_.Go.World renaming alloc→Wa,setCell→Ws
open _root_.Go.Proofs.Tryz renaming prog→Pq
structure VmL where
 fs:List F2
 zs:List Int
 h:Int
 b:Int
 n:Int
 ss:List Int
 cs:List O3
 os:List Int
 code:Int
 each:Bool
structure RdV (B:Nat) (w:World) (fv hv sv cv ov:Value) (L:VmL):Prop where
 f:RdF B w fv L.fs
 z:Rd B .i64 w hv L.zs
 s:Rd B .i64 w sv L.ss
 c:RdO B w cv L.cs
 o:Rd B .i64 w ov L.os
theorem RdV.below' {B:Nat}{w w':World}{fv hv sv cv ov:Value}{L:VmL}(h:RdV B w fv hv sv cv ov L) (hb:Below w.heap.size w w'):RdV w.heap.size w' fv hv sv cv ov L:=
 ⟨h.f.below' hb,h.z.below' hb,h.s.below' hb,RdE.below' h.c hb,h.o.below' hb⟩
theorem RdV.below {B B':Nat}{w w':World}{fv hv sv cv ov:Value}{L:VmL}(h:RdV B w fv hv sv cv ov L) (hb:Below B' w w') (hB:B≤B'):RdV B w' fv hv sv cv ov L:=
 ⟨h.f.below hb hB,h.z.below hb hB,h.s.below hb hB,RdE.below h.c hb hB,h.o.below hb hB⟩
def vmV (fv hv sv cv ov:Value) (L:VmL):Value:= .agg #[fv,hv,.int .i64 L.h,.int .i64 L.b,.int .i64 L.n,sv,cv,ov,.int .i64 L.code,.bool L.each]
def Bw (L:VmL):Nat:=(L.fs.length+tot L.fs)+L.zs.length+L.ss.length+L.cs.length+L.os.length
theorem Iv {m n:Nat}{left:Int}(h:0≤Ak m left):Ak n (Ak m left)=Ak (m+n) left:=by
 unfold Ak at h ⊢;split at h
 ·omega
 ·rename_i h1;rw[Ae h1];split <;> split <;> omega
theorem GP {m n:Nat}{left:Int}(h:Ak m left < 0) (hmn:m≤n):Ak n left= -1:=by
 unfold Ak at h ⊢;split at h
 ·rw[Af (by omega)]
 ·omega
theorem Iw {m:Nat}{left:Int}(h:0≤left):Ak m left≤left:=by
 unfold Ak;split <;> omega
theorem U5 {B:Nat}(fv hv sv cv ov:Value) (L:VmL) (left:Int) (w:World) (hr:RdV B w fv hv sv cv ov L) (h0:0≤left) (h1:left≤4611686018427387904):
  Calls Pq 6 #[vmV fv hv sv cv ov L,.int .i64 left] w fun e w'=>e= .returned (.int .i64 (Ak (Bw L) left))∧Below w.heap.size w w':=by
 obtain⟨fs,zs,h,b,n,ss,cs,os,code,each⟩:=L;have HR:=Aa (fun(W:World) (hb:Below w.heap.size w W)=>hr.below' hb);obtain⟨fa,fc,rfl⟩:=hr.f.form;obtain⟨ha,hc,rfl⟩:=hr.z.form;obtain⟨sa,sc,rfl⟩:=hr.s.form;obtain⟨ca,cc,rfl⟩:=hr.c.form;obtain⟨oa,oc,rfl⟩:=hr.o.form;clear hr;unfold vmV Bw;dsimp only;obtain⟨m1,hm1⟩:∃m,fs.length+tot fs=m:=⟨_,rfl⟩;obtain⟨Z1,hZ1⟩:∃Z,Ak m1 left=Z:=⟨_,rfl⟩;obtain⟨Z2,hZ2⟩:∃Z,Ak (m1+zs.length) left=Z:=⟨_,rfl⟩;obtain⟨Z3,hZ3⟩:∃Z,Ak (m1+zs.length+ss.length) left=Z:=⟨_,rfl⟩;obtain⟨Z4,hZ4⟩:∃Z,Ak (m1+zs.length+ss.length+cs.length) left=Z:=⟨_,rfl⟩;obtain⟨Z5,hZ5⟩:∃Z,Ak (m1+zs.length+ss.length+cs.length+os.length) left=Z:=⟨_,rfl⟩;have f1:=fun(W:World) (hb:Below w.heap.size w W)=>Qw _ fs left W (HR.out W hb).f (by omega) h1;dsimp only at f1;rw[hm1,hZ1]at f1;rw[hm1,hZ5];have n1:Z1 < 0→Z5= -1:=fun h=>by rw[←hZ5];exact GP (hZ1▸h) (by omega)
 have n2:Z2 < 0→Z5= -1:=fun h=>by rw[←hZ5];exact GP (hZ2▸h) (by omega)
 have n3:Z3 < 0→Z5= -1:=fun h=>by rw[←hZ5];exact GP (hZ3▸h) (by omega)
 have n4:Z4 < 0→Z5= -1:=fun h=>by rw[←hZ5];exact GP (hZ4▸h) (by omega)
 have n5:Z5 < 0→Z5= -1:=fun h=>by rw[←hZ5];exact GP (hZ5▸h) (Ad _)
 have l1:Z1≤left:=hZ1▸Iw h0;have l2:Z2≤left:=hZ2▸Iw h0;have l3:Z3≤left:=hZ3▸Iw h0;have l4:Z4≤left:=hZ4▸Iw h0;have a2:0≤Z1→Ak zs.length Z1=Z2:=fun h=>by rw[←hZ1]at h ⊢;rw[Iv h,hZ2]
 have a3:0≤Z2→Ak ss.length Z2=Z3:=fun h=>by rw[←hZ2]at h ⊢;rw[Iv h,hZ3]
 have a4:0≤Z3→Ak cs.length Z3=Z4:=fun h=>by rw[←hZ3]at h ⊢;rw[Iv h,hZ4]
 have a5:0≤Z4→Ak os.length Z4=Z5:=fun h=>by rw[←hZ4]at h ⊢;rw[Iv h,hZ5]
 have F1:=Aa f1;have F2:=Aa (fun(W:World) (hb:Below w.heap.size w W) (hz:0≤Z1)=>(by have:=QH _ zs h b n Z1 W (HR.out W hb).z (by omega) (by omega);rw[a2 hz]at this;exact this:Calls Pq 22 _ W _));have F3:=Aa (fun(W:World) (hb:Below w.heap.size w W) (hz:0≤Z2)=>(by have:=Jp _ ss Z2 W (HR.out W hb).s (by omega) (by omega);rw[a3 hz]at this;exact this:Calls Pq 23 _ W _));have F4:=Aa (fun(W:World) (hb:Below w.heap.size w W) (hz:0≤Z3)=>(by have:=OK _ cs Z3 W (HR.out W hb).c (by omega) (by omega);rw[a4 hz]at this;exact this:Calls Pq 24 _ W _));have F5:=Aa (fun(W:World) (hb:Below w.heap.size w W) (hz:0≤Z4)=>(by have:=Jp _ os Z4 W (HR.out W hb).o (by omega) (by omega);rw[a5 hz]at this;exact this:Calls Pq 23 _ W _));have N1:=Aa n1;have N2:=Aa n2;have N3:=Aa n3;have N4:=Aa n4;have N5:=Aa n5;clear f1 n1 n2 n3 n4 n5 a2 a3 a4 a5 hm1 hZ1 hZ2 hZ3 hZ4 hZ5;go_enter Tryz.func6,Tryz.ntmps6;go_wp2_with fail;generalize hx:w.alloc _=x;obtain⟨bb,k1⟩:=Bx.alloc hx;clear hx;have ck1:=k1.2.1;have yk1:=k1.1;go_wp2_with fail;refine(F1.out _ bb).mono ?_;rintro e w1 ⟨rfl,b1⟩;clear ck1 yk1;replace k1:=k1.below b1 k1.1;replace bb:=bb.trans (b1.mono bb.size);clear b1;by_cases z1:Z1 < 0
 ·go_wp2;go_ret;exact⟨Ap (N1.out z1).symm,bb⟩
 have ck1:=k1.2.1;have yk1:=k1.1;go_wp2_with fail;refine(F2.out _ bb (by omega)).mono ?_;rintro e w2 ⟨rfl,b2⟩;clear ck1 yk1;replace k1:=k1.below b2 k1.1;replace bb:=bb.trans (b2.mono bb.size);clear b2;by_cases z2:Z2 < 0
 ·go_wp2;go_ret;exact⟨Ap (N2.out z2).symm,bb⟩
 have ck1:=k1.2.1;have yk1:=k1.1;go_wp2_with fail;refine(F3.out _ bb (by omega)).mono ?_;rintro e w3 ⟨rfl,rfl⟩;by_cases z3:Z3 < 0
 ·go_wp2;go_ret;exact⟨Ap (N3.out z3).symm,bb⟩
 go_wp2_with fail;refine(F4.out _ bb (by omega)).mono ?_;rintro e w4 ⟨rfl,rfl⟩;by_cases z4:Z4 < 0
 ·go_wp2;go_ret;exact⟨Ap (N4.out z4).symm,bb⟩
 go_wp2_with fail;refine(F5.out _ bb (by omega)).mono ?_;rintro e w5 ⟨rfl,rfl⟩;by_cases z5:Z5 < 0
 ·go_wp2;go_ret;exact⟨Ap (N5.out z5).symm,bb⟩
 go_wp2;go_ret;exact⟨rfl,bb⟩
theorem U6 {B1 B2:Nat}(fv hv sv cv ov fv' hv' sv' cv' ov':Value) (L:VmL) (w:World) (ra:RdV B1 w fv hv sv cv ov L) (rb:RdV B2 w fv' hv' sv' cv' ov' L):
  Calls Pq 12 #[vmV fv hv sv cv ov L,vmV fv' hv' sv' cv' ov' L] w fun e w'=>e= .returned (.bool true)∧Below w.heap.size w w':=by
 obtain⟨fs,zs,h,b,n,ss,cs,os,code,each⟩:=L;have RA:=Aa (fun(W:World) (hb:Below w.heap.size w W)=>ra.below' hb);have RB:=Aa (fun(W:World) (hb:Below w.heap.size w W)=>rb.below' hb);obtain⟨fa,fc,rfl⟩:=ra.f.form;obtain⟨ha,hc,rfl⟩:=ra.z.form;obtain⟨sa,sc,rfl⟩:=ra.s.form;obtain⟨ca,cc,rfl⟩:=ra.c.form;obtain⟨oa,oc,rfl⟩:=ra.o.form;obtain⟨fa',fc',rfl⟩:=rb.f.form;obtain⟨ha',hc',rfl⟩:=rb.z.form;obtain⟨sa',sc',rfl⟩:=rb.s.form;obtain⟨ca',cc',rfl⟩:=rb.c.form;obtain⟨oa',oc',rfl⟩:=rb.o.form;clear ra rb;unfold vmV;dsimp only;have hkk:(each !=each)=false:=by cases each <;> rfl
 have F1:=Aa (fun(W:World) (hb:Below w.heap.size w W)=>Qs _ _ fs W (RA.out W hb).f (RB.out W hb).f);have F2:=Aa (fun(W:World) (hb:Below w.heap.size w W)=>QG _ _ zs h b n W (RA.out W hb).z (RB.out W hb).z);have F3:=Aa (fun(W:World) (hb:Below w.heap.size w W)=>(Ja _ _ ss ss W (RA.out W hb).s (RB.out W hb).s).mono (fun e w' h=>(⟨h.1.trans (Ac (Ax rfl)),h.2.below _⟩:e= .returned (.bool true)∧Below W.heap.size W w')));have F4:=Aa (fun(W:World) (hb:Below w.heap.size w W)=>(ON _ _ cs cs W (RA.out W hb).c (RB.out W hb).c).mono (fun e w' h=>(⟨h.1.trans (Ac (Ax rfl)),h.2⟩:e= .returned (.bool true)∧Below W.heap.size W w')));have F5:=Aa (fun(W:World) (hb:Below w.heap.size w W)=>(Ja _ _ os os W (RA.out W hb).o (RB.out W hb).o).mono (fun e w' h=>(⟨h.1.trans (Ac (Ax rfl)),h.2.below _⟩:e= .returned (.bool true)∧Below W.heap.size W w')));go_enter Tryz.func12,Tryz.ntmps12;go_wp2_with fail;generalize hx:(w.alloc _).alloc _=x;obtain⟨bb,k1,k2,sx⟩:=SI hx;clear hx;have ck1:=k1.2.1;have yk1:=k1.1;have ck2:=k2.2.1;have yk2:=k2.1;go_wp2_with fail;refine(F1.out _ bb).mono ?_;rintro e w1 ⟨rfl,b1⟩;clear ck1 yk1 ck2 yk2;replace k1:=k1.below b1 k1.1;replace k2:=k2.below b1 k2.1;replace bb:=bb.trans (b1.mono bb.size);clear b1;have ck1:=k1.2.1;have yk1:=k1.1;have ck2:=k2.2.1;have yk2:=k2.1;go_wp2_with fail;refine(F2.out _ bb).mono ?_;rintro e w2 ⟨rfl,b2⟩;clear ck1 yk1 ck2 yk2;replace k1:=k1.below b2 k1.1;replace k2:=k2.below b2 k2.1;replace bb:=bb.trans (b2.mono bb.size);clear b2;have ck1:=k1.2.1;have yk1:=k1.1;have ck2:=k2.2.1;have yk2:=k2.1;go_wp2_with fail;refine(F3.out _ bb).mono ?_;rintro e w3 ⟨rfl,b3⟩;clear ck1 yk1 ck2 yk2;replace k1:=k1.below b3 k1.1;replace k2:=k2.below b3 k2.1;replace bb:=bb.trans (b3.mono bb.size);clear b3;have ck1:=k1.2.1;have yk1:=k1.1;have ck2:=k2.2.1;have yk2:=k2.1;go_wp2_with fail;refine(F4.out _ bb).mono ?_;rintro e w4 ⟨rfl,b4⟩;clear ck1 yk1 ck2 yk2;replace k1:=k1.below b4 k1.1;replace k2:=k2.below b4 k2.1;replace bb:=bb.trans (b4.mono bb.size);clear b4;have ck1:=k1.2.1;have yk1:=k1.1;have ck2:=k2.2.1;have yk2:=k2.1;go_wp2_with fail;refine(F5.out _ bb).mono ?_;rintro e w5 ⟨rfl,b5⟩;clear ck1 yk1 ck2 yk2;replace k1:=k1.below b5 k1.1;replace k2:=k2.below b5 k2.1;replace bb:=bb.trans (b5.mono bb.size);clear b5;have ck1:=k1.2.1;have yk1:=k1.1;have ck2:=k2.2.1;have yk2:=k2.1;go_wp2;go_ret;exact⟨rfl,bb⟩
end Go.Proofs.YtifhcbeaiijkcaaGreat
end
section
namespace Go.Proofs.YtifhcbeaiijkcaaGreat
open Go.ChangeShapes Go.WideShapes Go.ChangeAt Go.RowKit
open _root_.Go.World renaming alloc→Wa,setCell→Ws
open _root_.Go.Proofs.Tryz renaming prog→Pq
def D9 (L:VmL):Prop:=(∀x∈L.fs,FN x)∧Ik L.zs∧(-9223372036854775808≤L.h∧L.h≤9223372036854775807)∧(-9223372036854775808≤L.b∧L.b≤9223372036854775807)∧(-9223372036854775808≤L.n∧L.n≤9223372036854775807)∧
 Ik L.ss∧(∀x∈L.cs,DB x)∧Ik L.os∧(-9223372036854775808≤L.code∧L.code≤9223372036854775807)
section
variable {H:Type}{enc:TypeId×Value→H}{w:World}{base:Nat}
theorem Sv {fuel:Nat}{held:Bool}{c:Value}{x:DataW H×List MemPlace}(h:DataW.trod enc Pq w base (fun _=>true) held fuel 117 [c]=some x):∃os,RdO w.heap.size w c os∧ ∀o∈os,DB o:=
 MK Tryz.underlying117 Tryz.underlying240 Tryz.underlying3 ⟨rfl,rfl⟩ ⟨rfl,rfl⟩ ⟨rfl,rfl⟩ (by kernel_rfl) (by kernel_rfl) h
theorem Sx {fuel:Nat}{held:Bool}{c:Value}{x:DataW H×List MemPlace}(h:DataW.trod enc Pq w base (fun _=>true) held fuel 32 [c]=some x):∃os,RdO w.heap.size w c os∧ ∀o∈os,DB o:=
 MK Tryz.underlying32 Tryz.underlying140 Tryz.underlying3 ⟨rfl,rfl⟩ ⟨rfl,rfl⟩ ⟨rfl,rfl⟩ (by kernel_rfl) (by kernel_rfl) h
theorem Sy {fuel:Nat}{held:Bool}{c:Value}{x:DataW H×List MemPlace}(h:DataW.trod enc Pq w base (fun _=>true) held fuel 28 [c]=some x):∃fs,RdF w.heap.size w c fs∧ ∀x∈fs,FN x:=by
 rcases Go.Deep.open_slice_pairs Tryz.underlying28 Tryz.underlying119 (by kernel_rfl) rfl rfl (by kernel_rfl) (by kernel_rfl) h with ⟨hcs,_⟩ |⟨a,len,cap,m,n,V0,V1,D0,D1,P0,P1,hcs,_,hl,hm,hmm,_,hx⟩
 ·simp only[List.cons.injEq,Dg]at hcs;subst hcs;exact⟨[],⟨[],.inl ⟨rfl,_,_,rfl⟩,rfl,fun j h=>absurd h (by simp)⟩,fun o ho=>by cases ho⟩
 ·simp only[List.cons.injEq,Dg]at hcs;subst hcs;simp only[if_true]at hmm;subst hmm;have hall:∀i,i < len→ ∃q:Int×List O3,(w.cell? (a.add (i*2))=some (.int .i64 q.1)∧w.cell? (a.add (i*2+1))=some (V1 i)∧RdO w.heap.size w (V1 i) q.2)∧FN ⟨q.1,q.2⟩:=by
   intro i hi;obtain⟨c0,c1,t0,t1⟩:=hx i (by omega);obtain⟨f,hf,hfi⟩:=Db Tryz.underlying3 t0;obtain⟨os,ro,ho⟩:=Sv t1;exact⟨(f,os),⟨by rw[←hf];exact c0,c1,ro⟩,hfi,ho⟩
  rcases Fy len with rfl |hpos
  ·exact⟨[],⟨[],.inl ⟨rfl,_,_,rfl⟩,rfl,fun j h=>absurd h (by simp)⟩,fun o ho=>by cases ho⟩
  ·obtain⟨f,hf⟩:∃f:Nat→Int×List O3,∀i,i < len→(w.cell? (a.add (i*2))=some (.int .i64 (f i).1)∧w.cell? (a.add (i*2+1))=some (V1 i)∧RdO w.heap.size w (V1 i) (f i).2)∧FN ⟨(f i).1,(f i).2⟩:=G1 hall;obtain⟨b,off,spot⟩:=a;have hz:=(hf 0 hpos).1.1;have hspot:spot=none:=by
    have:w.cell? ⟨b,off,spot⟩=some (.int .i64 (f 0).1):=by simpa [Addr.add] using hz
    simpa using G2 this
   subst hspot;have hc0:∀i,i < len→w.cell? ⟨b,off+i*2,none⟩=some (.int .i64 (f i).1):=fun i hi=>by rw[← (hf i hi).1.1,CV]
   have hc1:∀i,i < len→w.cell? ⟨b,off+i*2+1,none⟩=some (V1 i):=fun i hi=>by rw[← (hf i hi).1.2.1,CV,Dp]
   have hb:b < w.heap.size:=Gb w ⟨b,off,none⟩ (u:= .int .i64 (f 0).1) (by simpa using hc0 0 hpos);refine⟨(List.range len).map fun i=>⟨(f i).1,(f i).2⟩,⟨(List.range len).map fun i=>((f i).1,V1 i),.inr ⟨b,off,m,by simp,hb,hb,⟨by simp;omega,by simpa using hl⟩,?_⟩,by simp,?_⟩,?_⟩
   ·intro j x hj t ht;simp only[GS]at hj;by_cases hjl:j < len
    ·rw[List.getElem?_range hjl]at hj;simp only[Option.map_some,F8]at hj;subst hj
     match t,ht with
     |0,_=>exact hc0 j hjl
     |1,_=>exact hc1 j hjl
    ·rw[FB (by simp;omega)]at hj;simp at hj
   ·intro j h1 h2;have hjl:j < len:=by simpa using h1
    simp only[Gd,Ge];exact⟨trivial,(hf j hjl).1.2.2⟩
   ·intro o ho;simp only[Gc,Ed]at ho;obtain⟨i,hi,rfl⟩:=ho;exact(hf i hi).2
theorem Sz {α:Type}{l:List α}(h:l.length=10):∃c0 c1 c2 c3 c4 c5 c6 c7 c8 c9,l=[c0,c1,c2,c3,c4,c5,c6,c7,c8,c9]:=by
 match l,h with
 | [c0,c1,c2,c3,c4,c5,c6,c7,c8,c9],_=>exact⟨_,_,_,_,_,_,_,_,_,_,rfl⟩
theorem SB {α:Type}{l:List α}(h:l.length=7):∃c0 c1 c2 c3 c4 c5 c6,l=[c0,c1,c2,c3,c4,c5,c6]:=by
 match l,h with
 | [c0,c1,c2,c3,c4,c5,c6],_=>exact⟨_,_,_,_,_,_,_,rfl⟩
theorem SC {held:Bool}{r:Reach}{b0:Nat}{v:Value}{d:DataW H}{p:List MemPlace}(hv:Value.okWide Pq w r b0 34 v) (h:DataW.Trod enc Pq w base (fun _=>true) held 34 v d p):
  ∃fv hv sv cv ov L,v=vmV fv hv sv cv ov L∧RdV w.heap.size w fv hv sv cv ov L∧D9 L:=by
 obtain⟨cs,rfl,hsz⟩:=okWide_struct Tryz.underlying34 hv;rw[show Tryz.prog.cellsOf 34=10 by kernel_rfl]at hsz;obtain⟨fuel,hf⟩:=h;obtain⟨xs,n,_,_,_,hlen,hfd⟩:=DataW.trod_struct Tryz.underlying34 hf;obtain⟨l⟩:=cs;obtain⟨c0,c1,c2,c3,c4,c5,c6,c7,c8,c9,rfl⟩:=Sz (l:=l) (by simpa using hsz);obtain⟨y0,y1,y2,y3,y4,y5,y6,rfl⟩:=SB (l:=xs) hlen;have e1:Tryz.prog.cellsOf 3=1:=by kernel_rfl
 have e2:Tryz.prog.cellsOf 28=1:=by kernel_rfl
 have e3:Tryz.prog.cellsOf 31=4:=by kernel_rfl
 have e4:Tryz.prog.cellsOf 32=1:=by kernel_rfl
 have e5:Tryz.prog.cellsOf 4=1:=by kernel_rfl
 have e6:Tryz.prog.cellsOf 29=1:=by kernel_rfl
 have k0:DataW.trod enc Pq w base (fun _=>true) held n 28 [c0]=some y0:=by
  have h1:=hfd 0 _ rfl;change DataW.trod enc Pq w base (fun _=>true) held n 28 (([c0,c1,c2,c3,c4,c5,c6,c7,c8,c9].drop 0).take (Tryz.prog.cellsOf 28))=some y0 at h1;rw[e2]at h1;exact h1
 have k1:DataW.trod enc Pq w base (fun _=>true) held n 31 [c1,c2,c3,c4]=some y1:=by
  have h1:=hfd 1 _ rfl;change DataW.trod enc Pq w base (fun _=>true) held n 31 (([c0,c1,c2,c3,c4,c5,c6,c7,c8,c9].drop 1).take (Tryz.prog.cellsOf 31))=some y1 at h1;rw[e3]at h1;exact h1
 have k2:DataW.trod enc Pq w base (fun _=>true) held n 29 [c5]=some y2:=by
  have h1:=hfd 2 _ rfl;change DataW.trod enc Pq w base (fun _=>true) held n 29 (([c0,c1,c2,c3,c4,c5,c6,c7,c8,c9].drop 5).take (Tryz.prog.cellsOf 29))=some y2 at h1;rw[e6]at h1;exact h1
 have k3:DataW.trod enc Pq w base (fun _=>true) held n 32 [c6]=some y3:=by
  have h1:=hfd 3 _ rfl;change DataW.trod enc Pq w base (fun _=>true) held n 32 (([c0,c1,c2,c3,c4,c5,c6,c7,c8,c9].drop 6).take (Tryz.prog.cellsOf 32))=some y3 at h1;rw[e4]at h1;exact h1
 have k4:DataW.trod enc Pq w base (fun _=>true) held n 29 [c7]=some y4:=by
  have h1:=hfd 4 _ rfl;change DataW.trod enc Pq w base (fun _=>true) held n 29 (([c0,c1,c2,c3,c4,c5,c6,c7,c8,c9].drop 7).take (Tryz.prog.cellsOf 29))=some y4 at h1;rw[e6]at h1;exact h1
 have k5:DataW.trod enc Pq w base (fun _=>true) held n 3 [c8]=some y5:=by
  have h1:=hfd 5 _ rfl;change DataW.trod enc Pq w base (fun _=>true) held n 3 (([c0,c1,c2,c3,c4,c5,c6,c7,c8,c9].drop 8).take (Tryz.prog.cellsOf 3))=some y5 at h1;rw[e1]at h1;exact h1
 have k6:DataW.trod enc Pq w base (fun _=>true) held n 4 [c9]=some y6:=by
  have h1:=hfd 6 _ rfl;change DataW.trod enc Pq w base (fun _=>true) held n 4 (([c0,c1,c2,c3,c4,c5,c6,c7,c8,c9].drop 9).take (Tryz.prog.cellsOf 4))=some y6 at h1;rw[e5]at h1;exact h1
 clear hfd hf hv;obtain⟨fs,rf,if_⟩:=Sy k0;obtain⟨x0,x1,x2,x3,m,_,_,g0,g1,g2,g3⟩:=Joins.trod_struct4 Tryz.underlying31 k1;change DataW.trod enc Pq w base (fun _=>true) held m 29 (([c1,c2,c3,c4].drop 0).take (Tryz.prog.cellsOf 29))=some x0 at g0;change DataW.trod enc Pq w base (fun _=>true) held m 3 (([c1,c2,c3,c4].drop 1).take (Tryz.prog.cellsOf 3))=some x1 at g1;change DataW.trod enc Pq w base (fun _=>true) held m 3 (([c1,c2,c3,c4].drop 2).take (Tryz.prog.cellsOf 3))=some x2 at g2;change DataW.trod enc Pq w base (fun _=>true) held m 3 (([c1,c2,c3,c4].drop 3).take (Tryz.prog.cellsOf 3))=some x3 at g3;rw[e6]at g0;rw[e1]at g1 g2 g3;obtain⟨zs,rz,iz⟩:=JD Tryz.underlying29 Tryz.underlying3 (by kernel_rfl) g0;obtain⟨hh,hh2,ih⟩:=Db Tryz.underlying3 g1;obtain⟨hb,hb2,ib⟩:=Db Tryz.underlying3 g2;obtain⟨hn,hn2,in_⟩:=Db Tryz.underlying3 g3;obtain⟨ss,rs,is⟩:=JD Tryz.underlying29 Tryz.underlying3 (by kernel_rfl) k2;obtain⟨cs,rc,ic⟩:=Sx k3;obtain⟨os,ro,io⟩:=JD Tryz.underlying29 Tryz.underlying3 (by kernel_rfl) k4;obtain⟨hc,hc2,icd⟩:=Db Tryz.underlying3 k5;obtain⟨bv,hbv,_⟩:=DataW.trod_bool Tryz.underlying4 k6;simp only[List.cons.injEq,Dg]at hbv;subst hh2 hb2 hn2 hc2 hbv;exact⟨c0,c1,c5,c6,c7,⟨fs,zs,hh,hb,hn,ss,cs,os,hc,bv⟩,rfl,⟨rf,rz,rs,rc,ro⟩,if_,iz,ih,ib,in_,is,ic,io,icd⟩
end
end Go.Proofs.YtifhcbeaiijkcaaGreat
end
section
namespace Go.Proofs.YtifhcbeaiijkcaaGreat
open Go.RowKit
open _root_.Go.World renaming alloc→Wa,setCell→Ws
open _root_.Go.Proofs.Tryz renaming prog→Pq
def c0:O3:=⟨0,0,0⟩
def Ca (fs:List F2) (ns:Nat) (cs:List O3) (i:Nat):Bool:=
 (inB (cs.getD i c0).c 0 ((fs.length:Int) - 1)&& inB (cs.getD i c0).n 0 (((fs.getD (cs.getD i c0).c.toNat fn0).os.length:Int) - 1))&& (inB (cs.getD i c0).m 1 ((ns:Int) - 1)&& (decide (i=0) || decide ((cs.getD (i - 1) c0).m < (cs.getD i c0).m)))
def Ey (fs:List F2) (ns:Nat) (cs:List O3):Bool:=(List.range cs.length).all (Ca fs ns cs)
def CY (fs:List F2) (ns:Nat) (cs:List O3) (code:Int):Bool:=Ey fs ns cs&& (decide (cs.length≤120)&& ((code !=0) || decide (0 < cs.length)))
theorem DJ {fs:List F2}{ns:Nat}{cs:List O3}{i:Nat}(hi:i < cs.length) (h:Ca fs ns cs i=false):Ey fs ns cs=false:=by
 unfold Ey;rw[Ec];exact⟨i,Ed.2 hi,by simp[h]⟩
theorem IT {fs:List F2}{ns:Nat}{cs:List O3}(h:∀j,j < cs.length→Ca fs ns cs j=true):Ey fs ns cs=true:=by
 unfold Ey;rw[BA];exact fun j hj=>h j (Ed.1 hj)
theorem FG {cs:List O3}{i:Nat}(h:i < cs.length):cs.getD i c0=cs[i]:=by rw[List.getD_eq_getElem?_getD,Ay h];rfl
theorem OO {B:Nat}(fv hv sv cv ov:Value) (L:VmL) (w:World) (hr:RdV B w fv hv sv cv ov L) (hl:Bw L≤1048576):
  Calls Pq 78 #[vmV fv hv sv cv ov L] w fun e w'=>e= .returned (.bool (CY L.fs L.ss.length L.cs L.code))∧Below w.heap.size w w':=by
 obtain⟨fs,zs,h,b,n,ss,cs,os,code,each⟩:=L;unfold Bw at hl;dsimp only at hl ⊢;have RF:=Aa (fun(W:World) (hb:Below w.heap.size w W)=>hr.f.below' hb);have RC:=Aa (fun(W:World) (hb:Below w.heap.size w W)=>RdE.below' hr.c hb);obtain⟨fa,fc,rfl⟩:=hr.f.form;obtain⟨ha,hc,rfl⟩:=hr.z.form;obtain⟨sa,sc,rfl⟩:=hr.s.form;obtain⟨ca,cc,rfl⟩:=hr.c.form;obtain⟨oa,oc,rfl⟩:=hr.o.form;clear hr;unfold vmV;dsimp only at RF RC ⊢;have e1:IntKind.i64.wrap ((fs.length:Int) - 1)= (fs.length:Int) - 1:=AX _ (by omega);have e2:IntKind.i64.wrap ((ss.length:Int) - 1)= (ss.length:Int) - 1:=AX _ (by omega);have HW:=Aa (fun(a b c:Int) (W:World)=>(A8 a b c W).mono (fun e w' h=>And.intro h.1 h.2.symm));go_enter Tryz.func78,Tryz.ntmps78;go_wp2_with fail;generalize hx:w.alloc _=x;obtain⟨bx,k1⟩:=Bx.alloc hx;clear hx;have qx:=k1.2.1;have BX:=Aa bx;have K1:=Aa k1;have hxz:=bx.size;clear bx k1;go_wp2;clear qx
 go_loopw [8] (fun i wr=>∃k:Nat,k≤cs.length∧i= .int .i64 k∧Below x.heap.size x wr∧Hid (∀j,j < k→Ca fs ss.length cs j=true)) (fun i _=>cs.length - (intOf i).toNat)
 case atStart=>exact⟨0,Ao _,rfl,Ab _ _,Aa (fun j h=>absurd h (by omega))⟩
 case round=>
  obtain⟨k,hk,rfl,hb,hd⟩:=hrel;have hbw:=BX.out.trans (hb.mono hxz);have k1:=K1.out.below hb K1.out.1;have q1:=k1.2.1;have y1:=k1.1;by_cases hlt:k < cs.length
  ·obtain⟨bo,offo,capo,hso,_,hbso,_,d0,d1,d2⟩:=RdO.at_ (RC.out _ hbw) hlt;cases hso
   have hkl:(k:Int) < (cs.length:Int):=by omega
   obtain⟨o,ho⟩:∃o,cs[k]=o:=⟨_,rfl⟩;have hog:cs.getD k c0=o:=by rw[FG hlt,ho]
   rw[ho]at d0 d1 d2;obtain⟨a,p,m⟩:=o;dsimp only at d0 d1 d2;have HOG:=Aa hog;have HB:=Aa hb;have HBW:=Aa hbw;have hbz:=hb.size;have HRF:=Aa (fun(W:World) (h:Below wr.heap.size wr W)=>RF.out W (HBW.out.trans (h.mono (by have:=HBW.out.size;omega))));clear ho hog hb hbw k1;go_wp2_with fail;generalize hz:wr.alloc _=z;obtain⟨bz,kz⟩:=Bx.alloc hz;clear hz;replace q1:∀j:Nat,z.cell? ⟨w.heap.size,j,none⟩=_:=fun j=>(bz.cell (p:=⟨w.heap.size,j,none⟩) y1).trans (q1 j);have qz:=kz.2.1;have HD0:=Aa (fun(t:Nat)=>bz.cell (p:=⟨bo,t,none⟩) hbso);have BZ:=Aa bz;have hzz:=bz.size;clear bz kz d0 d1 d2;have HB4:=Aa (HB.out.trans (BZ.out.mono HB.out.size));by_cases ha:inB a 0 ((fs.length:Int) - 1)=true
   ·have ha2:=Ct.1 ha;obtain⟨ka,rfl⟩:∃k:Nat,a= (k:Int):=⟨a.toNat,by omega⟩;have hka:ka < fs.length:=by omega
    obtain⟨bf,offf,capf,lv,hsf,_,hbsf,_,_,c1,ro⟩:=(HRF.out _ BZ.out).at_ hka;cases hsf
    obtain⟨la,lc,rfl⟩:=ro.form;obtain⟨E,hE⟩:∃E,fs[ka].os.length=E:=⟨_,rfl⟩;rw[hE]at c1;have hEb:E≤1048576:=by have:=Hr (An hka);omega
    have hFE:(fs.getD (ka:Int).toNat fn0).os.length=E:=by rw[Dq,EV hka,hE]
    have HFE:=Aa hFE;have e3:IntKind.i64.wrap ((E:Int) - 1)= (E:Int) - 1:=AX _ (by omega);have hka0:(0:Int)≤ (ka:Int):=by omega
    have hka1:(ka:Int) < (fs.length:Int):=by omega
    have H1:=Aa (fun(W:World)=>(by have:=HW.out (ka:Int) 0 ((fs.length:Int) - 1) W;rw[ha]at this;exact this:Calls Pq 77 #[.int .i64 (ka:Int),.int .i64 0,.int .i64 ((fs.length:Int) - 1)] W _));have HA:=Aa ha;clear ro hE hFE ha2 ha;by_cases hp:inB p 0 ((E:Int) - 1)=true
    ·have H2:=Aa (fun(W:World)=>(by have:=HW.out p 0 ((E:Int) - 1) W;rw[hp]at this;exact this:Calls Pq 77 #[.int .i64 p,.int .i64 0,.int .i64 ((E:Int) - 1)] W _));have HP:=Aa hp;clear hp;by_cases hm:inB m 1 ((ss.length:Int) - 1)=true
     ·have H3:=Aa (fun(W:World)=>(by have:=HW.out m 1 ((ss.length:Int) - 1) W;rw[hm]at this;exact this:Calls Pq 77 #[.int .i64 m,.int .i64 1,.int .i64 ((ss.length:Int) - 1)] W _));have HM:=Aa hm;clear hm;by_cases hk0:k=0
      ·subst hk0;go_quiet ((go_at_call 77;first | (with_reducible exact Az (H1.out _)) | (with_reducible exact Az (H2.out _)) | (with_reducible exact Az (H3.out _))));go_wp2;go_roundw
       case rel=>exact⟨1,hlt,by go_num,AM HB4.out nq,Aa (fun j hj=>by
        obtain rfl:j=0:=by omega
        unfold Ca;rw[HOG.out];dsimp only;rw[HFE.out,HA.out,HP.out,HM.out];rfl)⟩
       case measure=>simp[intOf];omega
      ·obtain⟨kp,rfl⟩:∃kp,k=kp+1:=⟨k - 1,by omega⟩;obtain⟨b2,off2,cap2,hs2,_,_,_,_,_,c5⟩:=RdO.at_ (RC.out _ (HBW.out.trans (BZ.out.mono (by have:=HBW.out.size;omega)))) (show kp < cs.length by omega);cases hs2
       obtain⟨pm,hpm⟩:∃pm,cs[kp].m=pm:=⟨_,rfl⟩;rw[hpm]at c5;have HPM:=Aa (show(cs.getD kp c0).m=pm by rw[FG (by omega),hpm]);have e4:IntKind.i64.wrap (((kp+1:Nat):Int) - 1)= (kp:Int):=by rw[AX _ (by omega)];omega
       have e5:IntKind.i64.wrap ((kp:Int)+1 - 1)= (kp:Int):=by rw[AX _ (by omega)];omega
       have hg0:(0:Int) < (kp:Int)+1:=by omega
       have hkp:(kp:Int) < (cs.length:Int):=by omega
       by_cases hlm:m≤pm
       ·have HBAD:=Aa (DJ (fs:=fs) (ns:=ss.length) hlt (by
         unfold Ca;rw[HOG.out,GU,HPM.out];dsimp only;rw[show decide (pm < m)=false by simp;omega];simp))
        clear hpm;go_quiet ((go_at_call 77;first | (with_reducible exact Az (H1.out _)) | (with_reducible exact Az (H2.out _)) | (with_reducible exact Az (H3.out _))));go_wp2;go_ret;exact⟨Ac (by unfold CY;rw[HBAD.out];rfl),BX.out.trans ((AM HB4.out nq).mono hxz)⟩
       ·have hlm2:¬(m≤pm):=hlm;clear hpm;go_quiet ((go_at_call 77;first | (with_reducible exact Az (H1.out _)) | (with_reducible exact Az (H2.out _)) | (with_reducible exact Az (H3.out _))));go_wp2;go_roundw
        case rel=>exact⟨kp+1+1,hlt,by go_num,AM HB4.out nq,Aa (fun j hj=>by
         by_cases e:j=kp+1
         ·subst e;unfold Ca;rw[HOG.out,GU,HPM.out];dsimp only;rw[HFE.out,HA.out,HP.out,HM.out,show decide (pm < m)=true by simp;omega];simp
         ·exact hd.out j (by omega))⟩
        case measure=>simp[intOf];omega
     ·have hm:inB m 1 ((ss.length:Int) - 1)=false:=by simpa using hm
      have H3:=Aa (fun(W:World)=>(by have:=HW.out m 1 ((ss.length:Int) - 1) W;rw[hm]at this;exact this:Calls Pq 77 #[.int .i64 m,.int .i64 1,.int .i64 ((ss.length:Int) - 1)] W _));have HBAD:=Aa (DJ (fs:=fs) (ns:=ss.length) hlt (by
       unfold Ca;rw[HOG.out];dsimp only;rw[hm];simp))
      clear hm;go_quiet ((go_at_call 77;first | (with_reducible exact Az (H1.out _)) | (with_reducible exact Az (H2.out _)) | (with_reducible exact Az (H3.out _))));go_wp2;go_ret;exact⟨Ac (by unfold CY;rw[HBAD.out];rfl),BX.out.trans ((AM HB4.out nq).mono hxz)⟩
    ·have hp:inB p 0 ((E:Int) - 1)=false:=by simpa using hp
     have H2:=Aa (fun(W:World)=>(by have:=HW.out p 0 ((E:Int) - 1) W;rw[hp]at this;exact this:Calls Pq 77 #[.int .i64 p,.int .i64 0,.int .i64 ((E:Int) - 1)] W _));have H3:=H2;have HBAD:=Aa (DJ (fs:=fs) (ns:=ss.length) hlt (by
      unfold Ca;rw[HOG.out];dsimp only;rw[HFE.out,hp];simp))
     clear hp;go_quiet ((go_at_call 77;first | (with_reducible exact Az (H1.out _)) | (with_reducible exact Az (H2.out _)) | (with_reducible exact Az (H3.out _))));go_wp2;go_ret;exact⟨Ac (by unfold CY;rw[HBAD.out];rfl),BX.out.trans ((AM HB4.out nq).mono hxz)⟩
   ·have ha:inB a 0 ((fs.length:Int) - 1)=false:=by simpa using ha
    have H1:=Aa (fun(W:World)=>(by have:=HW.out a 0 ((fs.length:Int) - 1) W;rw[ha]at this;exact this:Calls Pq 77 #[.int .i64 a,.int .i64 0,.int .i64 ((fs.length:Int) - 1)] W _));have H2:=H1;have H3:=H1;have HBAD:=Aa (DJ (fs:=fs) (ns:=ss.length) hlt (by
     unfold Ca;rw[HOG.out];dsimp only;rw[ha];rfl))
    clear ha;go_quiet ((go_at_call 77;first | (with_reducible exact Az (H1.out _)) | (with_reducible exact Az (H2.out _)) | (with_reducible exact Az (H3.out _))));go_wp2;go_ret;exact⟨Ac (by unfold CY;rw[HBAD.out];rfl),BX.out.trans ((AM HB4.out nq).mono hxz)⟩
  ·obtain rfl:k=cs.length:=by omega
   have HYES:=Aa (IT (fun j hj=>hd.out j hj));have HBW:=Aa hbw;clear hb hbw k1;by_cases hc1:cs.length≤120
   ·have c1:(cs.length:Int)≤120:=by omega
    by_cases hc2:code=0
    ·subst hc2;by_cases hc3:0 < cs.length
     ·have c3:(0:Int) < (cs.length:Int):=by omega
      go_wp2;go_ret;exact⟨Ac (by unfold CY;rw[HYES.out,Ax hc1,Ax hc3];rfl),HBW.out⟩
     ·have c3:¬((0:Int) < (cs.length:Int)):=by omega
      go_wp2;go_ret;exact⟨Ac (by unfold CY;rw[HYES.out,Ax hc1,AF hc3];rfl),HBW.out⟩
    ·have c2:(code !=0)=true:=by simp[hc2]
     go_wp2;go_ret;exact⟨Ac (by unfold CY;rw[HYES.out,Ax hc1,c2];rfl),HBW.out⟩
   ·have c1:¬((cs.length:Int)≤120):=by omega
    go_wp2;go_ret;exact⟨Ac (by unfold CY;rw[HYES.out,AF hc1];rfl),HBW.out⟩
theorem Qt {B:Nat}(v:Value) (fs:List F2) (w:World) (hr:RdF B w v fs) (hf:∀x∈fs,FN x) (hlen:fs.length≤4294967296):
  Calls Pq 75 #[v] w fun e w'=>e= .returned (.bool (CL fs))∧Below w.heap.size w w':=by
 have HR:=Aa (fun(W:World) (hb:Below w.heap.size w W)=>hr.below' hb);have HF:=Aa hf;have HI:=Aa (fun(a b c:Int) (W:World)=>A8 a b c W);by_cases hq:inB (fs.length:Int) 1 60=true
 ·have hl:=Ct.1 hq;have h0:0 < fs.length:=by omega
  obtain⟨b,off,cap,lv,rfl,hB,hbs,hcap,q0,q1,ro⟩:=hr.at_ h0;obtain⟨la,lc,rfl⟩:=ro.form;have hz:fs[0]=fs.getD 0 fn0:=(EV h0).symm;rw[hz]at q0;obtain⟨F,hF⟩:∃F,(fs.getD 0 fn0).f=F:=⟨_,rfl⟩;rw[hF]at q0;rw[Nat.zero_mul,Nat.add_zero]at q0;have h0i:(0:Int) < (fs.length:Int):=by omega
  by_cases hF0:F=0
  ·subst hF0;have HH:=Aa (show(inB (fs.length:Int) 1 60&& ((fs.getD 0 fn0).f==0))=true by rw[hq,hF];rfl);clear hr hf hF hz ro q1;go_enter Tryz.func75,Tryz.ntmps75;go_wp2_with (go_at_call 77;refine(A8 _ _ _ _).mono ?_;rw[hq];rintro e w' ⟨rfl,rfl⟩);clear q0
   go_loopw [23] (fun i wr=>∃k:Nat,k≤fs.length∧i= .int .i64 k∧Below w.heap.size w wr∧Hid (∀j (h:j < fs.length),j < k→Dj fs[j]=true)) (fun i _=>fs.length - (intOf i).toNat)
   case atStart=>exact⟨0,Ao _,rfl,Ab _ _,Aa (fun j _ h=>absurd h (by omega))⟩
   case round=>
    obtain⟨k,hk,rfl,hb,hd⟩:=hrel;by_cases hlt:k < fs.length
    ·obtain⟨b',off',cap',lv',hs,_,hbs',_,c0,c1,ro⟩:=(HR.out _ hb).at_ hlt;cases hs
     obtain⟨la',lc',rfl⟩:=ro.form;have hkl:(k:Int) < (fs.length:Int):=by omega
     obtain⟨x,hx⟩:∃x,fs[k]=x:=⟨_,rfl⟩;obtain⟨q3,hq3⟩:∃q,inB x.f 0 20=q:=⟨_,rfl⟩;obtain⟨q4,hq4⟩:∃q,inB (x.os.length:Int) 1 3000=q:=⟨_,rfl⟩;rw[hx]at c0 c1;have HX:=Aa hx;have HB:=Aa hb;clear hx ro hb;cases q3
     ·have HBAD:=Aa (Ht hlt (by rw[HX.out];unfold Dj;rw[hq3];rfl));go_wp2_with (go_at_call 77;refine(A8 _ _ _ _).mono ?_;simp only[hq3];rintro e w' ⟨rfl,rfl⟩);go_ret;exact⟨Ac HBAD.out.symm,HB.out.alloc HB.out.size _⟩
     cases q4
     ·have HBAD:=Aa (Ht hlt (by rw[HX.out];unfold Dj;rw[hq3,hq4];rfl));go_wp2_with (go_at_call 77;refine(A8 _ _ _ _).mono ?_;simp only[hq3,hq4];rintro e w' ⟨rfl,rfl⟩);go_ret;exact⟨Ac HBAD.out.symm,HB.out.alloc HB.out.size _⟩
     ·go_wp2_with (go_at_call 77;refine(A8 _ _ _ _).mono ?_;simp only[hq3,hq4];rintro e w' ⟨rfl,rfl⟩);go_roundw
      case rel=>exact⟨k+1,hlt,by go_num,HB.out.alloc HB.out.size _,Aa (fun j h hj=>by
       by_cases e:j=k
       ·subst e;rw[HX.out];unfold Dj;rw[hq3,hq4];rfl
       ·exact hd.out j h (by omega))⟩
      case measure=>simp[intOf];omega
    ·obtain rfl:k=fs.length:=by omega
     have HB:=Aa hb;clear hb;go_wp2
     go_loopw [41] (fun i wr=>∃k:Nat,k≤fs.length∧i= .int .i64 k∧Below w.heap.size w wr∧Hid (∀j,j < k→DL fs j=true)) (fun i _=>fs.length - (intOf i).toNat)
     case atStart=>exact⟨0,Ao _,rfl,HB.out,Aa (fun j h=>absurd h (by omega))⟩
     case round=>
      clear HB;obtain⟨k,hk,rfl,hb,hd2⟩:=hrel;by_cases hlt:k < fs.length
      ·obtain⟨b',off',cap',lv',hs,_,hbs',_,c0,c1,ro⟩:=(HR.out _ hb).at_ hlt;cases hs
       obtain⟨la',lc',rfl⟩:=ro.form;have hkl:(k:Int) < (fs.length:Int):=by omega
       have hhd:=hd.out k hlt hlt;unfold Dj at hhd;rw[Cd]at hhd;have hh1:=Ct.1 hhd.1;have hh2:=Ct.1 hhd.2;have hoi:=(HF.out _ (An hlt)).2;have HO:=Aa (fun(W:World) (hb:Below w.heap.size w W) (o:O3) (ho:DB o)=>Sr _ fs k o W (HR.out W hb) hlt ho hh1 (by omega) (by omega));have HOI:=Aa hoi;obtain⟨x,hx⟩:∃x,fs[k]=x:=⟨_,rfl⟩;rw[hx]at c0 c1 ro hh2;have HOX:=Aa (by rw[hx]at hoi;exact hoi:∀o∈x.os,DB o);have HX:=Aa hx;have RO:=Aa (fun(W:World) (h:Below wr.heap.size wr W)=>RdE.below' ro h);have HB:=Aa hb;have hbz:=hb.size;clear hx hb hhd hh1 hoi ro;go_wp2_with fail;clear c0 c1;generalize hz:wr.alloc _=z;obtain⟨bz,kz⟩:=Bx.alloc hz;clear hz;have BZ:=Aa bz;have KZ:=Aa kz;have hzz:=bz.size;clear bz kz
       go_loopw [49] (fun i wy=>∃t:Nat,t≤x.os.length∧i= .int .i64 t∧Below z.heap.size z wy∧Hid (∀j (h:j < x.os.length),j < t→Dl fs k x.os[j]=true)) (fun i _=>x.os.length - (intOf i).toNat)
       case atStart=>exact⟨0,Ao _,rfl,Ab _ _,Aa (fun j _ h=>absurd h (by omega))⟩
       case round=>
        obtain⟨t,ht,rfl,hb,hd3⟩:=hrel;have hbr:=BZ.out.trans (hb.mono BZ.out.size);have hbw:=HB.out.trans (hbr.mono hbz);by_cases htl:t < x.os.length
        ·obtain⟨bo,offo,capo,hso,_,hbso,_,d0,d1,d2⟩:=RdO.at_ (RO.out _ hbr) htl;cases hso
         have htt:(t:Int) < (x.os.length:Int):=by omega
         have hoo:=HOX.out _ (An htl);obtain⟨q5,hq5⟩:∃q,Dl fs k x.os[t]=q:=⟨_,rfl⟩;have ho:=fun(W:World) (hb:Below w.heap.size w W)=>HO.out W hb x.os[t] hoo;rw[hq5]at ho;have HO5:=Aa ho;have HQ5:=Aa hq5;have HB3:=Aa hb;have HBW:=Aa hbw;clear ho hq5 hoo hb hbr hbw;go_wp2_with fail;refine(HO5.out _ (HBW.out.alloc HBW.out.size _)).mono ?_;rintro e w9 ⟨rfl,b9⟩;have b9z:Below z.heap.size z w9:=(HB3.out.alloc HB3.out.size _).trans (b9.mono (by simp;have:=HB3.out.size;omega));have B9:=Aa b9z;have BW9:=Aa ((HBW.out.alloc HBW.out.size _).trans (b9.mono (by simp;have:=HBW.out.size;omega)));clear b9 b9z d0 d1 d2 HB3 HBW HO5;cases q5
         ·have HBAD:=Aa (Hu hlt (LD hlt (by rw[HX.out];exact htl) (by have:=HQ5.out;simp only[HX.out];exact this)));go_wp2;go_ret;exact⟨Ac HBAD.out.symm,BW9.out⟩
         ·go_wp2;go_roundw
          case rel=>exact⟨t+1,htl,by go_num,B9.out,Aa (fun j h hj=>by
           by_cases e:j=t
           ·subst e;exact HQ5.out
           ·exact hd3.out j h (by omega))⟩
          case measure=>simp[intOf];omega
        ·obtain rfl:t=x.os.length:=by omega
         obtain⟨E,hE⟩:∃E:Nat,x.os.length - 1=E:=⟨_,rfl⟩;have hEl:E < x.os.length:=by omega
         obtain⟨bo,offo,capo,hso,_,hbso,_,d0,_,_⟩:=RdO.at_ (RO.out _ hbr) hEl;cases hso
         have e1:IntKind.i64.wrap ((x.os.length:Int) - 1)= (E:Int):=by rw[AX _ (by omega)];omega
         have e2:(E:Int) < (x.os.length:Int):=by omega
         have kz:=KZ.out.below hb KZ.out.1;have qz:=kz.2.1;have yz:=kz.1;obtain⟨C,hC⟩:∃C,x.os[E].c=C:=⟨_,rfl⟩;rw[hC]at d0;have hlc:Fm x=C:=by
          obtain⟨_,h2⟩:=LI (x:=x) rfl (by omega);rw[←h2,←hC];simp only[hE]
         have HLC:=Aa hlc;have HB3:=Aa hb;have HBW:=Aa hbw;have HD3:=hd3;clear hC hlc hE hb hbr hbw kz;by_cases hC:C=7∨C=19∨C=21
         ·have HYES:=Aa (LH hlt (fun j hj=>by
           have h1:j < x.os.length:=by rw[←HX.out];exact hj
           have h2:=HD3.out j h1 h1;simp only[HX.out];exact h2) (by rw[HX.out];unfold Fo;rw[HLC.out];rcases hC with rfl |rfl |rfl <;> rfl))
          rcases hC with rfl |rfl |rfl
          all_goals go_wp2
          all_goals go_roundw
          all_goals first
           |exact⟨k+1,hlt,by go_num,HBW.out,Aa (fun j hj=>by
             by_cases e:j=k
             ·subst e;exact HYES.out
             ·exact hd2.out j (by omega))⟩
           | (simp[intOf];omega)
         ·have HBAD:=Aa (Hu hlt (LF hlt (by rw[HX.out];unfold Fo;rw[HLC.out];simp;omega)));have n1:(C !=7)=true:=by simp;omega
          have n2:(C !=19)=true:=by simp;omega
          have n3:(C !=21)=true:=by simp;omega
          have n4:C≠7:=by omega
          have n5:C≠19:=by omega
          have n6:C≠21:=by omega
          clear hC;go_wp2;go_ret;exact⟨Ac HBAD.out.symm,HBW.out⟩
      ·obtain rfl:k=fs.length:=by omega
       have HYES:=Aa (LG HH.out (fun j h=>hd.out j h h) (fun j hj=>hd2.out j hj));go_wp2;go_ret;exact⟨Ac HYES.out.symm,hb⟩
  ·have HH:=Aa (Hs (fs:=fs) (by rw[hF];simp[hF0]));have hFn:(F !=0)=true:=by simp[hF0]
   clear hr hf hF hz ro q1;go_enter Tryz.func75,Tryz.ntmps75;go_wp2_with (go_at_call 77;refine(A8 _ _ _ _).mono ?_;rw[hq];rintro e w' ⟨rfl,rfl⟩);go_ret;exact⟨Ac HH.out.symm,Ab _ _⟩
 ·have hq:inB (fs.length:Int) 1 60=false:=by simpa using hq
  have HH:=Aa (Hs (fs:=fs) (by rw[hq];rfl));obtain⟨a,cap,rfl⟩:=hr.form;clear hr hf;go_enter Tryz.func75,Tryz.ntmps75;go_wp2_with (go_at_call 77;refine(A8 _ _ _ _).mono ?_;rw[hq];rintro e w' ⟨rfl,rfl⟩);go_ret;exact⟨Ac HH.out.symm,Ab _ _⟩
end Go.Proofs.YtifhcbeaiijkcaaGreat
end
