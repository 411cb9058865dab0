/- Parts of the proof of FnExactJudgeSame. -/
import Derived.Test.YtifhcbeaiijkcaaGreatJ03
import Derived.Test.YtifhcbeaiijkcaaGreatJ02
set_option linter.unusedVariables false
set_option linter.unusedSimpArgs false
set_option maxRecDepth 1000000
set_option maxHeartbeats 16000000
section
namespace Go.Proofs.YtifhcbeaiijkcaaGreat
open Go.RowKit
open _root_.Go.World renaming alloc→Wa,setCell→Ws
open _root_.Go.Proofs.Tryz renaming prog→Pq
theorem UL (x:Nd) (kv:Value) (B:Nat) (w:World) (hl:wgN x≤1048576) (hr:RdNs B w kv x.kids) (HE:Hid (Aj x= (if x.op=7 then decide (x.n=0)&& (noS x.s&& (noS x.t&& (decide (2≤x.kids.length)&& AO x.kids)))else Ai x.op x.n x.s x.t x.kids.length&& AB x.kids)))
  (ES:Hid (∀ (W:World) (hb:Below w.heap.size w W),Calls Pq 174 #[ndV x kv,.int .i64 0] W fun e w'=>e= .returned (.bool (AB x.kids))∧Below W.heap.size W w'))
  (CA:Hid (∀ (W:World) (hb:Below w.heap.size w W),Calls Pq 175 #[ndV x kv] W fun e w'=>e= .returned (.bool (decide (2≤x.kids.length)&& AO x.kids))∧Below W.heap.size W w'))
  (ho:x.op=7):Calls Pq 114 #[ndV x kv] w fun e w'=>e= .returned (.bool (Aj x))∧Below w.heap.size w w':=by
 have hwg:=Av x;have hlen:=AY x.kids;have hss:x.s.size≤1048576:=by omega
 have htt:x.t.size≤1048576:=by omega
 have hks:x.kids.length≤1048576:=by omega
 obtain⟨ka,kc,rfl⟩:=hr.form;unfold ndV at ES CA ⊢;clear hr hwg hlen hl;generalize x.op=xop at*;generalize x.n=xn at*;generalize x.s=xs at*;generalize x.t=xt at*;generalize Aj x=px at*;generalize x.kids=ks at*;subst ho;go_enter Tryz.func114,Tryz.ntmps114;by_cases n0:xn=0
 ·subst n0;by_cases ht:xt.toList=[]
  ·skip;by_cases hs:xs.toList=[]
   ·skip;go_wp2_with fail;generalize hxx:Wa _ _=x0;obtain⟨bb,k1⟩:=Bx.alloc hxx;clear hxx;refine(CA.out _ bb).mono ?_;rintro e w3 ⟨rfl,b3⟩;replace k1:=k1.below b3 k1.1;replace bb:=bb.trans (b3.mono bb.size);clear b3;go_wp2;go_ret;exact⟨Ac (by rw[HE.out];simp[Ai,Al ht,Al hs,inB,Cl,Ew]),bb⟩
   ·have hse:(ByteArray.toList xs).isEmpty=false:=by simp[hs]
    go_wp2;go_ret;exact⟨Ac (by rw[HE.out];simp[Ai,Al ht,AH hs]),(Ab _ _).alloc (Ad _) _⟩
  ·have hte:(ByteArray.toList xt).isEmpty=false:=by simp[ht]
   go_wp2;go_ret;exact⟨Ac (by rw[HE.out];simp[Ai,AH ht]),(Ab _ _).alloc (Ad _) _⟩
 ·have n0b:(xn !=0)=true:=by simp[n0]
  go_wp2;go_ret;exact⟨Ac (by rw[HE.out];simp[Ai,n0]),(Ab _ _).alloc (Ad _) _⟩
theorem UM (x:Nd) (kv:Value) (B:Nat) (w:World) (hl:wgN x≤1048576) (hr:RdNs B w kv x.kids) (HE:Hid (Aj x= (if x.op=7 then decide (x.n=0)&& (noS x.s&& (noS x.t&& (decide (2≤x.kids.length)&& AO x.kids)))else Ai x.op x.n x.s x.t x.kids.length&& AB x.kids)))
  (ES:Hid (∀ (W:World) (hb:Below w.heap.size w W),Calls Pq 174 #[ndV x kv,.int .i64 0] W fun e w'=>e= .returned (.bool (AB x.kids))∧Below W.heap.size W w'))
  (CA:Hid (∀ (W:World) (hb:Below w.heap.size w W),Calls Pq 175 #[ndV x kv] W fun e w'=>e= .returned (.bool (decide (2≤x.kids.length)&& AO x.kids))∧Below W.heap.size W w'))
  (ho:x.op=9):Calls Pq 114 #[ndV x kv] w fun e w'=>e= .returned (.bool (Aj x))∧Below w.heap.size w w':=by
 have hwg:=Av x;have hlen:=AY x.kids;have hss:x.s.size≤1048576:=by omega
 have htt:x.t.size≤1048576:=by omega
 have hks:x.kids.length≤1048576:=by omega
 obtain⟨ka,kc,rfl⟩:=hr.form;unfold ndV at ES CA ⊢;clear hr hwg hlen hl;generalize x.op=xop at*;generalize x.n=xn at*;generalize x.s=xs at*;generalize x.t=xt at*;generalize Aj x=px at*;generalize x.kids=ks at*;subst ho;go_enter Tryz.func114,Tryz.ntmps114;by_cases n0:xn=0
 ·subst n0;by_cases ht:xt.toList=[]
  ·skip;by_cases hs:xs.toList=[]
   ·skip;by_cases k0:ks.length=3
    ·have k0b:((ks.length:Int)==3)=true:=by rw[Io];exact Ax k0
     have k0':=Aa k0;clear k0;go_wp2_with fail;generalize hxx:Wa _ _=x0;obtain⟨bb,k1⟩:=Bx.alloc hxx;clear hxx;refine(ES.out _ bb).mono ?_;rintro e w3 ⟨rfl,b3⟩;replace k1:=k1.below b3 k1.1;replace bb:=bb.trans (b3.mono bb.size);clear b3;go_wp2;go_ret;exact⟨Ac (by rw[HE.out];simp[Ai,Al ht,Al hs,k0'.out,inB,Cl,Ew]),bb⟩
    ·have k0b:((ks.length:Int)==3)=false:=by rw[Io];exact AF k0
     have k0':=Aa k0;clear k0;go_wp2;go_ret;exact⟨Ac (by rw[HE.out];simp[Ai,Al ht,Al hs,k0'.out]),(Ab _ _).alloc (Ad _) _⟩
   ·have hse:(ByteArray.toList xs).isEmpty=false:=by simp[hs]
    go_wp2;go_ret;exact⟨Ac (by rw[HE.out];simp[Ai,Al ht,AH hs]),(Ab _ _).alloc (Ad _) _⟩
  ·have hte:(ByteArray.toList xt).isEmpty=false:=by simp[ht]
   go_wp2;go_ret;exact⟨Ac (by rw[HE.out];simp[Ai,AH ht]),(Ab _ _).alloc (Ad _) _⟩
 ·have n0b:(xn !=0)=true:=by simp[n0]
  go_wp2;go_ret;exact⟨Ac (by rw[HE.out];simp[Ai,n0]),(Ab _ _).alloc (Ad _) _⟩
theorem UN (x:Nd) (kv:Value) (B:Nat) (w:World) (hl:wgN x≤1048576) (hr:RdNs B w kv x.kids) (HE:Hid (Aj x= (if x.op=7 then decide (x.n=0)&& (noS x.s&& (noS x.t&& (decide (2≤x.kids.length)&& AO x.kids)))else Ai x.op x.n x.s x.t x.kids.length&& AB x.kids)))
  (ES:Hid (∀ (W:World) (hb:Below w.heap.size w W),Calls Pq 174 #[ndV x kv,.int .i64 0] W fun e w'=>e= .returned (.bool (AB x.kids))∧Below W.heap.size W w'))
  (CA:Hid (∀ (W:World) (hb:Below w.heap.size w W),Calls Pq 175 #[ndV x kv] W fun e w'=>e= .returned (.bool (decide (2≤x.kids.length)&& AO x.kids))∧Below W.heap.size W w'))
  (ho:x.op=15):Calls Pq 114 #[ndV x kv] w fun e w'=>e= .returned (.bool (Aj x))∧Below w.heap.size w w':=by
 have hwg:=Av x;have hlen:=AY x.kids;have hss:x.s.size≤1048576:=by omega
 have htt:x.t.size≤1048576:=by omega
 have hks:x.kids.length≤1048576:=by omega
 obtain⟨ka,kc,rfl⟩:=hr.form;unfold ndV at ES CA ⊢;clear hr hwg hlen hl;generalize x.op=xop at*;generalize x.n=xn at*;generalize x.s=xs at*;generalize x.t=xt at*;generalize Aj x=px at*;generalize x.kids=ks at*;subst ho;go_enter Tryz.func114,Tryz.ntmps114;by_cases n0:xn=0
 ·subst n0;by_cases ht:xt.toList=[]
  ·skip;go_wp2_with fail;generalize hxx:Wa _ _=x0;obtain⟨bb,k1⟩:=Bx.alloc hxx;clear hxx;refine(GE xs _ hss).mono ?_;rintro e w3 ⟨rfl,b3⟩;replace k1:=k1.below b3 k1.1;replace bb:=bb.trans (b3.mono bb.size);clear b3;cases qcon:Bg xs with
   |true=>
    have qcon:=Aa qcon;have q1:=k1.2.1;go_wp2_with fail;clear q1;refine(ES.out _ bb).mono ?_;rintro e w3 ⟨rfl,b3⟩;replace k1:=k1.below b3 k1.1;replace bb:=bb.trans (b3.mono bb.size);clear b3;go_wp2;go_ret;exact⟨Ac (by rw[HE.out];simp[Ai,Al ht,qcon.out,inB,Cl,Ew]),bb⟩
   |false=>
    have qcon:=Aa qcon;have q1:=k1.2.1;go_wp2;go_ret;exact⟨Ac (by rw[HE.out];simp[Ai,Al ht,qcon.out]),bb⟩
  ·have hte:(ByteArray.toList xt).isEmpty=false:=by simp[ht]
   go_wp2;go_ret;exact⟨Ac (by rw[HE.out];simp[Ai,AH ht]),(Ab _ _).alloc (Ad _) _⟩
 ·have n0b:(xn !=0)=true:=by simp[n0]
  go_wp2;go_ret;exact⟨Ac (by rw[HE.out];simp[Ai,n0]),(Ab _ _).alloc (Ad _) _⟩
theorem UO (x:Nd) (kv:Value) (B:Nat) (w:World) (hl:wgN x≤1048576) (hr:RdNs B w kv x.kids) (HE:Hid (Aj x= (if x.op=7 then decide (x.n=0)&& (noS x.s&& (noS x.t&& (decide (2≤x.kids.length)&& AO x.kids)))else Ai x.op x.n x.s x.t x.kids.length&& AB x.kids)))
  (ES:Hid (∀ (W:World) (hb:Below w.heap.size w W),Calls Pq 174 #[ndV x kv,.int .i64 0] W fun e w'=>e= .returned (.bool (AB x.kids))∧Below W.heap.size W w'))
  (CA:Hid (∀ (W:World) (hb:Below w.heap.size w W),Calls Pq 175 #[ndV x kv] W fun e w'=>e= .returned (.bool (decide (2≤x.kids.length)&& AO x.kids))∧Below W.heap.size W w'))
  (ho:x.op=16):Calls Pq 114 #[ndV x kv] w fun e w'=>e= .returned (.bool (Aj x))∧Below w.heap.size w w':=by
 have hwg:=Av x;have hlen:=AY x.kids;have hss:x.s.size≤1048576:=by omega
 have htt:x.t.size≤1048576:=by omega
 have hks:x.kids.length≤1048576:=by omega
 obtain⟨ka,kc,rfl⟩:=hr.form;unfold ndV at ES CA ⊢;clear hr hwg hlen hl;generalize x.op=xop at*;generalize x.n=xn at*;generalize x.s=xs at*;generalize x.t=xt at*;generalize Aj x=px at*;generalize x.kids=ks at*;subst ho;go_enter Tryz.func114,Tryz.ntmps114;by_cases n0:xn=0
 ·subst n0;by_cases ht:xt.toList=[]
  ·skip;by_cases hs:xs.toList=[]
   ·skip;by_cases k0:ks.length=1
    ·have k0b:((ks.length:Int)==1)=true:=by rw[E8];exact Ax k0
     have k0':=Aa k0;clear k0;go_wp2_with fail;generalize hxx:Wa _ _=x0;obtain⟨bb,k1⟩:=Bx.alloc hxx;clear hxx;refine(ES.out _ bb).mono ?_;rintro e w3 ⟨rfl,b3⟩;replace k1:=k1.below b3 k1.1;replace bb:=bb.trans (b3.mono bb.size);clear b3;go_wp2;go_ret;exact⟨Ac (by rw[HE.out];simp[Ai,Al ht,Al hs,k0'.out,inB,Cl,Ew]),bb⟩
    ·have k0b:((ks.length:Int)==1)=false:=by rw[E8];exact AF k0
     have k0':=Aa k0;clear k0;go_wp2;go_ret;exact⟨Ac (by rw[HE.out];simp[Ai,Al ht,Al hs,k0'.out]),(Ab _ _).alloc (Ad _) _⟩
   ·have hse:(ByteArray.toList xs).isEmpty=false:=by simp[hs]
    go_wp2;go_ret;exact⟨Ac (by rw[HE.out];simp[Ai,Al ht,AH hs]),(Ab _ _).alloc (Ad _) _⟩
  ·have hte:(ByteArray.toList xt).isEmpty=false:=by simp[ht]
   go_wp2;go_ret;exact⟨Ac (by rw[HE.out];simp[Ai,AH ht]),(Ab _ _).alloc (Ad _) _⟩
 ·have n0b:(xn !=0)=true:=by simp[n0]
  go_wp2;go_ret;exact⟨Ac (by rw[HE.out];simp[Ai,n0]),(Ab _ _).alloc (Ad _) _⟩
theorem UP (x:Nd) (kv:Value) (B:Nat) (w:World) (hl:wgN x≤1048576) (hr:RdNs B w kv x.kids) (HE:Hid (Aj x= (if x.op=7 then decide (x.n=0)&& (noS x.s&& (noS x.t&& (decide (2≤x.kids.length)&& AO x.kids)))else Ai x.op x.n x.s x.t x.kids.length&& AB x.kids)))
  (ES:Hid (∀ (W:World) (hb:Below w.heap.size w W),Calls Pq 174 #[ndV x kv,.int .i64 0] W fun e w'=>e= .returned (.bool (AB x.kids))∧Below W.heap.size W w'))
  (CA:Hid (∀ (W:World) (hb:Below w.heap.size w W),Calls Pq 175 #[ndV x kv] W fun e w'=>e= .returned (.bool (decide (2≤x.kids.length)&& AO x.kids))∧Below W.heap.size W w'))
  (ho:x.op≠1∧x.op≠2∧x.op≠3∧x.op≠4∧x.op≠5∧x.op≠6∧x.op≠7∧x.op≠9∧x.op≠15∧x.op≠16):Calls Pq 114 #[ndV x kv] w fun e w'=>e= .returned (.bool (Aj x))∧Below w.heap.size w w':=by
 have hwg:=Av x;have hlen:=AY x.kids;have hss:x.s.size≤1048576:=by omega
 have htt:x.t.size≤1048576:=by omega
 have hks:x.kids.length≤1048576:=by omega
 obtain⟨ka,kc,rfl⟩:=hr.form;unfold ndV at ES CA ⊢;clear hr hwg hlen hl;generalize x.op=xop at*;generalize x.n=xn at*;generalize x.s=xs at*;generalize x.t=xt at*;generalize Aj x=px at*;generalize x.kids=ks at*;obtain⟨o1,o2,o3,o4,o5,o6,o7,o9,o15,o16⟩:=ho;have x1:(xop !=1)=true:=by simp[o1]
 have x6:(xop !=6)=true:=by simp[o6]
 go_enter Tryz.func114,Tryz.ntmps114;by_cases n0:xn=0
 ·subst n0;by_cases ht:xt.toList=[]
  ·by_cases o10:10≤xop∧xop≤14
   ·obtain⟨o10a,o10b⟩:=o10;have hin:=fun(W:World)=>AZ xop 10 14 W;rw[show inB xop 10 14=true from Ct.2 ⟨o10a,o10b⟩]at hin;go_wp2_with fail;generalize hxx:Wa _ _=x0;obtain⟨bb,k1⟩:=Bx.alloc hxx;clear hxx;refine(hin _).mono ?_;rintro e w3 ⟨rfl,rfl⟩;clear hin;by_cases hs:xs.toList=[]
    ·skip;by_cases k0:ks.length=2
     ·have k0b:((ks.length:Int)==2)=true:=by rw[BF];exact Ax k0
      have k0':=Aa k0;clear k0;have q1:=k1.2.1;go_wp2_with fail;clear q1;refine(ES.out _ bb).mono ?_;rintro e w3 ⟨rfl,b3⟩;replace k1:=k1.below b3 k1.1;replace bb:=bb.trans (b3.mono bb.size);clear b3;go_wp2;go_ret;exact⟨Ac (by rw[HE.out];simp[Ai,Al ht,o1,o2,o3,o4,o5,o6,o7,o9,o15,o16,o10a,o10b,Al hs,k0'.out,inB,Cl,Ew]),bb⟩
     ·have k0b:((ks.length:Int)==2)=false:=by rw[BF];exact AF k0
      have k0':=Aa k0;clear k0;have q1:=k1.2.1;go_wp2;go_ret;exact⟨Ac (by rw[HE.out];simp[Ai,Al ht,o1,o2,o3,o4,o5,o6,o7,o9,o15,o16,o10a,o10b,Al hs,k0'.out]),bb⟩
    ·have hse:(ByteArray.toList xs).isEmpty=false:=by simp[hs]
     have q1:=k1.2.1;go_wp2;go_ret;exact⟨Ac (by rw[HE.out];simp[Ai,Al ht,o1,o2,o3,o4,o5,o6,o7,o9,o15,o16,o10a,o10b,AH hs]),bb⟩
   ·have hin:=fun(W:World)=>AZ xop 10 14 W;rw[show inB xop 10 14=false from Ju.2 o10]at hin;go_wp2_with fail;generalize hxx:Wa _ _=x0;obtain⟨bb,k1⟩:=Bx.alloc hxx;clear hxx;refine(hin _).mono ?_;rintro e w3 ⟨rfl,rfl⟩;clear hin;have q1:=k1.2.1;go_wp2;go_ret;exact⟨Ac (by rw[HE.out];simp[Ai,Al ht,o1,o2,o3,o4,o5,o6,o7,o9,o15,o16,o10]),bb⟩
  ·have hte:(ByteArray.toList xt).isEmpty=false:=by simp[ht]
   go_wp2;go_ret;exact⟨Ac (by rw[HE.out];simp[Ai,AH ht,o1,o2,o3,o4,o5,o6,o7,o9,o15,o16]),(Ab _ _).alloc (Ad _) _⟩
 ·have n0b:(xn !=0)=true:=by simp[n0]
  go_wp2;go_ret;exact⟨Ac (by rw[HE.out];simp[Ai,n0,o1,o2,o3,o4,o5,o6,o7,o9,o15,o16]),(Ab _ _).alloc (Ad _) _⟩
theorem GO (x:Nd):Aj x= (if x.op=7 then decide (x.n=0)&& (noS x.s&& (noS x.t&& (decide (2≤x.kids.length)&& AO x.kids)))else Ai x.op x.n x.s x.t x.kids.length&& AB x.kids):=by cases x;rw[Aj];rfl
theorem JW:∀ (N:Nat) (x:Nd) (kv:Value) (B:Nat) (w:World),wgN x < N→wgN x≤1048576→RdNs B w kv x.kids→
  Calls Pq 114 #[ndV x kv] w fun e w'=>e= .returned (.bool (Aj x))∧Below w.heap.size w w'
 |0,x,kv,B,w,hN,hl,hr=>by omega
 |N+1,x,kv,B,w,hN,hl,hr=>by
  have ES:=Aa (fun(W:World) (hb:Below w.heap.size w W)=>R8 x kv _ W hl (hr.later' hb) (fun j hj kv B W h=>JW N x.kids[j] kv B W (by have:=AT (An hj);have:=Av x;omega) (by have:=AT (An hj);have:=Av x;omega) h));have CA:=Aa (fun(W:World) (hb:Below w.heap.size w W)=>OR x kv _ W hl (hr.later' hb) (fun y kv B W hy h=>JW N y kv B W (by omega) (by omega) h));have HE:=Aa (GO x);by_cases o1:x.op=1
  ·exact UF x kv B w hl hr HE ES CA o1
  by_cases o2:x.op=2
  ·exact UG x kv B w hl hr HE ES CA o2
  by_cases o3:x.op=3
  ·exact UH x kv B w hl hr HE ES CA o3
  by_cases o4:x.op=4
  ·exact UI x kv B w hl hr HE ES CA o4
  by_cases o5:x.op=5
  ·exact UJ x kv B w hl hr HE ES CA o5
  by_cases o6:x.op=6
  ·exact UK x kv B w hl hr HE ES CA o6
  by_cases o7:x.op=7
  ·exact UL x kv B w hl hr HE ES CA o7
  by_cases o9:x.op=9
  ·exact UM x kv B w hl hr HE ES CA o9
  by_cases o15:x.op=15
  ·exact UN x kv B w hl hr HE ES CA o15
  by_cases o16:x.op=16
  ·exact UO x kv B w hl hr HE ES CA o16
  exact UP x kv B w hl hr HE ES CA ⟨o1,o2,o3,o4,o5,o6,o7,o9,o15,o16⟩
structure Tw (g:Nat) (r r':Option Nat) (w w':World):Prop where
 os:w'.os=w.os
 tape:w'.tape=w.tape
 output:w'.output=w.output
 size:w.heap.size≤w'.heap.size
 block:∀k,k < w.heap.size→k≠g→r≠some k→w'.heap[k]?=w.heap[k]?
 row:∀k,r'=some k→(r=some k∨w.heap.size≤k)∧k < w'.heap.size
 own:r≠some g→r'≠some g
theorem Tw.refl {g:Nat}{r:Option Nat}{w:World}(hr:∀k,r=some k→k < w.heap.size):Tw g r r w w:=⟨rfl,rfl,rfl,Ad _,fun _ _ _ _=>rfl,fun k h=>⟨.inl h,hr k h⟩,id⟩
theorem Tw.trans {g:Nat}{r r' r'':Option Nat}{a b c:World}(h:Tw g r r' a b) (k:Tw g r' r'' b c):Tw g r r'' a c:=
 ⟨k.os.trans h.os,k.tape.trans h.tape,k.output.trans h.output,At h.size k.size,fun i hi hg hr=>(k.block i (Ah hi h.size) hg (fun e=>by
   rcases(h.row i e).1 with e |e
   ·exact hr e
   ·omega)).trans (h.block i hi hg hr),
  fun i e=>⟨by
   rcases(k.row i e).1 with e |e
   ·exact(h.row i e).1
   ·exact .inr (At h.size e),(k.row i e).2⟩,fun e=>k.own (h.own e)⟩
theorem Tw.below {g:Nat}{r r':Option Nat}{w w':World}{B:Nat}(h:Tw g r r' w w') (hB:B≤w.heap.size) (hg:B≤g) (hr:∀k,r=some k→B≤k):Below B w w':=
 ⟨h.os,h.tape,h.output,h.size,fun k hk=>h.block k (Ah hk hB) (by omega) (fun e=>by have:=hr k e;omega)⟩
theorem Tw.of_below {g:Nat}{r:Option Nat}{w w':World}(h:Below w.heap.size w w') (hr:∀k,r=some k→k < w.heap.size):Tw g r r w w':=
 ⟨h.os,h.tape,h.output,h.size,fun k hk _ _=>h.block k hk,fun k e=>⟨.inl e,Ah (hr k e) h.size⟩,id⟩
def Kp (X:Nat→Prop) (g:Nat) (r:Option Nat) (w:World) (b:Nat):Prop:=b≠g∧r≠some b∧b < w.heap.size∧ ¬X b
theorem Kp.later {X:Nat→Prop}{g:Nat}{r r':Option Nat}{w w':World}{b:Nat}(h:Kp X g r w b) (t:Tw g r r' w w'):Kp X g r' w' b:=
 ⟨h.1,fun e=>by
  rcases(t.row b e).1 with e |e
  ·exact h.2.1 e
  ·have:=h.2.2.1;omega,Ah h.2.2.1 t.size,h.2.2.2⟩
theorem Kp.cell {X:Nat→Prop}{g:Nat}{r r':Option Nat}{w w':World}{b o:Nat}(h:Kp X g r w b) (t:Tw g r r' w w'):w'.cell? ⟨b,o,none⟩=w.cell? ⟨b,o,none⟩:=CD (t.block b h.2.2.1 h.1 h.2.1)
inductive Xl where
 |th (v:Vl)
 |sc (e:Env)
abbrev AC:Value:= .slice none 0 0
abbrev noP:Value:= .pointer none
abbrev eS:Str:=⟨#[]⟩
def thC (kind n:Int) (s:Str) (kv:Value) (name:Str) (x:Nd) (bv ev:Value):Array Value:=
 #[.int .i64 kind,.int .i64 n,.string s,kv,.string name,.int .i64 x.op,.int .i64 x.n,.string x.s,.string x.t,bv,ev]
def scC (name:Str) (tv up:Value):Array Value:= #[.string name,tv,up]
def PvAt (X:Nat→Prop) (g:Nat) (r:Option Nat) (w:World) (kv:Value) (n:Nat) (pv:Nat→Value):Prop:=
 (n=0∧ ∃a cap,kv= .slice a 0 cap)∨ ∃b off cap,kv= .slice (some ⟨b,off,none⟩) n cap∧Kp X g r w b∧(n≤maxLen∧n≤cap)∧ ∀j,j < n→w.cell? ⟨b,off+j,none⟩=some (pv j)
theorem PvAt.later {X:Nat→Prop}{g:Nat}{r r':Option Nat}{w w':World}{kv:Value}{n:Nat}{pv:Nat→Value}(h:PvAt X g r w kv n pv) (t:Tw g r r' w w'):PvAt X g r' w' kv n pv:=by
 rcases h with h |⟨b,off,cap,h1,h2,h3,h4⟩
 ·exact .inl h
 ·exact .inr ⟨b,off,cap,h1,h2.later t,h3,fun j hj=>(h2.cell t).trans (h4 j hj)⟩
inductive RdX (B:Nat) (X:Nat→Prop) (g:Nat) (r:Option Nat) (w:World):Value→Xl→Prop
 |int (b:Nat) (n:Int) (hb:Kp X g r w b) (hc:∀j,w.cell? ⟨b,j,none⟩= (thC 1 n eS AC eS Nd.zero AC noP)[j]?):RdX B X g r w (.pointer (some ⟨b,0,none⟩)) (.th (.int n))
 |con (b:Nat) (s:Str) (kv:Value) (vs:List Vl) (pv:Nat→Value) (hb:Kp X g r w b) (hc:∀j,w.cell? ⟨b,j,none⟩= (thC 2 0 s kv eS Nd.zero AC noP)[j]?)
   (hk:PvAt X g r w kv vs.length pv) (hv:∀j (h:j < vs.length),RdX B X g r w (pv j) (.th vs[j])):RdX B X g r w (.pointer (some ⟨b,0,none⟩)) (.th (.con s vs))
 |fn (b:Nat) (arg:Str) (body:Nd) (env:Env) (bv ev:Value) (hb:Kp X g r w b) (hc:∀j,w.cell? ⟨b,j,none⟩= (thC 3 0 eS AC arg body bv ev)[j]?)
   (hx:RdNs B w bv body.kids) (he:RdX B X g r w ev (.sc env)):RdX B X g r w (.pointer (some ⟨b,0,none⟩)) (.th (.fn arg eS body env))
 |rec_ (b sb:Nat) (arg self:Str) (body:Nd) (env:Env) (bv ev:Value) (hn:self≠eS) (hb:Kp X g r w b) (hc:∀j,w.cell? ⟨b,j,none⟩= (thC 3 0 eS AC arg body bv (.pointer (some ⟨sb,0,none⟩)))[j]?)
   (hs:Kp X g r w sb) (hd:∀j,w.cell? ⟨sb,j,none⟩= (scC self (.pointer (some ⟨b,0,none⟩)) ev)[j]?) (hx:RdNs B w bv body.kids) (he:RdX B X g r w ev (.sc env)):RdX B X g r w (.pointer (some ⟨b,0,none⟩)) (.th (.fn arg self body env))
 |nil:RdX B X g r w noP (.sc [])
 |cons (sb:Nat) (name:Str) (tv up:Value) (v:Vl) (e:Env) (hs:Kp X g r w sb) (hd:∀j,w.cell? ⟨sb,j,none⟩= (scC name tv up)[j]?) (ht:RdX B X g r w tv (.th v)) (hu:RdX B X g r w up (.sc e)):RdX B X g r w (.pointer (some ⟨sb,0,none⟩)) (.sc ((name,v)::e))
theorem RdX.later {B g:Nat}{X:Nat→Prop}{r r':Option Nat}{w w':World}{v:Value}{x:Xl}(h:RdX B X g r w v x) (t:Tw g r r' w w') (hb:Below B w w'):RdX B X g r' w' v x:=by
 induction h with
 |int b n hk hc=>exact .int b n (hk.later t) (fun j=>(hk.cell t).trans (hc j))
 |con b s kv vs pv h1 hc hk _ ih=>exact .con b s kv vs pv (h1.later t) (fun j=>(h1.cell t).trans (hc j)) (hk.later t) ih
 |fn b arg body env bv ev h1 hc hx _ ih=>exact .fn b arg body env bv ev (h1.later t) (fun j=>(h1.cell t).trans (hc j)) (hx.later hb (Ad _)) ih
 |rec_ b sb arg self body env bv ev hn h1 hc hs hd hx _ ih=>exact .rec_ b sb arg self body env bv ev hn (h1.later t) (fun j=>(h1.cell t).trans (hc j)) (hs.later t) (fun j=>(hs.cell t).trans (hd j)) (hx.later hb (Ad _)) ih
 |nil=>exact .nil
 |cons sb name tv up v e hs hd _ _ iht ihu=>exact .cons sb name tv up v e (hs.later t) (fun j=>(hs.cell t).trans (hd j)) iht ihu
theorem Kp.off {X Y:Nat→Prop}{g:Nat}{r:Option Nat}{w:World}{b:Nat}(h:Kp X g r w b) (hY:∀b,b < w.heap.size→ ¬X b→ ¬Y b):Kp Y g r w b:=⟨h.1,h.2.1,h.2.2.1,hY b h.2.2.1 h.2.2.2⟩
theorem RdX.off {B g:Nat}{X Y:Nat→Prop}{r:Option Nat}{w:World}{v:Value}{x:Xl}(h:RdX B X g r w v x) (hY:∀b,b < w.heap.size→ ¬X b→ ¬Y b):RdX B Y g r w v x:=by
 induction h with
 |int b n hk hc=>exact .int b n (hk.off hY) hc
 |con b s kv vs pv h1 hc hk _ ih=>
  refine .con b s kv vs pv (h1.off hY) hc ?_ ih;rcases hk with h |⟨b,off,cap,h1,h2,h3,h4⟩
  ·exact .inl h
  ·exact .inr ⟨b,off,cap,h1,h2.off hY,h3,h4⟩
 |fn b arg body env bv ev h1 hc hx _ ih=>exact .fn b arg body env bv ev (h1.off hY) hc hx ih
 |rec_ b sb arg self body env bv ev hn h1 hc hs hd hx _ ih=>exact .rec_ b sb arg self body env bv ev hn (h1.off hY) hc (hs.off hY) hd hx ih
 |nil=>exact .nil
 |cons sb name tv up v e hs hd _ _ iht ihu=>exact .cons sb name tv up v e (hs.off hY) hd iht ihu
theorem RdX.wrote {B g:Nat}{X:Nat→Prop}{r:Option Nat}{w w':World}{v:Value}{x:Xl}(h:RdX B X g r w v x) (q:Nat) (hq:X q) (hs:w.heap.size≤w'.heap.size) (hb:∀b,b < w.heap.size→b≠q→b≠g→w'.heap[b]?=w.heap[b]?) (hB:Below B w w'):RdX B X g r w' v x:=by
 have hk:∀b,Kp X g r w b→Kp X g r w' b∧ ∀o,w'.cell? ⟨b,o,none⟩=w.cell? ⟨b,o,none⟩:=fun b h=>⟨⟨h.1,h.2.1,Ah h.2.2.1 hs,h.2.2.2⟩,fun o=>CD (hb b h.2.2.1 (fun e=>h.2.2.2 (by rw[e];exact hq)) h.1)⟩
 induction h with
 |int b n h hc=>exact .int b n (hk b h).1 (fun j=>((hk b h).2 j).trans (hc j))
 |con b s kv vs pv h1 hc hp _ ih=>
  refine .con b s kv vs pv (hk b h1).1 (fun j=>((hk b h1).2 j).trans (hc j)) ?_ ih;rcases hp with h |⟨b,off,cap,h1,h2,h3,h4⟩
  ·exact .inl h
  ·exact .inr ⟨b,off,cap,h1,(hk b h2).1,h3,fun j hj=>((hk b h2).2 _).trans (h4 j hj)⟩
 |fn b arg body env bv ev h1 hc hx _ ih=>exact .fn b arg body env bv ev (hk b h1).1 (fun j=>((hk b h1).2 j).trans (hc j)) (hx.later hB (Ad _)) ih
 |rec_ b sb arg self body env bv ev hn h1 hc hs2 hd hx _ ih=>exact .rec_ b sb arg self body env bv ev hn (hk b h1).1 (fun j=>((hk b h1).2 j).trans (hc j)) (hk sb hs2).1 (fun j=>((hk sb hs2).2 j).trans (hd j)) (hx.later hB (Ad _)) ih
 |nil=>exact .nil
 |cons sb name tv up v e hs2 hd _ _ iht ihu=>exact .cons sb name tv up v e (hk sb hs2).1 (fun j=>((hk sb hs2).2 j).trans (hd j)) iht ihu
end Go.Proofs.YtifhcbeaiijkcaaGreat
end
section
namespace Go.Proofs.YtifhcbeaiijkcaaGreat
open _root_.Go.World renaming alloc→Wa,setCell→Ws
open _root_.Go.Proofs.Tryz renaming prog→Pq
theorem Ei {x:Nd}(h:Aj x=true) (o:x.op≠7):Ai x.op x.n x.s x.t x.kids.length=true∧ ∀k∈x.kids,Aj k=true:=by
 rw[GO,Ae o,Cd,GF,BA]at h;exact h
theorem Gt {x:Nd}(h:Aj x=true) (o:x.op=7):∃e az,x.kids=e::az∧Aj e=true∧ ∀a∈az,Cm a=true:=by
 rw[GO,Af o]at h;simp only[Cd,Du]at h;obtain⟨-, -, -,hl,hc⟩:=h;cases hk:x.kids with
 |nil=>rw[hk]at hl;simp at hl
 |cons e az=>
  rw[hk,AO,Gh,Cd,BA]at hc;exact⟨e,az,rfl,hc.1,hc.2⟩
theorem Hv {x:Nd}(h:Cm x=true):∃p e,x.kids=[p,e]∧BQ p=true∧Aj e=true:=by
 rw[IU]at h;simp only[CC,Cd,Du]at h;obtain⟨p,e,hk⟩:=IV h.1.2.2.2.2;have h2:=h.2;rw[hk,Fb,Cd]at h2;exact⟨p,e,hk,h2.1,h2.2⟩
theorem Fp {x:Nd}(h:Aj x=true) (o:x.op=3∨x.op=16):∃a,x.kids=[a]∧Aj a=true:=by
 obtain⟨h1,h2⟩:=Ei h (by omega);have hl:x.kids.length=1:=by
  rcases o with o |o <;> (rw[o]at h1;simp[Ai]at h1;exact h1.1)
 match hk:x.kids,hl with
 | [a],_=>exact⟨a,rfl,h2 a (by rw[hk];simp)⟩
theorem Cy {x:Nd}(h:Aj x=true) (o:x.op=4∨x.op=5∨x.op=6∨(10≤x.op∧x.op≤14)):∃a b,x.kids=[a,b]∧Aj a=true∧Aj b=true:=by
 obtain⟨h1,h2⟩:=Ei h (by omega);have hl:x.kids.length=2:=by
  have:(x.op=1)=False∧(x.op=2)=False∧(x.op=3)=False∧(x.op=16)=False:=by refine⟨?_,?_,?_,?_⟩ <;> (simp;omega)
  unfold Ai at h1;simp only[this,if_false]at h1;rcases o with o |o |o |o
  ·simp[o]at h1;exact h1.1
  ·simp[o]at h1;exact h1.1
  ·simp[o]at h1;exact h1.1
  ·rw[Ae (by omega),Ae (by omega),Af (Or.inr o)]at h1;simp at h1;exact h1.1
 match hk:x.kids,hl with
 | [a,b],_=>exact⟨a,b,rfl,h2 a (by rw[hk];simp),h2 b (by rw[hk];simp)⟩
theorem Hw {x:Nd}(h:Aj x=true) (o:x.op=9):∃a b c,x.kids=[a,b,c]∧Aj a=true∧Aj b=true∧Aj c=true:=by
 obtain⟨h1,h2⟩:=Ei h (by omega);have hl:x.kids.length=3:=by rw[o]at h1;simp[Ai]at h1;exact h1.1
 match hk:x.kids,hl with
 | [a,b,c],_=>exact⟨a,b,c,rfl,h2 a (by rw[hk];simp),h2 b (by rw[hk];simp),h2 c (by rw[hk];simp)⟩
theorem Hx {x:Nd}(h:Aj x=true):x.op=1∨x.op=2∨x.op=3∨x.op=4∨x.op=5∨x.op=6∨x.op=7∨x.op=9∨(10≤x.op∧x.op≤14)∨x.op=15∨x.op=16:=by
 by_cases o:x.op=7
 ·omega
 have h1:=(Ei h o).1;unfold Ai at h1
 repeat' split at h1
 all_goals first |omega | (simp at h1)
theorem LK {x:Nd}(h:Aj x=true) (o:x.op=1):AU x.n=true:=by
 have:=(Ei h (by omega)).1;rw[o]at this;simp[Ai,Cl]at this;unfold AU;rw[Ct];omega
theorem Qx {x:Nd}(h:Aj x=true) (o:x.op=6):x.s≠eS:=by
 have:=(Ei h (by omega)).1;rw[o]at this;simp[Ai]at this;intro e;have h2:=this.2.2.1;rw[e]at h2;exact absurd h2 (by decide)
inductive Good:Xl→Prop
 |int (n:Int) (h:AU n=true):Good (.th (.int n))
 |con (s:Str) (vs:List Vl) (h:∀v∈vs,Good (.th v)):Good (.th (.con s vs))
 |fn (arg self:Str) (body:Nd) (env:Env) (h1:Aj body=true) (h2:wgN body≤1048576) (h3:Good (.sc env)):Good (.th (.fn arg self body env))
 |nil:Good (.sc [])
 |cons (s:Str) (v:Vl) (e:Env) (h1:Good (.th v)) (h2:Good (.sc e)):Good (.sc ((s,v)::e))
theorem Good.inv_con {s:Str}{vs:List Vl}(h:Good (.th (.con s vs))):∀v∈vs,Good (.th v):=by cases h with |con _ _ h=>exact h
theorem Good.inv_int {n:Int}(h:Good (.th (.int n))):AU n=true:=by cases h with |int _ h=>exact h
theorem Good.inv_cons {s:Str}{v:Vl}{e:Env}(h:Good (.sc ((s,v)::e))):Good (.th v)∧Good (.sc e):=by cases h with |cons _ _ _ h1 h2=>exact⟨h1,h2⟩
theorem Good.look {s:Str}{v:Vl}:∀ {e:Env},Good (.sc e)→Go.Proofs.YtifhcbeaiijkcaaGreat.look e s=some v→Good (.th v)
 | [],_,h=>by simp[Go.Proofs.YtifhcbeaiijkcaaGreat.look]at h
 | (a,u)::e,hg,h=>by
  obtain⟨h1,h2⟩:=hg.inv_cons;unfold Go.Proofs.YtifhcbeaiijkcaaGreat.look at h;split at h
  ·cases h;exact h1
  ·exact Good.look h2 h
mutual
theorem Gu:∀ (p:Nd) (v:Vl) (e e':Env),Good (.th v)→Good (.sc e)→BL p v e=some e'→Good (.sc e')
 | .mk op n s _ ks,v,e,e',hv,he,h=>by
  unfold BL at h;split at h
  ·cases h;exact he
  ·split at h
   ·cases h;exact .cons _ _ _ hv he
   ·split at h
    ·split at h
     ·split at h
      ·cases h;exact he
      ·cases h
     ·cases h
    ·split at h
     ·rename_i c vs;split at h
      ·exact LL ks vs e e' hv.inv_con he h
      ·cases h
     ·cases h
theorem LL:∀ (ks:List Nd) (vs:List Vl) (e e':Env),(∀v∈vs,Good (.th v))→Good (.sc e)→Bh ks vs e=some e'→Good (.sc e')
 | [],vs,e,e',hv,he,h=>by unfold Bh at h;cases h;exact he
 |k::ks,[],e,e',hv,he,h=>by unfold Bh at h;cases h
 |k::ks,v::vs,e,e',hv,he,h=>by
  unfold Bh at h;split at h
  ·rename_i e1 h1;exact LL ks vs e1 e' (fun u hu=>hv u (List.mem_cons_of_mem _ hu)) (Gu k v e e1 (hv v (List.mem_cons_self ..)) he h1) h
  ·cases h
end
theorem Hy (n:Int):AU n=true↔ -1073741824≤n∧n≤1073741823:=by unfold AU;exact Ct
theorem Qy (n:Int):AU (DD n)=true:=by
 rw[Hy];unfold DD;have h1:=Int.tmod_lt_of_pos n (show(0:Int) < 2147483648 by decide);have h2:-2147483648 < Int.tmod n 2147483648:=by
  have:=Int.tmod_lt_of_pos (-n) (show(0:Int) < 2147483648 by decide);rw[Int.neg_tmod]at this;omega
 dsimp only;split
 ·omega
 ·split <;> omega
theorem FO (op a b:Int):AU (Do op a b)=true:=by
 unfold Do
 repeat' split
 all_goals first |exact Qy _ |decide
def GoodR (r:Rs Vl):Prop:=∀v s,r= .ok v s→Good (.th v)
theorem LM {E:Nd→Env→Es→Rs Vl}{env:Env}:∀ (ks:List Nd) (s:Es),(∀k∈ks,∀s,GoodR (E k env s))→ ∀vs s',Bn E env ks s= .ok vs s'→ ∀v∈vs,Good (.th v)
 | [],s,hE,vs,s',h=>by unfold Bn at h;cases h;simp
 |k::ks,s,hE,vs,s',h=>by
  unfold Bn at h;cases h1:E k env s with
  |bad c o=>rw[h1]at h;cases h
  |ok v s1=>
   rw[h1]at h;dsimp only[Rs.bind]at h;cases h2:Bn E env ks s1 with
   |bad c o=>rw[h2]at h;cases h
   |ok us s2=>
    rw[h2]at h;dsimp only[Rs.bind]at h;cases h
    intro u hu;rcases List.mem_cons.1 hu with rfl |hu
    ·exact hE k (List.mem_cons_self ..) s _ _ h1
    ·exact LM ks s1 (fun k hk=>hE k (List.mem_cons_of_mem _ hk)) us _ h2 u hu
theorem LN {E:Nd→Env→Es→Rs Vl}{env:Env}{v:Vl}(hv:Good (.th v)) (he:Good (.sc env)):∀ (az:List Nd) (s:Es),(∀a∈az,∀e s,Good (.sc e)→GoodR (E (a.kid 1) e s))→GoodR (Bi E env v az s)
 | [],s,hE=>fun u t h=>by unfold Bi at h;cases h
 |a::az,s,hE=>by
  unfold Bi;split
  ·rename_i e h1;exact hE a (List.mem_cons_self ..) e s (Gu _ _ _ _ hv he h1)
  ·exact LN hv he az s (fun a ha=>hE a (List.mem_cons_of_mem _ ha))
theorem GoodR.bind {α:Type}{r:Rs α}{k:α→Es→Rs Vl}(h:∀a s,r= .ok a s→GoodR (k a s)):GoodR (r.bind k):=by
 cases r with
 |ok a s=>exact h a s rfl
 |bad c o=>exact fun v s h=>by cases h
theorem CZ {x:Nd}{a b:Nd}(h:x.kids=[a,b]):x.kid 0=a∧x.kid 1=b:=by unfold Nd.kid;rw[h];exact⟨rfl,rfl⟩
theorem Hz (ar:Str→Option Nat):∀ (m:Nat) (x:Nd) (env:Env) (s:Es),Aj x=true→wgN x≤1048576→Good (.sc env)→GoodR (Ag ar m x env s)
 |0,x,env,s,hx,hw,he=>fun v s h=>by unfold Ag at h;cases h
 |m+1,x,env,s,hx,hw,he=>by
  unfold Ag;split
  ·exact fun v s h=>by cases h
  rename_i f hf;have ih:=Hz ar m;have hwx:=Av x;have hkid:∀k∈x.kids,wgN k≤1048576:=fun k hk=>by have:=AT hk;omega
  unfold AI;by_cases h1:x.op=1
  ·rw[Af h1];intro v s' h;cases h;exact .int _ (LK hx h1)
  rw[Ae h1];by_cases h2:x.op=2
  ·rw[Af h2];cases hlk:look env x.s with
   |some v=>intro u s' h;cases h;exact he.look hlk
   |none=>intro u s' h;cases h
  rw[Ae h2];by_cases h3:x.op=3
  ·rw[Af h3];obtain⟨a,hk,ha⟩:=Fp hx (.inl h3);have:x.kid 0=a:=by unfold Nd.kid;rw[hk];rfl
   intro u s' h;cases h;rw[this];exact .fn _ _ _ _ ha (hkid a (by rw[hk];simp)) he
  rw[Ae h3];by_cases h4:x.op=4
  ·rw[Af h4];obtain⟨a,b,hk,ha,hb⟩:=Cy hx (.inl h4);obtain⟨e0,e1⟩:=CZ hk;rw[e0,e1];refine GoodR.bind fun v s1 h=>GoodR.bind fun u s2 h'=> ?_;have gv:=ih _ _ _ ha (hkid a (by rw[hk];simp)) he _ _ h;have gu:=ih _ _ _ hb (hkid b (by rw[hk];simp)) he _ _ h';cases v with
   |fn arg self body env'=>
    unfold Cw;dsimp only;cases gv with
    |fn _ _ _ _ g1 g2 g3=>
     refine ih _ _ _ g1 g2 (.cons _ _ _ gu ?_);by_cases hs:self=ByteArray.empty
     ·rw[Af hs];exact g3
     ·rw[Ae hs];exact .cons _ _ _ (.fn _ _ _ _ g1 g2 g3) g3
   |_=>intro u s' h;cases h
  rw[Ae h4];by_cases h6:x.op=6
  ·rw[Af h6];obtain⟨a,b,hk,ha,hb⟩:=Cy hx (.inr (.inr (.inl h6)));obtain⟨e0,e1⟩:=CZ hk;rw[e0,e1];exact ih _ _ _ hb (hkid b (by rw[hk];simp)) (.cons _ _ _ (.fn _ _ _ _ ha (hkid a (by rw[hk];simp)) he) he)
  rw[Ae h6];by_cases h7:x.op=7
  ·rw[Af h7];obtain⟨e,az,hk,hne,haz⟩:=Gt hx h7;have e0:x.kid 0=e:=by unfold Nd.kid;rw[hk];rfl
   rw[e0,hk];refine GoodR.bind fun v s1 h=> ?_;have gv:=ih _ _ _ hne (hkid e (by rw[hk];simp)) he _ _ h;refine LN gv he _ _ fun a ha e' s' he'=> ?_;obtain⟨p,b,hka,hp,hb⟩:=Hv (haz a ha);rw[(CZ hka).2];refine ih _ _ _ hb ?_ he';have:=AT (k:=b) (ks:=a.kids) (by rw[hka];simp);have:=Av a;have:=hkid a (by rw[hk];exact List.mem_cons_of_mem _ ha);omega
  rw[Ae h7];by_cases h15:x.op=15
  ·rw[Af h15];refine GoodR.bind fun vs s1 h=> ?_;have hks:=(Ei hx h7).2;have gv:=LM x.kids _ (fun k hk s=>ih k env s (hks k hk) (hkid k hk) he) vs s1 h;split
   ·intro u s' h;cases h;exact .con _ _ gv
   ·intro u s' h;cases h
  rw[Ae h15];have hops:=Hx hx;by_cases h16:x.op=16
  ·obtain⟨a,hk,ha⟩:=Fp hx (.inr h16);have e0:x.kid 0=a:=by unfold Nd.kid;rw[hk];rfl
   rw[e0];refine GoodR.bind fun v s1 h=> ?_;have gv:=ih _ _ _ ha (hkid a (by rw[hk];simp)) he _ _ h;rw[Ae (by omega)];refine GoodR.bind fun b s2 h'=> ?_;rw[Af h16];intro u s' h;cases h;exact gv
  by_cases h9:x.op=9
  ·obtain⟨a,b,c,hk,ha,hb,hc⟩:=Hw hx h9;have e0:x.kid 0=a∧x.kid 1=b∧x.kid 2=c:=by unfold Nd.kid;rw[hk];exact⟨rfl,rfl,rfl⟩
   rw[e0.1,e0.2.1,e0.2.2];refine GoodR.bind fun v s1 h=> ?_;rw[Ae (by omega)];refine GoodR.bind fun d s2 h'=> ?_;rw[Ae h16,Af h9];split
   ·exact ih _ _ _ hb (hkid b (by rw[hk];simp)) he
   ·exact ih _ _ _ hc (hkid c (by rw[hk];simp)) he
  obtain⟨a,b,hk,ha,hb⟩:=Cy hx (by omega);obtain⟨e0,e1⟩:=CZ hk;rw[e0,e1];refine GoodR.bind fun v s1 h=> ?_;have gv:=ih _ _ _ ha (hkid a (by rw[hk];simp)) he _ _ h;by_cases h5:x.op=5
  ·rw[Af h5];exact ih _ _ _ hb (hkid b (by rw[hk];simp)) (.cons _ _ _ gv he)
  rw[Ae h5];refine GoodR.bind fun d s2 h'=> ?_;rw[Ae h16,Ae h9];refine GoodR.bind fun v2 s3 h''=>GoodR.bind fun d2 s4 h3'=> ?_;intro u s' h;cases h;exact .int _ (FO _ _ _)
end Go.Proofs.YtifhcbeaiijkcaaGreat
end
