/- Parts of the proof of FnExactJudgeSame. -/
import Derived.Test.YtifhcbeaiijkcaaGreatJ13
import Derived.Test.YtifhcbeaiijkcaaGreatJ04
import Derived.Test.YtifhcbeaiijkcaaGreatJ05
set_option linter.unusedVariables false
set_option linter.unusedSimpArgs false
set_option maxRecDepth 1000000
set_option maxHeartbeats 16000000
namespace Go.Proofs.YtifhcbeaiijkcaaGreat
open Go.RowKit
open _root_.Go.World renaming alloc→Wa,setCell→Ws
open _root_.Go.Proofs.Tryz renaming prog→Pq
theorem Bx.allocD1 {w x:World}{cur:Array Value}{e:TypeId}{n:Nat}(h:(w.alloc (.cells cur e)).drewN n=x):Below w.heap.size w x∧Bx x w.heap.size cur:=by
 subst h;obtain⟨b1,k1⟩:=Bx.alloc (w:=w) (cur:=cur) (e:=e) rfl;have b2:Below (w.alloc (.cells cur e)).heap.size (w.alloc (.cells cur e)) ((w.alloc (.cells cur e)).drewN n):=Still.below ⟨n,rfl⟩ _;exact⟨b1.trans (b2.mono b1.size),k1.below b2 k1.1⟩
theorem Sb (x:Nd) (kv:Value) (B:Nat) (w:World) (hl:wgN x≤1048576) (hr:RdNs B w kv x.kids) (HE:Hid (Aj x= (if x.op=7 then decide (x.n=0)&& (noS x.s&& (noS x.t&& (decide (2≤x.kids.length)&& AO x.kids)))else Ai x.op x.n x.s x.t x.kids.length&& AB x.kids)))
  (AL:Hid (∀ (W:World) (hb:Below w.heap.size w W),Calls Pq 158 #[kv,.func (.func 93) #[] #[]] W fun e w'=>e= .returned (.bool (AB x.kids))∧Below W.heap.size W w'))
  (ho:x.op=1):Calls Pq 93 #[ndV x kv] w fun e w'=>e= .returned (.bool (Aj x))∧Below w.heap.size w w':=by
 have hwg:=Av x;have hlen:=AY x.kids;have hss:x.s.size≤1048576:=by omega
 have htt:x.t.size≤1048576:=by omega
 have hks:x.kids.length≤1048576:=by omega
 obtain⟨ka,kc,rfl⟩:=hr.form;unfold ndV;clear hr hwg hlen hl;generalize x.op=xop at*;generalize x.n=xn at*;generalize x.s=xs at*;generalize x.t=xt at*;generalize Aj x=px at*;generalize x.kids=ks at*;subst ho;have hW:=fun(W:World)=>A8 xn 0 1073741823 W;cases hqn:inB xn 0 1073741823 with
 |true=>
  rw[hqn]at hW;have hqn:=Aa (show Cl xn=true from hqn);by_cases hs:xs.toList=[]
  ·skip;by_cases ht:xt.toList=[]
   ·skip;by_cases k0:ks.length=0
    ·have k0b:((ks.length:Int)==0)=true:=by rw[Cc];exact Ax k0
     have k0':=Aa k0;clear k0;go_enter Tryz.func93,Tryz.ntmps93;go_wp2_with fail;go_quiet (fail);generalize hxx:World.drewN _ _=x0;obtain⟨bb,k1⟩:=Bx.allocD1 hxx;clear hxx;have q1:=k1.2.1;go_wp2_with fail;refine(hW _).mono ?_;rintro e w3 ⟨rfl,rfl⟩;go_wp2_with fail;clear q1;refine(AL.out _ bb).mono ?_;rintro e w8 ⟨rfl,b8⟩;replace bb:=bb.trans (b8.mono bb.size);go_wp2;go_ret;exact⟨Ac (by rw[HE.out];simp[Ai,hqn.out,Al hs,Al ht,k0'.out]),bb⟩
    ·have k0b:((ks.length:Int)==0)=false:=by rw[Cc];exact AF k0
     have k0':=Aa k0;clear k0;go_enter Tryz.func93,Tryz.ntmps93;go_wp2_with fail;go_quiet (fail);generalize hxx:World.drewN _ _=x0;obtain⟨bb,k1⟩:=Bx.allocD1 hxx;clear hxx;have q1:=k1.2.1;go_wp2_with fail;refine(hW _).mono ?_;rintro e w3 ⟨rfl,rfl⟩;go_wp2;go_ret;exact⟨Ac (by rw[HE.out];simp[Ai,hqn.out,Al hs,Al ht,k0'.out]),bb⟩
   ·have hte:(ByteArray.toList xt).isEmpty=false:=by simp[ht]
    go_enter Tryz.func93,Tryz.ntmps93;go_wp2_with fail;go_quiet (fail);generalize hxx:World.drewN _ _=x0;obtain⟨bb,k1⟩:=Bx.allocD1 hxx;clear hxx;have q1:=k1.2.1;go_wp2_with fail;refine(hW _).mono ?_;rintro e w3 ⟨rfl,rfl⟩;go_wp2;go_ret;exact⟨Ac (by rw[HE.out];simp[Ai,hqn.out,Al hs,AH ht]),bb⟩
  ·have hse:(ByteArray.toList xs).isEmpty=false:=by simp[hs]
   go_enter Tryz.func93,Tryz.ntmps93;go_wp2_with fail;go_quiet (fail);generalize hxx:World.drewN _ _=x0;obtain⟨bb,k1⟩:=Bx.allocD1 hxx;clear hxx;have q1:=k1.2.1;go_wp2_with fail;refine(hW _).mono ?_;rintro e w3 ⟨rfl,rfl⟩;go_wp2;go_ret;exact⟨Ac (by rw[HE.out];simp[Ai,hqn.out,AH hs]),bb⟩
 |false=>
  rw[hqn]at hW;have hqn:=Aa (show Cl xn=false from hqn);go_enter Tryz.func93,Tryz.ntmps93;go_wp2_with fail;go_quiet (fail);generalize hxx:World.drewN _ _=x0;obtain⟨bb,k1⟩:=Bx.allocD1 hxx;clear hxx;have q1:=k1.2.1;go_wp2_with fail;refine(hW _).mono ?_;rintro e w3 ⟨rfl,rfl⟩;go_wp2;go_ret;exact⟨Ac (by rw[HE.out];simp[Ai,hqn.out]),bb⟩
theorem Sc (x:Nd) (kv:Value) (B:Nat) (w:World) (hl:wgN x≤1048576) (hr:RdNs B w kv x.kids) (HE:Hid (Aj x= (if x.op=7 then decide (x.n=0)&& (noS x.s&& (noS x.t&& (decide (2≤x.kids.length)&& AO x.kids)))else Ai x.op x.n x.s x.t x.kids.length&& AB x.kids)))
  (AL:Hid (∀ (W:World) (hb:Below w.heap.size w W),Calls Pq 158 #[kv,.func (.func 93) #[] #[]] W fun e w'=>e= .returned (.bool (AB x.kids))∧Below W.heap.size W w'))
  (ho:x.op=2):Calls Pq 93 #[ndV x kv] w fun e w'=>e= .returned (.bool (Aj x))∧Below w.heap.size w w':=by
 have hwg:=Av x;have hlen:=AY x.kids;have hss:x.s.size≤1048576:=by omega
 have htt:x.t.size≤1048576:=by omega
 have hks:x.kids.length≤1048576:=by omega
 obtain⟨ka,kc,rfl⟩:=hr.form;unfold ndV;clear hr hwg hlen hl;generalize x.op=xop at*;generalize x.n=xn at*;generalize x.s=xs at*;generalize x.t=xt at*;generalize Aj x=px at*;generalize x.kids=ks at*;subst ho;have hS:=fun(W:World)=>FS xs W hss;by_cases n0:xn=0
 ·subst n0;cases hqs:BJ xs with
  |true=>
   rw[hqs]at hS;have hqs:=Aa hqs;by_cases ht:xt.toList=[]
   ·skip;by_cases k0:ks.length=0
    ·have k0b:((ks.length:Int)==0)=true:=by rw[Cc];exact Ax k0
     have k0':=Aa k0;clear k0;go_enter Tryz.func93,Tryz.ntmps93;go_wp2_with fail;go_quiet (fail);generalize hxx:World.drewN _ _=x0;obtain⟨bb,k1⟩:=Bx.allocD1 hxx;clear hxx;have q1:=k1.2.1;go_wp2_with fail;clear q1;refine(hS _).mono ?_;rintro e w3 ⟨rfl,b3⟩;replace k1:=k1.below b3 k1.1;replace bb:=bb.trans (b3.mono bb.size);clear b3;have q1:=k1.2.1;go_wp2_with fail;clear q1;refine(AL.out _ bb).mono ?_;rintro e w8 ⟨rfl,b8⟩;replace bb:=bb.trans (b8.mono bb.size);go_wp2;go_ret;exact⟨Ac (by rw[HE.out];simp[Ai,hqs.out,Al ht,k0'.out]),bb⟩
    ·have k0b:((ks.length:Int)==0)=false:=by rw[Cc];exact AF k0
     have k0':=Aa k0;clear k0;go_enter Tryz.func93,Tryz.ntmps93;go_wp2_with fail;go_quiet (fail);generalize hxx:World.drewN _ _=x0;obtain⟨bb,k1⟩:=Bx.allocD1 hxx;clear hxx;have q1:=k1.2.1;go_wp2_with fail;clear q1;refine(hS _).mono ?_;rintro e w3 ⟨rfl,b3⟩;replace k1:=k1.below b3 k1.1;replace bb:=bb.trans (b3.mono bb.size);clear b3;have q1:=k1.2.1;go_wp2;go_ret;exact⟨Ac (by rw[HE.out];simp[Ai,hqs.out,Al ht,k0'.out]),bb⟩
   ·have hte:(ByteArray.toList xt).isEmpty=false:=by simp[ht]
    go_enter Tryz.func93,Tryz.ntmps93;go_wp2_with fail;go_quiet (fail);generalize hxx:World.drewN _ _=x0;obtain⟨bb,k1⟩:=Bx.allocD1 hxx;clear hxx;have q1:=k1.2.1;go_wp2_with fail;clear q1;refine(hS _).mono ?_;rintro e w3 ⟨rfl,b3⟩;replace k1:=k1.below b3 k1.1;replace bb:=bb.trans (b3.mono bb.size);clear b3;have q1:=k1.2.1;go_wp2;go_ret;exact⟨Ac (by rw[HE.out];simp[Ai,hqs.out,AH ht]),bb⟩
  |false=>
   rw[hqs]at hS;have hqs:=Aa hqs;go_enter Tryz.func93,Tryz.ntmps93;go_wp2_with fail;go_quiet (fail);generalize hxx:World.drewN _ _=x0;obtain⟨bb,k1⟩:=Bx.allocD1 hxx;clear hxx;have q1:=k1.2.1;go_wp2_with fail;clear q1;refine(hS _).mono ?_;rintro e w3 ⟨rfl,b3⟩;replace k1:=k1.below b3 k1.1;replace bb:=bb.trans (b3.mono bb.size);clear b3;have q1:=k1.2.1;go_wp2;go_ret;exact⟨Ac (by rw[HE.out];simp[Ai,hqs.out]),bb⟩
 ·have n0b:(xn==0)=false:=by simp[n0]
  go_enter Tryz.func93,Tryz.ntmps93;go_wp2_with fail;go_quiet (fail);generalize hxx:World.drewN _ _=x0;obtain⟨bb,k1⟩:=Bx.allocD1 hxx;clear hxx;have q1:=k1.2.1;go_wp2_with fail;clear q1;refine(hS _).mono ?_;rintro e w3 ⟨rfl,b3⟩;replace k1:=k1.below b3 k1.1;replace bb:=bb.trans (b3.mono bb.size);clear b3;have q1:=k1.2.1;go_wp2;go_ret;exact⟨Ac (by rw[HE.out];simp[Ai,n0]),bb⟩
theorem Sd (x:Nd) (kv:Value) (B:Nat) (w:World) (hl:wgN x≤1048576) (hr:RdNs B w kv x.kids) (HE:Hid (Aj x= (if x.op=7 then decide (x.n=0)&& (noS x.s&& (noS x.t&& (decide (2≤x.kids.length)&& AO x.kids)))else Ai x.op x.n x.s x.t x.kids.length&& AB x.kids)))
  (AL:Hid (∀ (W:World) (hb:Below w.heap.size w W),Calls Pq 158 #[kv,.func (.func 93) #[] #[]] W fun e w'=>e= .returned (.bool (AB x.kids))∧Below W.heap.size W w'))
  (ho:x.op=3):Calls Pq 93 #[ndV x kv] w fun e w'=>e= .returned (.bool (Aj x))∧Below w.heap.size w w':=by
 have hwg:=Av x;have hlen:=AY x.kids;have hss:x.s.size≤1048576:=by omega
 have htt:x.t.size≤1048576:=by omega
 have hks:x.kids.length≤1048576:=by omega
 obtain⟨ka,kc,rfl⟩:=hr.form;unfold ndV;clear hr hwg hlen hl;generalize x.op=xop at*;generalize x.n=xn at*;generalize x.s=xs at*;generalize x.t=xt at*;generalize Aj x=px at*;generalize x.kids=ks at*;subst ho;have hS:=fun(W:World)=>FS xs W hss;by_cases n0:xn=0
 ·subst n0;cases hqs:BJ xs with
  |true=>
   rw[hqs]at hS;have hqs:=Aa hqs;by_cases ht:xt.toList=[]
   ·skip;by_cases k0:ks.length=1
    ·have k0b:((ks.length:Int)==1)=true:=by rw[E8];exact Ax k0
     have k0':=Aa k0;clear k0;go_enter Tryz.func93,Tryz.ntmps93;go_wp2_with fail;go_quiet (fail);generalize hxx:World.drewN _ _=x0;obtain⟨bb,k1⟩:=Bx.allocD1 hxx;clear hxx;have q1:=k1.2.1;go_wp2_with fail;clear q1;refine(hS _).mono ?_;rintro e w3 ⟨rfl,b3⟩;replace k1:=k1.below b3 k1.1;replace bb:=bb.trans (b3.mono bb.size);clear b3;have q1:=k1.2.1;go_wp2_with fail;clear q1;refine(AL.out _ bb).mono ?_;rintro e w8 ⟨rfl,b8⟩;replace bb:=bb.trans (b8.mono bb.size);go_wp2;go_ret;exact⟨Ac (by rw[HE.out];simp[Ai,hqs.out,Al ht,k0'.out]),bb⟩
    ·have k0b:((ks.length:Int)==1)=false:=by rw[E8];exact AF k0
     have k0':=Aa k0;clear k0;go_enter Tryz.func93,Tryz.ntmps93;go_wp2_with fail;go_quiet (fail);generalize hxx:World.drewN _ _=x0;obtain⟨bb,k1⟩:=Bx.allocD1 hxx;clear hxx;have q1:=k1.2.1;go_wp2_with fail;clear q1;refine(hS _).mono ?_;rintro e w3 ⟨rfl,b3⟩;replace k1:=k1.below b3 k1.1;replace bb:=bb.trans (b3.mono bb.size);clear b3;have q1:=k1.2.1;go_wp2;go_ret;exact⟨Ac (by rw[HE.out];simp[Ai,hqs.out,Al ht,k0'.out]),bb⟩
   ·have hte:(ByteArray.toList xt).isEmpty=false:=by simp[ht]
    go_enter Tryz.func93,Tryz.ntmps93;go_wp2_with fail;go_quiet (fail);generalize hxx:World.drewN _ _=x0;obtain⟨bb,k1⟩:=Bx.allocD1 hxx;clear hxx;have q1:=k1.2.1;go_wp2_with fail;clear q1;refine(hS _).mono ?_;rintro e w3 ⟨rfl,b3⟩;replace k1:=k1.below b3 k1.1;replace bb:=bb.trans (b3.mono bb.size);clear b3;have q1:=k1.2.1;go_wp2;go_ret;exact⟨Ac (by rw[HE.out];simp[Ai,hqs.out,AH ht]),bb⟩
  |false=>
   rw[hqs]at hS;have hqs:=Aa hqs;go_enter Tryz.func93,Tryz.ntmps93;go_wp2_with fail;go_quiet (fail);generalize hxx:World.drewN _ _=x0;obtain⟨bb,k1⟩:=Bx.allocD1 hxx;clear hxx;have q1:=k1.2.1;go_wp2_with fail;clear q1;refine(hS _).mono ?_;rintro e w3 ⟨rfl,b3⟩;replace k1:=k1.below b3 k1.1;replace bb:=bb.trans (b3.mono bb.size);clear b3;have q1:=k1.2.1;go_wp2;go_ret;exact⟨Ac (by rw[HE.out];simp[Ai,hqs.out]),bb⟩
 ·have n0b:(xn==0)=false:=by simp[n0]
  go_enter Tryz.func93,Tryz.ntmps93;go_wp2_with fail;go_quiet (fail);generalize hxx:World.drewN _ _=x0;obtain⟨bb,k1⟩:=Bx.allocD1 hxx;clear hxx;have q1:=k1.2.1;go_wp2_with fail;clear q1;refine(hS _).mono ?_;rintro e w3 ⟨rfl,b3⟩;replace k1:=k1.below b3 k1.1;replace bb:=bb.trans (b3.mono bb.size);clear b3;have q1:=k1.2.1;go_wp2;go_ret;exact⟨Ac (by rw[HE.out];simp[Ai,n0]),bb⟩
theorem Se (x:Nd) (kv:Value) (B:Nat) (w:World) (hl:wgN x≤1048576) (hr:RdNs B w kv x.kids) (HE:Hid (Aj x= (if x.op=7 then decide (x.n=0)&& (noS x.s&& (noS x.t&& (decide (2≤x.kids.length)&& AO x.kids)))else Ai x.op x.n x.s x.t x.kids.length&& AB x.kids)))
  (AL:Hid (∀ (W:World) (hb:Below w.heap.size w W),Calls Pq 158 #[kv,.func (.func 93) #[] #[]] W fun e w'=>e= .returned (.bool (AB x.kids))∧Below W.heap.size W w'))
  (ho:x.op=16):Calls Pq 93 #[ndV x kv] w fun e w'=>e= .returned (.bool (Aj x))∧Below w.heap.size w w':=by
 have hwg:=Av x;have hlen:=AY x.kids;have hss:x.s.size≤1048576:=by omega
 have htt:x.t.size≤1048576:=by omega
 have hks:x.kids.length≤1048576:=by omega
 obtain⟨ka,kc,rfl⟩:=hr.form;unfold ndV;clear hr hwg hlen hl;generalize x.op=xop at*;generalize x.n=xn at*;generalize x.s=xs at*;generalize x.t=xt at*;generalize Aj x=px at*;generalize x.kids=ks at*;subst ho;by_cases n0:xn=0
 ·subst n0;by_cases hs:xs.toList=[]
  ·skip;by_cases ht:xt.toList=[]
   ·skip;by_cases k0:ks.length=1
    ·have k0b:((ks.length:Int)==1)=true:=by rw[E8];exact Ax k0
     have k0':=Aa k0;clear k0;go_enter Tryz.func93,Tryz.ntmps93;go_wp2_with fail;go_quiet (fail);generalize hxx:World.drewN _ _=x0;obtain⟨bb,k1⟩:=Bx.allocD1 hxx;clear hxx;have q1:=k1.2.1;go_wp2_with fail;clear q1;refine(AL.out _ bb).mono ?_;rintro e w8 ⟨rfl,b8⟩;replace bb:=bb.trans (b8.mono bb.size);go_wp2;go_ret;exact⟨Ac (by rw[HE.out];simp[Ai,Al hs,Al ht,k0'.out]),bb⟩
    ·have k0b:((ks.length:Int)==1)=false:=by rw[E8];exact AF k0
     have k0':=Aa k0;clear k0;go_enter Tryz.func93,Tryz.ntmps93;go_wp2_with fail;go_quiet (fail);generalize hxx:World.drewN _ _=x0;obtain⟨bb,k1⟩:=Bx.allocD1 hxx;clear hxx;have q1:=k1.2.1;go_wp2;go_ret;exact⟨Ac (by rw[HE.out];simp[Ai,Al hs,Al ht,k0'.out]),bb⟩
   ·have hte:(ByteArray.toList xt).isEmpty=false:=by simp[ht]
    go_enter Tryz.func93,Tryz.ntmps93;go_wp2_with fail;go_quiet (fail);generalize hxx:World.drewN _ _=x0;obtain⟨bb,k1⟩:=Bx.allocD1 hxx;clear hxx;have q1:=k1.2.1;go_wp2;go_ret;exact⟨Ac (by rw[HE.out];simp[Ai,Al hs,AH ht]),bb⟩
  ·have hse:(ByteArray.toList xs).isEmpty=false:=by simp[hs]
   go_enter Tryz.func93,Tryz.ntmps93;go_wp2_with fail;go_quiet (fail);generalize hxx:World.drewN _ _=x0;obtain⟨bb,k1⟩:=Bx.allocD1 hxx;clear hxx;have q1:=k1.2.1;go_wp2;go_ret;exact⟨Ac (by rw[HE.out];simp[Ai,AH hs]),bb⟩
 ·have n0b:(xn==0)=false:=by simp[n0]
  go_enter Tryz.func93,Tryz.ntmps93;go_wp2_with fail;go_quiet (fail);generalize hxx:World.drewN _ _=x0;obtain⟨bb,k1⟩:=Bx.allocD1 hxx;clear hxx;have q1:=k1.2.1;go_wp2;go_ret;exact⟨Ac (by rw[HE.out];simp[Ai,n0]),bb⟩
theorem Bx.allocD2 {w x:World}{cur:Array Value}{e:TypeId}{n:Nat}(h:(w.alloc (.cells cur e)).drewN n=x):Below w.heap.size w x∧Bx x w.heap.size cur:=by
 subst h;obtain⟨b1,k1⟩:=Bx.alloc (w:=w) (cur:=cur) (e:=e) rfl;have b2:Below (w.alloc (.cells cur e)).heap.size (w.alloc (.cells cur e)) ((w.alloc (.cells cur e)).drewN n):=Still.below ⟨n,rfl⟩ _;exact⟨b1.trans (b2.mono b1.size),k1.below b2 k1.1⟩
theorem Sf (x:Nd) (kv:Value) (B:Nat) (w:World) (hl:wgN x≤1048576) (hr:RdNs B w kv x.kids) (HE:Hid (Aj x= (if x.op=7 then decide (x.n=0)&& (noS x.s&& (noS x.t&& (decide (2≤x.kids.length)&& AO x.kids)))else Ai x.op x.n x.s x.t x.kids.length&& AB x.kids)))
  (AL:Hid (∀ (W:World) (hb:Below w.heap.size w W),Calls Pq 158 #[kv,.func (.func 93) #[] #[]] W fun e w'=>e= .returned (.bool (AB x.kids))∧Below W.heap.size W w'))
  (ho:x.op=5):Calls Pq 93 #[ndV x kv] w fun e w'=>e= .returned (.bool (Aj x))∧Below w.heap.size w w':=by
 have hwg:=Av x;have hlen:=AY x.kids;have hss:x.s.size≤1048576:=by omega
 have htt:x.t.size≤1048576:=by omega
 have hks:x.kids.length≤1048576:=by omega
 obtain⟨ka,kc,rfl⟩:=hr.form;unfold ndV;clear hr hwg hlen hl;generalize x.op=xop at*;generalize x.n=xn at*;generalize x.s=xs at*;generalize x.t=xt at*;generalize Aj x=px at*;generalize x.kids=ks at*;subst ho;have hS:=fun(W:World)=>FS xs W hss;by_cases n0:xn=0
 ·subst n0;cases hqs:BJ xs with
  |true=>
   rw[hqs]at hS;have hqs:=Aa hqs;by_cases ht:xt.toList=[]
   ·skip;by_cases k0:ks.length=2
    ·have k0b:((ks.length:Int)==2)=true:=by rw[BF];exact Ax k0
     have k0':=Aa k0;clear k0;go_enter Tryz.func93,Tryz.ntmps93;go_wp2_with fail;go_quiet (fail);generalize hxx:World.drewN _ _=x0;obtain⟨bb,k1⟩:=Bx.allocD2 hxx;clear hxx;have q1:=k1.2.1;go_wp2_with fail;clear q1;refine(hS _).mono ?_;rintro e w3 ⟨rfl,b3⟩;replace k1:=k1.below b3 k1.1;replace bb:=bb.trans (b3.mono bb.size);clear b3;have q1:=k1.2.1;go_wp2_with fail;clear q1;refine(AL.out _ bb).mono ?_;rintro e w8 ⟨rfl,b8⟩;replace bb:=bb.trans (b8.mono bb.size);go_wp2;go_ret;exact⟨Ac (by rw[HE.out];simp[Ai,hqs.out,Al ht,k0'.out]),bb⟩
    ·have k0b:((ks.length:Int)==2)=false:=by rw[BF];exact AF k0
     have k0':=Aa k0;clear k0;go_enter Tryz.func93,Tryz.ntmps93;go_wp2_with fail;go_quiet (fail);generalize hxx:World.drewN _ _=x0;obtain⟨bb,k1⟩:=Bx.allocD2 hxx;clear hxx;have q1:=k1.2.1;go_wp2_with fail;clear q1;refine(hS _).mono ?_;rintro e w3 ⟨rfl,b3⟩;replace k1:=k1.below b3 k1.1;replace bb:=bb.trans (b3.mono bb.size);clear b3;have q1:=k1.2.1;go_wp2;go_ret;exact⟨Ac (by rw[HE.out];simp[Ai,hqs.out,Al ht,k0'.out]),bb⟩
   ·have hte:(ByteArray.toList xt).isEmpty=false:=by simp[ht]
    go_enter Tryz.func93,Tryz.ntmps93;go_wp2_with fail;go_quiet (fail);generalize hxx:World.drewN _ _=x0;obtain⟨bb,k1⟩:=Bx.allocD2 hxx;clear hxx;have q1:=k1.2.1;go_wp2_with fail;clear q1;refine(hS _).mono ?_;rintro e w3 ⟨rfl,b3⟩;replace k1:=k1.below b3 k1.1;replace bb:=bb.trans (b3.mono bb.size);clear b3;have q1:=k1.2.1;go_wp2;go_ret;exact⟨Ac (by rw[HE.out];simp[Ai,hqs.out,AH ht]),bb⟩
  |false=>
   rw[hqs]at hS;have hqs:=Aa hqs;go_enter Tryz.func93,Tryz.ntmps93;go_wp2_with fail;go_quiet (fail);generalize hxx:World.drewN _ _=x0;obtain⟨bb,k1⟩:=Bx.allocD2 hxx;clear hxx;have q1:=k1.2.1;go_wp2_with fail;clear q1;refine(hS _).mono ?_;rintro e w3 ⟨rfl,b3⟩;replace k1:=k1.below b3 k1.1;replace bb:=bb.trans (b3.mono bb.size);clear b3;have q1:=k1.2.1;go_wp2;go_ret;exact⟨Ac (by rw[HE.out];simp[Ai,hqs.out]),bb⟩
 ·have n0b:(xn==0)=false:=by simp[n0]
  go_enter Tryz.func93,Tryz.ntmps93;go_wp2_with fail;go_quiet (fail);generalize hxx:World.drewN _ _=x0;obtain⟨bb,k1⟩:=Bx.allocD2 hxx;clear hxx;have q1:=k1.2.1;go_wp2_with fail;clear q1;refine(hS _).mono ?_;rintro e w3 ⟨rfl,b3⟩;replace k1:=k1.below b3 k1.1;replace bb:=bb.trans (b3.mono bb.size);clear b3;have q1:=k1.2.1;go_wp2;go_ret;exact⟨Ac (by rw[HE.out];simp[Ai,n0]),bb⟩
theorem Sg (x:Nd) (kv:Value) (B:Nat) (w:World) (hl:wgN x≤1048576) (hr:RdNs B w kv x.kids) (HE:Hid (Aj x= (if x.op=7 then decide (x.n=0)&& (noS x.s&& (noS x.t&& (decide (2≤x.kids.length)&& AO x.kids)))else Ai x.op x.n x.s x.t x.kids.length&& AB x.kids)))
  (AL:Hid (∀ (W:World) (hb:Below w.heap.size w W),Calls Pq 158 #[kv,.func (.func 93) #[] #[]] W fun e w'=>e= .returned (.bool (AB x.kids))∧Below W.heap.size W w'))
  (ho:x.op=6):Calls Pq 93 #[ndV x kv] w fun e w'=>e= .returned (.bool (Aj x))∧Below w.heap.size w w':=by
 have hwg:=Av x;have hlen:=AY x.kids;have hss:x.s.size≤1048576:=by omega
 have htt:x.t.size≤1048576:=by omega
 have hks:x.kids.length≤1048576:=by omega
 obtain⟨ka,kc,rfl⟩:=hr.form;unfold ndV;clear hr hwg hlen hl;generalize x.op=xop at*;generalize x.n=xn at*;generalize x.s=xs at*;generalize x.t=xt at*;generalize Aj x=px at*;generalize x.kids=ks at*;subst ho;have hS:=fun(W:World)=>FS xs W hss;have hT:=fun(W:World)=>FS xt W htt;by_cases n0:xn=0
 ·subst n0;cases hqs:BJ xs with
  |true=>
   rw[hqs]at hS;have hqs:=Aa hqs;cases hqt:BJ xt with
   |true=>
    rw[hqt]at hT;have hqt:=Aa hqt;by_cases k0:ks.length=2
    ·have k0b:((ks.length:Int)==2)=true:=by rw[BF];exact Ax k0
     have k0':=Aa k0;clear k0;go_enter Tryz.func93,Tryz.ntmps93;go_wp2_with fail;go_quiet (fail);generalize hxx:World.drewN _ _=x0;obtain⟨bb,k1⟩:=Bx.allocD2 hxx;clear hxx;have q1:=k1.2.1;go_wp2_with fail;have HQ:=Aa (fun(W:World) (hb:Below x0.heap.size x0 W)=>(⟨(k1.below hb k1.1).2.1 2,(k1.below hb k1.1).2.1 3⟩:W.cell? ⟨w.heap.size,2,none⟩=some (.string xs)∧W.cell? ⟨w.heap.size,3,none⟩=some (.string xt)));clear q1;refine wp_region_held_drew (S:=(fun W=>W.cell? ⟨w.heap.size,2,none⟩=some (.string xs)∧W.cell? ⟨w.heap.size,3,none⟩=some (.string xt))) (by kernel_rfl) (by first | (dsimp only;exact HQ.out _ (Below.refl _ _).drew) | (exact HQ.out _ (Below.refl _ _).drew)) (fun hHeld=> ?_);generalize hxd:World.drew _=x1 at hHeld ⊢;have hd1:Below x0.heap.size x0 x1:=by rw[←hxd];exact(Ab _ _).drew
     clear hxd;refine tkH (i:=0) ?_;refine tkH (i:=1) ?_;refine tkH (i:=3) ?_;refine tkH (i:=4) ?_;refine rdH (i:=2) (fun K hK=> ?_);go_simp;refine(hS x1).mono ?_;rintro e w6 ⟨rfl,b6⟩;replace b6:=hd1.trans (b6.mono hd1.size);refine bkH hK (by first | (dsimp only;exact HQ.out _ b6) | (exact HQ.out _ b6)) (fun hHeld=> ?_);clear hK K;refine rdH (i:=5) (fun K hK=> ?_);go_simp;refine(hT w6).mono ?_;rintro e w7 ⟨rfl,b7⟩;replace b7:=b6.trans (b7.mono b6.size);refine bkH hK (by first | (dsimp only;exact HQ.out _ b7) | (exact HQ.out _ b7)) (fun hHeld=> ?_);clear hK K;refine tkH (i:=6) ?_;refine tkH (i:=7) ?_;refine tkH (i:=8) ?_;refine A2 (by kernel_rfl) ?_ _;replace k1:=k1.below b7 k1.1;replace bb:=bb.trans (b7.mono bb.size);clear b6 b7 hd1;have q1:=k1.2.1;go_wp2_with fail;clear q1;refine(AL.out _ bb).mono ?_;rintro e w8 ⟨rfl,b8⟩;replace bb:=bb.trans (b8.mono bb.size);go_wp2;go_ret;exact⟨Ac (by rw[HE.out];simp[Ai,hqs.out,hqt.out,k0'.out]),bb⟩
    ·have k0b:((ks.length:Int)==2)=false:=by rw[BF];exact AF k0
     have k0':=Aa k0;clear k0;go_enter Tryz.func93,Tryz.ntmps93;go_wp2_with fail;go_quiet (fail);generalize hxx:World.drewN _ _=x0;obtain⟨bb,k1⟩:=Bx.allocD2 hxx;clear hxx;have q1:=k1.2.1;go_wp2_with fail;have HQ:=Aa (fun(W:World) (hb:Below x0.heap.size x0 W)=>(⟨(k1.below hb k1.1).2.1 2,(k1.below hb k1.1).2.1 3⟩:W.cell? ⟨w.heap.size,2,none⟩=some (.string xs)∧W.cell? ⟨w.heap.size,3,none⟩=some (.string xt)));clear q1;refine wp_region_held_drew (S:=(fun W=>W.cell? ⟨w.heap.size,2,none⟩=some (.string xs)∧W.cell? ⟨w.heap.size,3,none⟩=some (.string xt))) (by kernel_rfl) (by first | (dsimp only;exact HQ.out _ (Below.refl _ _).drew) | (exact HQ.out _ (Below.refl _ _).drew)) (fun hHeld=> ?_);generalize hxd:World.drew _=x1 at hHeld ⊢;have hd1:Below x0.heap.size x0 x1:=by rw[←hxd];exact(Ab _ _).drew
     clear hxd;refine tkH (i:=0) ?_;refine tkH (i:=1) ?_;refine tkH (i:=3) ?_;refine tkH (i:=4) ?_;refine rdH (i:=2) (fun K hK=> ?_);go_simp;refine(hS x1).mono ?_;rintro e w6 ⟨rfl,b6⟩;replace b6:=hd1.trans (b6.mono hd1.size);refine bkH hK (by first | (dsimp only;exact HQ.out _ b6) | (exact HQ.out _ b6)) (fun hHeld=> ?_);clear hK K;refine rdH (i:=5) (fun K hK=> ?_);go_simp;refine(hT w6).mono ?_;rintro e w7 ⟨rfl,b7⟩;replace b7:=b6.trans (b7.mono b6.size);refine bkH hK (by first | (dsimp only;exact HQ.out _ b7) | (exact HQ.out _ b7)) (fun hHeld=> ?_);clear hK K;refine tkH (i:=6) ?_;refine tkH (i:=7) ?_;refine tkH (i:=8) ?_;refine A2 (by kernel_rfl) ?_ _;replace k1:=k1.below b7 k1.1;replace bb:=bb.trans (b7.mono bb.size);clear b6 b7 hd1;have q1:=k1.2.1;go_wp2;go_ret;exact⟨Ac (by rw[HE.out];simp[Ai,hqs.out,hqt.out,k0'.out]),bb⟩
   |false=>
    rw[hqt]at hT;have hqt:=Aa hqt;go_enter Tryz.func93,Tryz.ntmps93;go_wp2_with fail;go_quiet (fail);generalize hxx:World.drewN _ _=x0;obtain⟨bb,k1⟩:=Bx.allocD2 hxx;clear hxx;have q1:=k1.2.1;go_wp2_with fail;have HQ:=Aa (fun(W:World) (hb:Below x0.heap.size x0 W)=>(⟨(k1.below hb k1.1).2.1 2,(k1.below hb k1.1).2.1 3⟩:W.cell? ⟨w.heap.size,2,none⟩=some (.string xs)∧W.cell? ⟨w.heap.size,3,none⟩=some (.string xt)));clear q1;refine wp_region_held_drew (S:=(fun W=>W.cell? ⟨w.heap.size,2,none⟩=some (.string xs)∧W.cell? ⟨w.heap.size,3,none⟩=some (.string xt))) (by kernel_rfl) (by first | (dsimp only;exact HQ.out _ (Below.refl _ _).drew) | (exact HQ.out _ (Below.refl _ _).drew)) (fun hHeld=> ?_);generalize hxd:World.drew _=x1 at hHeld ⊢;have hd1:Below x0.heap.size x0 x1:=by rw[←hxd];exact(Ab _ _).drew
    clear hxd;refine tkH (i:=0) ?_;refine tkH (i:=1) ?_;refine tkH (i:=3) ?_;refine tkH (i:=4) ?_;refine rdH (i:=2) (fun K hK=> ?_);go_simp;refine(hS x1).mono ?_;rintro e w6 ⟨rfl,b6⟩;replace b6:=hd1.trans (b6.mono hd1.size);refine bkH hK (by first | (dsimp only;exact HQ.out _ b6) | (exact HQ.out _ b6)) (fun hHeld=> ?_);clear hK K;refine rdH (i:=5) (fun K hK=> ?_);go_simp;refine(hT w6).mono ?_;rintro e w7 ⟨rfl,b7⟩;replace b7:=b6.trans (b7.mono b6.size);refine bkH hK (by first | (dsimp only;exact HQ.out _ b7) | (exact HQ.out _ b7)) (fun hHeld=> ?_);clear hK K;refine tkH (i:=6) ?_;refine tkH (i:=7) ?_;refine tkH (i:=8) ?_;refine A2 (by kernel_rfl) ?_ _;replace k1:=k1.below b7 k1.1;replace bb:=bb.trans (b7.mono bb.size);clear b6 b7 hd1;have q1:=k1.2.1;go_wp2;go_ret;exact⟨Ac (by rw[HE.out];simp[Ai,hqs.out,hqt.out]),bb⟩
  |false=>
   rw[hqs]at hS;have hqs:=Aa hqs;go_enter Tryz.func93,Tryz.ntmps93;go_wp2_with fail;go_quiet (fail);generalize hxx:World.drewN _ _=x0;obtain⟨bb,k1⟩:=Bx.allocD2 hxx;clear hxx;have q1:=k1.2.1;go_wp2_with fail;have HQ:=Aa (fun(W:World) (hb:Below x0.heap.size x0 W)=>(⟨(k1.below hb k1.1).2.1 2,(k1.below hb k1.1).2.1 3⟩:W.cell? ⟨w.heap.size,2,none⟩=some (.string xs)∧W.cell? ⟨w.heap.size,3,none⟩=some (.string xt)));clear q1;refine wp_region_held_drew (S:=(fun W=>W.cell? ⟨w.heap.size,2,none⟩=some (.string xs)∧W.cell? ⟨w.heap.size,3,none⟩=some (.string xt))) (by kernel_rfl) (by first | (dsimp only;exact HQ.out _ (Below.refl _ _).drew) | (exact HQ.out _ (Below.refl _ _).drew)) (fun hHeld=> ?_);generalize hxd:World.drew _=x1 at hHeld ⊢;have hd1:Below x0.heap.size x0 x1:=by rw[←hxd];exact(Ab _ _).drew
   clear hxd;refine tkH (i:=0) ?_;refine tkH (i:=1) ?_;refine tkH (i:=3) ?_;refine tkH (i:=4) ?_;refine rdH (i:=2) (fun K hK=> ?_);go_simp;refine(hS x1).mono ?_;rintro e w6 ⟨rfl,b6⟩;replace b6:=hd1.trans (b6.mono hd1.size);refine bkH hK (by first | (dsimp only;exact HQ.out _ b6) | (exact HQ.out _ b6)) (fun hHeld=> ?_);clear hK K;refine rdH (i:=5) (fun K hK=> ?_);go_simp;refine(hT w6).mono ?_;rintro e w7 ⟨rfl,b7⟩;replace b7:=b6.trans (b7.mono b6.size);refine bkH hK (by first | (dsimp only;exact HQ.out _ b7) | (exact HQ.out _ b7)) (fun hHeld=> ?_);clear hK K;refine tkH (i:=6) ?_;refine tkH (i:=7) ?_;refine tkH (i:=8) ?_;refine A2 (by kernel_rfl) ?_ _;replace k1:=k1.below b7 k1.1;replace bb:=bb.trans (b7.mono bb.size);clear b6 b7 hd1;have q1:=k1.2.1;go_wp2;go_ret;exact⟨Ac (by rw[HE.out];simp[Ai,hqs.out]),bb⟩
 ·have n0b:(xn==0)=false:=by simp[n0]
  go_enter Tryz.func93,Tryz.ntmps93;go_wp2_with fail;go_quiet (fail);generalize hxx:World.drewN _ _=x0;obtain⟨bb,k1⟩:=Bx.allocD2 hxx;clear hxx;have q1:=k1.2.1;go_wp2_with fail;have HQ:=Aa (fun(W:World) (hb:Below x0.heap.size x0 W)=>(⟨(k1.below hb k1.1).2.1 2,(k1.below hb k1.1).2.1 3⟩:W.cell? ⟨w.heap.size,2,none⟩=some (.string xs)∧W.cell? ⟨w.heap.size,3,none⟩=some (.string xt)));clear q1;refine wp_region_held_drew (S:=(fun W=>W.cell? ⟨w.heap.size,2,none⟩=some (.string xs)∧W.cell? ⟨w.heap.size,3,none⟩=some (.string xt))) (by kernel_rfl) (by first | (dsimp only;exact HQ.out _ (Below.refl _ _).drew) | (exact HQ.out _ (Below.refl _ _).drew)) (fun hHeld=> ?_);generalize hxd:World.drew _=x1 at hHeld ⊢;have hd1:Below x0.heap.size x0 x1:=by rw[←hxd];exact(Ab _ _).drew
  clear hxd;refine tkH (i:=0) ?_;refine tkH (i:=1) ?_;refine tkH (i:=3) ?_;refine tkH (i:=4) ?_;refine rdH (i:=2) (fun K hK=> ?_);go_simp;refine(hS x1).mono ?_;rintro e w6 ⟨rfl,b6⟩;replace b6:=hd1.trans (b6.mono hd1.size);refine bkH hK (by first | (dsimp only;exact HQ.out _ b6) | (exact HQ.out _ b6)) (fun hHeld=> ?_);clear hK K;refine rdH (i:=5) (fun K hK=> ?_);go_simp;refine(hT w6).mono ?_;rintro e w7 ⟨rfl,b7⟩;replace b7:=b6.trans (b7.mono b6.size);refine bkH hK (by first | (dsimp only;exact HQ.out _ b7) | (exact HQ.out _ b7)) (fun hHeld=> ?_);clear hK K;refine tkH (i:=6) ?_;refine tkH (i:=7) ?_;refine tkH (i:=8) ?_;refine A2 (by kernel_rfl) ?_ _;replace k1:=k1.below b7 k1.1;replace bb:=bb.trans (b7.mono bb.size);clear b6 b7 hd1;have q1:=k1.2.1;go_wp2;go_ret;exact⟨Ac (by rw[HE.out];simp[Ai,n0]),bb⟩
theorem Sh (x:Nd) (kv:Value) (B:Nat) (w:World) (hl:wgN x≤1048576) (hr:RdNs B w kv x.kids) (HE:Hid (Aj x= (if x.op=7 then decide (x.n=0)&& (noS x.s&& (noS x.t&& (decide (2≤x.kids.length)&& AO x.kids)))else Ai x.op x.n x.s x.t x.kids.length&& AB x.kids)))
  (AL:Hid (∀ (W:World) (hb:Below w.heap.size w W),Calls Pq 158 #[kv,.func (.func 93) #[] #[]] W fun e w'=>e= .returned (.bool (AB x.kids))∧Below W.heap.size W w'))
  (ho:x.op=9):Calls Pq 93 #[ndV x kv] w fun e w'=>e= .returned (.bool (Aj x))∧Below w.heap.size w w':=by
 have hwg:=Av x;have hlen:=AY x.kids;have hss:x.s.size≤1048576:=by omega
 have htt:x.t.size≤1048576:=by omega
 have hks:x.kids.length≤1048576:=by omega
 obtain⟨ka,kc,rfl⟩:=hr.form;unfold ndV;clear hr hwg hlen hl;generalize x.op=xop at*;generalize x.n=xn at*;generalize x.s=xs at*;generalize x.t=xt at*;generalize Aj x=px at*;generalize x.kids=ks at*;subst ho;by_cases n0:xn=0
 ·subst n0;by_cases hs:xs.toList=[]
  ·skip;by_cases ht:xt.toList=[]
   ·skip;by_cases k0:ks.length=3
    ·have k0b:((ks.length:Int)==3)=true:=by rw[Io];exact Ax k0
     have k0':=Aa k0;clear k0;go_enter Tryz.func93,Tryz.ntmps93;go_wp2_with fail;go_quiet (fail);generalize hxx:World.drewN _ _=x0;obtain⟨bb,k1⟩:=Bx.allocD2 hxx;clear hxx;have q1:=k1.2.1;go_wp2_with fail;clear q1;refine(AL.out _ bb).mono ?_;rintro e w8 ⟨rfl,b8⟩;replace bb:=bb.trans (b8.mono bb.size);go_wp2;go_ret;exact⟨Ac (by rw[HE.out];simp[Ai,Al hs,Al ht,k0'.out]),bb⟩
    ·have k0b:((ks.length:Int)==3)=false:=by rw[Io];exact AF k0
     have k0':=Aa k0;clear k0;go_enter Tryz.func93,Tryz.ntmps93;go_wp2_with fail;go_quiet (fail);generalize hxx:World.drewN _ _=x0;obtain⟨bb,k1⟩:=Bx.allocD2 hxx;clear hxx;have q1:=k1.2.1;go_wp2;go_ret;exact⟨Ac (by rw[HE.out];simp[Ai,Al hs,Al ht,k0'.out]),bb⟩
   ·have hte:(ByteArray.toList xt).isEmpty=false:=by simp[ht]
    go_enter Tryz.func93,Tryz.ntmps93;go_wp2_with fail;go_quiet (fail);generalize hxx:World.drewN _ _=x0;obtain⟨bb,k1⟩:=Bx.allocD2 hxx;clear hxx;have q1:=k1.2.1;go_wp2;go_ret;exact⟨Ac (by rw[HE.out];simp[Ai,Al hs,AH ht]),bb⟩
  ·have hse:(ByteArray.toList xs).isEmpty=false:=by simp[hs]
   go_enter Tryz.func93,Tryz.ntmps93;go_wp2_with fail;go_quiet (fail);generalize hxx:World.drewN _ _=x0;obtain⟨bb,k1⟩:=Bx.allocD2 hxx;clear hxx;have q1:=k1.2.1;go_wp2;go_ret;exact⟨Ac (by rw[HE.out];simp[Ai,AH hs]),bb⟩
 ·have n0b:(xn==0)=false:=by simp[n0]
  go_enter Tryz.func93,Tryz.ntmps93;go_wp2_with fail;go_quiet (fail);generalize hxx:World.drewN _ _=x0;obtain⟨bb,k1⟩:=Bx.allocD2 hxx;clear hxx;have q1:=k1.2.1;go_wp2;go_ret;exact⟨Ac (by rw[HE.out];simp[Ai,n0]),bb⟩
end Go.Proofs.YtifhcbeaiijkcaaGreat
