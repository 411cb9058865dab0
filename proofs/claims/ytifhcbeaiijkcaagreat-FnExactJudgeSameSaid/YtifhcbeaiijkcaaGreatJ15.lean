/- Parts of the proof of FnExactJudgeSame. -/
import Derived.Test.YtifhcbeaiijkcaaGreatJ13
import Derived.Test.YtifhcbeaiijkcaaGreatJ04
import Derived.Test.YtifhcbeaiijkcaaGreatJ05
import Derived.Test.YtifhcbeaiijkcaaGreatJ14
set_option linter.unusedVariables false
set_option linter.unusedSimpArgs false
set_option maxRecDepth 1000000
set_option maxHeartbeats 16000000
namespace Go.Proofs.YtifhcbeaiijkcaaGreat
open Go.RowKit
open _root_.Go.World renaming alloc→Wa,setCell→Ws
open _root_.Go.Proofs.Tryz renaming prog→Pq
theorem Bx.allocD3 {w x:World}{cur:Array Value}{e:TypeId}{n:Nat}(h:(w.alloc (.cells cur e)).drewN n=x):Below w.heap.size w x∧Bx x w.heap.size cur:=by
 subst h;obtain⟨b1,k1⟩:=Bx.alloc (w:=w) (cur:=cur) (e:=e) rfl;have b2:Below (w.alloc (.cells cur e)).heap.size (w.alloc (.cells cur e)) ((w.alloc (.cells cur e)).drewN n):=Still.below ⟨n,rfl⟩ _;exact⟨b1.trans (b2.mono b1.size),k1.below b2 k1.1⟩
theorem Si (x:Nd) (kv:Value) (B:Nat) (w:World) (hl:wgN x≤1048576) (hr:RdNs B w kv x.kids) (HE:Hid (Aj x= (if x.op=7 then decide (x.n=0)&& (noS x.s&& (noS x.t&& (decide (2≤x.kids.length)&& AO x.kids)))else Ai x.op x.n x.s x.t x.kids.length&& AB x.kids)))
  (AL:Hid (∀ (W:World) (hb:Below w.heap.size w W),Calls Pq 158 #[kv,.func (.func 93) #[] #[]] W fun e w'=>e= .returned (.bool (AB x.kids))∧Below W.heap.size W w'))
  (ho:x.op=4):Calls Pq 93 #[ndV x kv] w fun e w'=>e= .returned (.bool (Aj x))∧Below w.heap.size w w':=by
 have hwg:=Av x;have hlen:=AY x.kids;have hss:x.s.size≤1048576:=by omega
 have htt:x.t.size≤1048576:=by omega
 have hks:x.kids.length≤1048576:=by omega
 obtain⟨ka,kc,rfl⟩:=hr.form;unfold ndV;clear hr hwg hlen hl;generalize x.op=xop at*;generalize x.n=xn at*;generalize x.s=xs at*;generalize x.t=xt at*;generalize Aj x=px at*;generalize x.kids=ks at*;subst ho;by_cases n0:xn=0
 ·subst n0;by_cases hs:xs.toList=[]
  ·skip;by_cases ht:xt.toList=[]
   ·skip;by_cases k0:ks.length=2
    ·have k0b:((ks.length:Int)==2)=true:=by rw[BF];exact Ax k0
     have k0':=Aa k0;clear k0;go_enter Tryz.func93,Tryz.ntmps93;go_wp2_with fail;go_quiet (fail);generalize hxx:World.drewN _ _=x0;obtain⟨bb,k1⟩:=Bx.allocD3 hxx;clear hxx;have q1:=k1.2.1;go_wp2_with fail;clear q1;refine(AL.out _ bb).mono ?_;rintro e w8 ⟨rfl,b8⟩;replace bb:=bb.trans (b8.mono bb.size);go_wp2;go_ret;exact⟨Ac (by rw[HE.out];simp[Ai,Al hs,Al ht,k0'.out]),bb⟩
    ·have k0b:((ks.length:Int)==2)=false:=by rw[BF];exact AF k0
     have k0':=Aa k0;clear k0;go_enter Tryz.func93,Tryz.ntmps93;go_wp2_with fail;go_quiet (fail);generalize hxx:World.drewN _ _=x0;obtain⟨bb,k1⟩:=Bx.allocD3 hxx;clear hxx;have q1:=k1.2.1;go_wp2;go_ret;exact⟨Ac (by rw[HE.out];simp[Ai,Al hs,Al ht,k0'.out]),bb⟩
   ·have hte:(ByteArray.toList xt).isEmpty=false:=by simp[ht]
    go_enter Tryz.func93,Tryz.ntmps93;go_wp2_with fail;go_quiet (fail);generalize hxx:World.drewN _ _=x0;obtain⟨bb,k1⟩:=Bx.allocD3 hxx;clear hxx;have q1:=k1.2.1;go_wp2;go_ret;exact⟨Ac (by rw[HE.out];simp[Ai,Al hs,AH ht]),bb⟩
  ·have hse:(ByteArray.toList xs).isEmpty=false:=by simp[hs]
   go_enter Tryz.func93,Tryz.ntmps93;go_wp2_with fail;go_quiet (fail);generalize hxx:World.drewN _ _=x0;obtain⟨bb,k1⟩:=Bx.allocD3 hxx;clear hxx;have q1:=k1.2.1;go_wp2;go_ret;exact⟨Ac (by rw[HE.out];simp[Ai,AH hs]),bb⟩
 ·have n0b:(xn==0)=false:=by simp[n0]
  go_enter Tryz.func93,Tryz.ntmps93;go_wp2_with fail;go_quiet (fail);generalize hxx:World.drewN _ _=x0;obtain⟨bb,k1⟩:=Bx.allocD3 hxx;clear hxx;have q1:=k1.2.1;go_wp2;go_ret;exact⟨Ac (by rw[HE.out];simp[Ai,n0]),bb⟩
theorem Sj (x:Nd) (kv:Value) (B:Nat) (w:World) (hl:wgN x≤1048576) (hr:RdNs B w kv x.kids) (HE:Hid (Aj x= (if x.op=7 then decide (x.n=0)&& (noS x.s&& (noS x.t&& (decide (2≤x.kids.length)&& AO x.kids)))else Ai x.op x.n x.s x.t x.kids.length&& AB x.kids)))
  (AL:Hid (∀ (W:World) (hb:Below w.heap.size w W),Calls Pq 158 #[kv,.func (.func 93) #[] #[]] W fun e w'=>e= .returned (.bool (AB x.kids))∧Below W.heap.size W w'))
  (ho:x.op=10):Calls Pq 93 #[ndV x kv] w fun e w'=>e= .returned (.bool (Aj x))∧Below w.heap.size w w':=by
 have hwg:=Av x;have hlen:=AY x.kids;have hss:x.s.size≤1048576:=by omega
 have htt:x.t.size≤1048576:=by omega
 have hks:x.kids.length≤1048576:=by omega
 obtain⟨ka,kc,rfl⟩:=hr.form;unfold ndV;clear hr hwg hlen hl;generalize x.op=xop at*;generalize x.n=xn at*;generalize x.s=xs at*;generalize x.t=xt at*;generalize Aj x=px at*;generalize x.kids=ks at*;subst ho;by_cases n0:xn=0
 ·subst n0;by_cases hs:xs.toList=[]
  ·skip;by_cases ht:xt.toList=[]
   ·skip;by_cases k0:ks.length=2
    ·have k0b:((ks.length:Int)==2)=true:=by rw[BF];exact Ax k0
     have k0':=Aa k0;clear k0;go_enter Tryz.func93,Tryz.ntmps93;go_wp2_with fail;go_quiet (fail);generalize hxx:World.drewN _ _=x0;obtain⟨bb,k1⟩:=Bx.allocD3 hxx;clear hxx;have q1:=k1.2.1;go_wp2_with fail;clear q1;refine(AL.out _ bb).mono ?_;rintro e w8 ⟨rfl,b8⟩;replace bb:=bb.trans (b8.mono bb.size);go_wp2;go_ret;exact⟨Ac (by rw[HE.out];simp[Ai,Al hs,Al ht,k0'.out]),bb⟩
    ·have k0b:((ks.length:Int)==2)=false:=by rw[BF];exact AF k0
     have k0':=Aa k0;clear k0;go_enter Tryz.func93,Tryz.ntmps93;go_wp2_with fail;go_quiet (fail);generalize hxx:World.drewN _ _=x0;obtain⟨bb,k1⟩:=Bx.allocD3 hxx;clear hxx;have q1:=k1.2.1;go_wp2;go_ret;exact⟨Ac (by rw[HE.out];simp[Ai,Al hs,Al ht,k0'.out]),bb⟩
   ·have hte:(ByteArray.toList xt).isEmpty=false:=by simp[ht]
    go_enter Tryz.func93,Tryz.ntmps93;go_wp2_with fail;go_quiet (fail);generalize hxx:World.drewN _ _=x0;obtain⟨bb,k1⟩:=Bx.allocD3 hxx;clear hxx;have q1:=k1.2.1;go_wp2;go_ret;exact⟨Ac (by rw[HE.out];simp[Ai,Al hs,AH ht]),bb⟩
  ·have hse:(ByteArray.toList xs).isEmpty=false:=by simp[hs]
   go_enter Tryz.func93,Tryz.ntmps93;go_wp2_with fail;go_quiet (fail);generalize hxx:World.drewN _ _=x0;obtain⟨bb,k1⟩:=Bx.allocD3 hxx;clear hxx;have q1:=k1.2.1;go_wp2;go_ret;exact⟨Ac (by rw[HE.out];simp[Ai,AH hs]),bb⟩
 ·have n0b:(xn==0)=false:=by simp[n0]
  go_enter Tryz.func93,Tryz.ntmps93;go_wp2_with fail;go_quiet (fail);generalize hxx:World.drewN _ _=x0;obtain⟨bb,k1⟩:=Bx.allocD3 hxx;clear hxx;have q1:=k1.2.1;go_wp2;go_ret;exact⟨Ac (by rw[HE.out];simp[Ai,n0]),bb⟩
theorem Sk (x:Nd) (kv:Value) (B:Nat) (w:World) (hl:wgN x≤1048576) (hr:RdNs B w kv x.kids) (HE:Hid (Aj x= (if x.op=7 then decide (x.n=0)&& (noS x.s&& (noS x.t&& (decide (2≤x.kids.length)&& AO x.kids)))else Ai x.op x.n x.s x.t x.kids.length&& AB x.kids)))
  (AL:Hid (∀ (W:World) (hb:Below w.heap.size w W),Calls Pq 158 #[kv,.func (.func 93) #[] #[]] W fun e w'=>e= .returned (.bool (AB x.kids))∧Below W.heap.size W w'))
  (ho:x.op=11):Calls Pq 93 #[ndV x kv] w fun e w'=>e= .returned (.bool (Aj x))∧Below w.heap.size w w':=by
 have hwg:=Av x;have hlen:=AY x.kids;have hss:x.s.size≤1048576:=by omega
 have htt:x.t.size≤1048576:=by omega
 have hks:x.kids.length≤1048576:=by omega
 obtain⟨ka,kc,rfl⟩:=hr.form;unfold ndV;clear hr hwg hlen hl;generalize x.op=xop at*;generalize x.n=xn at*;generalize x.s=xs at*;generalize x.t=xt at*;generalize Aj x=px at*;generalize x.kids=ks at*;subst ho;by_cases n0:xn=0
 ·subst n0;by_cases hs:xs.toList=[]
  ·skip;by_cases ht:xt.toList=[]
   ·skip;by_cases k0:ks.length=2
    ·have k0b:((ks.length:Int)==2)=true:=by rw[BF];exact Ax k0
     have k0':=Aa k0;clear k0;go_enter Tryz.func93,Tryz.ntmps93;go_wp2_with fail;go_quiet (fail);generalize hxx:World.drewN _ _=x0;obtain⟨bb,k1⟩:=Bx.allocD3 hxx;clear hxx;have q1:=k1.2.1;go_wp2_with fail;clear q1;refine(AL.out _ bb).mono ?_;rintro e w8 ⟨rfl,b8⟩;replace bb:=bb.trans (b8.mono bb.size);go_wp2;go_ret;exact⟨Ac (by rw[HE.out];simp[Ai,Al hs,Al ht,k0'.out]),bb⟩
    ·have k0b:((ks.length:Int)==2)=false:=by rw[BF];exact AF k0
     have k0':=Aa k0;clear k0;go_enter Tryz.func93,Tryz.ntmps93;go_wp2_with fail;go_quiet (fail);generalize hxx:World.drewN _ _=x0;obtain⟨bb,k1⟩:=Bx.allocD3 hxx;clear hxx;have q1:=k1.2.1;go_wp2;go_ret;exact⟨Ac (by rw[HE.out];simp[Ai,Al hs,Al ht,k0'.out]),bb⟩
   ·have hte:(ByteArray.toList xt).isEmpty=false:=by simp[ht]
    go_enter Tryz.func93,Tryz.ntmps93;go_wp2_with fail;go_quiet (fail);generalize hxx:World.drewN _ _=x0;obtain⟨bb,k1⟩:=Bx.allocD3 hxx;clear hxx;have q1:=k1.2.1;go_wp2;go_ret;exact⟨Ac (by rw[HE.out];simp[Ai,Al hs,AH ht]),bb⟩
  ·have hse:(ByteArray.toList xs).isEmpty=false:=by simp[hs]
   go_enter Tryz.func93,Tryz.ntmps93;go_wp2_with fail;go_quiet (fail);generalize hxx:World.drewN _ _=x0;obtain⟨bb,k1⟩:=Bx.allocD3 hxx;clear hxx;have q1:=k1.2.1;go_wp2;go_ret;exact⟨Ac (by rw[HE.out];simp[Ai,AH hs]),bb⟩
 ·have n0b:(xn==0)=false:=by simp[n0]
  go_enter Tryz.func93,Tryz.ntmps93;go_wp2_with fail;go_quiet (fail);generalize hxx:World.drewN _ _=x0;obtain⟨bb,k1⟩:=Bx.allocD3 hxx;clear hxx;have q1:=k1.2.1;go_wp2;go_ret;exact⟨Ac (by rw[HE.out];simp[Ai,n0]),bb⟩
theorem Sl (x:Nd) (kv:Value) (B:Nat) (w:World) (hl:wgN x≤1048576) (hr:RdNs B w kv x.kids) (HE:Hid (Aj x= (if x.op=7 then decide (x.n=0)&& (noS x.s&& (noS x.t&& (decide (2≤x.kids.length)&& AO x.kids)))else Ai x.op x.n x.s x.t x.kids.length&& AB x.kids)))
  (AL:Hid (∀ (W:World) (hb:Below w.heap.size w W),Calls Pq 158 #[kv,.func (.func 93) #[] #[]] W fun e w'=>e= .returned (.bool (AB x.kids))∧Below W.heap.size W w'))
  (ho:x.op=12):Calls Pq 93 #[ndV x kv] w fun e w'=>e= .returned (.bool (Aj x))∧Below w.heap.size w w':=by
 have hwg:=Av x;have hlen:=AY x.kids;have hss:x.s.size≤1048576:=by omega
 have htt:x.t.size≤1048576:=by omega
 have hks:x.kids.length≤1048576:=by omega
 obtain⟨ka,kc,rfl⟩:=hr.form;unfold ndV;clear hr hwg hlen hl;generalize x.op=xop at*;generalize x.n=xn at*;generalize x.s=xs at*;generalize x.t=xt at*;generalize Aj x=px at*;generalize x.kids=ks at*;subst ho;by_cases n0:xn=0
 ·subst n0;by_cases hs:xs.toList=[]
  ·skip;by_cases ht:xt.toList=[]
   ·skip;by_cases k0:ks.length=2
    ·have k0b:((ks.length:Int)==2)=true:=by rw[BF];exact Ax k0
     have k0':=Aa k0;clear k0;go_enter Tryz.func93,Tryz.ntmps93;go_wp2_with fail;go_quiet (fail);generalize hxx:World.drewN _ _=x0;obtain⟨bb,k1⟩:=Bx.allocD3 hxx;clear hxx;have q1:=k1.2.1;go_wp2_with fail;clear q1;refine(AL.out _ bb).mono ?_;rintro e w8 ⟨rfl,b8⟩;replace bb:=bb.trans (b8.mono bb.size);go_wp2;go_ret;exact⟨Ac (by rw[HE.out];simp[Ai,Al hs,Al ht,k0'.out]),bb⟩
    ·have k0b:((ks.length:Int)==2)=false:=by rw[BF];exact AF k0
     have k0':=Aa k0;clear k0;go_enter Tryz.func93,Tryz.ntmps93;go_wp2_with fail;go_quiet (fail);generalize hxx:World.drewN _ _=x0;obtain⟨bb,k1⟩:=Bx.allocD3 hxx;clear hxx;have q1:=k1.2.1;go_wp2;go_ret;exact⟨Ac (by rw[HE.out];simp[Ai,Al hs,Al ht,k0'.out]),bb⟩
   ·have hte:(ByteArray.toList xt).isEmpty=false:=by simp[ht]
    go_enter Tryz.func93,Tryz.ntmps93;go_wp2_with fail;go_quiet (fail);generalize hxx:World.drewN _ _=x0;obtain⟨bb,k1⟩:=Bx.allocD3 hxx;clear hxx;have q1:=k1.2.1;go_wp2;go_ret;exact⟨Ac (by rw[HE.out];simp[Ai,Al hs,AH ht]),bb⟩
  ·have hse:(ByteArray.toList xs).isEmpty=false:=by simp[hs]
   go_enter Tryz.func93,Tryz.ntmps93;go_wp2_with fail;go_quiet (fail);generalize hxx:World.drewN _ _=x0;obtain⟨bb,k1⟩:=Bx.allocD3 hxx;clear hxx;have q1:=k1.2.1;go_wp2;go_ret;exact⟨Ac (by rw[HE.out];simp[Ai,AH hs]),bb⟩
 ·have n0b:(xn==0)=false:=by simp[n0]
  go_enter Tryz.func93,Tryz.ntmps93;go_wp2_with fail;go_quiet (fail);generalize hxx:World.drewN _ _=x0;obtain⟨bb,k1⟩:=Bx.allocD3 hxx;clear hxx;have q1:=k1.2.1;go_wp2;go_ret;exact⟨Ac (by rw[HE.out];simp[Ai,n0]),bb⟩
theorem Bx.allocD4 {w x:World}{cur:Array Value}{e:TypeId}{n:Nat}(h:(w.alloc (.cells cur e)).drewN n=x):Below w.heap.size w x∧Bx x w.heap.size cur:=by
 subst h;obtain⟨b1,k1⟩:=Bx.alloc (w:=w) (cur:=cur) (e:=e) rfl;have b2:Below (w.alloc (.cells cur e)).heap.size (w.alloc (.cells cur e)) ((w.alloc (.cells cur e)).drewN n):=Still.below ⟨n,rfl⟩ _;exact⟨b1.trans (b2.mono b1.size),k1.below b2 k1.1⟩
theorem Ij {x y:World}{n:Nat}(h:x.drewN n=y) (B:Nat):Below B x y:=Still.below ⟨n,h.symm⟩ B
theorem Sn (x:Nd) (kv:Value) (B:Nat) (w:World) (hl:wgN x≤1048576) (hr:RdNs B w kv x.kids) (HE:Hid (Aj x= (if x.op=7 then decide (x.n=0)&& (noS x.s&& (noS x.t&& (decide (2≤x.kids.length)&& AO x.kids)))else Ai x.op x.n x.s x.t x.kids.length&& AB x.kids)))
  (AL:Hid (∀ (W:World) (hb:Below w.heap.size w W),Calls Pq 158 #[kv,.func (.func 93) #[] #[]] W fun e w'=>e= .returned (.bool (AB x.kids))∧Below W.heap.size W w'))
  (ho:x.op=13):Calls Pq 93 #[ndV x kv] w fun e w'=>e= .returned (.bool (Aj x))∧Below w.heap.size w w':=by
 have hwg:=Av x;have hlen:=AY x.kids;have hss:x.s.size≤1048576:=by omega
 have htt:x.t.size≤1048576:=by omega
 have hks:x.kids.length≤1048576:=by omega
 obtain⟨ka,kc,rfl⟩:=hr.form;unfold ndV;clear hr hwg hlen hl;generalize x.op=xop at*;generalize x.n=xn at*;generalize x.s=xs at*;generalize x.t=xt at*;generalize Aj x=px at*;generalize x.kids=ks at*;subst ho;by_cases n0:xn=0
 ·subst n0;by_cases hs:xs.toList=[]
  ·skip;by_cases ht:xt.toList=[]
   ·skip;by_cases k0:ks.length=2
    ·have k0b:((ks.length:Int)==2)=true:=by rw[BF];exact Ax k0
     have k0':=Aa k0;clear k0;go_enter Tryz.func93,Tryz.ntmps93;go_wp2_with fail;go_quiet (fail);generalize hxx:World.drewN _ _=x0;obtain⟨bb,k1⟩:=Bx.allocD4 hxx;clear hxx;have q1:=k1.2.1;go_wp2_with fail;clear q1;refine(AL.out _ bb).mono ?_;rintro e w8 ⟨rfl,b8⟩;replace bb:=bb.trans (b8.mono bb.size);go_wp2;go_ret;exact⟨Ac (by rw[HE.out];simp[Ai,Al hs,Al ht,k0'.out]),bb⟩
    ·have k0b:((ks.length:Int)==2)=false:=by rw[BF];exact AF k0
     have k0':=Aa k0;clear k0;go_enter Tryz.func93,Tryz.ntmps93;go_wp2_with fail;go_quiet (fail);generalize hxx:World.drewN _ _=x0;obtain⟨bb,k1⟩:=Bx.allocD4 hxx;clear hxx;have q1:=k1.2.1;go_wp2;go_ret;exact⟨Ac (by rw[HE.out];simp[Ai,Al hs,Al ht,k0'.out]),bb⟩
   ·have hte:(ByteArray.toList xt).isEmpty=false:=by simp[ht]
    go_enter Tryz.func93,Tryz.ntmps93;go_wp2_with fail;go_quiet (fail);generalize hxx:World.drewN _ _=x0;obtain⟨bb,k1⟩:=Bx.allocD4 hxx;clear hxx;have q1:=k1.2.1;go_wp2;go_ret;exact⟨Ac (by rw[HE.out];simp[Ai,Al hs,AH ht]),bb⟩
  ·have hse:(ByteArray.toList xs).isEmpty=false:=by simp[hs]
   go_enter Tryz.func93,Tryz.ntmps93;go_wp2_with fail;go_quiet (fail);generalize hxx:World.drewN _ _=x0;obtain⟨bb,k1⟩:=Bx.allocD4 hxx;clear hxx;have q1:=k1.2.1;go_wp2;go_ret;exact⟨Ac (by rw[HE.out];simp[Ai,AH hs]),bb⟩
 ·have n0b:(xn==0)=false:=by simp[n0]
  go_enter Tryz.func93,Tryz.ntmps93;go_wp2_with fail;go_quiet (fail);generalize hxx:World.drewN _ _=x0;obtain⟨bb,k1⟩:=Bx.allocD4 hxx;clear hxx;have q1:=k1.2.1;go_wp2;go_ret;exact⟨Ac (by rw[HE.out];simp[Ai,n0]),bb⟩
theorem So (x:Nd) (kv:Value) (B:Nat) (w:World) (hl:wgN x≤1048576) (hr:RdNs B w kv x.kids) (HE:Hid (Aj x= (if x.op=7 then decide (x.n=0)&& (noS x.s&& (noS x.t&& (decide (2≤x.kids.length)&& AO x.kids)))else Ai x.op x.n x.s x.t x.kids.length&& AB x.kids)))
  (AL:Hid (∀ (W:World) (hb:Below w.heap.size w W),Calls Pq 158 #[kv,.func (.func 93) #[] #[]] W fun e w'=>e= .returned (.bool (AB x.kids))∧Below W.heap.size W w'))
  (ho:x.op=14):Calls Pq 93 #[ndV x kv] w fun e w'=>e= .returned (.bool (Aj x))∧Below w.heap.size w w':=by
 have hwg:=Av x;have hlen:=AY x.kids;have hss:x.s.size≤1048576:=by omega
 have htt:x.t.size≤1048576:=by omega
 have hks:x.kids.length≤1048576:=by omega
 obtain⟨ka,kc,rfl⟩:=hr.form;unfold ndV;clear hr hwg hlen hl;generalize x.op=xop at*;generalize x.n=xn at*;generalize x.s=xs at*;generalize x.t=xt at*;generalize Aj x=px at*;generalize x.kids=ks at*;subst ho;by_cases n0:xn=0
 ·subst n0;by_cases hs:xs.toList=[]
  ·skip;by_cases ht:xt.toList=[]
   ·skip;by_cases k0:ks.length=2
    ·have k0b:((ks.length:Int)==2)=true:=by rw[BF];exact Ax k0
     have k0':=Aa k0;clear k0;go_enter Tryz.func93,Tryz.ntmps93;go_wp2_with fail;go_quiet (fail);generalize hxx:World.drewN _ _=x0;obtain⟨bb,k1⟩:=Bx.allocD4 hxx;clear hxx;have q1:=k1.2.1;go_wp2_with fail;clear q1;refine(AL.out _ bb).mono ?_;rintro e w8 ⟨rfl,b8⟩;replace bb:=bb.trans (b8.mono bb.size);go_wp2;go_ret;exact⟨Ac (by rw[HE.out];simp[Ai,Al hs,Al ht,k0'.out]),bb⟩
    ·have k0b:((ks.length:Int)==2)=false:=by rw[BF];exact AF k0
     have k0':=Aa k0;clear k0;go_enter Tryz.func93,Tryz.ntmps93;go_wp2_with fail;go_quiet (fail);generalize hxx:World.drewN _ _=x0;obtain⟨bb,k1⟩:=Bx.allocD4 hxx;clear hxx;have q1:=k1.2.1;go_wp2;go_ret;exact⟨Ac (by rw[HE.out];simp[Ai,Al hs,Al ht,k0'.out]),bb⟩
   ·have hte:(ByteArray.toList xt).isEmpty=false:=by simp[ht]
    go_enter Tryz.func93,Tryz.ntmps93;go_wp2_with fail;go_quiet (fail);generalize hxx:World.drewN _ _=x0;obtain⟨bb,k1⟩:=Bx.allocD4 hxx;clear hxx;have q1:=k1.2.1;go_wp2;go_ret;exact⟨Ac (by rw[HE.out];simp[Ai,Al hs,AH ht]),bb⟩
  ·have hse:(ByteArray.toList xs).isEmpty=false:=by simp[hs]
   go_enter Tryz.func93,Tryz.ntmps93;go_wp2_with fail;go_quiet (fail);generalize hxx:World.drewN _ _=x0;obtain⟨bb,k1⟩:=Bx.allocD4 hxx;clear hxx;have q1:=k1.2.1;go_wp2;go_ret;exact⟨Ac (by rw[HE.out];simp[Ai,AH hs]),bb⟩
 ·have n0b:(xn==0)=false:=by simp[n0]
  go_enter Tryz.func93,Tryz.ntmps93;go_wp2_with fail;go_quiet (fail);generalize hxx:World.drewN _ _=x0;obtain⟨bb,k1⟩:=Bx.allocD4 hxx;clear hxx;have q1:=k1.2.1;go_wp2;go_ret;exact⟨Ac (by rw[HE.out];simp[Ai,n0]),bb⟩
theorem Sp (x:Nd) (kv:Value) (B:Nat) (w:World) (hl:wgN x≤1048576) (hr:RdNs B w kv x.kids) (HE:Hid (Aj x= (if x.op=7 then decide (x.n=0)&& (noS x.s&& (noS x.t&& (decide (2≤x.kids.length)&& AO x.kids)))else Ai x.op x.n x.s x.t x.kids.length&& AB x.kids)))
  (AL:Hid (∀ (W:World) (hb:Below w.heap.size w W),Calls Pq 158 #[kv,.func (.func 93) #[] #[]] W fun e w'=>e= .returned (.bool (AB x.kids))∧Below W.heap.size W w'))
  (ho:x.op=15):Calls Pq 93 #[ndV x kv] w fun e w'=>e= .returned (.bool (Aj x))∧Below w.heap.size w w':=by
 have hwg:=Av x;have hlen:=AY x.kids;have hss:x.s.size≤1048576:=by omega
 have htt:x.t.size≤1048576:=by omega
 have hks:x.kids.length≤1048576:=by omega
 obtain⟨ka,kc,rfl⟩:=hr.form;unfold ndV;clear hr hwg hlen hl;generalize x.op=xop at*;generalize x.n=xn at*;generalize x.s=xs at*;generalize x.t=xt at*;generalize Aj x=px at*;generalize x.kids=ks at*;subst ho;have hS:=fun(W:World)=>(GC xs W hss).mono fun e w' hh=>(⟨hh.1,hh.2⟩:e=_∧w'=_)
 by_cases n0:xn=0
 ·subst n0;cases hqs:Bg xs with
  |true=>
   rw[hqs]at hS;have hqs:=Aa hqs;by_cases ht:xt.toList=[]
   ·skip;go_enter Tryz.func93,Tryz.ntmps93;go_wp2_with fail;go_quiet (fail);generalize hxx:World.drewN _ _=x0;obtain⟨bb,k1⟩:=Bx.allocD4 hxx;clear hxx;have q1:=k1.2.1;have HC:=Aa (fun(n:Nat)=>hS (x0.drewN n));go_wp2_with fail;go_quiet ((go_at_call 157;exact Az (HC.out _)));generalize hxy:World.drewN x0 _=x1;have b3:=Ij hxy x0.heap.size;replace k1:=k1.below b3 k1.1;replace bb:=bb.trans (b3.mono bb.size);clear b3 hxy;have q1:=k1.2.1;go_wp2_with fail;clear q1;refine(AL.out _ bb).mono ?_;rintro e w8 ⟨rfl,b8⟩;replace bb:=bb.trans (b8.mono bb.size);go_wp2;go_ret;exact⟨Ac (by rw[HE.out];simp[Ai,hqs.out,Al ht]),bb⟩
   ·have hte:(ByteArray.toList xt).isEmpty=false:=by simp[ht]
    go_enter Tryz.func93,Tryz.ntmps93;go_wp2_with fail;go_quiet (fail);generalize hxx:World.drewN _ _=x0;obtain⟨bb,k1⟩:=Bx.allocD4 hxx;clear hxx;have q1:=k1.2.1;have HC:=Aa (fun(n:Nat)=>hS (x0.drewN n));go_wp2_with fail;go_quiet ((go_at_call 157;exact Az (HC.out _)));generalize hxy:World.drewN x0 _=x1;have b3:=Ij hxy x0.heap.size;replace k1:=k1.below b3 k1.1;replace bb:=bb.trans (b3.mono bb.size);clear b3 hxy;have q1:=k1.2.1;go_wp2;go_ret;exact⟨Ac (by rw[HE.out];simp[Ai,hqs.out,AH ht]),bb⟩
  |false=>
   rw[hqs]at hS;have hqs:=Aa hqs;go_enter Tryz.func93,Tryz.ntmps93;go_wp2_with fail;go_quiet (fail);generalize hxx:World.drewN _ _=x0;obtain⟨bb,k1⟩:=Bx.allocD4 hxx;clear hxx;have q1:=k1.2.1;have HC:=Aa (fun(n:Nat)=>hS (x0.drewN n));go_wp2_with fail;go_quiet ((go_at_call 157;exact Az (HC.out _)));generalize hxy:World.drewN x0 _=x1;have b3:=Ij hxy x0.heap.size;replace k1:=k1.below b3 k1.1;replace bb:=bb.trans (b3.mono bb.size);clear b3 hxy;have q1:=k1.2.1;go_wp2;go_ret;exact⟨Ac (by rw[HE.out];simp[Ai,hqs.out]),bb⟩
 ·have n0b:(xn==0)=false:=by simp[n0]
  go_enter Tryz.func93,Tryz.ntmps93;go_wp2_with fail;go_quiet (fail);generalize hxx:World.drewN _ _=x0;obtain⟨bb,k1⟩:=Bx.allocD4 hxx;clear hxx;have q1:=k1.2.1;have HC:=Aa (fun(n:Nat)=>hS (x0.drewN n));go_wp2_with fail;go_quiet ((go_at_call 157;exact Az (HC.out _)));generalize hxy:World.drewN x0 _=x1;have b3:=Ij hxy x0.heap.size;replace k1:=k1.below b3 k1.1;replace bb:=bb.trans (b3.mono bb.size);clear b3 hxy;have q1:=k1.2.1;go_wp2;go_ret;exact⟨Ac (by rw[HE.out];simp[Ai,n0]),bb⟩
theorem Sq (x:Nd) (kv:Value) (B:Nat) (w:World) (hl:wgN x≤1048576) (hr:RdNs B w kv x.kids) (HE:Hid (Aj x= (if x.op=7 then decide (x.n=0)&& (noS x.s&& (noS x.t&& (decide (2≤x.kids.length)&& AO x.kids)))else Ai x.op x.n x.s x.t x.kids.length&& AB x.kids)))
  (AL:Hid (∀ (W:World) (hb:Below w.heap.size w W),Calls Pq 158 #[kv,.func (.func 93) #[] #[]] W fun e w'=>e= .returned (.bool (AB x.kids))∧Below W.heap.size W w'))
  (ho:x.op≠1∧x.op≠2∧x.op≠3∧x.op≠4∧x.op≠5∧x.op≠6∧x.op≠7∧x.op≠9∧x.op≠10∧x.op≠11∧x.op≠12∧x.op≠13∧x.op≠14∧x.op≠15∧x.op≠16):Calls Pq 93 #[ndV x kv] w fun e w'=>e= .returned (.bool (Aj x))∧Below w.heap.size w w':=by
 have hwg:=Av x;have hlen:=AY x.kids;have hss:x.s.size≤1048576:=by omega
 have htt:x.t.size≤1048576:=by omega
 have hks:x.kids.length≤1048576:=by omega
 obtain⟨ka,kc,rfl⟩:=hr.form;unfold ndV;clear hr hwg hlen hl;generalize x.op=xop at*;generalize x.n=xn at*;generalize x.s=xs at*;generalize x.t=xt at*;generalize Aj x=px at*;generalize x.kids=ks at*;obtain⟨o1,o2,o3,o4,o5,o6,o7,o9,o10,o11,o12,o13,o14,o15,o16⟩:=ho;have km:((ks.length:Int)== -1)=false:=by rw[Kj];omega
 go_enter Tryz.func93,Tryz.ntmps93;go_wp2_with fail;go_quiet (fail);generalize hxx:World.drewN _ _=x0;obtain⟨bb,k1⟩:=Bx.allocD4 hxx;clear hxx;have q1:=k1.2.1;have hno:px=false:=by
  rw[HE.out,Ae o7];have:¬(xop=4∨10≤xop∧xop≤14):=by omega
  unfold Ai;rw[Ae o1,Ae o2,Ae o3,Ae o16,Ae o5,Ae o6,Ae this,Ae o9,Ae o15];rfl
 have hno:=Aa hno;go_wp2
 all_goals go_ret
 all_goals exact⟨Ac hno.out.symm,bb⟩
theorem R9 (ks:List Nd) (h:2≤ks.length):(∀B w b off cap,RdNs B w (.slice (some ⟨b,off,none⟩) ks.length cap) ks→RdNs B w (.slice (some ⟨b,off+5,none⟩) (ks.length - 1) (cap - 1)) (ks.drop 1))∧AO ks= (Aj (ks[0]'(by omega))&& (ks.drop 1).all Cm):=by
 cases ks with
 |nil=>simp at h
 |cons y ys=>
  refine⟨fun B w b off cap hr=> ?_,by rw[AO,Gh];rfl⟩;obtain⟨b',off',cap',hv,hc,ht⟩:=hr.tail;cases hv
  exact ht ⟨b,off+5,none⟩ (fun _=>rfl)
theorem _root_.Nat.two_le_pos {n:Nat}(h:2≤n):0 < n:=by omega
theorem Sa (x:Nd) (kv:Value) (B:Nat) (w:World) (hl:wgN x≤1048576) (hr:RdNs B w kv x.kids) (HE:Hid (Aj x= (if x.op=7 then decide (x.n=0)&& (noS x.s&& (noS x.t&& (decide (2≤x.kids.length)&& AO x.kids)))else Ai x.op x.n x.s x.t x.kids.length&& AB x.kids)))
  (ho:x.op=7) (ih:∀ (y:Nd) (kv:Value) (B:Nat) (W:World),wgN y < wgN x→RdNs B W kv y.kids→Calls Pq 93 #[ndV y kv] W fun e w'=>e= .returned (.bool (Aj y))∧Below W.heap.size W w'):
  Calls Pq 93 #[ndV x kv] w fun e w'=>e= .returned (.bool (Aj x))∧Below w.heap.size w w':=by
 have HR:=Aa (fun(W:World) (hb:Below w.heap.size w W)=>hr.later' hb);have hwg:=Av x;have hlen:=AY x.kids;have hks:x.kids.length≤1048576:=by omega
 have IE:=Aa (fun(y:Nd) (hy:y∈x.kids) (kv:Value) (B:Nat) (W:World) (h:RdNs B W kv y.kids)=>(by
  have h1:=AT hy;exact ih y kv B W (by omega) h:Calls Pq 93 #[ndV y kv] W fun e w'=>e= .returned (.bool (Aj y))∧Below W.heap.size W w'))
 have IA:=Aa (fun(y:Nd) (hy:y∈x.kids) (kv:Value) (B:Nat) (W:World) (h:RdNs B W kv y.kids)=>(by
  have h1:=AT hy;exact R4 y kv B W (by omega) h (fun z kz Bz Wz hz hk=>ih z kz Bz Wz (by omega) hk):Calls Pq 159 #[ndV y kv] W fun e w'=>e= .returned (.bool (Cm y))∧Below W.heap.size W w'))
 obtain⟨ka,kc,rfl⟩:=hr.form;unfold ndV;clear hr hwg hlen hl ih;generalize x.op=xop at*;generalize x.n=xn at*;generalize x.s=xs at*;generalize x.t=xt at*;generalize Aj x=px at*;generalize x.kids=ks at*;subst ho;by_cases n0:xn=0
 ·subst n0;by_cases hs:xs.toList=[]
  ·by_cases ht:xt.toList=[]
   ·by_cases h2:2≤ks.length
    ·have h2b:(ks.length:Int)≥2:=by omega
     obtain⟨b,off,cap,kv0,hv,hB,hbs,hcap, -, -⟩:=(HR.out w (Ab _ _)).at_ (j:=0) (by omega);cases hv
     have HP:=Aa (R9 ks h2);have hk0:(0:Int) < (ks.length:Int):=by omega
     have hc1:¬(kc=1):=by omega
     have h2':=Aa h2;clear hbs hB;go_enter Tryz.func93,Tryz.ntmps93;go_wp2_with fail;go_quiet (fail);generalize hxx:World.drewN _ _=x0;obtain⟨bb,k1⟩:=Bx.allocD1 hxx;clear hxx;have q1:=k1.2.1;obtain⟨b',off',cap',kv0,hv,hB,hbs, -,c,hk⟩:=(HR.out x0 bb).at_ (j:=0) (Nat.two_le_pos h2'.out);rw[Nat.zero_mul,Nat.add_zero]at c;obtain⟨c0,c1,c2,c3,c4⟩:=c;cases hv
     have H0:=Aa hk;clear hk;go_wp2_with fail;clear q1 c0 c1 c2 c3 c4;refine(IE.out ks[0] (An _) _ _ x0 H0.out).mono ?_;rintro e w3 ⟨rfl,b3⟩;replace k1:=k1.below b3 k1.1;replace bb:=bb.trans (b3.mono bb.size);clear b3;have q1:=k1.2.1;cases hp:Aj ks[0]with
     |false=>
      have hp:=Aa hp;go_wp2;go_ret;exact⟨Ac (by rw[HE.out,HP.out.2,hp.out];simp),bb⟩
     |true=>
      have hp:=Aa hp;go_wp2_with fail;clear q1;refine(R2 Cm (ks.drop 1) _ _ w3 (HP.out.1 _ _ _ _ _ (HR.out w3 bb)) (by rw[Kg];omega) (fun j hj kv B W h=>IA.out _ (List.mem_of_mem_drop (An hj)) kv B W h)).mono ?_;rintro e w4 ⟨rfl,b4⟩;replace bb:=bb.trans (b4.mono bb.size);go_wp2;go_ret;exact⟨Ac (by rw[HE.out,HP.out.2,hp.out];simp[Al hs,Al ht,h2'.out]),bb⟩
    ·have h2b:¬((ks.length:Int)≥2):=by omega
     go_enter Tryz.func93,Tryz.ntmps93;go_wp2_with fail;go_quiet (fail);generalize hxx:World.drewN _ _=x0;obtain⟨bb,k1⟩:=Bx.allocD1 hxx;clear hxx;have q1:=k1.2.1;go_wp2;go_ret;exact⟨Ac (by rw[HE.out];simp[h2]),bb⟩
   ·have hte:(ByteArray.toList xt).isEmpty=false:=by simp[ht]
    go_enter Tryz.func93,Tryz.ntmps93;go_wp2_with fail;go_quiet (fail);generalize hxx:World.drewN _ _=x0;obtain⟨bb,k1⟩:=Bx.allocD1 hxx;clear hxx;have q1:=k1.2.1;go_wp2;go_ret;exact⟨Ac (by rw[HE.out];simp[AH ht]),bb⟩
  ·have hse:(ByteArray.toList xs).isEmpty=false:=by simp[hs]
   go_enter Tryz.func93,Tryz.ntmps93;go_wp2_with fail;go_quiet (fail);generalize hxx:World.drewN _ _=x0;obtain⟨bb,k1⟩:=Bx.allocD1 hxx;clear hxx;have q1:=k1.2.1;go_wp2;go_ret;exact⟨Ac (by rw[HE.out];simp[AH hs]),bb⟩
 ·have n0b:(xn==0)=false:=by simp[n0]
  go_enter Tryz.func93,Tryz.ntmps93;go_wp2_with fail;go_quiet (fail);generalize hxx:World.drewN _ _=x0;obtain⟨bb,k1⟩:=Bx.allocD1 hxx;clear hxx;have q1:=k1.2.1;go_wp2;go_ret;exact⟨Ac (by rw[HE.out];simp[n0]),bb⟩
theorem JC:∀ (N:Nat) (x:Nd) (kv:Value) (B:Nat) (w:World),wgN x < N→wgN x≤1048576→RdNs B w kv x.kids→
  Calls Pq 93 #[ndV x kv] w fun e w'=>e= .returned (.bool (Aj x))∧Below w.heap.size w w'
 |0,x,kv,B,w,hN,hl,hr=>by omega
 |N+1,x,kv,B,w,hN,hl,hr=>by
  have AL:=Aa (fun(W:World) (hb:Below w.heap.size w W)=>(by
   have:=RY Aj x.kids kv _ W (hr.later' hb) (by have:=AY x.kids;have:=Av x;omega) (fun j hj kv B W h=>JC N x.kids[j] kv B W (by have:=AT (An hj);have:=Av x;omega) (by have:=AT (An hj);have:=Av x;omega) h);rw[←GF]at this;exact this:Calls Pq 158 #[kv,.func (.func 93) #[] #[]] W fun e w'=>e= .returned (.bool (AB x.kids))∧Below W.heap.size W w'))
  have HE:=Aa (GO x);by_cases o7:x.op=7
  ·exact Sa x kv B w hl hr HE o7 (fun y kv B W hy h=>JC N y kv B W (by omega) (by omega) h)
  by_cases o1:x.op=1
  ·exact Sb x kv B w hl hr HE AL o1
  by_cases o2:x.op=2
  ·exact Sc x kv B w hl hr HE AL o2
  by_cases o3:x.op=3
  ·exact Sd x kv B w hl hr HE AL o3
  by_cases o4:x.op=4
  ·exact Si x kv B w hl hr HE AL o4
  by_cases o5:x.op=5
  ·exact Sf x kv B w hl hr HE AL o5
  by_cases o6:x.op=6
  ·exact Sg x kv B w hl hr HE AL o6
  by_cases o9:x.op=9
  ·exact Sh x kv B w hl hr HE AL o9
  by_cases o10:x.op=10
  ·exact Sj x kv B w hl hr HE AL o10
  by_cases o11:x.op=11
  ·exact Sk x kv B w hl hr HE AL o11
  by_cases o12:x.op=12
  ·exact Sl x kv B w hl hr HE AL o12
  by_cases o13:x.op=13
  ·exact Sn x kv B w hl hr HE AL o13
  by_cases o14:x.op=14
  ·exact So x kv B w hl hr HE AL o14
  by_cases o15:x.op=15
  ·exact Sp x kv B w hl hr HE AL o15
  by_cases o16:x.op=16
  ·exact Se x kv B w hl hr HE AL o16
  exact Sq x kv B w hl hr HE AL ⟨o1,o2,o3,o4,o5,o6,o7,o9,o10,o11,o12,o13,o14,o15,o16⟩
end Go.Proofs.YtifhcbeaiijkcaaGreat
