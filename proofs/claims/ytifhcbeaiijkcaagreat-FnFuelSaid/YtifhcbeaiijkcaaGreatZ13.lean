/- Parts of the proof of FnFuel. -/
import Derived.Test.YtifhcbeaiijkcaaGreatZ12
import Derived.Test.YtifhcbeaiijkcaaGreatZ06
import Derived.Test.YtifhcbeaiijkcaaGreatZ05
import Derived.Test.YtifhcbeaiijkcaaGreatZ08
set_option linter.unusedVariables false
set_option linter.unusedSimpArgs false
set_option maxRecDepth 1000000
set_option maxHeartbeats 16000000
namespace Go.Proofs.YtifhcbeaiijkcaaGreat
open Go.RowKit
open _root_.Go.World renaming alloc→Wa,setCell→Ws
open _root_.Go.Proofs.Tryz renaming prog→Pq
theorem Bx.allocD1 {w x:World}{cur:Array Value}{e:TypeId}{n:Nat}(h:(w.alloc (.cells cur e)).drewN n=x):Below w.heap.size w x∧Bx x w.heap.size cur:=by
 subst h;obtain⟨b1,k1⟩:=Bx.alloc (w:=w) (cur:=cur) (e:=e) rfl;have b2:Below (w.alloc (.cells cur e)).heap.size (w.alloc (.cells cur e)) ((w.alloc (.cells cur e)).drewN n):=Still.below ⟨n,rfl⟩ _;exact⟨b1.trans (b2.mono b1.size),k1.below b2 k1.1⟩
theorem UC (x:Nd) (kv:Value) (B:Nat) (w:World) (hl:wgN x≤1048576) (hr:RdNs B w kv x.kids) (HE:Hid (Ao x= (if x.op=7 then decide (x.n=0)&& (noS x.s&& (noS x.t&& (decide (2≤x.kids.length)&& AP x.kids)))else Al x.op x.n x.s x.t x.kids.length&& Az x.kids)))
  (AL:Hid (∀ (W:World) (hb:Below w.heap.size w W),Calls Pq 158 #[kv,.func (.func 93) #[] #[]] W fun e w'=>e= .returned (.bool (Az x.kids))∧Below W.heap.size W w'))
  (ho:x.op=1):Calls Pq 93 #[ndV x kv] w fun e w'=>e= .returned (.bool (Ao x))∧Below w.heap.size w w':=by
 have hwg:=Aw x;have hlen:=AU x.kids;have hss:x.s.size≤1048576:=by omega
 have htt:x.t.size≤1048576:=by omega
 have hks:x.kids.length≤1048576:=by omega
 obtain⟨ka,kc,rfl⟩:=hr.form;unfold ndV;clear hr hwg hlen hl;generalize x.op=xop at*;generalize x.n=xn at*;generalize x.s=xs at*;generalize x.t=xt at*;generalize Ao x=px at*;generalize x.kids=ks at*;subst ho;have hW:=fun(W:World)=>Fb xn 0 1073741823 W;cases hqn:inB xn 0 1073741823 with
 |true=>
  rw[hqn]at hW;have hqn:=Aa (show B9 xn=true from hqn);by_cases hs:xs.toList=[]
  ·skip;by_cases ht:xt.toList=[]
   ·skip;by_cases k0:ks.length=0
    ·have k0b:((ks.length:Int)==0)=true:=by rw[BL];exact AN k0
     have k0':=Aa k0;clear k0;go_enter Tryz.func93,Tryz.ntmps93;go_wp2_with fail;go_quiet (fail);generalize hxx:World.drewN _ _=x0;obtain⟨bb,k1⟩:=Bx.allocD1 hxx;clear hxx;have q1:=k1.2.1;go_wp2_with fail;refine(hW _).mono ?_;rintro e w3 ⟨rfl,rfl⟩;go_wp2_with fail;clear q1;refine(AL.out _ bb).mono ?_;rintro e w8 ⟨rfl,b8⟩;replace bb:=bb.trans (b8.mono bb.size);go_wp2;go_ret;exact⟨Ae (by rw[HE.out];simp[Al,hqn.out,Ap hs,Ap ht,k0'.out]),bb⟩
    ·have k0b:((ks.length:Int)==0)=false:=by rw[BL];exact AG k0
     have k0':=Aa k0;clear k0;go_enter Tryz.func93,Tryz.ntmps93;go_wp2_with fail;go_quiet (fail);generalize hxx:World.drewN _ _=x0;obtain⟨bb,k1⟩:=Bx.allocD1 hxx;clear hxx;have q1:=k1.2.1;go_wp2_with fail;refine(hW _).mono ?_;rintro e w3 ⟨rfl,rfl⟩;go_wp2;go_ret;exact⟨Ae (by rw[HE.out];simp[Al,hqn.out,Ap hs,Ap ht,k0'.out]),bb⟩
   ·have hte:(ByteArray.toList xt).isEmpty=false:=by simp[ht]
    go_enter Tryz.func93,Tryz.ntmps93;go_wp2_with fail;go_quiet (fail);generalize hxx:World.drewN _ _=x0;obtain⟨bb,k1⟩:=Bx.allocD1 hxx;clear hxx;have q1:=k1.2.1;go_wp2_with fail;refine(hW _).mono ?_;rintro e w3 ⟨rfl,rfl⟩;go_wp2;go_ret;exact⟨Ae (by rw[HE.out];simp[Al,hqn.out,Ap hs,AM ht]),bb⟩
  ·have hse:(ByteArray.toList xs).isEmpty=false:=by simp[hs]
   go_enter Tryz.func93,Tryz.ntmps93;go_wp2_with fail;go_quiet (fail);generalize hxx:World.drewN _ _=x0;obtain⟨bb,k1⟩:=Bx.allocD1 hxx;clear hxx;have q1:=k1.2.1;go_wp2_with fail;refine(hW _).mono ?_;rintro e w3 ⟨rfl,rfl⟩;go_wp2;go_ret;exact⟨Ae (by rw[HE.out];simp[Al,hqn.out,AM hs]),bb⟩
 |false=>
  rw[hqn]at hW;have hqn:=Aa (show B9 xn=false from hqn);go_enter Tryz.func93,Tryz.ntmps93;go_wp2_with fail;go_quiet (fail);generalize hxx:World.drewN _ _=x0;obtain⟨bb,k1⟩:=Bx.allocD1 hxx;clear hxx;have q1:=k1.2.1;go_wp2_with fail;refine(hW _).mono ?_;rintro e w3 ⟨rfl,rfl⟩;go_wp2;go_ret;exact⟨Ae (by rw[HE.out];simp[Al,hqn.out]),bb⟩
theorem UD (x:Nd) (kv:Value) (B:Nat) (w:World) (hl:wgN x≤1048576) (hr:RdNs B w kv x.kids) (HE:Hid (Ao x= (if x.op=7 then decide (x.n=0)&& (noS x.s&& (noS x.t&& (decide (2≤x.kids.length)&& AP x.kids)))else Al x.op x.n x.s x.t x.kids.length&& Az x.kids)))
  (AL:Hid (∀ (W:World) (hb:Below w.heap.size w W),Calls Pq 158 #[kv,.func (.func 93) #[] #[]] W fun e w'=>e= .returned (.bool (Az x.kids))∧Below W.heap.size W w'))
  (ho:x.op=2):Calls Pq 93 #[ndV x kv] w fun e w'=>e= .returned (.bool (Ao x))∧Below w.heap.size w w':=by
 have hwg:=Aw x;have hlen:=AU x.kids;have hss:x.s.size≤1048576:=by omega
 have htt:x.t.size≤1048576:=by omega
 have hks:x.kids.length≤1048576:=by omega
 obtain⟨ka,kc,rfl⟩:=hr.form;unfold ndV;clear hr hwg hlen hl;generalize x.op=xop at*;generalize x.n=xn at*;generalize x.s=xs at*;generalize x.t=xt at*;generalize Ao x=px at*;generalize x.kids=ks at*;subst ho;have hS:=fun(W:World)=>Gf xs W hss;by_cases n0:xn=0
 ·subst n0;cases hqs:BC xs with
  |true=>
   rw[hqs]at hS;have hqs:=Aa hqs;by_cases ht:xt.toList=[]
   ·skip;by_cases k0:ks.length=0
    ·have k0b:((ks.length:Int)==0)=true:=by rw[BL];exact AN k0
     have k0':=Aa k0;clear k0;go_enter Tryz.func93,Tryz.ntmps93;go_wp2_with fail;go_quiet (fail);generalize hxx:World.drewN _ _=x0;obtain⟨bb,k1⟩:=Bx.allocD1 hxx;clear hxx;have q1:=k1.2.1;go_wp2_with fail;clear q1;refine(hS _).mono ?_;rintro e w3 ⟨rfl,b3⟩;replace k1:=k1.below b3 k1.1;replace bb:=bb.trans (b3.mono bb.size);clear b3;have q1:=k1.2.1;go_wp2_with fail;clear q1;refine(AL.out _ bb).mono ?_;rintro e w8 ⟨rfl,b8⟩;replace bb:=bb.trans (b8.mono bb.size);go_wp2;go_ret;exact⟨Ae (by rw[HE.out];simp[Al,hqs.out,Ap ht,k0'.out]),bb⟩
    ·have k0b:((ks.length:Int)==0)=false:=by rw[BL];exact AG k0
     have k0':=Aa k0;clear k0;go_enter Tryz.func93,Tryz.ntmps93;go_wp2_with fail;go_quiet (fail);generalize hxx:World.drewN _ _=x0;obtain⟨bb,k1⟩:=Bx.allocD1 hxx;clear hxx;have q1:=k1.2.1;go_wp2_with fail;clear q1;refine(hS _).mono ?_;rintro e w3 ⟨rfl,b3⟩;replace k1:=k1.below b3 k1.1;replace bb:=bb.trans (b3.mono bb.size);clear b3;have q1:=k1.2.1;go_wp2;go_ret;exact⟨Ae (by rw[HE.out];simp[Al,hqs.out,Ap ht,k0'.out]),bb⟩
   ·have hte:(ByteArray.toList xt).isEmpty=false:=by simp[ht]
    go_enter Tryz.func93,Tryz.ntmps93;go_wp2_with fail;go_quiet (fail);generalize hxx:World.drewN _ _=x0;obtain⟨bb,k1⟩:=Bx.allocD1 hxx;clear hxx;have q1:=k1.2.1;go_wp2_with fail;clear q1;refine(hS _).mono ?_;rintro e w3 ⟨rfl,b3⟩;replace k1:=k1.below b3 k1.1;replace bb:=bb.trans (b3.mono bb.size);clear b3;have q1:=k1.2.1;go_wp2;go_ret;exact⟨Ae (by rw[HE.out];simp[Al,hqs.out,AM ht]),bb⟩
  |false=>
   rw[hqs]at hS;have hqs:=Aa hqs;go_enter Tryz.func93,Tryz.ntmps93;go_wp2_with fail;go_quiet (fail);generalize hxx:World.drewN _ _=x0;obtain⟨bb,k1⟩:=Bx.allocD1 hxx;clear hxx;have q1:=k1.2.1;go_wp2_with fail;clear q1;refine(hS _).mono ?_;rintro e w3 ⟨rfl,b3⟩;replace k1:=k1.below b3 k1.1;replace bb:=bb.trans (b3.mono bb.size);clear b3;have q1:=k1.2.1;go_wp2;go_ret;exact⟨Ae (by rw[HE.out];simp[Al,hqs.out]),bb⟩
 ·have n0b:(xn==0)=false:=by simp[n0]
  go_enter Tryz.func93,Tryz.ntmps93;go_wp2_with fail;go_quiet (fail);generalize hxx:World.drewN _ _=x0;obtain⟨bb,k1⟩:=Bx.allocD1 hxx;clear hxx;have q1:=k1.2.1;go_wp2_with fail;clear q1;refine(hS _).mono ?_;rintro e w3 ⟨rfl,b3⟩;replace k1:=k1.below b3 k1.1;replace bb:=bb.trans (b3.mono bb.size);clear b3;have q1:=k1.2.1;go_wp2;go_ret;exact⟨Ae (by rw[HE.out];simp[Al,n0]),bb⟩
theorem UE (x:Nd) (kv:Value) (B:Nat) (w:World) (hl:wgN x≤1048576) (hr:RdNs B w kv x.kids) (HE:Hid (Ao x= (if x.op=7 then decide (x.n=0)&& (noS x.s&& (noS x.t&& (decide (2≤x.kids.length)&& AP x.kids)))else Al x.op x.n x.s x.t x.kids.length&& Az x.kids)))
  (AL:Hid (∀ (W:World) (hb:Below w.heap.size w W),Calls Pq 158 #[kv,.func (.func 93) #[] #[]] W fun e w'=>e= .returned (.bool (Az x.kids))∧Below W.heap.size W w'))
  (ho:x.op=3):Calls Pq 93 #[ndV x kv] w fun e w'=>e= .returned (.bool (Ao x))∧Below w.heap.size w w':=by
 have hwg:=Aw x;have hlen:=AU x.kids;have hss:x.s.size≤1048576:=by omega
 have htt:x.t.size≤1048576:=by omega
 have hks:x.kids.length≤1048576:=by omega
 obtain⟨ka,kc,rfl⟩:=hr.form;unfold ndV;clear hr hwg hlen hl;generalize x.op=xop at*;generalize x.n=xn at*;generalize x.s=xs at*;generalize x.t=xt at*;generalize Ao x=px at*;generalize x.kids=ks at*;subst ho;have hS:=fun(W:World)=>Gf xs W hss;by_cases n0:xn=0
 ·subst n0;cases hqs:BC xs with
  |true=>
   rw[hqs]at hS;have hqs:=Aa hqs;by_cases ht:xt.toList=[]
   ·skip;by_cases k0:ks.length=1
    ·have k0b:((ks.length:Int)==1)=true:=by rw[E9];exact AN k0
     have k0':=Aa k0;clear k0;go_enter Tryz.func93,Tryz.ntmps93;go_wp2_with fail;go_quiet (fail);generalize hxx:World.drewN _ _=x0;obtain⟨bb,k1⟩:=Bx.allocD1 hxx;clear hxx;have q1:=k1.2.1;go_wp2_with fail;clear q1;refine(hS _).mono ?_;rintro e w3 ⟨rfl,b3⟩;replace k1:=k1.below b3 k1.1;replace bb:=bb.trans (b3.mono bb.size);clear b3;have q1:=k1.2.1;go_wp2_with fail;clear q1;refine(AL.out _ bb).mono ?_;rintro e w8 ⟨rfl,b8⟩;replace bb:=bb.trans (b8.mono bb.size);go_wp2;go_ret;exact⟨Ae (by rw[HE.out];simp[Al,hqs.out,Ap ht,k0'.out]),bb⟩
    ·have k0b:((ks.length:Int)==1)=false:=by rw[E9];exact AG k0
     have k0':=Aa k0;clear k0;go_enter Tryz.func93,Tryz.ntmps93;go_wp2_with fail;go_quiet (fail);generalize hxx:World.drewN _ _=x0;obtain⟨bb,k1⟩:=Bx.allocD1 hxx;clear hxx;have q1:=k1.2.1;go_wp2_with fail;clear q1;refine(hS _).mono ?_;rintro e w3 ⟨rfl,b3⟩;replace k1:=k1.below b3 k1.1;replace bb:=bb.trans (b3.mono bb.size);clear b3;have q1:=k1.2.1;go_wp2;go_ret;exact⟨Ae (by rw[HE.out];simp[Al,hqs.out,Ap ht,k0'.out]),bb⟩
   ·have hte:(ByteArray.toList xt).isEmpty=false:=by simp[ht]
    go_enter Tryz.func93,Tryz.ntmps93;go_wp2_with fail;go_quiet (fail);generalize hxx:World.drewN _ _=x0;obtain⟨bb,k1⟩:=Bx.allocD1 hxx;clear hxx;have q1:=k1.2.1;go_wp2_with fail;clear q1;refine(hS _).mono ?_;rintro e w3 ⟨rfl,b3⟩;replace k1:=k1.below b3 k1.1;replace bb:=bb.trans (b3.mono bb.size);clear b3;have q1:=k1.2.1;go_wp2;go_ret;exact⟨Ae (by rw[HE.out];simp[Al,hqs.out,AM ht]),bb⟩
  |false=>
   rw[hqs]at hS;have hqs:=Aa hqs;go_enter Tryz.func93,Tryz.ntmps93;go_wp2_with fail;go_quiet (fail);generalize hxx:World.drewN _ _=x0;obtain⟨bb,k1⟩:=Bx.allocD1 hxx;clear hxx;have q1:=k1.2.1;go_wp2_with fail;clear q1;refine(hS _).mono ?_;rintro e w3 ⟨rfl,b3⟩;replace k1:=k1.below b3 k1.1;replace bb:=bb.trans (b3.mono bb.size);clear b3;have q1:=k1.2.1;go_wp2;go_ret;exact⟨Ae (by rw[HE.out];simp[Al,hqs.out]),bb⟩
 ·have n0b:(xn==0)=false:=by simp[n0]
  go_enter Tryz.func93,Tryz.ntmps93;go_wp2_with fail;go_quiet (fail);generalize hxx:World.drewN _ _=x0;obtain⟨bb,k1⟩:=Bx.allocD1 hxx;clear hxx;have q1:=k1.2.1;go_wp2_with fail;clear q1;refine(hS _).mono ?_;rintro e w3 ⟨rfl,b3⟩;replace k1:=k1.below b3 k1.1;replace bb:=bb.trans (b3.mono bb.size);clear b3;have q1:=k1.2.1;go_wp2;go_ret;exact⟨Ae (by rw[HE.out];simp[Al,n0]),bb⟩
theorem UF (x:Nd) (kv:Value) (B:Nat) (w:World) (hl:wgN x≤1048576) (hr:RdNs B w kv x.kids) (HE:Hid (Ao x= (if x.op=7 then decide (x.n=0)&& (noS x.s&& (noS x.t&& (decide (2≤x.kids.length)&& AP x.kids)))else Al x.op x.n x.s x.t x.kids.length&& Az x.kids)))
  (AL:Hid (∀ (W:World) (hb:Below w.heap.size w W),Calls Pq 158 #[kv,.func (.func 93) #[] #[]] W fun e w'=>e= .returned (.bool (Az x.kids))∧Below W.heap.size W w'))
  (ho:x.op=16):Calls Pq 93 #[ndV x kv] w fun e w'=>e= .returned (.bool (Ao x))∧Below w.heap.size w w':=by
 have hwg:=Aw x;have hlen:=AU x.kids;have hss:x.s.size≤1048576:=by omega
 have htt:x.t.size≤1048576:=by omega
 have hks:x.kids.length≤1048576:=by omega
 obtain⟨ka,kc,rfl⟩:=hr.form;unfold ndV;clear hr hwg hlen hl;generalize x.op=xop at*;generalize x.n=xn at*;generalize x.s=xs at*;generalize x.t=xt at*;generalize Ao x=px at*;generalize x.kids=ks at*;subst ho;by_cases n0:xn=0
 ·subst n0;by_cases hs:xs.toList=[]
  ·skip;by_cases ht:xt.toList=[]
   ·skip;by_cases k0:ks.length=1
    ·have k0b:((ks.length:Int)==1)=true:=by rw[E9];exact AN k0
     have k0':=Aa k0;clear k0;go_enter Tryz.func93,Tryz.ntmps93;go_wp2_with fail;go_quiet (fail);generalize hxx:World.drewN _ _=x0;obtain⟨bb,k1⟩:=Bx.allocD1 hxx;clear hxx;have q1:=k1.2.1;go_wp2_with fail;clear q1;refine(AL.out _ bb).mono ?_;rintro e w8 ⟨rfl,b8⟩;replace bb:=bb.trans (b8.mono bb.size);go_wp2;go_ret;exact⟨Ae (by rw[HE.out];simp[Al,Ap hs,Ap ht,k0'.out]),bb⟩
    ·have k0b:((ks.length:Int)==1)=false:=by rw[E9];exact AG k0
     have k0':=Aa k0;clear k0;go_enter Tryz.func93,Tryz.ntmps93;go_wp2_with fail;go_quiet (fail);generalize hxx:World.drewN _ _=x0;obtain⟨bb,k1⟩:=Bx.allocD1 hxx;clear hxx;have q1:=k1.2.1;go_wp2;go_ret;exact⟨Ae (by rw[HE.out];simp[Al,Ap hs,Ap ht,k0'.out]),bb⟩
   ·have hte:(ByteArray.toList xt).isEmpty=false:=by simp[ht]
    go_enter Tryz.func93,Tryz.ntmps93;go_wp2_with fail;go_quiet (fail);generalize hxx:World.drewN _ _=x0;obtain⟨bb,k1⟩:=Bx.allocD1 hxx;clear hxx;have q1:=k1.2.1;go_wp2;go_ret;exact⟨Ae (by rw[HE.out];simp[Al,Ap hs,AM ht]),bb⟩
  ·have hse:(ByteArray.toList xs).isEmpty=false:=by simp[hs]
   go_enter Tryz.func93,Tryz.ntmps93;go_wp2_with fail;go_quiet (fail);generalize hxx:World.drewN _ _=x0;obtain⟨bb,k1⟩:=Bx.allocD1 hxx;clear hxx;have q1:=k1.2.1;go_wp2;go_ret;exact⟨Ae (by rw[HE.out];simp[Al,AM hs]),bb⟩
 ·have n0b:(xn==0)=false:=by simp[n0]
  go_enter Tryz.func93,Tryz.ntmps93;go_wp2_with fail;go_quiet (fail);generalize hxx:World.drewN _ _=x0;obtain⟨bb,k1⟩:=Bx.allocD1 hxx;clear hxx;have q1:=k1.2.1;go_wp2;go_ret;exact⟨Ae (by rw[HE.out];simp[Al,n0]),bb⟩
theorem Bx.allocD2 {w x:World}{cur:Array Value}{e:TypeId}{n:Nat}(h:(w.alloc (.cells cur e)).drewN n=x):Below w.heap.size w x∧Bx x w.heap.size cur:=by
 subst h;obtain⟨b1,k1⟩:=Bx.alloc (w:=w) (cur:=cur) (e:=e) rfl;have b2:Below (w.alloc (.cells cur e)).heap.size (w.alloc (.cells cur e)) ((w.alloc (.cells cur e)).drewN n):=Still.below ⟨n,rfl⟩ _;exact⟨b1.trans (b2.mono b1.size),k1.below b2 k1.1⟩
theorem UG (x:Nd) (kv:Value) (B:Nat) (w:World) (hl:wgN x≤1048576) (hr:RdNs B w kv x.kids) (HE:Hid (Ao x= (if x.op=7 then decide (x.n=0)&& (noS x.s&& (noS x.t&& (decide (2≤x.kids.length)&& AP x.kids)))else Al x.op x.n x.s x.t x.kids.length&& Az x.kids)))
  (AL:Hid (∀ (W:World) (hb:Below w.heap.size w W),Calls Pq 158 #[kv,.func (.func 93) #[] #[]] W fun e w'=>e= .returned (.bool (Az x.kids))∧Below W.heap.size W w'))
  (ho:x.op=5):Calls Pq 93 #[ndV x kv] w fun e w'=>e= .returned (.bool (Ao x))∧Below w.heap.size w w':=by
 have hwg:=Aw x;have hlen:=AU x.kids;have hss:x.s.size≤1048576:=by omega
 have htt:x.t.size≤1048576:=by omega
 have hks:x.kids.length≤1048576:=by omega
 obtain⟨ka,kc,rfl⟩:=hr.form;unfold ndV;clear hr hwg hlen hl;generalize x.op=xop at*;generalize x.n=xn at*;generalize x.s=xs at*;generalize x.t=xt at*;generalize Ao x=px at*;generalize x.kids=ks at*;subst ho;have hS:=fun(W:World)=>Gf xs W hss;by_cases n0:xn=0
 ·subst n0;cases hqs:BC xs with
  |true=>
   rw[hqs]at hS;have hqs:=Aa hqs;by_cases ht:xt.toList=[]
   ·skip;by_cases k0:ks.length=2
    ·have k0b:((ks.length:Int)==2)=true:=by rw[Bw];exact AN k0
     have k0':=Aa k0;clear k0;go_enter Tryz.func93,Tryz.ntmps93;go_wp2_with fail;go_quiet (fail);generalize hxx:World.drewN _ _=x0;obtain⟨bb,k1⟩:=Bx.allocD2 hxx;clear hxx;have q1:=k1.2.1;go_wp2_with fail;clear q1;refine(hS _).mono ?_;rintro e w3 ⟨rfl,b3⟩;replace k1:=k1.below b3 k1.1;replace bb:=bb.trans (b3.mono bb.size);clear b3;have q1:=k1.2.1;go_wp2_with fail;clear q1;refine(AL.out _ bb).mono ?_;rintro e w8 ⟨rfl,b8⟩;replace bb:=bb.trans (b8.mono bb.size);go_wp2;go_ret;exact⟨Ae (by rw[HE.out];simp[Al,hqs.out,Ap ht,k0'.out]),bb⟩
    ·have k0b:((ks.length:Int)==2)=false:=by rw[Bw];exact AG k0
     have k0':=Aa k0;clear k0;go_enter Tryz.func93,Tryz.ntmps93;go_wp2_with fail;go_quiet (fail);generalize hxx:World.drewN _ _=x0;obtain⟨bb,k1⟩:=Bx.allocD2 hxx;clear hxx;have q1:=k1.2.1;go_wp2_with fail;clear q1;refine(hS _).mono ?_;rintro e w3 ⟨rfl,b3⟩;replace k1:=k1.below b3 k1.1;replace bb:=bb.trans (b3.mono bb.size);clear b3;have q1:=k1.2.1;go_wp2;go_ret;exact⟨Ae (by rw[HE.out];simp[Al,hqs.out,Ap ht,k0'.out]),bb⟩
   ·have hte:(ByteArray.toList xt).isEmpty=false:=by simp[ht]
    go_enter Tryz.func93,Tryz.ntmps93;go_wp2_with fail;go_quiet (fail);generalize hxx:World.drewN _ _=x0;obtain⟨bb,k1⟩:=Bx.allocD2 hxx;clear hxx;have q1:=k1.2.1;go_wp2_with fail;clear q1;refine(hS _).mono ?_;rintro e w3 ⟨rfl,b3⟩;replace k1:=k1.below b3 k1.1;replace bb:=bb.trans (b3.mono bb.size);clear b3;have q1:=k1.2.1;go_wp2;go_ret;exact⟨Ae (by rw[HE.out];simp[Al,hqs.out,AM ht]),bb⟩
  |false=>
   rw[hqs]at hS;have hqs:=Aa hqs;go_enter Tryz.func93,Tryz.ntmps93;go_wp2_with fail;go_quiet (fail);generalize hxx:World.drewN _ _=x0;obtain⟨bb,k1⟩:=Bx.allocD2 hxx;clear hxx;have q1:=k1.2.1;go_wp2_with fail;clear q1;refine(hS _).mono ?_;rintro e w3 ⟨rfl,b3⟩;replace k1:=k1.below b3 k1.1;replace bb:=bb.trans (b3.mono bb.size);clear b3;have q1:=k1.2.1;go_wp2;go_ret;exact⟨Ae (by rw[HE.out];simp[Al,hqs.out]),bb⟩
 ·have n0b:(xn==0)=false:=by simp[n0]
  go_enter Tryz.func93,Tryz.ntmps93;go_wp2_with fail;go_quiet (fail);generalize hxx:World.drewN _ _=x0;obtain⟨bb,k1⟩:=Bx.allocD2 hxx;clear hxx;have q1:=k1.2.1;go_wp2_with fail;clear q1;refine(hS _).mono ?_;rintro e w3 ⟨rfl,b3⟩;replace k1:=k1.below b3 k1.1;replace bb:=bb.trans (b3.mono bb.size);clear b3;have q1:=k1.2.1;go_wp2;go_ret;exact⟨Ae (by rw[HE.out];simp[Al,n0]),bb⟩
theorem UH (x:Nd) (kv:Value) (B:Nat) (w:World) (hl:wgN x≤1048576) (hr:RdNs B w kv x.kids) (HE:Hid (Ao x= (if x.op=7 then decide (x.n=0)&& (noS x.s&& (noS x.t&& (decide (2≤x.kids.length)&& AP x.kids)))else Al x.op x.n x.s x.t x.kids.length&& Az x.kids)))
  (AL:Hid (∀ (W:World) (hb:Below w.heap.size w W),Calls Pq 158 #[kv,.func (.func 93) #[] #[]] W fun e w'=>e= .returned (.bool (Az x.kids))∧Below W.heap.size W w'))
  (ho:x.op=6):Calls Pq 93 #[ndV x kv] w fun e w'=>e= .returned (.bool (Ao x))∧Below w.heap.size w w':=by
 have hwg:=Aw x;have hlen:=AU x.kids;have hss:x.s.size≤1048576:=by omega
 have htt:x.t.size≤1048576:=by omega
 have hks:x.kids.length≤1048576:=by omega
 obtain⟨ka,kc,rfl⟩:=hr.form;unfold ndV;clear hr hwg hlen hl;generalize x.op=xop at*;generalize x.n=xn at*;generalize x.s=xs at*;generalize x.t=xt at*;generalize Ao x=px at*;generalize x.kids=ks at*;subst ho;have hS:=fun(W:World)=>Gf xs W hss;have hT:=fun(W:World)=>Gf xt W htt;by_cases n0:xn=0
 ·subst n0;cases hqs:BC xs with
  |true=>
   rw[hqs]at hS;have hqs:=Aa hqs;cases hqt:BC xt with
   |true=>
    rw[hqt]at hT;have hqt:=Aa hqt;by_cases k0:ks.length=2
    ·have k0b:((ks.length:Int)==2)=true:=by rw[Bw];exact AN k0
     have k0':=Aa k0;clear k0;go_enter Tryz.func93,Tryz.ntmps93;go_wp2_with fail;go_quiet (fail);generalize hxx:World.drewN _ _=x0;obtain⟨bb,k1⟩:=Bx.allocD2 hxx;clear hxx;have q1:=k1.2.1;go_wp2_with fail;have HQ:=Aa (fun(W:World) (hb:Below x0.heap.size x0 W)=>(⟨(k1.below hb k1.1).2.1 2,(k1.below hb k1.1).2.1 3⟩:W.cell? ⟨w.heap.size,2,none⟩=some (.string xs)∧W.cell? ⟨w.heap.size,3,none⟩=some (.string xt)));clear q1;refine wp_region_held_drew (S:=(fun W=>W.cell? ⟨w.heap.size,2,none⟩=some (.string xs)∧W.cell? ⟨w.heap.size,3,none⟩=some (.string xt))) (by kernel_rfl) (by first | (dsimp only;exact HQ.out _ (Below.refl _ _).drew) | (exact HQ.out _ (Below.refl _ _).drew)) (fun hHeld=> ?_);generalize hxd:World.drew _=x1 at hHeld ⊢;have hd1:Below x0.heap.size x0 x1:=by rw[←hxd];exact(Ac _ _).drew
     clear hxd;refine tkH (i:=0) ?_;refine tkH (i:=1) ?_;refine tkH (i:=3) ?_;refine tkH (i:=4) ?_;refine rdH (i:=2) (fun K hK=> ?_);go_simp;refine(hS x1).mono ?_;rintro e w6 ⟨rfl,b6⟩;replace b6:=hd1.trans (b6.mono hd1.size);refine bkH hK (by first | (dsimp only;exact HQ.out _ b6) | (exact HQ.out _ b6)) (fun hHeld=> ?_);clear hK K;refine rdH (i:=5) (fun K hK=> ?_);go_simp;refine(hT w6).mono ?_;rintro e w7 ⟨rfl,b7⟩;replace b7:=b6.trans (b7.mono b6.size);refine bkH hK (by first | (dsimp only;exact HQ.out _ b7) | (exact HQ.out _ b7)) (fun hHeld=> ?_);clear hK K;refine tkH (i:=6) ?_;refine tkH (i:=7) ?_;refine tkH (i:=8) ?_;refine Bs (by kernel_rfl) ?_ _;replace k1:=k1.below b7 k1.1;replace bb:=bb.trans (b7.mono bb.size);clear b6 b7 hd1;have q1:=k1.2.1;go_wp2_with fail;clear q1;refine(AL.out _ bb).mono ?_;rintro e w8 ⟨rfl,b8⟩;replace bb:=bb.trans (b8.mono bb.size);go_wp2;go_ret;exact⟨Ae (by rw[HE.out];simp[Al,hqs.out,hqt.out,k0'.out]),bb⟩
    ·have k0b:((ks.length:Int)==2)=false:=by rw[Bw];exact AG k0
     have k0':=Aa k0;clear k0;go_enter Tryz.func93,Tryz.ntmps93;go_wp2_with fail;go_quiet (fail);generalize hxx:World.drewN _ _=x0;obtain⟨bb,k1⟩:=Bx.allocD2 hxx;clear hxx;have q1:=k1.2.1;go_wp2_with fail;have HQ:=Aa (fun(W:World) (hb:Below x0.heap.size x0 W)=>(⟨(k1.below hb k1.1).2.1 2,(k1.below hb k1.1).2.1 3⟩:W.cell? ⟨w.heap.size,2,none⟩=some (.string xs)∧W.cell? ⟨w.heap.size,3,none⟩=some (.string xt)));clear q1;refine wp_region_held_drew (S:=(fun W=>W.cell? ⟨w.heap.size,2,none⟩=some (.string xs)∧W.cell? ⟨w.heap.size,3,none⟩=some (.string xt))) (by kernel_rfl) (by first | (dsimp only;exact HQ.out _ (Below.refl _ _).drew) | (exact HQ.out _ (Below.refl _ _).drew)) (fun hHeld=> ?_);generalize hxd:World.drew _=x1 at hHeld ⊢;have hd1:Below x0.heap.size x0 x1:=by rw[←hxd];exact(Ac _ _).drew
     clear hxd;refine tkH (i:=0) ?_;refine tkH (i:=1) ?_;refine tkH (i:=3) ?_;refine tkH (i:=4) ?_;refine rdH (i:=2) (fun K hK=> ?_);go_simp;refine(hS x1).mono ?_;rintro e w6 ⟨rfl,b6⟩;replace b6:=hd1.trans (b6.mono hd1.size);refine bkH hK (by first | (dsimp only;exact HQ.out _ b6) | (exact HQ.out _ b6)) (fun hHeld=> ?_);clear hK K;refine rdH (i:=5) (fun K hK=> ?_);go_simp;refine(hT w6).mono ?_;rintro e w7 ⟨rfl,b7⟩;replace b7:=b6.trans (b7.mono b6.size);refine bkH hK (by first | (dsimp only;exact HQ.out _ b7) | (exact HQ.out _ b7)) (fun hHeld=> ?_);clear hK K;refine tkH (i:=6) ?_;refine tkH (i:=7) ?_;refine tkH (i:=8) ?_;refine Bs (by kernel_rfl) ?_ _;replace k1:=k1.below b7 k1.1;replace bb:=bb.trans (b7.mono bb.size);clear b6 b7 hd1;have q1:=k1.2.1;go_wp2;go_ret;exact⟨Ae (by rw[HE.out];simp[Al,hqs.out,hqt.out,k0'.out]),bb⟩
   |false=>
    rw[hqt]at hT;have hqt:=Aa hqt;go_enter Tryz.func93,Tryz.ntmps93;go_wp2_with fail;go_quiet (fail);generalize hxx:World.drewN _ _=x0;obtain⟨bb,k1⟩:=Bx.allocD2 hxx;clear hxx;have q1:=k1.2.1;go_wp2_with fail;have HQ:=Aa (fun(W:World) (hb:Below x0.heap.size x0 W)=>(⟨(k1.below hb k1.1).2.1 2,(k1.below hb k1.1).2.1 3⟩:W.cell? ⟨w.heap.size,2,none⟩=some (.string xs)∧W.cell? ⟨w.heap.size,3,none⟩=some (.string xt)));clear q1;refine wp_region_held_drew (S:=(fun W=>W.cell? ⟨w.heap.size,2,none⟩=some (.string xs)∧W.cell? ⟨w.heap.size,3,none⟩=some (.string xt))) (by kernel_rfl) (by first | (dsimp only;exact HQ.out _ (Below.refl _ _).drew) | (exact HQ.out _ (Below.refl _ _).drew)) (fun hHeld=> ?_);generalize hxd:World.drew _=x1 at hHeld ⊢;have hd1:Below x0.heap.size x0 x1:=by rw[←hxd];exact(Ac _ _).drew
    clear hxd;refine tkH (i:=0) ?_;refine tkH (i:=1) ?_;refine tkH (i:=3) ?_;refine tkH (i:=4) ?_;refine rdH (i:=2) (fun K hK=> ?_);go_simp;refine(hS x1).mono ?_;rintro e w6 ⟨rfl,b6⟩;replace b6:=hd1.trans (b6.mono hd1.size);refine bkH hK (by first | (dsimp only;exact HQ.out _ b6) | (exact HQ.out _ b6)) (fun hHeld=> ?_);clear hK K;refine rdH (i:=5) (fun K hK=> ?_);go_simp;refine(hT w6).mono ?_;rintro e w7 ⟨rfl,b7⟩;replace b7:=b6.trans (b7.mono b6.size);refine bkH hK (by first | (dsimp only;exact HQ.out _ b7) | (exact HQ.out _ b7)) (fun hHeld=> ?_);clear hK K;refine tkH (i:=6) ?_;refine tkH (i:=7) ?_;refine tkH (i:=8) ?_;refine Bs (by kernel_rfl) ?_ _;replace k1:=k1.below b7 k1.1;replace bb:=bb.trans (b7.mono bb.size);clear b6 b7 hd1;have q1:=k1.2.1;go_wp2;go_ret;exact⟨Ae (by rw[HE.out];simp[Al,hqs.out,hqt.out]),bb⟩
  |false=>
   rw[hqs]at hS;have hqs:=Aa hqs;go_enter Tryz.func93,Tryz.ntmps93;go_wp2_with fail;go_quiet (fail);generalize hxx:World.drewN _ _=x0;obtain⟨bb,k1⟩:=Bx.allocD2 hxx;clear hxx;have q1:=k1.2.1;go_wp2_with fail;have HQ:=Aa (fun(W:World) (hb:Below x0.heap.size x0 W)=>(⟨(k1.below hb k1.1).2.1 2,(k1.below hb k1.1).2.1 3⟩:W.cell? ⟨w.heap.size,2,none⟩=some (.string xs)∧W.cell? ⟨w.heap.size,3,none⟩=some (.string xt)));clear q1;refine wp_region_held_drew (S:=(fun W=>W.cell? ⟨w.heap.size,2,none⟩=some (.string xs)∧W.cell? ⟨w.heap.size,3,none⟩=some (.string xt))) (by kernel_rfl) (by first | (dsimp only;exact HQ.out _ (Below.refl _ _).drew) | (exact HQ.out _ (Below.refl _ _).drew)) (fun hHeld=> ?_);generalize hxd:World.drew _=x1 at hHeld ⊢;have hd1:Below x0.heap.size x0 x1:=by rw[←hxd];exact(Ac _ _).drew
   clear hxd;refine tkH (i:=0) ?_;refine tkH (i:=1) ?_;refine tkH (i:=3) ?_;refine tkH (i:=4) ?_;refine rdH (i:=2) (fun K hK=> ?_);go_simp;refine(hS x1).mono ?_;rintro e w6 ⟨rfl,b6⟩;replace b6:=hd1.trans (b6.mono hd1.size);refine bkH hK (by first | (dsimp only;exact HQ.out _ b6) | (exact HQ.out _ b6)) (fun hHeld=> ?_);clear hK K;refine rdH (i:=5) (fun K hK=> ?_);go_simp;refine(hT w6).mono ?_;rintro e w7 ⟨rfl,b7⟩;replace b7:=b6.trans (b7.mono b6.size);refine bkH hK (by first | (dsimp only;exact HQ.out _ b7) | (exact HQ.out _ b7)) (fun hHeld=> ?_);clear hK K;refine tkH (i:=6) ?_;refine tkH (i:=7) ?_;refine tkH (i:=8) ?_;refine Bs (by kernel_rfl) ?_ _;replace k1:=k1.below b7 k1.1;replace bb:=bb.trans (b7.mono bb.size);clear b6 b7 hd1;have q1:=k1.2.1;go_wp2;go_ret;exact⟨Ae (by rw[HE.out];simp[Al,hqs.out]),bb⟩
 ·have n0b:(xn==0)=false:=by simp[n0]
  go_enter Tryz.func93,Tryz.ntmps93;go_wp2_with fail;go_quiet (fail);generalize hxx:World.drewN _ _=x0;obtain⟨bb,k1⟩:=Bx.allocD2 hxx;clear hxx;have q1:=k1.2.1;go_wp2_with fail;have HQ:=Aa (fun(W:World) (hb:Below x0.heap.size x0 W)=>(⟨(k1.below hb k1.1).2.1 2,(k1.below hb k1.1).2.1 3⟩:W.cell? ⟨w.heap.size,2,none⟩=some (.string xs)∧W.cell? ⟨w.heap.size,3,none⟩=some (.string xt)));clear q1;refine wp_region_held_drew (S:=(fun W=>W.cell? ⟨w.heap.size,2,none⟩=some (.string xs)∧W.cell? ⟨w.heap.size,3,none⟩=some (.string xt))) (by kernel_rfl) (by first | (dsimp only;exact HQ.out _ (Below.refl _ _).drew) | (exact HQ.out _ (Below.refl _ _).drew)) (fun hHeld=> ?_);generalize hxd:World.drew _=x1 at hHeld ⊢;have hd1:Below x0.heap.size x0 x1:=by rw[←hxd];exact(Ac _ _).drew
  clear hxd;refine tkH (i:=0) ?_;refine tkH (i:=1) ?_;refine tkH (i:=3) ?_;refine tkH (i:=4) ?_;refine rdH (i:=2) (fun K hK=> ?_);go_simp;refine(hS x1).mono ?_;rintro e w6 ⟨rfl,b6⟩;replace b6:=hd1.trans (b6.mono hd1.size);refine bkH hK (by first | (dsimp only;exact HQ.out _ b6) | (exact HQ.out _ b6)) (fun hHeld=> ?_);clear hK K;refine rdH (i:=5) (fun K hK=> ?_);go_simp;refine(hT w6).mono ?_;rintro e w7 ⟨rfl,b7⟩;replace b7:=b6.trans (b7.mono b6.size);refine bkH hK (by first | (dsimp only;exact HQ.out _ b7) | (exact HQ.out _ b7)) (fun hHeld=> ?_);clear hK K;refine tkH (i:=6) ?_;refine tkH (i:=7) ?_;refine tkH (i:=8) ?_;refine Bs (by kernel_rfl) ?_ _;replace k1:=k1.below b7 k1.1;replace bb:=bb.trans (b7.mono bb.size);clear b6 b7 hd1;have q1:=k1.2.1;go_wp2;go_ret;exact⟨Ae (by rw[HE.out];simp[Al,n0]),bb⟩
theorem UI (x:Nd) (kv:Value) (B:Nat) (w:World) (hl:wgN x≤1048576) (hr:RdNs B w kv x.kids) (HE:Hid (Ao x= (if x.op=7 then decide (x.n=0)&& (noS x.s&& (noS x.t&& (decide (2≤x.kids.length)&& AP x.kids)))else Al x.op x.n x.s x.t x.kids.length&& Az x.kids)))
  (AL:Hid (∀ (W:World) (hb:Below w.heap.size w W),Calls Pq 158 #[kv,.func (.func 93) #[] #[]] W fun e w'=>e= .returned (.bool (Az x.kids))∧Below W.heap.size W w'))
  (ho:x.op=9):Calls Pq 93 #[ndV x kv] w fun e w'=>e= .returned (.bool (Ao x))∧Below w.heap.size w w':=by
 have hwg:=Aw x;have hlen:=AU x.kids;have hss:x.s.size≤1048576:=by omega
 have htt:x.t.size≤1048576:=by omega
 have hks:x.kids.length≤1048576:=by omega
 obtain⟨ka,kc,rfl⟩:=hr.form;unfold ndV;clear hr hwg hlen hl;generalize x.op=xop at*;generalize x.n=xn at*;generalize x.s=xs at*;generalize x.t=xt at*;generalize Ao x=px at*;generalize x.kids=ks at*;subst ho;by_cases n0:xn=0
 ·subst n0;by_cases hs:xs.toList=[]
  ·skip;by_cases ht:xt.toList=[]
   ·skip;by_cases k0:ks.length=3
    ·have k0b:((ks.length:Int)==3)=true:=by rw[IT];exact AN k0
     have k0':=Aa k0;clear k0;go_enter Tryz.func93,Tryz.ntmps93;go_wp2_with fail;go_quiet (fail);generalize hxx:World.drewN _ _=x0;obtain⟨bb,k1⟩:=Bx.allocD2 hxx;clear hxx;have q1:=k1.2.1;go_wp2_with fail;clear q1;refine(AL.out _ bb).mono ?_;rintro e w8 ⟨rfl,b8⟩;replace bb:=bb.trans (b8.mono bb.size);go_wp2;go_ret;exact⟨Ae (by rw[HE.out];simp[Al,Ap hs,Ap ht,k0'.out]),bb⟩
    ·have k0b:((ks.length:Int)==3)=false:=by rw[IT];exact AG k0
     have k0':=Aa k0;clear k0;go_enter Tryz.func93,Tryz.ntmps93;go_wp2_with fail;go_quiet (fail);generalize hxx:World.drewN _ _=x0;obtain⟨bb,k1⟩:=Bx.allocD2 hxx;clear hxx;have q1:=k1.2.1;go_wp2;go_ret;exact⟨Ae (by rw[HE.out];simp[Al,Ap hs,Ap ht,k0'.out]),bb⟩
   ·have hte:(ByteArray.toList xt).isEmpty=false:=by simp[ht]
    go_enter Tryz.func93,Tryz.ntmps93;go_wp2_with fail;go_quiet (fail);generalize hxx:World.drewN _ _=x0;obtain⟨bb,k1⟩:=Bx.allocD2 hxx;clear hxx;have q1:=k1.2.1;go_wp2;go_ret;exact⟨Ae (by rw[HE.out];simp[Al,Ap hs,AM ht]),bb⟩
  ·have hse:(ByteArray.toList xs).isEmpty=false:=by simp[hs]
   go_enter Tryz.func93,Tryz.ntmps93;go_wp2_with fail;go_quiet (fail);generalize hxx:World.drewN _ _=x0;obtain⟨bb,k1⟩:=Bx.allocD2 hxx;clear hxx;have q1:=k1.2.1;go_wp2;go_ret;exact⟨Ae (by rw[HE.out];simp[Al,AM hs]),bb⟩
 ·have n0b:(xn==0)=false:=by simp[n0]
  go_enter Tryz.func93,Tryz.ntmps93;go_wp2_with fail;go_quiet (fail);generalize hxx:World.drewN _ _=x0;obtain⟨bb,k1⟩:=Bx.allocD2 hxx;clear hxx;have q1:=k1.2.1;go_wp2;go_ret;exact⟨Ae (by rw[HE.out];simp[Al,n0]),bb⟩
theorem Bx.allocD3 {w x:World}{cur:Array Value}{e:TypeId}{n:Nat}(h:(w.alloc (.cells cur e)).drewN n=x):Below w.heap.size w x∧Bx x w.heap.size cur:=by
 subst h;obtain⟨b1,k1⟩:=Bx.alloc (w:=w) (cur:=cur) (e:=e) rfl;have b2:Below (w.alloc (.cells cur e)).heap.size (w.alloc (.cells cur e)) ((w.alloc (.cells cur e)).drewN n):=Still.below ⟨n,rfl⟩ _;exact⟨b1.trans (b2.mono b1.size),k1.below b2 k1.1⟩
theorem UJ (x:Nd) (kv:Value) (B:Nat) (w:World) (hl:wgN x≤1048576) (hr:RdNs B w kv x.kids) (HE:Hid (Ao x= (if x.op=7 then decide (x.n=0)&& (noS x.s&& (noS x.t&& (decide (2≤x.kids.length)&& AP x.kids)))else Al x.op x.n x.s x.t x.kids.length&& Az x.kids)))
  (AL:Hid (∀ (W:World) (hb:Below w.heap.size w W),Calls Pq 158 #[kv,.func (.func 93) #[] #[]] W fun e w'=>e= .returned (.bool (Az x.kids))∧Below W.heap.size W w'))
  (ho:x.op=4):Calls Pq 93 #[ndV x kv] w fun e w'=>e= .returned (.bool (Ao x))∧Below w.heap.size w w':=by
 have hwg:=Aw x;have hlen:=AU x.kids;have hss:x.s.size≤1048576:=by omega
 have htt:x.t.size≤1048576:=by omega
 have hks:x.kids.length≤1048576:=by omega
 obtain⟨ka,kc,rfl⟩:=hr.form;unfold ndV;clear hr hwg hlen hl;generalize x.op=xop at*;generalize x.n=xn at*;generalize x.s=xs at*;generalize x.t=xt at*;generalize Ao x=px at*;generalize x.kids=ks at*;subst ho;by_cases n0:xn=0
 ·subst n0;by_cases hs:xs.toList=[]
  ·skip;by_cases ht:xt.toList=[]
   ·skip;by_cases k0:ks.length=2
    ·have k0b:((ks.length:Int)==2)=true:=by rw[Bw];exact AN k0
     have k0':=Aa k0;clear k0;go_enter Tryz.func93,Tryz.ntmps93;go_wp2_with fail;go_quiet (fail);generalize hxx:World.drewN _ _=x0;obtain⟨bb,k1⟩:=Bx.allocD3 hxx;clear hxx;have q1:=k1.2.1;go_wp2_with fail;clear q1;refine(AL.out _ bb).mono ?_;rintro e w8 ⟨rfl,b8⟩;replace bb:=bb.trans (b8.mono bb.size);go_wp2;go_ret;exact⟨Ae (by rw[HE.out];simp[Al,Ap hs,Ap ht,k0'.out]),bb⟩
    ·have k0b:((ks.length:Int)==2)=false:=by rw[Bw];exact AG k0
     have k0':=Aa k0;clear k0;go_enter Tryz.func93,Tryz.ntmps93;go_wp2_with fail;go_quiet (fail);generalize hxx:World.drewN _ _=x0;obtain⟨bb,k1⟩:=Bx.allocD3 hxx;clear hxx;have q1:=k1.2.1;go_wp2;go_ret;exact⟨Ae (by rw[HE.out];simp[Al,Ap hs,Ap ht,k0'.out]),bb⟩
   ·have hte:(ByteArray.toList xt).isEmpty=false:=by simp[ht]
    go_enter Tryz.func93,Tryz.ntmps93;go_wp2_with fail;go_quiet (fail);generalize hxx:World.drewN _ _=x0;obtain⟨bb,k1⟩:=Bx.allocD3 hxx;clear hxx;have q1:=k1.2.1;go_wp2;go_ret;exact⟨Ae (by rw[HE.out];simp[Al,Ap hs,AM ht]),bb⟩
  ·have hse:(ByteArray.toList xs).isEmpty=false:=by simp[hs]
   go_enter Tryz.func93,Tryz.ntmps93;go_wp2_with fail;go_quiet (fail);generalize hxx:World.drewN _ _=x0;obtain⟨bb,k1⟩:=Bx.allocD3 hxx;clear hxx;have q1:=k1.2.1;go_wp2;go_ret;exact⟨Ae (by rw[HE.out];simp[Al,AM hs]),bb⟩
 ·have n0b:(xn==0)=false:=by simp[n0]
  go_enter Tryz.func93,Tryz.ntmps93;go_wp2_with fail;go_quiet (fail);generalize hxx:World.drewN _ _=x0;obtain⟨bb,k1⟩:=Bx.allocD3 hxx;clear hxx;have q1:=k1.2.1;go_wp2;go_ret;exact⟨Ae (by rw[HE.out];simp[Al,n0]),bb⟩
theorem UK (x:Nd) (kv:Value) (B:Nat) (w:World) (hl:wgN x≤1048576) (hr:RdNs B w kv x.kids) (HE:Hid (Ao x= (if x.op=7 then decide (x.n=0)&& (noS x.s&& (noS x.t&& (decide (2≤x.kids.length)&& AP x.kids)))else Al x.op x.n x.s x.t x.kids.length&& Az x.kids)))
  (AL:Hid (∀ (W:World) (hb:Below w.heap.size w W),Calls Pq 158 #[kv,.func (.func 93) #[] #[]] W fun e w'=>e= .returned (.bool (Az x.kids))∧Below W.heap.size W w'))
  (ho:x.op=10):Calls Pq 93 #[ndV x kv] w fun e w'=>e= .returned (.bool (Ao x))∧Below w.heap.size w w':=by
 have hwg:=Aw x;have hlen:=AU x.kids;have hss:x.s.size≤1048576:=by omega
 have htt:x.t.size≤1048576:=by omega
 have hks:x.kids.length≤1048576:=by omega
 obtain⟨ka,kc,rfl⟩:=hr.form;unfold ndV;clear hr hwg hlen hl;generalize x.op=xop at*;generalize x.n=xn at*;generalize x.s=xs at*;generalize x.t=xt at*;generalize Ao x=px at*;generalize x.kids=ks at*;subst ho;by_cases n0:xn=0
 ·subst n0;by_cases hs:xs.toList=[]
  ·skip;by_cases ht:xt.toList=[]
   ·skip;by_cases k0:ks.length=2
    ·have k0b:((ks.length:Int)==2)=true:=by rw[Bw];exact AN k0
     have k0':=Aa k0;clear k0;go_enter Tryz.func93,Tryz.ntmps93;go_wp2_with fail;go_quiet (fail);generalize hxx:World.drewN _ _=x0;obtain⟨bb,k1⟩:=Bx.allocD3 hxx;clear hxx;have q1:=k1.2.1;go_wp2_with fail;clear q1;refine(AL.out _ bb).mono ?_;rintro e w8 ⟨rfl,b8⟩;replace bb:=bb.trans (b8.mono bb.size);go_wp2;go_ret;exact⟨Ae (by rw[HE.out];simp[Al,Ap hs,Ap ht,k0'.out]),bb⟩
    ·have k0b:((ks.length:Int)==2)=false:=by rw[Bw];exact AG k0
     have k0':=Aa k0;clear k0;go_enter Tryz.func93,Tryz.ntmps93;go_wp2_with fail;go_quiet (fail);generalize hxx:World.drewN _ _=x0;obtain⟨bb,k1⟩:=Bx.allocD3 hxx;clear hxx;have q1:=k1.2.1;go_wp2;go_ret;exact⟨Ae (by rw[HE.out];simp[Al,Ap hs,Ap ht,k0'.out]),bb⟩
   ·have hte:(ByteArray.toList xt).isEmpty=false:=by simp[ht]
    go_enter Tryz.func93,Tryz.ntmps93;go_wp2_with fail;go_quiet (fail);generalize hxx:World.drewN _ _=x0;obtain⟨bb,k1⟩:=Bx.allocD3 hxx;clear hxx;have q1:=k1.2.1;go_wp2;go_ret;exact⟨Ae (by rw[HE.out];simp[Al,Ap hs,AM ht]),bb⟩
  ·have hse:(ByteArray.toList xs).isEmpty=false:=by simp[hs]
   go_enter Tryz.func93,Tryz.ntmps93;go_wp2_with fail;go_quiet (fail);generalize hxx:World.drewN _ _=x0;obtain⟨bb,k1⟩:=Bx.allocD3 hxx;clear hxx;have q1:=k1.2.1;go_wp2;go_ret;exact⟨Ae (by rw[HE.out];simp[Al,AM hs]),bb⟩
 ·have n0b:(xn==0)=false:=by simp[n0]
  go_enter Tryz.func93,Tryz.ntmps93;go_wp2_with fail;go_quiet (fail);generalize hxx:World.drewN _ _=x0;obtain⟨bb,k1⟩:=Bx.allocD3 hxx;clear hxx;have q1:=k1.2.1;go_wp2;go_ret;exact⟨Ae (by rw[HE.out];simp[Al,n0]),bb⟩
theorem UL (x:Nd) (kv:Value) (B:Nat) (w:World) (hl:wgN x≤1048576) (hr:RdNs B w kv x.kids) (HE:Hid (Ao x= (if x.op=7 then decide (x.n=0)&& (noS x.s&& (noS x.t&& (decide (2≤x.kids.length)&& AP x.kids)))else Al x.op x.n x.s x.t x.kids.length&& Az x.kids)))
  (AL:Hid (∀ (W:World) (hb:Below w.heap.size w W),Calls Pq 158 #[kv,.func (.func 93) #[] #[]] W fun e w'=>e= .returned (.bool (Az x.kids))∧Below W.heap.size W w'))
  (ho:x.op=11):Calls Pq 93 #[ndV x kv] w fun e w'=>e= .returned (.bool (Ao x))∧Below w.heap.size w w':=by
 have hwg:=Aw x;have hlen:=AU x.kids;have hss:x.s.size≤1048576:=by omega
 have htt:x.t.size≤1048576:=by omega
 have hks:x.kids.length≤1048576:=by omega
 obtain⟨ka,kc,rfl⟩:=hr.form;unfold ndV;clear hr hwg hlen hl;generalize x.op=xop at*;generalize x.n=xn at*;generalize x.s=xs at*;generalize x.t=xt at*;generalize Ao x=px at*;generalize x.kids=ks at*;subst ho;by_cases n0:xn=0
 ·subst n0;by_cases hs:xs.toList=[]
  ·skip;by_cases ht:xt.toList=[]
   ·skip;by_cases k0:ks.length=2
    ·have k0b:((ks.length:Int)==2)=true:=by rw[Bw];exact AN k0
     have k0':=Aa k0;clear k0;go_enter Tryz.func93,Tryz.ntmps93;go_wp2_with fail;go_quiet (fail);generalize hxx:World.drewN _ _=x0;obtain⟨bb,k1⟩:=Bx.allocD3 hxx;clear hxx;have q1:=k1.2.1;go_wp2_with fail;clear q1;refine(AL.out _ bb).mono ?_;rintro e w8 ⟨rfl,b8⟩;replace bb:=bb.trans (b8.mono bb.size);go_wp2;go_ret;exact⟨Ae (by rw[HE.out];simp[Al,Ap hs,Ap ht,k0'.out]),bb⟩
    ·have k0b:((ks.length:Int)==2)=false:=by rw[Bw];exact AG k0
     have k0':=Aa k0;clear k0;go_enter Tryz.func93,Tryz.ntmps93;go_wp2_with fail;go_quiet (fail);generalize hxx:World.drewN _ _=x0;obtain⟨bb,k1⟩:=Bx.allocD3 hxx;clear hxx;have q1:=k1.2.1;go_wp2;go_ret;exact⟨Ae (by rw[HE.out];simp[Al,Ap hs,Ap ht,k0'.out]),bb⟩
   ·have hte:(ByteArray.toList xt).isEmpty=false:=by simp[ht]
    go_enter Tryz.func93,Tryz.ntmps93;go_wp2_with fail;go_quiet (fail);generalize hxx:World.drewN _ _=x0;obtain⟨bb,k1⟩:=Bx.allocD3 hxx;clear hxx;have q1:=k1.2.1;go_wp2;go_ret;exact⟨Ae (by rw[HE.out];simp[Al,Ap hs,AM ht]),bb⟩
  ·have hse:(ByteArray.toList xs).isEmpty=false:=by simp[hs]
   go_enter Tryz.func93,Tryz.ntmps93;go_wp2_with fail;go_quiet (fail);generalize hxx:World.drewN _ _=x0;obtain⟨bb,k1⟩:=Bx.allocD3 hxx;clear hxx;have q1:=k1.2.1;go_wp2;go_ret;exact⟨Ae (by rw[HE.out];simp[Al,AM hs]),bb⟩
 ·have n0b:(xn==0)=false:=by simp[n0]
  go_enter Tryz.func93,Tryz.ntmps93;go_wp2_with fail;go_quiet (fail);generalize hxx:World.drewN _ _=x0;obtain⟨bb,k1⟩:=Bx.allocD3 hxx;clear hxx;have q1:=k1.2.1;go_wp2;go_ret;exact⟨Ae (by rw[HE.out];simp[Al,n0]),bb⟩
theorem UM (x:Nd) (kv:Value) (B:Nat) (w:World) (hl:wgN x≤1048576) (hr:RdNs B w kv x.kids) (HE:Hid (Ao x= (if x.op=7 then decide (x.n=0)&& (noS x.s&& (noS x.t&& (decide (2≤x.kids.length)&& AP x.kids)))else Al x.op x.n x.s x.t x.kids.length&& Az x.kids)))
  (AL:Hid (∀ (W:World) (hb:Below w.heap.size w W),Calls Pq 158 #[kv,.func (.func 93) #[] #[]] W fun e w'=>e= .returned (.bool (Az x.kids))∧Below W.heap.size W w'))
  (ho:x.op=12):Calls Pq 93 #[ndV x kv] w fun e w'=>e= .returned (.bool (Ao x))∧Below w.heap.size w w':=by
 have hwg:=Aw x;have hlen:=AU x.kids;have hss:x.s.size≤1048576:=by omega
 have htt:x.t.size≤1048576:=by omega
 have hks:x.kids.length≤1048576:=by omega
 obtain⟨ka,kc,rfl⟩:=hr.form;unfold ndV;clear hr hwg hlen hl;generalize x.op=xop at*;generalize x.n=xn at*;generalize x.s=xs at*;generalize x.t=xt at*;generalize Ao x=px at*;generalize x.kids=ks at*;subst ho;by_cases n0:xn=0
 ·subst n0;by_cases hs:xs.toList=[]
  ·skip;by_cases ht:xt.toList=[]
   ·skip;by_cases k0:ks.length=2
    ·have k0b:((ks.length:Int)==2)=true:=by rw[Bw];exact AN k0
     have k0':=Aa k0;clear k0;go_enter Tryz.func93,Tryz.ntmps93;go_wp2_with fail;go_quiet (fail);generalize hxx:World.drewN _ _=x0;obtain⟨bb,k1⟩:=Bx.allocD3 hxx;clear hxx;have q1:=k1.2.1;go_wp2_with fail;clear q1;refine(AL.out _ bb).mono ?_;rintro e w8 ⟨rfl,b8⟩;replace bb:=bb.trans (b8.mono bb.size);go_wp2;go_ret;exact⟨Ae (by rw[HE.out];simp[Al,Ap hs,Ap ht,k0'.out]),bb⟩
    ·have k0b:((ks.length:Int)==2)=false:=by rw[Bw];exact AG k0
     have k0':=Aa k0;clear k0;go_enter Tryz.func93,Tryz.ntmps93;go_wp2_with fail;go_quiet (fail);generalize hxx:World.drewN _ _=x0;obtain⟨bb,k1⟩:=Bx.allocD3 hxx;clear hxx;have q1:=k1.2.1;go_wp2;go_ret;exact⟨Ae (by rw[HE.out];simp[Al,Ap hs,Ap ht,k0'.out]),bb⟩
   ·have hte:(ByteArray.toList xt).isEmpty=false:=by simp[ht]
    go_enter Tryz.func93,Tryz.ntmps93;go_wp2_with fail;go_quiet (fail);generalize hxx:World.drewN _ _=x0;obtain⟨bb,k1⟩:=Bx.allocD3 hxx;clear hxx;have q1:=k1.2.1;go_wp2;go_ret;exact⟨Ae (by rw[HE.out];simp[Al,Ap hs,AM ht]),bb⟩
  ·have hse:(ByteArray.toList xs).isEmpty=false:=by simp[hs]
   go_enter Tryz.func93,Tryz.ntmps93;go_wp2_with fail;go_quiet (fail);generalize hxx:World.drewN _ _=x0;obtain⟨bb,k1⟩:=Bx.allocD3 hxx;clear hxx;have q1:=k1.2.1;go_wp2;go_ret;exact⟨Ae (by rw[HE.out];simp[Al,AM hs]),bb⟩
 ·have n0b:(xn==0)=false:=by simp[n0]
  go_enter Tryz.func93,Tryz.ntmps93;go_wp2_with fail;go_quiet (fail);generalize hxx:World.drewN _ _=x0;obtain⟨bb,k1⟩:=Bx.allocD3 hxx;clear hxx;have q1:=k1.2.1;go_wp2;go_ret;exact⟨Ae (by rw[HE.out];simp[Al,n0]),bb⟩
theorem Bx.allocD4 {w x:World}{cur:Array Value}{e:TypeId}{n:Nat}(h:(w.alloc (.cells cur e)).drewN n=x):Below w.heap.size w x∧Bx x w.heap.size cur:=by
 subst h;obtain⟨b1,k1⟩:=Bx.alloc (w:=w) (cur:=cur) (e:=e) rfl;have b2:Below (w.alloc (.cells cur e)).heap.size (w.alloc (.cells cur e)) ((w.alloc (.cells cur e)).drewN n):=Still.below ⟨n,rfl⟩ _;exact⟨b1.trans (b2.mono b1.size),k1.below b2 k1.1⟩
theorem IS {x y:World}{n:Nat}(h:x.drewN n=y) (B:Nat):Below B x y:=Still.below ⟨n,h.symm⟩ B
theorem UN (x:Nd) (kv:Value) (B:Nat) (w:World) (hl:wgN x≤1048576) (hr:RdNs B w kv x.kids) (HE:Hid (Ao x= (if x.op=7 then decide (x.n=0)&& (noS x.s&& (noS x.t&& (decide (2≤x.kids.length)&& AP x.kids)))else Al x.op x.n x.s x.t x.kids.length&& Az x.kids)))
  (AL:Hid (∀ (W:World) (hb:Below w.heap.size w W),Calls Pq 158 #[kv,.func (.func 93) #[] #[]] W fun e w'=>e= .returned (.bool (Az x.kids))∧Below W.heap.size W w'))
  (ho:x.op=13):Calls Pq 93 #[ndV x kv] w fun e w'=>e= .returned (.bool (Ao x))∧Below w.heap.size w w':=by
 have hwg:=Aw x;have hlen:=AU x.kids;have hss:x.s.size≤1048576:=by omega
 have htt:x.t.size≤1048576:=by omega
 have hks:x.kids.length≤1048576:=by omega
 obtain⟨ka,kc,rfl⟩:=hr.form;unfold ndV;clear hr hwg hlen hl;generalize x.op=xop at*;generalize x.n=xn at*;generalize x.s=xs at*;generalize x.t=xt at*;generalize Ao x=px at*;generalize x.kids=ks at*;subst ho;by_cases n0:xn=0
 ·subst n0;by_cases hs:xs.toList=[]
  ·skip;by_cases ht:xt.toList=[]
   ·skip;by_cases k0:ks.length=2
    ·have k0b:((ks.length:Int)==2)=true:=by rw[Bw];exact AN k0
     have k0':=Aa k0;clear k0;go_enter Tryz.func93,Tryz.ntmps93;go_wp2_with fail;go_quiet (fail);generalize hxx:World.drewN _ _=x0;obtain⟨bb,k1⟩:=Bx.allocD4 hxx;clear hxx;have q1:=k1.2.1;go_wp2_with fail;clear q1;refine(AL.out _ bb).mono ?_;rintro e w8 ⟨rfl,b8⟩;replace bb:=bb.trans (b8.mono bb.size);go_wp2;go_ret;exact⟨Ae (by rw[HE.out];simp[Al,Ap hs,Ap ht,k0'.out]),bb⟩
    ·have k0b:((ks.length:Int)==2)=false:=by rw[Bw];exact AG k0
     have k0':=Aa k0;clear k0;go_enter Tryz.func93,Tryz.ntmps93;go_wp2_with fail;go_quiet (fail);generalize hxx:World.drewN _ _=x0;obtain⟨bb,k1⟩:=Bx.allocD4 hxx;clear hxx;have q1:=k1.2.1;go_wp2;go_ret;exact⟨Ae (by rw[HE.out];simp[Al,Ap hs,Ap ht,k0'.out]),bb⟩
   ·have hte:(ByteArray.toList xt).isEmpty=false:=by simp[ht]
    go_enter Tryz.func93,Tryz.ntmps93;go_wp2_with fail;go_quiet (fail);generalize hxx:World.drewN _ _=x0;obtain⟨bb,k1⟩:=Bx.allocD4 hxx;clear hxx;have q1:=k1.2.1;go_wp2;go_ret;exact⟨Ae (by rw[HE.out];simp[Al,Ap hs,AM ht]),bb⟩
  ·have hse:(ByteArray.toList xs).isEmpty=false:=by simp[hs]
   go_enter Tryz.func93,Tryz.ntmps93;go_wp2_with fail;go_quiet (fail);generalize hxx:World.drewN _ _=x0;obtain⟨bb,k1⟩:=Bx.allocD4 hxx;clear hxx;have q1:=k1.2.1;go_wp2;go_ret;exact⟨Ae (by rw[HE.out];simp[Al,AM hs]),bb⟩
 ·have n0b:(xn==0)=false:=by simp[n0]
  go_enter Tryz.func93,Tryz.ntmps93;go_wp2_with fail;go_quiet (fail);generalize hxx:World.drewN _ _=x0;obtain⟨bb,k1⟩:=Bx.allocD4 hxx;clear hxx;have q1:=k1.2.1;go_wp2;go_ret;exact⟨Ae (by rw[HE.out];simp[Al,n0]),bb⟩
theorem UO (x:Nd) (kv:Value) (B:Nat) (w:World) (hl:wgN x≤1048576) (hr:RdNs B w kv x.kids) (HE:Hid (Ao x= (if x.op=7 then decide (x.n=0)&& (noS x.s&& (noS x.t&& (decide (2≤x.kids.length)&& AP x.kids)))else Al x.op x.n x.s x.t x.kids.length&& Az x.kids)))
  (AL:Hid (∀ (W:World) (hb:Below w.heap.size w W),Calls Pq 158 #[kv,.func (.func 93) #[] #[]] W fun e w'=>e= .returned (.bool (Az x.kids))∧Below W.heap.size W w'))
  (ho:x.op=14):Calls Pq 93 #[ndV x kv] w fun e w'=>e= .returned (.bool (Ao x))∧Below w.heap.size w w':=by
 have hwg:=Aw x;have hlen:=AU x.kids;have hss:x.s.size≤1048576:=by omega
 have htt:x.t.size≤1048576:=by omega
 have hks:x.kids.length≤1048576:=by omega
 obtain⟨ka,kc,rfl⟩:=hr.form;unfold ndV;clear hr hwg hlen hl;generalize x.op=xop at*;generalize x.n=xn at*;generalize x.s=xs at*;generalize x.t=xt at*;generalize Ao x=px at*;generalize x.kids=ks at*;subst ho;by_cases n0:xn=0
 ·subst n0;by_cases hs:xs.toList=[]
  ·skip;by_cases ht:xt.toList=[]
   ·skip;by_cases k0:ks.length=2
    ·have k0b:((ks.length:Int)==2)=true:=by rw[Bw];exact AN k0
     have k0':=Aa k0;clear k0;go_enter Tryz.func93,Tryz.ntmps93;go_wp2_with fail;go_quiet (fail);generalize hxx:World.drewN _ _=x0;obtain⟨bb,k1⟩:=Bx.allocD4 hxx;clear hxx;have q1:=k1.2.1;go_wp2_with fail;clear q1;refine(AL.out _ bb).mono ?_;rintro e w8 ⟨rfl,b8⟩;replace bb:=bb.trans (b8.mono bb.size);go_wp2;go_ret;exact⟨Ae (by rw[HE.out];simp[Al,Ap hs,Ap ht,k0'.out]),bb⟩
    ·have k0b:((ks.length:Int)==2)=false:=by rw[Bw];exact AG k0
     have k0':=Aa k0;clear k0;go_enter Tryz.func93,Tryz.ntmps93;go_wp2_with fail;go_quiet (fail);generalize hxx:World.drewN _ _=x0;obtain⟨bb,k1⟩:=Bx.allocD4 hxx;clear hxx;have q1:=k1.2.1;go_wp2;go_ret;exact⟨Ae (by rw[HE.out];simp[Al,Ap hs,Ap ht,k0'.out]),bb⟩
   ·have hte:(ByteArray.toList xt).isEmpty=false:=by simp[ht]
    go_enter Tryz.func93,Tryz.ntmps93;go_wp2_with fail;go_quiet (fail);generalize hxx:World.drewN _ _=x0;obtain⟨bb,k1⟩:=Bx.allocD4 hxx;clear hxx;have q1:=k1.2.1;go_wp2;go_ret;exact⟨Ae (by rw[HE.out];simp[Al,Ap hs,AM ht]),bb⟩
  ·have hse:(ByteArray.toList xs).isEmpty=false:=by simp[hs]
   go_enter Tryz.func93,Tryz.ntmps93;go_wp2_with fail;go_quiet (fail);generalize hxx:World.drewN _ _=x0;obtain⟨bb,k1⟩:=Bx.allocD4 hxx;clear hxx;have q1:=k1.2.1;go_wp2;go_ret;exact⟨Ae (by rw[HE.out];simp[Al,AM hs]),bb⟩
 ·have n0b:(xn==0)=false:=by simp[n0]
  go_enter Tryz.func93,Tryz.ntmps93;go_wp2_with fail;go_quiet (fail);generalize hxx:World.drewN _ _=x0;obtain⟨bb,k1⟩:=Bx.allocD4 hxx;clear hxx;have q1:=k1.2.1;go_wp2;go_ret;exact⟨Ae (by rw[HE.out];simp[Al,n0]),bb⟩
theorem UP (x:Nd) (kv:Value) (B:Nat) (w:World) (hl:wgN x≤1048576) (hr:RdNs B w kv x.kids) (HE:Hid (Ao x= (if x.op=7 then decide (x.n=0)&& (noS x.s&& (noS x.t&& (decide (2≤x.kids.length)&& AP x.kids)))else Al x.op x.n x.s x.t x.kids.length&& Az x.kids)))
  (AL:Hid (∀ (W:World) (hb:Below w.heap.size w W),Calls Pq 158 #[kv,.func (.func 93) #[] #[]] W fun e w'=>e= .returned (.bool (Az x.kids))∧Below W.heap.size W w'))
  (ho:x.op=15):Calls Pq 93 #[ndV x kv] w fun e w'=>e= .returned (.bool (Ao x))∧Below w.heap.size w w':=by
 have hwg:=Aw x;have hlen:=AU x.kids;have hss:x.s.size≤1048576:=by omega
 have htt:x.t.size≤1048576:=by omega
 have hks:x.kids.length≤1048576:=by omega
 obtain⟨ka,kc,rfl⟩:=hr.form;unfold ndV;clear hr hwg hlen hl;generalize x.op=xop at*;generalize x.n=xn at*;generalize x.s=xs at*;generalize x.t=xt at*;generalize Ao x=px at*;generalize x.kids=ks at*;subst ho;have hS:=fun(W:World)=>(GW xs W hss).mono fun e w' hh=>(⟨hh.1,hh.2⟩:e=_∧w'=_)
 by_cases n0:xn=0
 ·subst n0;cases hqs:Bb xs with
  |true=>
   rw[hqs]at hS;have hqs:=Aa hqs;by_cases ht:xt.toList=[]
   ·skip;go_enter Tryz.func93,Tryz.ntmps93;go_wp2_with fail;go_quiet (fail);generalize hxx:World.drewN _ _=x0;obtain⟨bb,k1⟩:=Bx.allocD4 hxx;clear hxx;have q1:=k1.2.1;have HC:=Aa (fun(n:Nat)=>hS (x0.drewN n));go_wp2_with fail;go_quiet ((go_at_call 157;exact La (HC.out _)));generalize hxy:World.drewN x0 _=x1;have b3:=IS hxy x0.heap.size;replace k1:=k1.below b3 k1.1;replace bb:=bb.trans (b3.mono bb.size);clear b3 hxy;have q1:=k1.2.1;go_wp2_with fail;clear q1;refine(AL.out _ bb).mono ?_;rintro e w8 ⟨rfl,b8⟩;replace bb:=bb.trans (b8.mono bb.size);go_wp2;go_ret;exact⟨Ae (by rw[HE.out];simp[Al,hqs.out,Ap ht]),bb⟩
   ·have hte:(ByteArray.toList xt).isEmpty=false:=by simp[ht]
    go_enter Tryz.func93,Tryz.ntmps93;go_wp2_with fail;go_quiet (fail);generalize hxx:World.drewN _ _=x0;obtain⟨bb,k1⟩:=Bx.allocD4 hxx;clear hxx;have q1:=k1.2.1;have HC:=Aa (fun(n:Nat)=>hS (x0.drewN n));go_wp2_with fail;go_quiet ((go_at_call 157;exact La (HC.out _)));generalize hxy:World.drewN x0 _=x1;have b3:=IS hxy x0.heap.size;replace k1:=k1.below b3 k1.1;replace bb:=bb.trans (b3.mono bb.size);clear b3 hxy;have q1:=k1.2.1;go_wp2;go_ret;exact⟨Ae (by rw[HE.out];simp[Al,hqs.out,AM ht]),bb⟩
  |false=>
   rw[hqs]at hS;have hqs:=Aa hqs;go_enter Tryz.func93,Tryz.ntmps93;go_wp2_with fail;go_quiet (fail);generalize hxx:World.drewN _ _=x0;obtain⟨bb,k1⟩:=Bx.allocD4 hxx;clear hxx;have q1:=k1.2.1;have HC:=Aa (fun(n:Nat)=>hS (x0.drewN n));go_wp2_with fail;go_quiet ((go_at_call 157;exact La (HC.out _)));generalize hxy:World.drewN x0 _=x1;have b3:=IS hxy x0.heap.size;replace k1:=k1.below b3 k1.1;replace bb:=bb.trans (b3.mono bb.size);clear b3 hxy;have q1:=k1.2.1;go_wp2;go_ret;exact⟨Ae (by rw[HE.out];simp[Al,hqs.out]),bb⟩
 ·have n0b:(xn==0)=false:=by simp[n0]
  go_enter Tryz.func93,Tryz.ntmps93;go_wp2_with fail;go_quiet (fail);generalize hxx:World.drewN _ _=x0;obtain⟨bb,k1⟩:=Bx.allocD4 hxx;clear hxx;have q1:=k1.2.1;have HC:=Aa (fun(n:Nat)=>hS (x0.drewN n));go_wp2_with fail;go_quiet ((go_at_call 157;exact La (HC.out _)));generalize hxy:World.drewN x0 _=x1;have b3:=IS hxy x0.heap.size;replace k1:=k1.below b3 k1.1;replace bb:=bb.trans (b3.mono bb.size);clear b3 hxy;have q1:=k1.2.1;go_wp2;go_ret;exact⟨Ae (by rw[HE.out];simp[Al,n0]),bb⟩
theorem UQ (x:Nd) (kv:Value) (B:Nat) (w:World) (hl:wgN x≤1048576) (hr:RdNs B w kv x.kids) (HE:Hid (Ao x= (if x.op=7 then decide (x.n=0)&& (noS x.s&& (noS x.t&& (decide (2≤x.kids.length)&& AP x.kids)))else Al x.op x.n x.s x.t x.kids.length&& Az x.kids)))
  (AL:Hid (∀ (W:World) (hb:Below w.heap.size w W),Calls Pq 158 #[kv,.func (.func 93) #[] #[]] W fun e w'=>e= .returned (.bool (Az x.kids))∧Below W.heap.size W w'))
  (ho:x.op≠1∧x.op≠2∧x.op≠3∧x.op≠4∧x.op≠5∧x.op≠6∧x.op≠7∧x.op≠9∧x.op≠10∧x.op≠11∧x.op≠12∧x.op≠13∧x.op≠14∧x.op≠15∧x.op≠16):Calls Pq 93 #[ndV x kv] w fun e w'=>e= .returned (.bool (Ao x))∧Below w.heap.size w w':=by
 have hwg:=Aw x;have hlen:=AU x.kids;have hss:x.s.size≤1048576:=by omega
 have htt:x.t.size≤1048576:=by omega
 have hks:x.kids.length≤1048576:=by omega
 obtain⟨ka,kc,rfl⟩:=hr.form;unfold ndV;clear hr hwg hlen hl;generalize x.op=xop at*;generalize x.n=xn at*;generalize x.s=xs at*;generalize x.t=xt at*;generalize Ao x=px at*;generalize x.kids=ks at*;obtain⟨o1,o2,o3,o4,o5,o6,o7,o9,o10,o11,o12,o13,o14,o15,o16⟩:=ho;have km:((ks.length:Int)== -1)=false:=by rw[beq_eq_false_iff_ne];omega
 go_enter Tryz.func93,Tryz.ntmps93;go_wp2_with fail;go_quiet (fail);generalize hxx:World.drewN _ _=x0;obtain⟨bb,k1⟩:=Bx.allocD4 hxx;clear hxx;have q1:=k1.2.1;have hno:px=false:=by
  rw[HE.out,Ab o7];have:¬(xop=4∨10≤xop∧xop≤14):=by omega
  unfold Al;rw[Ab o1,Ab o2,Ab o3,Ab o16,Ab o5,Ab o6,Ab this,Ab o9,Ab o15];rfl
 have hno:=Aa hno;go_wp2
 all_goals go_ret
 all_goals exact⟨Ae hno.out.symm,bb⟩
theorem UA (ks:List Nd) (h:2≤ks.length):(∀B w b off cap,RdNs B w (.slice (some ⟨b,off,none⟩) ks.length cap) ks→RdNs B w (.slice (some ⟨b,off+5,none⟩) (ks.length - 1) (cap - 1)) (ks.drop 1))∧AP ks= (Ao (ks[0]'(by omega))&& (ks.drop 1).all Ca):=by
 cases ks with
 |nil=>simp at h
 |cons y ys=>
  refine⟨fun B w b off cap hr=> ?_,by rw[AP,Gs];rfl⟩;obtain⟨b',off',cap',hv,hc,ht⟩:=hr.tail;cases hv
  exact ht ⟨b,off+5,none⟩ (fun _=>rfl)
theorem _root_.Nat.two_le_pos {n:Nat}(h:2≤n):0 < n:=by omega
theorem UB (x:Nd) (kv:Value) (B:Nat) (w:World) (hl:wgN x≤1048576) (hr:RdNs B w kv x.kids) (HE:Hid (Ao x= (if x.op=7 then decide (x.n=0)&& (noS x.s&& (noS x.t&& (decide (2≤x.kids.length)&& AP x.kids)))else Al x.op x.n x.s x.t x.kids.length&& Az x.kids)))
  (ho:x.op=7) (ih:∀ (y:Nd) (kv:Value) (B:Nat) (W:World),wgN y < wgN x→RdNs B W kv y.kids→Calls Pq 93 #[ndV y kv] W fun e w'=>e= .returned (.bool (Ao y))∧Below W.heap.size W w'):
  Calls Pq 93 #[ndV x kv] w fun e w'=>e= .returned (.bool (Ao x))∧Below w.heap.size w w':=by
 have HR:=Aa (fun(W:World) (hb:Below w.heap.size w W)=>hr.later' hb);have hwg:=Aw x;have hlen:=AU x.kids;have hks:x.kids.length≤1048576:=by omega
 have IE:=Aa (fun(y:Nd) (hy:y∈x.kids) (kv:Value) (B:Nat) (W:World) (h:RdNs B W kv y.kids)=>(by
  have h1:=AT hy;exact ih y kv B W (by omega) h:Calls Pq 93 #[ndV y kv] W fun e w'=>e= .returned (.bool (Ao y))∧Below W.heap.size W w'))
 have IA:=Aa (fun(y:Nd) (hy:y∈x.kids) (kv:Value) (B:Nat) (W:World) (h:RdNs B W kv y.kids)=>(by
  have h1:=AT hy;exact Uw y kv B W (by omega) h (fun z kz Bz Wz hz hk=>ih z kz Bz Wz (by omega) hk):Calls Pq 159 #[ndV y kv] W fun e w'=>e= .returned (.bool (Ca y))∧Below W.heap.size W w'))
 obtain⟨ka,kc,rfl⟩:=hr.form;unfold ndV;clear hr hwg hlen hl ih;generalize x.op=xop at*;generalize x.n=xn at*;generalize x.s=xs at*;generalize x.t=xt at*;generalize Ao x=px at*;generalize x.kids=ks at*;subst ho;by_cases n0:xn=0
 ·subst n0;by_cases hs:xs.toList=[]
  ·by_cases ht:xt.toList=[]
   ·by_cases h2:2≤ks.length
    ·have h2b:(ks.length:Int)≥2:=by omega
     obtain⟨b,off,cap,kv0,hv,hB,hbs,hcap, -, -⟩:=(HR.out w (Ac _ _)).at_ (j:=0) (by omega);cases hv
     have HP:=Aa (UA ks h2);have hk0:(0:Int) < (ks.length:Int):=by omega
     have hc1:¬(kc=1):=by omega
     have h2':=Aa h2;clear hbs hB;go_enter Tryz.func93,Tryz.ntmps93;go_wp2_with fail;go_quiet (fail);generalize hxx:World.drewN _ _=x0;obtain⟨bb,k1⟩:=Bx.allocD1 hxx;clear hxx;have q1:=k1.2.1;obtain⟨b',off',cap',kv0,hv,hB,hbs, -,c,hk⟩:=(HR.out x0 bb).at_ (j:=0) (Nat.two_le_pos h2'.out);rw[Nat.zero_mul,Nat.add_zero]at c;obtain⟨c0,c1,c2,c3,c4⟩:=c;cases hv
     have H0:=Aa hk;clear hk;go_wp2_with fail;clear q1 c0 c1 c2 c3 c4;refine(IE.out ks[0] (As _) _ _ x0 H0.out).mono ?_;rintro e w3 ⟨rfl,b3⟩;replace k1:=k1.below b3 k1.1;replace bb:=bb.trans (b3.mono bb.size);clear b3;have q1:=k1.2.1;cases hp:Ao ks[0]with
     |false=>
      have hp:=Aa hp;go_wp2;go_ret;exact⟨Ae (by rw[HE.out,HP.out.2,hp.out];simp),bb⟩
     |true=>
      have hp:=Aa hp;go_wp2_with fail;clear q1;refine(Uv Ca (ks.drop 1) _ _ w3 (HP.out.1 _ _ _ _ _ (HR.out w3 bb)) (by rw[List.length_drop];omega) (fun j hj kv B W h=>IA.out _ (List.mem_of_mem_drop (As hj)) kv B W h)).mono ?_;rintro e w4 ⟨rfl,b4⟩;replace bb:=bb.trans (b4.mono bb.size);go_wp2;go_ret;exact⟨Ae (by rw[HE.out,HP.out.2,hp.out];simp[Ap hs,Ap ht,h2'.out]),bb⟩
    ·have h2b:¬((ks.length:Int)≥2):=by omega
     go_enter Tryz.func93,Tryz.ntmps93;go_wp2_with fail;go_quiet (fail);generalize hxx:World.drewN _ _=x0;obtain⟨bb,k1⟩:=Bx.allocD1 hxx;clear hxx;have q1:=k1.2.1;go_wp2;go_ret;exact⟨Ae (by rw[HE.out];simp[h2]),bb⟩
   ·have hte:(ByteArray.toList xt).isEmpty=false:=by simp[ht]
    go_enter Tryz.func93,Tryz.ntmps93;go_wp2_with fail;go_quiet (fail);generalize hxx:World.drewN _ _=x0;obtain⟨bb,k1⟩:=Bx.allocD1 hxx;clear hxx;have q1:=k1.2.1;go_wp2;go_ret;exact⟨Ae (by rw[HE.out];simp[AM ht]),bb⟩
  ·have hse:(ByteArray.toList xs).isEmpty=false:=by simp[hs]
   go_enter Tryz.func93,Tryz.ntmps93;go_wp2_with fail;go_quiet (fail);generalize hxx:World.drewN _ _=x0;obtain⟨bb,k1⟩:=Bx.allocD1 hxx;clear hxx;have q1:=k1.2.1;go_wp2;go_ret;exact⟨Ae (by rw[HE.out];simp[AM hs]),bb⟩
 ·have n0b:(xn==0)=false:=by simp[n0]
  go_enter Tryz.func93,Tryz.ntmps93;go_wp2_with fail;go_quiet (fail);generalize hxx:World.drewN _ _=x0;obtain⟨bb,k1⟩:=Bx.allocD1 hxx;clear hxx;have q1:=k1.2.1;go_wp2;go_ret;exact⟨Ae (by rw[HE.out];simp[n0]),bb⟩
theorem Kj:∀ (N:Nat) (x:Nd) (kv:Value) (B:Nat) (w:World),wgN x < N→wgN x≤1048576→RdNs B w kv x.kids→
  Calls Pq 93 #[ndV x kv] w fun e w'=>e= .returned (.bool (Ao x))∧Below w.heap.size w w'
 |0,x,kv,B,w,hN,hl,hr=>by omega
 |N+1,x,kv,B,w,hN,hl,hr=>by
  have AL:=Aa (fun(W:World) (hb:Below w.heap.size w W)=>(by
   have:=Ur Ao x.kids kv _ W (hr.later' hb) (by have:=AU x.kids;have:=Aw x;omega) (fun j hj kv B W h=>Kj N x.kids[j] kv B W (by have:=AT (As hj);have:=Aw x;omega) (by have:=AT (As hj);have:=Aw x;omega) h);rw[←GZ]at this;exact this:Calls Pq 158 #[kv,.func (.func 93) #[] #[]] W fun e w'=>e= .returned (.bool (Az x.kids))∧Below W.heap.size W w'))
  have HE:=Aa (G8 x);by_cases o7:x.op=7
  ·exact UB x kv B w hl hr HE o7 (fun y kv B W hy h=>Kj N y kv B W (by omega) (by omega) h)
  by_cases o1:x.op=1
  ·exact UC x kv B w hl hr HE AL o1
  by_cases o2:x.op=2
  ·exact UD x kv B w hl hr HE AL o2
  by_cases o3:x.op=3
  ·exact UE x kv B w hl hr HE AL o3
  by_cases o4:x.op=4
  ·exact UJ x kv B w hl hr HE AL o4
  by_cases o5:x.op=5
  ·exact UG x kv B w hl hr HE AL o5
  by_cases o6:x.op=6
  ·exact UH x kv B w hl hr HE AL o6
  by_cases o9:x.op=9
  ·exact UI x kv B w hl hr HE AL o9
  by_cases o10:x.op=10
  ·exact UK x kv B w hl hr HE AL o10
  by_cases o11:x.op=11
  ·exact UL x kv B w hl hr HE AL o11
  by_cases o12:x.op=12
  ·exact UM x kv B w hl hr HE AL o12
  by_cases o13:x.op=13
  ·exact UN x kv B w hl hr HE AL o13
  by_cases o14:x.op=14
  ·exact UO x kv B w hl hr HE AL o14
  by_cases o15:x.op=15
  ·exact UP x kv B w hl hr HE AL o15
  by_cases o16:x.op=16
  ·exact UF x kv B w hl hr HE AL o16
  exact UQ x kv B w hl hr HE AL ⟨o1,o2,o3,o4,o5,o6,o7,o9,o10,o11,o12,o13,o14,o15,o16⟩
theorem Fe (w:World) (a b:Obj):Below w.heap.size w ((w.alloc a).alloc b):=((Ac _ w).alloc (Ad _) a).alloc ((Ac w.heap.size w).alloc (Ad _) a).size b
theorem O8:∀ (N:Nat) (x:Tp) (kv:Value) (B:Nat) (w:World),wgT x < N→wgT x≤1048576→RdTps B w kv x.kids→
  Calls Pq 154 #[tpV x kv] w fun e w'=>e= .returned (.int .i64 (AC x))∧Below w.heap.size w w'
 |0,x,kv,B,w,hN,hl,hr=>by omega
 |N+1,x,kv,B,w,hN,hl,hr=>by
  have HR:=Aa (fun(W:World) (hb:Below w.heap.size w W)=>hr.later' hb);have hlen:=hr.len;unfold maxLen at hlen;obtain⟨ka,kc,rfl⟩:=hr.form;have hsz:=Eg x;have ih:=fun(j:Nat) (hj:j < x.kids.length) (kv:Value) (B:Nat) (W:World) (h:RdTps B W kv x.kids[j].kids)=>(by
   have:=CJ (As hj);exact O8 N x.kids[j] kv B W (by omega) (by omega) h:Calls Pq 154 #[tpV x.kids[j] kv] W fun e w'=>e= .returned (.int .i64 (AC x.kids[j]))∧Below W.heap.size W w')
  unfold tpV at ih ⊢;have IH:=Aa ih;have HB:=Aa (fun(k:Nat)=>(show AC.deepTs (x.kids.take k)≤1048577 from by have:=Kn x.kids k;have:=OG x;have:=IU x;omega));have HS:=Aa (Km x.kids);have HX:=Aa (IU x);clear hr ih hsz hN;generalize x.op=xop;generalize x.n=xn;generalize x.s=xs;generalize AC x=dx at HX ⊢;generalize x.kids=ks at*;go_enter Tryz.func154,Tryz.ntmps154;go_wp2_with fail;generalize hxx:w.alloc _=x0;obtain⟨bb,k1⟩:=Bx.alloc hxx;clear hxx;go_wp2
  go_loopw [3,9] (fun o i wr=>∃k:Nat,k≤ks.length∧i= .int .i64 k∧o= .int .i64 (AC.deepTs (ks.take k))∧Below w.heap.size w wr∧Bx wr w.heap.size #[.int .i64 xop,.int .i64 xn,.string xs,.slice ka ks.length kc]) (fun _ i _=>ks.length - (intOf i).toNat)
  case atStart=>exact⟨0,Av _,rfl,rfl,bb,k1⟩
  case round=>
   clear bb k1;obtain⟨k,hk,rfl,rfl,bb,k1⟩:=hrel;by_cases hlt:k < ks.length
   ·obtain⟨b,off,cap,kv,hv,hB,hbs,hcap,⟨c0,c1,c2,c3⟩,hkr⟩:=(HR.out wr bb).at_ hlt;cases hv
    have hki:(k:Int) < (ks.length:Int):=by omega
    obtain⟨kva,kvc,rfl⟩:=hkr.form;have HK:=Aa hkr;have q1:=k1.2.1;clear hkr;go_wp2_with fail;clear q1 c0 c1 c2 c3;generalize hyy:wr.alloc _=wy;obtain⟨by_, -⟩:=Bx.alloc hyy;clear hyy;have hsz:=bb.size;refine(IH.out k hlt _ _ wy (HK.out.later by_ hsz)).mono ?_;rintro e w2 ⟨rfl,b2⟩;replace b2:=by_.trans (b2.mono by_.size);replace k1:=k1.below b2 k1.1;replace bb:=bb.trans (b2.mono hsz);clear b2 HK by_ hsz;have hb1:=HB.out (k+1);have hs1:=HS.out k hlt;go_wp2_with fail;go_roundw
    case rel=>
     refine⟨k+1,hlt,by go_num,?_,bb,k1⟩;rw[hs1];exact AX (Value.int .i64) (by omega)
    case measure=>simp[intOf];omega
   ·obtain rfl:k=ks.length:=by omega
    have hb1:=HB.out ks.length;have hx1:=HX.out;rw[CL]at hb1;simp only[CL];have q1:=k1.2.1;go_wp2;go_ret;exact⟨AK (by rw[hx1];simp),bb⟩
theorem We (vars:Int) (g:Nat) (r:Bool) (x:Tp) (kv:Value) (w:World) (hg:w.cell? ⟨g,0,none⟩=some (.int .i64 vars)) (hlt:g < w.heap.size)
  (HF:∀W,Below w.heap.size w W→Calls Pq 162 #[tpV x kv,.int .i64 vars] W fun e w'=>e= .returned (.bool r)∧Below W.heap.size W w'):
  Calls Pq 210 #[tpV x kv,.pointer (some ⟨g,0,none⟩)] w fun e w'=>e= .returned (.bool (!r))∧Below w.heap.size w w':=by
 unfold tpV at HF ⊢;have HF:=Aa HF;generalize x.op=xop at*;generalize x.n=xn at*;generalize x.s=xs at*;go_enter Tryz.func210,Tryz.ntmps210;have hg2:=(((Ac w.heap.size w).alloc (Ad _) (.cells #[.int .i64 xop,.int .i64 xn,.string xs,kv] 158)).cell (p:=⟨g,0,none⟩) hlt).trans hg;go_wp2_with fail;generalize hxx:Wa _ _=x0 at*;obtain⟨bb,k1⟩:=Bx.alloc hxx;clear hxx k1;refine(HF.out x0 bb).mono ?_;rintro e w2 ⟨rfl,b2⟩;replace bb:=bb.trans (b2.mono bb.size);go_wp2;go_ret;exact⟨rfl,bb⟩
theorem O9 (vars:Int) (hv:-9223372036854775807≤vars∧vars≤9223372036854775807):∀ (N:Nat) (x:Tp) (kv:Value) (B:Nat) (w:World),wgT x < N→wgT x≤1048576→RdTps B w kv x.kids→
  Calls Pq 162 #[tpV x kv,.int .i64 vars] w fun e w'=>e= .returned (.bool (AW vars x))∧Below w.heap.size w w'
 |0,x,kv,B,w,hN,hl,hr=>by omega
 |N+1,x,kv,B,w,hN,hl,hr=>by
  have HR:=Aa (fun(W:World) (hb:Below w.heap.size w W)=>hr.later' hb);have hwg:=Eg x;have hlen:=DS x.kids;have hks:x.kids.length≤1048576:=by omega
  have hss:x.s.size≤1048576:=by omega
  have IH:=Aa (fun(j:Nat) (hj:j < x.kids.length) (kv:Value) (B:Nat) (W:World) (h:RdTps B W kv x.kids[j].kids)=>(by
   have:=CJ (As hj);exact O9 vars hv N x.kids[j] kv B W (by omega) (by omega) h:Calls Pq 162 #[tpV x.kids[j] kv,.int .i64 vars] W fun e w'=>e= .returned (.bool (AW vars x.kids[j]))∧Below W.heap.size W w'))
  have CF:=Aa (fun(W:World) (g:Nat) (hb:Below w.heap.size w W) (k:Bx W g #[.int .i64 vars])=>PH (.pointer (some ⟨g,0,none⟩)) (fun y=>!AW vars y) x.kids kv _ W (HR.out W hb) hks (fun j hj kv W' hb' hk=>We vars g (AW vars x.kids[j]) x.kids[j] kv W' ((k.below hb' k.1).2.1 0) (k.below hb' k.1).1 (fun W2 hb2=>IH.out j hj kv _ W2 (hk.later hb2 hb'.size))));have HE:=Aa (OH vars x);have HA:=Aa (show AW.typsP vars x.kids=!(x.kids.any fun y=>!AW vars y)by rw[IV,DC];simp);obtain⟨ka,kc,rfl⟩:=hr.form;unfold tpV;clear hr hN hwg hlen hl;generalize x.op=xop at*;generalize x.n=xn at*;generalize x.s=xs at*;generalize AW vars x=px at*;generalize x.kids=ks at*;by_cases o1:xop=1
  ·subst o1;by_cases n0:xn=0
   ·subst n0;by_cases hs:xs.toList=[]
    ·skip;by_cases k0:ks.length=0
     ·have k0b:((ks.length:Int)==0)=true:=by rw[BL];exact AN k0
      have k0':=Aa k0;clear k0;go_enter Tryz.func162,Tryz.ntmps162;go_wp2_with fail;generalize hyy:w.alloc _=x0;generalize hxx:x0.alloc _=x1;obtain⟨b1,k1⟩:=Bx.alloc hyy;obtain⟨b2,k2⟩:=Bx.alloc hxx;have e1:x0.heap.size=w.heap.size+1:=by rw[←hyy,BM]
      rw[e1]at k2;replace k1:=k1.below b2 k1.1;have bb:=b1.trans (b2.mono b1.size);clear hxx hyy b1 b2 e1;refine(CF.out x1 (w.heap.size+1) bb k2).mono ?_;rintro e w3 ⟨rfl,b3⟩;replace k1:=k1.below b3 k1.1;replace k2:=k2.below b3 k2.1;replace bb:=bb.trans (b3.mono bb.size);clear b3;go_wp2;go_ret;exact⟨Ae (by rw[HE.out,HA.out];simp[Bm,Ap hs,k0'.out]),bb⟩
     ·have k0b:((ks.length:Int)==0)=false:=by rw[BL];exact AG k0
      have k0':=Aa k0;clear k0;go_enter Tryz.func162,Tryz.ntmps162;go_wp2;go_ret;exact⟨Ae (by rw[HE.out];simp[Bm,Ap hs,k0'.out]),Fe _ _ _⟩
    ·have hse:(ByteArray.toList xs).isEmpty=false:=by simp[hs]
     go_enter Tryz.func162,Tryz.ntmps162;go_wp2;go_ret;exact⟨Ae (by rw[HE.out];simp[Bm,AM hs]),Fe _ _ _⟩
   ·have n0b:(xn==0)=false:=by simp[n0]
    go_enter Tryz.func162,Tryz.ntmps162;go_wp2;go_ret;exact⟨Ae (by rw[HE.out];simp[Bm,n0]),Fe _ _ _⟩
  by_cases o3:xop=3
  ·subst o3;by_cases n0:xn=0
   ·subst n0;by_cases hs:xs.toList=[]
    ·skip;by_cases k0:ks.length=2
     ·have k0b:((ks.length:Int)==2)=true:=by rw[Bw];exact AN k0
      have k0':=Aa k0;clear k0;go_enter Tryz.func162,Tryz.ntmps162;go_wp2_with fail;generalize hyy:w.alloc _=x0;generalize hxx:x0.alloc _=x1;obtain⟨b1,k1⟩:=Bx.alloc hyy;obtain⟨b2,k2⟩:=Bx.alloc hxx;have e1:x0.heap.size=w.heap.size+1:=by rw[←hyy,BM]
      rw[e1]at k2;replace k1:=k1.below b2 k1.1;have bb:=b1.trans (b2.mono b1.size);clear hxx hyy b1 b2 e1;refine(CF.out x1 (w.heap.size+1) bb k2).mono ?_;rintro e w3 ⟨rfl,b3⟩;replace k1:=k1.below b3 k1.1;replace k2:=k2.below b3 k2.1;replace bb:=bb.trans (b3.mono bb.size);clear b3;go_wp2;go_ret;exact⟨Ae (by rw[HE.out,HA.out];simp[Bm,Ap hs,k0'.out]),bb⟩
     ·have k0b:((ks.length:Int)==2)=false:=by rw[Bw];exact AG k0
      have k0':=Aa k0;clear k0;go_enter Tryz.func162,Tryz.ntmps162;go_wp2;go_ret;exact⟨Ae (by rw[HE.out];simp[Bm,Ap hs,k0'.out]),Fe _ _ _⟩
    ·have hse:(ByteArray.toList xs).isEmpty=false:=by simp[hs]
     go_enter Tryz.func162,Tryz.ntmps162;go_wp2;go_ret;exact⟨Ae (by rw[HE.out];simp[Bm,AM hs]),Fe _ _ _⟩
   ·have n0b:(xn==0)=false:=by simp[n0]
    go_enter Tryz.func162,Tryz.ntmps162;go_wp2;go_ret;exact⟨Ae (by rw[HE.out];simp[Bm,n0]),Fe _ _ _⟩
  by_cases o2:xop=2
  ·subst o2;have hI:=fun(W:World)=>Fb xn 0 (vars - 1) W;cases hq:inB xn 0 (vars - 1)with
   |true=>
    rw[hq]at hI;have hq:=Aa hq;by_cases hs:xs.toList=[]
    ·skip;by_cases k0:ks.length=0
     ·have k0b:((ks.length:Int)==0)=true:=by rw[BL];exact AN k0
      have k0':=Aa k0;clear k0;go_enter Tryz.func162,Tryz.ntmps162;go_wp2_with fail;generalize hyy:w.alloc _=x0;generalize hxx:x0.alloc _=x1;obtain⟨b1,k1⟩:=Bx.alloc hyy;obtain⟨b2,k2⟩:=Bx.alloc hxx;have e1:x0.heap.size=w.heap.size+1:=by rw[←hyy,BM]
      rw[e1]at k2;replace k1:=k1.below b2 k1.1;have bb:=b1.trans (b2.mono b1.size);clear hxx hyy b1 b2 e1;refine(hI _).mono ?_;rintro e w3 ⟨rfl,rfl⟩;have q1:=k1.2.1;have q2:=k2.2.1;go_wp2_with fail;clear q1 q2;refine(CF.out _ (w.heap.size+1) bb k2).mono ?_;rintro e w3 ⟨rfl,b3⟩;replace k1:=k1.below b3 k1.1;replace k2:=k2.below b3 k2.1;replace bb:=bb.trans (b3.mono bb.size);clear b3;go_wp2;go_ret;exact⟨Ae (by rw[HE.out,HA.out];simp[Bm,hq.out,Ap hs,k0'.out]),bb⟩
     ·have k0b:((ks.length:Int)==0)=false:=by rw[BL];exact AG k0
      have k0':=Aa k0;clear k0;go_enter Tryz.func162,Tryz.ntmps162;go_wp2_with fail;generalize hyy:w.alloc _=x0;generalize hxx:x0.alloc _=x1;obtain⟨b1,k1⟩:=Bx.alloc hyy;obtain⟨b2,k2⟩:=Bx.alloc hxx;have e1:x0.heap.size=w.heap.size+1:=by rw[←hyy,BM]
      rw[e1]at k2;replace k1:=k1.below b2 k1.1;have bb:=b1.trans (b2.mono b1.size);clear hxx hyy b1 b2 e1;refine(hI _).mono ?_;rintro e w3 ⟨rfl,rfl⟩;have q1:=k1.2.1;have q2:=k2.2.1;go_wp2;go_ret;exact⟨Ae (by rw[HE.out];simp[Bm,hq.out,Ap hs,k0'.out]),bb⟩
    ·have hse:(ByteArray.toList xs).isEmpty=false:=by simp[hs]
     go_enter Tryz.func162,Tryz.ntmps162;go_wp2_with fail;generalize hyy:w.alloc _=x0;generalize hxx:x0.alloc _=x1;obtain⟨b1,k1⟩:=Bx.alloc hyy;obtain⟨b2,k2⟩:=Bx.alloc hxx;have e1:x0.heap.size=w.heap.size+1:=by rw[←hyy,BM]
     rw[e1]at k2;replace k1:=k1.below b2 k1.1;have bb:=b1.trans (b2.mono b1.size);clear hxx hyy b1 b2 e1;refine(hI _).mono ?_;rintro e w3 ⟨rfl,rfl⟩;have q1:=k1.2.1;have q2:=k2.2.1;go_wp2;go_ret;exact⟨Ae (by rw[HE.out];simp[Bm,hq.out,AM hs]),bb⟩
   |false=>
    rw[hq]at hI;have hq:=Aa hq;go_enter Tryz.func162,Tryz.ntmps162;go_wp2_with fail;generalize hyy:w.alloc _=x0;generalize hxx:x0.alloc _=x1;obtain⟨b1,k1⟩:=Bx.alloc hyy;obtain⟨b2,k2⟩:=Bx.alloc hxx;have e1:x0.heap.size=w.heap.size+1:=by rw[←hyy,BM]
    rw[e1]at k2;replace k1:=k1.below b2 k1.1;have bb:=b1.trans (b2.mono b1.size);clear hxx hyy b1 b2 e1;refine(hI _).mono ?_;rintro e w3 ⟨rfl,rfl⟩;have q1:=k1.2.1;have q2:=k2.2.1;go_wp2;go_ret;exact⟨Ae (by rw[HE.out];simp[Bm,hq.out]),bb⟩
  by_cases o4:xop=4
  ·subst o4;by_cases n0:xn=0
   ·subst n0;have hC:=fun(W:World)=>GW xs W hss;cases hq:Bb xs with
    |true=>
     rw[hq]at hC;have hq:=Aa hq;go_enter Tryz.func162,Tryz.ntmps162;go_wp2_with fail;generalize hyy:w.alloc _=x0;generalize hxx:x0.alloc _=x1;obtain⟨b1,k1⟩:=Bx.alloc hyy;obtain⟨b2,k2⟩:=Bx.alloc hxx;have e1:x0.heap.size=w.heap.size+1:=by rw[←hyy,BM]
     rw[e1]at k2;replace k1:=k1.below b2 k1.1;have bb:=b1.trans (b2.mono b1.size);clear hxx hyy b1 b2 e1;refine(hC _).mono ?_;rintro e w3 ⟨rfl,rfl⟩;have q1:=k1.2.1;have q2:=k2.2.1;go_wp2_with fail;clear q1 q2;refine(CF.out _ (w.heap.size+1) bb k2).mono ?_;rintro e w3 ⟨rfl,b3⟩;replace k1:=k1.below b3 k1.1;replace k2:=k2.below b3 k2.1;replace bb:=bb.trans (b3.mono bb.size);clear b3;go_wp2;go_ret;exact⟨Ae (by rw[HE.out,HA.out];simp[Bm,hq.out]),bb⟩
    |false=>
     rw[hq]at hC;have hq:=Aa hq;go_enter Tryz.func162,Tryz.ntmps162;go_wp2_with fail;generalize hyy:w.alloc _=x0;generalize hxx:x0.alloc _=x1;obtain⟨b1,k1⟩:=Bx.alloc hyy;obtain⟨b2,k2⟩:=Bx.alloc hxx;have e1:x0.heap.size=w.heap.size+1:=by rw[←hyy,BM]
     rw[e1]at k2;replace k1:=k1.below b2 k1.1;have bb:=b1.trans (b2.mono b1.size);clear hxx hyy b1 b2 e1;refine(hC _).mono ?_;rintro e w3 ⟨rfl,rfl⟩;have q1:=k1.2.1;have q2:=k2.2.1;go_wp2;go_ret;exact⟨Ae (by rw[HE.out];simp[Bm,hq.out]),bb⟩
   ·have n0b:(xn==0)=false:=by simp[n0]
    go_enter Tryz.func162,Tryz.ntmps162;go_wp2;go_ret;exact⟨Ae (by rw[HE.out];simp[Bm,n0]),Fe _ _ _⟩
  go_enter Tryz.func162,Tryz.ntmps162;go_wp2;go_ret;exact⟨Ae (by rw[HE.out];simp[Bm,o1,o2,o3,o4]),Fe _ _ _⟩
end Go.Proofs.YtifhcbeaiijkcaaGreat
