/- Parts of the proof of FnExactJudgeSame. -/
import Derived.Test.YtifhcbeaiijkcaaGreatJ07
import Derived.Test.YtifhcbeaiijkcaaGreatJ03
import Derived.Test.YtifhcbeaiijkcaaGreatJ04
import Derived.Test.YtifhcbeaiijkcaaGreatJ05
set_option linter.unusedVariables false
set_option linter.unusedSimpArgs false
set_option maxRecDepth 1000000
set_option maxHeartbeats 16000000
namespace Go.Proofs.YtifhcbeaiijkcaaGreat
open Go.RowKit
open _root_.Go.World renaming alloc→Wa,setCell→Ws
open _root_.Go.Proofs.Tryz renaming prog→Pq
theorem Fc (w:World) (a b:Obj):Below w.heap.size w ((w.alloc a).alloc b):=((Ab _ w).alloc (Ad _) a).alloc ((Ab w.heap.size w).alloc (Ad _) a).size b
theorem NL:∀ (N:Nat) (x:Tp) (kv:Value) (B:Nat) (w:World),wgT x < N→wgT x≤1048576→RdTps B w kv x.kids→
  Calls Pq 154 #[tpV x kv] w fun e w'=>e= .returned (.int .i64 (AE x))∧Below w.heap.size w w'
 |0,x,kv,B,w,hN,hl,hr=>by omega
 |N+1,x,kv,B,w,hN,hl,hr=>by
  have HR:=Aa (fun(W:World) (hb:Below w.heap.size w W)=>hr.later' hb);have hlen:=hr.len;unfold maxLen at hlen;obtain⟨ka,kc,rfl⟩:=hr.form;have hsz:=DM x;have ih:=fun(j:Nat) (hj:j < x.kids.length) (kv:Value) (B:Nat) (W:World) (h:RdTps B W kv x.kids[j].kids)=>(by
   have:=CJ (An hj);exact NL N x.kids[j] kv B W (by omega) (by omega) h:Calls Pq 154 #[tpV x.kids[j] kv] W fun e w'=>e= .returned (.int .i64 (AE x.kids[j]))∧Below W.heap.size W w')
  unfold tpV at ih ⊢;have IH:=Aa ih;have HB:=Aa (fun(k:Nat)=>(show AE.deepTs (x.kids.take k)≤1048577 from by have:=JN x.kids k;have:=M7 x;have:=Ip x;omega));have HS:=Aa (JM x.kids);have HX:=Aa (Ip x);clear hr ih hsz hN;generalize x.op=xop;generalize x.n=xn;generalize x.s=xs;generalize AE x=dx at HX ⊢;generalize x.kids=ks at*;go_enter Tryz.func154,Tryz.ntmps154;go_wp2_with fail;generalize hxx:w.alloc _=x0;obtain⟨bb,k1⟩:=Bx.alloc hxx;clear hxx;go_wp2
  go_loopw [3,9] (fun o i wr=>∃k:Nat,k≤ks.length∧i= .int .i64 k∧o= .int .i64 (AE.deepTs (ks.take k))∧Below w.heap.size w wr∧Bx wr w.heap.size #[.int .i64 xop,.int .i64 xn,.string xs,.slice ka ks.length kc]) (fun _ i _=>ks.length - (intOf i).toNat)
  case atStart=>exact⟨0,Ao _,rfl,rfl,bb,k1⟩
  case round=>
   clear bb k1;obtain⟨k,hk,rfl,rfl,bb,k1⟩:=hrel;by_cases hlt:k < ks.length
   ·obtain⟨b,off,cap,kv,hv,hB,hbs,hcap,⟨c0,c1,c2,c3⟩,hkr⟩:=(HR.out wr bb).at_ hlt;cases hv
    have hki:(k:Int) < (ks.length:Int):=by omega
    obtain⟨kva,kvc,rfl⟩:=hkr.form;have HK:=Aa hkr;have q1:=k1.2.1;clear hkr;go_wp2_with fail;clear q1 c0 c1 c2 c3;generalize hyy:wr.alloc _=wy;obtain⟨by_, -⟩:=Bx.alloc hyy;clear hyy;have hsz:=bb.size;refine(IH.out k hlt _ _ wy (HK.out.later by_ hsz)).mono ?_;rintro e w2 ⟨rfl,b2⟩;replace b2:=by_.trans (b2.mono by_.size);replace k1:=k1.below b2 k1.1;replace bb:=bb.trans (b2.mono hsz);clear b2 HK by_ hsz;have hb1:=HB.out (k+1);have hs1:=HS.out k hlt;go_wp2_with fail;go_roundw
    case rel=>
     refine⟨k+1,hlt,by go_num,?_,bb,k1⟩;rw[hs1];exact Bk (Value.int .i64) (by omega)
    case measure=>simp[intOf];omega
   ·obtain rfl:k=ks.length:=by omega
    have hb1:=HB.out ks.length;have hx1:=HX.out;rw[B8]at hb1;simp only[B8];have q1:=k1.2.1;go_wp2;go_ret;exact⟨Ap (by rw[hx1];simp),bb⟩
theorem U4 (vars:Int) (g:Nat) (r:Bool) (x:Tp) (kv:Value) (w:World) (hg:w.cell? ⟨g,0,none⟩=some (.int .i64 vars)) (hlt:g < w.heap.size)
  (HF:∀W,Below w.heap.size w W→Calls Pq 162 #[tpV x kv,.int .i64 vars] W fun e w'=>e= .returned (.bool r)∧Below W.heap.size W w'):
  Calls Pq 210 #[tpV x kv,.pointer (some ⟨g,0,none⟩)] w fun e w'=>e= .returned (.bool (!r))∧Below w.heap.size w w':=by
 unfold tpV at HF ⊢;have HF:=Aa HF;generalize x.op=xop at*;generalize x.n=xn at*;generalize x.s=xs at*;go_enter Tryz.func210,Tryz.ntmps210;have hg2:=(((Ab w.heap.size w).alloc (Ad _) (.cells #[.int .i64 xop,.int .i64 xn,.string xs,kv] 158)).cell (p:=⟨g,0,none⟩) hlt).trans hg;go_wp2_with fail;generalize hxx:Wa _ _=x0 at*;obtain⟨bb,k1⟩:=Bx.alloc hxx;clear hxx k1;refine(HF.out x0 bb).mono ?_;rintro e w2 ⟨rfl,b2⟩;replace bb:=bb.trans (b2.mono bb.size);go_wp2;go_ret;exact⟨rfl,bb⟩
theorem NM (vars:Int) (hv:-9223372036854775807≤vars∧vars≤9223372036854775807):∀ (N:Nat) (x:Tp) (kv:Value) (B:Nat) (w:World),wgT x < N→wgT x≤1048576→RdTps B w kv x.kids→
  Calls Pq 162 #[tpV x kv,.int .i64 vars] w fun e w'=>e= .returned (.bool (AW vars x))∧Below w.heap.size w w'
 |0,x,kv,B,w,hN,hl,hr=>by omega
 |N+1,x,kv,B,w,hN,hl,hr=>by
  have HR:=Aa (fun(W:World) (hb:Below w.heap.size w W)=>hr.later' hb);have hwg:=DM x;have hlen:=EJ x.kids;have hks:x.kids.length≤1048576:=by omega
  have hss:x.s.size≤1048576:=by omega
  have IH:=Aa (fun(j:Nat) (hj:j < x.kids.length) (kv:Value) (B:Nat) (W:World) (h:RdTps B W kv x.kids[j].kids)=>(by
   have:=CJ (An hj);exact NM vars hv N x.kids[j] kv B W (by omega) (by omega) h:Calls Pq 162 #[tpV x.kids[j] kv,.int .i64 vars] W fun e w'=>e= .returned (.bool (AW vars x.kids[j]))∧Below W.heap.size W w'))
  have CF:=Aa (fun(W:World) (g:Nat) (hb:Below w.heap.size w W) (k:Bx W g #[.int .i64 vars])=>OW (.pointer (some ⟨g,0,none⟩)) (fun y=>!AW vars y) x.kids kv _ W (HR.out W hb) hks (fun j hj kv W' hb' hk=>U4 vars g (AW vars x.kids[j]) x.kids[j] kv W' ((k.below hb' k.1).2.1 0) (k.below hb' k.1).1 (fun W2 hb2=>IH.out j hj kv _ W2 (hk.later hb2 hb'.size))));have HE:=Aa (M8 vars x);have HA:=Aa (show AW.typsP vars x.kids=!(x.kids.any fun y=>!AW vars y)by rw[Iq,DV];simp);obtain⟨ka,kc,rfl⟩:=hr.form;unfold tpV;clear hr hN hwg hlen hl;generalize x.op=xop at*;generalize x.n=xn at*;generalize x.s=xs at*;generalize AW vars x=px at*;generalize x.kids=ks at*;by_cases o1:xop=1
  ·subst o1;by_cases n0:xn=0
   ·subst n0;by_cases hs:xs.toList=[]
    ·skip;by_cases k0:ks.length=0
     ·have k0b:((ks.length:Int)==0)=true:=by rw[Cc];exact Ax k0
      have k0':=Aa k0;clear k0;go_enter Tryz.func162,Tryz.ntmps162;go_wp2_with fail;generalize hyy:w.alloc _=x0;generalize hxx:x0.alloc _=x1;obtain⟨b1,k1⟩:=Bx.alloc hyy;obtain⟨b2,k2⟩:=Bx.alloc hxx;have e1:x0.heap.size=w.heap.size+1:=by rw[←hyy,Bo]
      rw[e1]at k2;replace k1:=k1.below b2 k1.1;have bb:=b1.trans (b2.mono b1.size);clear hxx hyy b1 b2 e1;refine(CF.out x1 (w.heap.size+1) bb k2).mono ?_;rintro e w3 ⟨rfl,b3⟩;replace k1:=k1.below b3 k1.1;replace k2:=k2.below b3 k2.1;replace bb:=bb.trans (b3.mono bb.size);clear b3;go_wp2;go_ret;exact⟨Ac (by rw[HE.out,HA.out];simp[Bs,Al hs,k0'.out]),bb⟩
     ·have k0b:((ks.length:Int)==0)=false:=by rw[Cc];exact AF k0
      have k0':=Aa k0;clear k0;go_enter Tryz.func162,Tryz.ntmps162;go_wp2;go_ret;exact⟨Ac (by rw[HE.out];simp[Bs,Al hs,k0'.out]),Fc _ _ _⟩
    ·have hse:(ByteArray.toList xs).isEmpty=false:=by simp[hs]
     go_enter Tryz.func162,Tryz.ntmps162;go_wp2;go_ret;exact⟨Ac (by rw[HE.out];simp[Bs,AH hs]),Fc _ _ _⟩
   ·have n0b:(xn==0)=false:=by simp[n0]
    go_enter Tryz.func162,Tryz.ntmps162;go_wp2;go_ret;exact⟨Ac (by rw[HE.out];simp[Bs,n0]),Fc _ _ _⟩
  by_cases o3:xop=3
  ·subst o3;by_cases n0:xn=0
   ·subst n0;by_cases hs:xs.toList=[]
    ·skip;by_cases k0:ks.length=2
     ·have k0b:((ks.length:Int)==2)=true:=by rw[BF];exact Ax k0
      have k0':=Aa k0;clear k0;go_enter Tryz.func162,Tryz.ntmps162;go_wp2_with fail;generalize hyy:w.alloc _=x0;generalize hxx:x0.alloc _=x1;obtain⟨b1,k1⟩:=Bx.alloc hyy;obtain⟨b2,k2⟩:=Bx.alloc hxx;have e1:x0.heap.size=w.heap.size+1:=by rw[←hyy,Bo]
      rw[e1]at k2;replace k1:=k1.below b2 k1.1;have bb:=b1.trans (b2.mono b1.size);clear hxx hyy b1 b2 e1;refine(CF.out x1 (w.heap.size+1) bb k2).mono ?_;rintro e w3 ⟨rfl,b3⟩;replace k1:=k1.below b3 k1.1;replace k2:=k2.below b3 k2.1;replace bb:=bb.trans (b3.mono bb.size);clear b3;go_wp2;go_ret;exact⟨Ac (by rw[HE.out,HA.out];simp[Bs,Al hs,k0'.out]),bb⟩
     ·have k0b:((ks.length:Int)==2)=false:=by rw[BF];exact AF k0
      have k0':=Aa k0;clear k0;go_enter Tryz.func162,Tryz.ntmps162;go_wp2;go_ret;exact⟨Ac (by rw[HE.out];simp[Bs,Al hs,k0'.out]),Fc _ _ _⟩
    ·have hse:(ByteArray.toList xs).isEmpty=false:=by simp[hs]
     go_enter Tryz.func162,Tryz.ntmps162;go_wp2;go_ret;exact⟨Ac (by rw[HE.out];simp[Bs,AH hs]),Fc _ _ _⟩
   ·have n0b:(xn==0)=false:=by simp[n0]
    go_enter Tryz.func162,Tryz.ntmps162;go_wp2;go_ret;exact⟨Ac (by rw[HE.out];simp[Bs,n0]),Fc _ _ _⟩
  by_cases o2:xop=2
  ·subst o2;have hI:=fun(W:World)=>A8 xn 0 (vars - 1) W;cases hq:inB xn 0 (vars - 1)with
   |true=>
    rw[hq]at hI;have hq:=Aa hq;by_cases hs:xs.toList=[]
    ·skip;by_cases k0:ks.length=0
     ·have k0b:((ks.length:Int)==0)=true:=by rw[Cc];exact Ax k0
      have k0':=Aa k0;clear k0;go_enter Tryz.func162,Tryz.ntmps162;go_wp2_with fail;generalize hyy:w.alloc _=x0;generalize hxx:x0.alloc _=x1;obtain⟨b1,k1⟩:=Bx.alloc hyy;obtain⟨b2,k2⟩:=Bx.alloc hxx;have e1:x0.heap.size=w.heap.size+1:=by rw[←hyy,Bo]
      rw[e1]at k2;replace k1:=k1.below b2 k1.1;have bb:=b1.trans (b2.mono b1.size);clear hxx hyy b1 b2 e1;refine(hI _).mono ?_;rintro e w3 ⟨rfl,rfl⟩;have q1:=k1.2.1;have q2:=k2.2.1;go_wp2_with fail;clear q1 q2;refine(CF.out _ (w.heap.size+1) bb k2).mono ?_;rintro e w3 ⟨rfl,b3⟩;replace k1:=k1.below b3 k1.1;replace k2:=k2.below b3 k2.1;replace bb:=bb.trans (b3.mono bb.size);clear b3;go_wp2;go_ret;exact⟨Ac (by rw[HE.out,HA.out];simp[Bs,hq.out,Al hs,k0'.out]),bb⟩
     ·have k0b:((ks.length:Int)==0)=false:=by rw[Cc];exact AF k0
      have k0':=Aa k0;clear k0;go_enter Tryz.func162,Tryz.ntmps162;go_wp2_with fail;generalize hyy:w.alloc _=x0;generalize hxx:x0.alloc _=x1;obtain⟨b1,k1⟩:=Bx.alloc hyy;obtain⟨b2,k2⟩:=Bx.alloc hxx;have e1:x0.heap.size=w.heap.size+1:=by rw[←hyy,Bo]
      rw[e1]at k2;replace k1:=k1.below b2 k1.1;have bb:=b1.trans (b2.mono b1.size);clear hxx hyy b1 b2 e1;refine(hI _).mono ?_;rintro e w3 ⟨rfl,rfl⟩;have q1:=k1.2.1;have q2:=k2.2.1;go_wp2;go_ret;exact⟨Ac (by rw[HE.out];simp[Bs,hq.out,Al hs,k0'.out]),bb⟩
    ·have hse:(ByteArray.toList xs).isEmpty=false:=by simp[hs]
     go_enter Tryz.func162,Tryz.ntmps162;go_wp2_with fail;generalize hyy:w.alloc _=x0;generalize hxx:x0.alloc _=x1;obtain⟨b1,k1⟩:=Bx.alloc hyy;obtain⟨b2,k2⟩:=Bx.alloc hxx;have e1:x0.heap.size=w.heap.size+1:=by rw[←hyy,Bo]
     rw[e1]at k2;replace k1:=k1.below b2 k1.1;have bb:=b1.trans (b2.mono b1.size);clear hxx hyy b1 b2 e1;refine(hI _).mono ?_;rintro e w3 ⟨rfl,rfl⟩;have q1:=k1.2.1;have q2:=k2.2.1;go_wp2;go_ret;exact⟨Ac (by rw[HE.out];simp[Bs,hq.out,AH hs]),bb⟩
   |false=>
    rw[hq]at hI;have hq:=Aa hq;go_enter Tryz.func162,Tryz.ntmps162;go_wp2_with fail;generalize hyy:w.alloc _=x0;generalize hxx:x0.alloc _=x1;obtain⟨b1,k1⟩:=Bx.alloc hyy;obtain⟨b2,k2⟩:=Bx.alloc hxx;have e1:x0.heap.size=w.heap.size+1:=by rw[←hyy,Bo]
    rw[e1]at k2;replace k1:=k1.below b2 k1.1;have bb:=b1.trans (b2.mono b1.size);clear hxx hyy b1 b2 e1;refine(hI _).mono ?_;rintro e w3 ⟨rfl,rfl⟩;have q1:=k1.2.1;have q2:=k2.2.1;go_wp2;go_ret;exact⟨Ac (by rw[HE.out];simp[Bs,hq.out]),bb⟩
  by_cases o4:xop=4
  ·subst o4;by_cases n0:xn=0
   ·subst n0;have hC:=fun(W:World)=>GC xs W hss;cases hq:Bg xs with
    |true=>
     rw[hq]at hC;have hq:=Aa hq;go_enter Tryz.func162,Tryz.ntmps162;go_wp2_with fail;generalize hyy:w.alloc _=x0;generalize hxx:x0.alloc _=x1;obtain⟨b1,k1⟩:=Bx.alloc hyy;obtain⟨b2,k2⟩:=Bx.alloc hxx;have e1:x0.heap.size=w.heap.size+1:=by rw[←hyy,Bo]
     rw[e1]at k2;replace k1:=k1.below b2 k1.1;have bb:=b1.trans (b2.mono b1.size);clear hxx hyy b1 b2 e1;refine(hC _).mono ?_;rintro e w3 ⟨rfl,rfl⟩;have q1:=k1.2.1;have q2:=k2.2.1;go_wp2_with fail;clear q1 q2;refine(CF.out _ (w.heap.size+1) bb k2).mono ?_;rintro e w3 ⟨rfl,b3⟩;replace k1:=k1.below b3 k1.1;replace k2:=k2.below b3 k2.1;replace bb:=bb.trans (b3.mono bb.size);clear b3;go_wp2;go_ret;exact⟨Ac (by rw[HE.out,HA.out];simp[Bs,hq.out]),bb⟩
    |false=>
     rw[hq]at hC;have hq:=Aa hq;go_enter Tryz.func162,Tryz.ntmps162;go_wp2_with fail;generalize hyy:w.alloc _=x0;generalize hxx:x0.alloc _=x1;obtain⟨b1,k1⟩:=Bx.alloc hyy;obtain⟨b2,k2⟩:=Bx.alloc hxx;have e1:x0.heap.size=w.heap.size+1:=by rw[←hyy,Bo]
     rw[e1]at k2;replace k1:=k1.below b2 k1.1;have bb:=b1.trans (b2.mono b1.size);clear hxx hyy b1 b2 e1;refine(hC _).mono ?_;rintro e w3 ⟨rfl,rfl⟩;have q1:=k1.2.1;have q2:=k2.2.1;go_wp2;go_ret;exact⟨Ac (by rw[HE.out];simp[Bs,hq.out]),bb⟩
   ·have n0b:(xn==0)=false:=by simp[n0]
    go_enter Tryz.func162,Tryz.ntmps162;go_wp2;go_ret;exact⟨Ac (by rw[HE.out];simp[Bs,n0]),Fc _ _ _⟩
  go_enter Tryz.func162,Tryz.ntmps162;go_wp2;go_ret;exact⟨Ac (by rw[HE.out];simp[Bs,o1,o2,o3,o4]),Fc _ _ _⟩
theorem NN:∀ (N:Nat) (x:Tp) (kv:Value) (B:Nat) (w:World),wgT x < N→wgT x≤1048576→RdTps B w kv x.kids→
  Calls Pq 111 #[tpV x kv] w fun e w'=>e= .returned (.int .i64 (AE x))∧Below w.heap.size w w'
 |0,x,kv,B,w,hN,hl,hr=>by omega
 |N+1,x,kv,B,w,hN,hl,hr=>by
  have HR:=Aa (fun(W:World) (hb:Below w.heap.size w W)=>hr.later' hb);have hlen:=hr.len;unfold maxLen at hlen;obtain⟨ka,kc,rfl⟩:=hr.form;have hsz:=DM x;have ih:=fun(j:Nat) (hj:j < x.kids.length) (kv:Value) (B:Nat) (W:World) (h:RdTps B W kv x.kids[j].kids)=>(by
   have:=CJ (An hj);exact NN N x.kids[j] kv B W (by omega) (by omega) h:Calls Pq 111 #[tpV x.kids[j] kv] W fun e w'=>e= .returned (.int .i64 (AE x.kids[j]))∧Below W.heap.size W w')
  unfold tpV at ih ⊢;have IH:=Aa ih;have HB:=Aa (fun(k:Nat)=>(show AE.deepTs (x.kids.take k)≤1048577 from by have:=JN x.kids k;have:=M7 x;have:=Ip x;omega));have HS:=Aa (JM x.kids);have HX:=Aa (Ip x);clear hr ih hsz hN;generalize x.op=xop;generalize x.n=xn;generalize x.s=xs;generalize AE x=dx at HX ⊢;generalize x.kids=ks at*;go_enter Tryz.func111,Tryz.ntmps111;go_wp2_with fail;generalize hxx:w.alloc _=x0;obtain⟨bb,k1⟩:=Bx.alloc hxx;clear hxx;go_wp2
  go_loopw [3,4] (fun o i wr=>∃k:Nat,k≤ks.length∧i= .int .i64 k∧o= .int .i64 (AE.deepTs (ks.take k))∧Below w.heap.size w wr∧Bx wr w.heap.size #[.int .i64 xop,.int .i64 xn,.string xs,.slice ka ks.length kc]) (fun _ i _=>ks.length - (intOf i).toNat)
  case atStart=>exact⟨0,Ao _,rfl,rfl,bb,k1⟩
  case round=>
   clear bb k1;obtain⟨k,hk,rfl,rfl,bb,k1⟩:=hrel;by_cases hlt:k < ks.length
   ·obtain⟨b,off,cap,kv,hv,hB,hbs,hcap,⟨c0,c1,c2,c3⟩,hkr⟩:=(HR.out wr bb).at_ hlt;cases hv
    have hki:(k:Int) < (ks.length:Int):=by omega
    obtain⟨kva,kvc,rfl⟩:=hkr.form;have HK:=Aa hkr;have q1:=k1.2.1;clear hkr;go_wp2_with fail;clear q1 c0 c1 c2 c3;refine(IH.out k hlt _ _ wr HK.out).mono ?_;rintro e w2 ⟨rfl,b2⟩;replace k1:=k1.below b2 k1.1;replace bb:=bb.trans (b2.mono bb.size);clear b2 HK;have hb1:=HB.out (k+1);have hs1:=HS.out k hlt;go_wp2_with fail;refine(Ll _ _ w2).mono ?_;rintro e w3 ⟨rfl,rfl⟩;go_wp2;go_roundw
    case rel=>
     refine⟨k+1,hlt,by go_num,?_,bb,k1⟩;rw[hs1];exact Bk (Value.int .i64) (by omega)
    case measure=>simp[intOf];omega
   ·obtain rfl:k=ks.length:=by omega
    have hb1:=HB.out ks.length;have hx1:=HX.out;rw[B8]at hb1;simp only[B8];have q1:=k1.2.1;go_wp2;go_ret;exact⟨Ap (by rw[hx1];simp),bb⟩
theorem NO (vars:Int) (hv:-9223372036854775807≤vars∧vars≤9223372036854775807):∀ (N:Nat) (x:Tp) (kv:Value) (B:Nat) (w:World),wgT x < N→wgT x≤1048576→RdTps B w kv x.kids→
  Calls Pq 112 #[tpV x kv,.int .i64 vars] w fun e w'=>e= .returned (.bool (AW vars x))∧Below w.heap.size w w'
 |0,x,kv,B,w,hN,hl,hr=>by omega
 |N+1,x,kv,B,w,hN,hl,hr=>by
  have HR:=Aa (fun(W:World) (hb:Below w.heap.size w W)=>hr.later' hb);have hwg:=DM x;have hlen:=EJ x.kids;have hks:x.kids.length≤1048576:=by omega
  have hss:x.s.size≤1048576:=by omega
  obtain⟨ka,kc,rfl⟩:=hr.form;have ih:=fun(j:Nat) (hj:j < x.kids.length) (kv:Value) (B:Nat) (W:World) (h:RdTps B W kv x.kids[j].kids)=>(by
   have:=CJ (An hj);exact NO vars hv N x.kids[j] kv B W (by omega) (by omega) h:Calls Pq 112 #[tpV x.kids[j] kv,.int .i64 vars] W fun e w'=>e= .returned (.bool (AW vars x.kids[j]))∧Below W.heap.size W w')
  unfold tpV at ih ⊢;have IH:=Aa ih;have HE:=Aa (M8 vars x);clear hr ih hN hwg hlen hl;generalize x.op=xop at*;generalize x.n=xn at*;generalize x.s=xs at*;generalize AW vars x=px at*;generalize x.kids=ks at*;go_enter Tryz.func112,Tryz.ntmps112;go_wp2_with fail;generalize hxx:w.alloc _=x0;obtain⟨bb,k1⟩:=Bx.alloc hxx;clear hxx;go_wp2
  go_loopw [5] (fun i wr=>∃k:Nat,k≤ks.length∧i= .int .i64 k∧Below w.heap.size w wr∧Bx wr w.heap.size #[.int .i64 xop,.int .i64 xn,.string xs,.slice ka ks.length kc]∧Hid (∀j (h:j < ks.length),j < k→AW vars ks[j]=true)) (fun i _=>ks.length - (intOf i).toNat)
  case atStart=>exact⟨0,Ao _,rfl,bb,k1,Aa (fun j h hk=>absurd hk (Aw j))⟩
  case round=>
   clear bb k1;obtain⟨k,hk,rfl,bb,k1,hd⟩:=hrel;by_cases hlt:k < ks.length
   ·obtain⟨b,off,cap,kv,hv,hB,hbs,hcap,⟨c0,c1,c2,c3⟩,hkr⟩:=(HR.out wr bb).at_ hlt;cases hv
    have hki:(k:Int) < (ks.length:Int):=by omega
    obtain⟨kva,kvc,rfl⟩:=hkr.form;have HK:=Aa hkr;have q1:=k1.2.1;clear hkr;go_wp2_with fail;clear q1 c0 c1 c2 c3;refine(IH.out k hlt _ _ wr HK.out).mono ?_;rintro e w2 ⟨rfl,b2⟩;replace k1:=k1.below b2 k1.1;replace bb:=bb.trans (b2.mono bb.size);clear b2 HK;cases hp:AW vars ks[k]with
    |true=>
     have hp':=Aa hp;clear hp;go_wp2;go_roundw
     case rel=>exact⟨k+1,hlt,by go_num,bb,k1,Aa (fun j h hj=>by
      by_cases e:j=k
      ·subst e;exact hp'.out
      ·exact hd.out j h (by omega))⟩
     case measure=>simp[intOf];omega
    |false=>
     have hp':=Aa ((Iq vars ks).trans (DN hlt hp));clear hp;go_wp2;go_ret;exact⟨Ac (by rw[HE.out,hp'.out];rfl),bb⟩
   ·obtain rfl:k=ks.length:=by omega
    have hy:=(Iq vars ks).trans (Ea (fun j hj=>hd.out j hj hj));have HE:Hid (px=Bs vars xop xn xs ks.length):=Aa (by rw[HE.out,hy];rfl);clear hy;have q1:=k1.2.1;clear hd k1 HR IH;by_cases o1:xop=1
    ·subst o1;by_cases n0:xn=0
     ·subst n0;by_cases hs:xs.toList=[]
      ·go_wp2;go_ret;exact⟨Ac (by rw[HE.out];simp[Bs,Al hs,Cc, -List.length_eq_zero_iff]),bb⟩
      ·go_wp2;go_ret;exact⟨Ac (by rw[HE.out];simp[Bs,AH hs]),bb⟩
     ·go_wp2;go_ret;exact⟨Ac (by rw[HE.out];simp[Bs,n0]),bb⟩
    by_cases o2:xop=2
    ·subst o2;have hin:=AZ xn 0 (vars - 1) wr;cases hq:inB xn 0 (vars - 1)with
     |false=>
      rw[hq]at hin;go_wp2_with fail;refine hin.mono ?_;rintro e w3 ⟨rfl,rfl⟩;clear hin;have hq:=Aa hq;go_wp2;go_ret;exact⟨Ac (by rw[HE.out];simp[Bs,hq.out]),bb⟩
     |true=>
      rw[hq]at hin;go_wp2_with fail;refine hin.mono ?_;rintro e w3 ⟨rfl,rfl⟩;clear hin;have hq:=Aa hq;by_cases hs:xs.toList=[]
      ·go_wp2;go_ret;exact⟨Ac (by rw[HE.out];simp[Bs,Al hs,hq.out,Cc, -List.length_eq_zero_iff]),bb⟩
      ·go_wp2;go_ret;exact⟨Ac (by rw[HE.out];simp[Bs,AH hs]),bb⟩
    by_cases o3:xop=3
    ·subst o3;by_cases n0:xn=0
     ·subst n0;by_cases hs:xs.toList=[]
      ·go_wp2;go_ret;exact⟨Ac (by rw[HE.out];simp[Bs,Al hs,BF]),bb⟩
      ·go_wp2;go_ret;exact⟨Ac (by rw[HE.out];simp[Bs,AH hs]),bb⟩
     ·go_wp2;go_ret;exact⟨Ac (by rw[HE.out];simp[Bs,n0]),bb⟩
    by_cases o4:xop=4
    ·subst o4;by_cases n0:xn=0
     ·subst n0;go_wp2_with fail;refine(GE xs _ hss).mono ?_;rintro e w3 ⟨rfl,b3⟩;replace bb:=bb.trans (b3.mono bb.size);go_wp2;go_ret;exact⟨Ac (by rw[HE.out];simp[Bs]),bb⟩
     ·go_wp2;go_ret;exact⟨Ac (by rw[HE.out];simp[Bs,n0]),bb⟩
    ·go_wp2;go_ret;exact⟨Ac (by rw[HE.out];simp[Bs,o1,o2,o3,o4]),bb⟩
def pgV (dv:Value) (x:Nd) (kv:Value):Value:= .agg #[dv,.int .i64 x.op,.int .i64 x.n,.string x.s,.string x.t,kv]
def SzP (ds:List Dt) (x:Nd):Prop:=AN ds≤1048576∧wgN x≤1048576∧B7 x≤4294967296
theorem UZ {cs:List Cn}{vars:Int}{k j:Nat}(hk:k < cs.length) (hj:j < cs[k].args.length) (h:(decide (AE cs[k].args[j]≤24)&& AW vars cs[k].args[j])=false):cs.all (cnP vars)=false:=by
 refine DN hk ?_;unfold cnP;rw[DN (q:=fun t=>decide (AE t≤24)&& AW vars t) hj h,Bool.and_false]
theorem U0 {cs:List Cn}{vars:Int}{k:Nat}(hk:k < cs.length) (h:Bg cs[k].name=false):cs.all (cnP vars)=false:=by
 refine DN hk ?_;unfold cnP;rw[h,Bool.false_and]
theorem U1 {c:Cn}{vars:Int}(h:Bg c.name=true) (ha:∀j (hj:j < c.args.length),(decide (AE c.args[j]≤24)&& AW vars c.args[j])=true):cnP vars c=true:=by
 unfold cnP;rw[h,DH];exact Ea (q:=fun t=>decide (AE t≤24)&& AW vars t) ha
theorem U2 {ds:List Dt}{x:Nd}{i:Nat}(hi:i < ds.length) (h:dtP ds[i]=false):BG ds x=false:=by
 unfold BG;rw[DN hi h,Bool.false_and]
theorem U3 {ds:List Dt}{x:Nd}(h:∀i (hi:i < ds.length),dtP ds[i]=true):BG ds x= (decide (Bf x≤24)&& Aj x):=by
 unfold BG;rw[Ea h,DH]
theorem NI (ds:List Dt) (x:Nd) (dv kv:Value) (B B':Nat) (w:World) (hz:SzP ds x) (hd:RdDts B w dv ds) (hr:RdNs B' w kv x.kids)
  (hv:∀d∈ds, -9223372036854775808≤d.vars∧d.vars≤9223372036854775807):
  Calls Pq 53 #[pgV dv x kv] w fun e w'=>e= .returned (.bool (BG ds x))∧Below w.heap.size w w':=by
 obtain⟨z1,z2,z3⟩:=hz;have HD:=Aa (fun(W:World) (hb:Below w.heap.size w W)=>hd.later' hb);have DE:=Aa (fun(W:World) (hb:Below w.heap.size w W)=>Lm _ x kv _ W (Ad _) z3 (hr.later' hb));have EE:=Aa (fun(W:World) (hb:Below w.heap.size w W)=>JW 1048577 x kv _ W (by omega) z2 (hr.later' hb));have TD:=Aa (fun(i:Nat) (hi:i < ds.length) (k:Nat) (hk:k < ds[i].cons.length) (j:Nat) (hj:j < ds[i].cons[k].args.length) (kv:Value) (B:Nat) (W:World) (h:RdTps B W kv ds[i].cons[k].args[j].kids)=>(by
  have h1:=Dm (An hi);have h2:=Eb (An hk);have h3:=CJ (An hj);unfold wgD at h1;unfold wgC at h2;exact NN 1048577 _ kv B W (by omega) (by omega) h:Calls Pq 111 #[tpV ds[i].cons[k].args[j] kv] W fun e w'=>e= .returned (.int .i64 (AE ds[i].cons[k].args[j]))∧Below W.heap.size W w'))
 have TT:=Aa (fun(i:Nat) (hi:i < ds.length) (hin:inB ds[i].vars 0 26=true) (k:Nat) (hk:k < ds[i].cons.length) (j:Nat) (hj:j < ds[i].cons[k].args.length) (kv:Value) (B:Nat) (W:World) (h:RdTps B W kv ds[i].cons[k].args[j].kids)=>(by
  have h1:=Dm (An hi);have h2:=Eb (An hk);have h3:=CJ (An hj);unfold wgD at h1;unfold wgC at h2;exact NO ds[i].vars (by unfold inB at hin;simp at hin;omega) 1048577 _ kv B W (by omega) (by omega) h:Calls Pq 112 #[tpV ds[i].cons[k].args[j] kv,.int .i64 ds[i].vars] W fun e w'=>e= .returned (.bool (AW ds[i].vars ds[i].cons[k].args[j]))∧Below W.heap.size W w'))
 have SZ:=Aa (fun(i:Nat) (hi:i < ds.length)=>(by
  have h1:=Dm (An hi);have h2:=E9 ds[i].cons;unfold wgD at h1;exact⟨by omega,by omega,fun k hk=>by
   have h2:=Eb (An hk);have h3:=EJ ds[i].cons[k].args;unfold wgC at h2;exact⟨by omega,by omega⟩⟩:ds[i].name.size≤1048576∧ds[i].cons.length≤1048576∧ ∀k (hk:k < ds[i].cons.length),ds[i].cons[k].name.size≤1048576∧ds[i].cons[k].args.length≤1048576))
 have hln:=Dn ds;have hds:ds.length≤1048576:=by omega
 obtain⟨da,dc,rfl⟩:=hd.form;have HTn:=Aa (fun(i:Nat) (hi:i < ds.length) (h:dtP ds[i]=false)=>U2 (x:=x) hi h);have HTy:=Aa (fun(h:∀i (hi:i < ds.length),dtP ds[i]=true)=>U3 (x:=x) h);clear hd hr hv z1 z2 z3 hln;unfold ndV tpV at*;unfold pgV;generalize Bf x=dpx at*;generalize Aj x=npx at*;generalize x.op=xop at*;generalize x.n=xn at*;generalize x.s=xs at*;generalize x.t=xt at*;generalize BG ds x=tp at*;go_enter Tryz.func53,Tryz.ntmps53;go_wp2_with fail;generalize hxx:w.alloc _=x0;obtain⟨bb,k1⟩:=Bx.alloc hxx;clear hxx;go_wp2
 go_loopw [3] (fun i wr=>∃k:Nat,k≤ds.length∧i= .int .i64 k∧Below w.heap.size w wr∧Bx wr w.heap.size #[.slice da ds.length dc,.int .i64 xop,.int .i64 xn,.string xs,.string xt,kv]∧Hid (∀j (h:j < ds.length),j < k→dtP ds[j]=true)) (fun i _=>ds.length - (intOf i).toNat)
 case atStart=>exact⟨0,Ao _,rfl,bb,k1,Aa (fun j h hk=>absurd hk (Aw j))⟩
 case round=>
  clear bb k1;obtain⟨i,hi,rfl,bb,k1,hd⟩:=hrel;by_cases hlt:i < ds.length
  ·have HTk:=Aa (HTn.out i hlt);have TDi:=Aa (TD.out i hlt);have TTi:=Aa (TT.out i hlt);obtain⟨zz1,zz2,zz3⟩:=SZ.out i hlt;have zz3:=Aa zz3;have HDY:=Aa (fun(hy:dtP ds[i]=true)=>(fun j h hj=>(by
     by_cases e:j=i
     ·subst e;exact hy
     ·exact hd.out j h (by omega)):∀j (h:j < ds.length),j < i+1→dtP ds[j]=true))
   obtain⟨b,off,cap,cv,hv,hB,hbs,hcap,c0,c1,c2,hkr⟩:=(HD.out wr bb).at_ hlt;cases hv
   have hki:(i:Int) < (ds.length:Int):=by omega
   have HC:=Aa (fun(W:World) (hb:Below wr.heap.size wr W)=>hkr.later' hb);obtain⟨ca,cc,rfl⟩:=hkr.form;have q1:=k1.2.1;have hE:dtP ds[i]= (Bg ds[i].name&& (inB ds[i].vars 0 26&& (decide (ds[i].cons.length≠0)&& ds[i].cons.all (cnP ds[i].vars)))):=rfl;have HE:=Aa hE;clear hkr hE TD TT SZ;generalize dtP ds[i]=dd at*;generalize ds[i]=d at*;obtain⟨dn,dvs,dcs⟩:=d;dsimp only at*;go_wp2_with fail;generalize hyy:Wa _ _=wy;obtain⟨by_,k2⟩:=Bx.alloc hyy;clear hyy c0 c1 c2 q1;have hs0:=bb.size;replace k1:=k1.below by_ k1.1;have by1:=by_;replace bb:=bb.trans (by_.mono hs0);refine(GE dn wy zz1).mono ?_;rintro e w2 ⟨rfl,b2⟩;replace k1:=k1.below b2 k1.1;replace k2:=k2.below b2 k2.1;replace bb:=bb.trans (b2.mono bb.size);replace by_:=by_.trans (b2.mono by_.size);clear b2;cases hcn:Bg dn with
   |false=>
    have hcn:=Aa hcn;go_wp2;go_ret;exact⟨Ac (HTk.out (by rw[HE.out,hcn.out];rfl)).symm,bb⟩
   |true=>
   have hcn:=Aa hcn;have hin:=fun(W:World)=>AZ dvs 0 26 W;cases hvb:inB dvs 0 26 with
   |false=>
    rw[hvb]at hin;have hvb:=Aa hvb;have q2:=k2.2.1;go_wp2_with fail;refine(hin _).mono ?_;rintro e w3 ⟨rfl,rfl⟩;clear q2 hin;go_wp2;go_ret;exact⟨Ac (HTk.out (by rw[HE.out,hvb.out];simp)).symm,bb⟩
   |true=>
   rw[hvb]at hin;have hvb:=Aa hvb;have q2:=k2.2.1;go_wp2_with fail;refine(hin _).mono ?_;rintro e w3 ⟨rfl,rfl⟩;clear hin;by_cases hl0:dcs.length=0
   ·have k0b:((dcs.length:Int)==0)=true:=by rw[Cc];exact Ax hl0
    have hl0:=Aa hl0;go_wp2;go_ret;exact⟨Ac (HTk.out (by rw[HE.out];simp[hl0.out])).symm,bb⟩
   have k0b:((dcs.length:Int)==0)=false:=by rw[Cc];exact AF hl0
   have HE:Hid (dcs.all (cnP dvs)=dd):=Aa (by rw[HE.out,hcn.out,hvb.out];simp[hl0]);have TTi:=Aa (TTi.out hvb.out);clear hcn hvb;have hl0:=Aa hl0;have BW:=Aa bb;have BY:=Aa by_;go_wp2_with fail;obtain⟨wo,rfl⟩:∃W,W=wr:=⟨wr,rfl⟩
   go_loopw [5] (fun v wr=>∃k:Nat,k≤dcs.length∧v= .int .i64 k∧Below w2.heap.size w2 wr∧Hid (∀l (hl:l < dcs.length),l < k→cnP dvs dcs[l]=true)) (fun v _=>dcs.length - (intOf v).toNat)
   case atStart=>exact⟨0,Ao _,rfl,Ab _ _,Aa (fun j h hk=>absurd hk (Aw j))⟩
   case round=>
    clear q2;obtain⟨k,hk,rfl,bz,hdk⟩:=hrel;have k1z:=k1.below bz k1.1;have k2z:=k2.below bz k2.1;have byz:=BY.out.trans (bz.mono BY.out.size);have q2:=k2z.2.1;by_cases hlk:k < dcs.length
    ·obtain⟨b',off',cap',av,hv',hB',hbs',hcap',d0,d1,hka⟩:=(HC.out wr byz).at_ hlk;cases hv'
     have hkk:(k:Int) < (dcs.length:Int):=by omega
     obtain⟨zc1,zc2⟩:=zz3.out k hlk;have HA:=Aa (fun(W:World) (hb:Below wr.heap.size wr W)=>hka.later' hb);have TDk:=Aa (TDi.out k hlk);have TTk:=Aa (TTi.out k hlk);have HDK:=Aa (fun(hy:cnP dvs dcs[k]=true)=>(fun l h hj=>(by
      by_cases e:l=k
      ·subst e;exact hy
      ·exact hdk.out l h (by omega)):∀l (h:l < dcs.length),l < k+1→cnP dvs dcs[l]=true))
     have HAB:=Aa (fun(j:Nat) (hj:j < dcs[k].args.length) h=>UZ (vars:=dvs) hlk hj h);have HCB:=Aa (fun h=>U0 (vars:=dvs) hlk h);have HCG:=Aa (@U1 (dcs[k]'hlk) dvs);obtain⟨aa,ac,rfl⟩:=hka.form;clear hka;generalize hdck:dcs[k]=c at*;have HDCK:=Aa hdck;clear hdck;go_wp2_with fail;clear d0 d1 q2;refine(GE c.name wr zc1).mono ?_;rintro e w4 ⟨rfl,b4⟩;have hs3:=bz.size;replace k1z:=k1z.below b4 k1z.1;replace k2z:=k2z.below b4 k2z.1;replace byz:=byz.trans (b4.mono byz.size);replace bz:=bz.trans (b4.mono hs3);cases hcc:Bg c.name with
     |false=>
      have hcc:=Aa hcc;have bt:=BW.out.trans (bz.mono BW.out.size);go_wp2;go_ret;exact⟨Ac (HTk.out (by rw[←HE.out];exact HCB.out hcc.out)).symm,bt⟩
     |true=>
     have hcc:=Aa hcc;have BK:=Aa bz;have B4:=Aa b4;have BYZ:=Aa byz;clear bz b4 byz;go_wp2_with fail;obtain⟨wm,rfl⟩:∃W,W=wr:=⟨wr,rfl⟩
     go_loopw [6] (fun v wu=>∃j:Nat,j≤c.args.length∧v= .int .i64 j∧Below w4.heap.size w4 wu∧Hid (∀l (hl:l < c.args.length),l < j→(decide (AE c.args[l]≤24)&& AW dvs c.args[l])=true)) (fun v _=>c.args.length - (intOf v).toNat)
     case atStart=>exact⟨0,Ao _,rfl,Ab _ _,Aa (fun j h hk=>absurd hk (Aw j))⟩
     case round=>
      obtain⟨j,hj,rfl,bu,hdj⟩:=hrel;have k1u:=k1z.below bu k1z.1;have k2u:=k2z.below bu k2z.1;have b4u:=B4.out.trans (bu.mono B4.out.size);have byu:=BYZ.out.trans (bu.mono BYZ.out.size);have q2:=k2u.2.1;obtain⟨b',off',cap',av,hv',hB',hbs',hcap',d0,d1,hka⟩:=(HC.out wr byu).at_ hlk;cases hv'
      rw[HDCK.out]at d0 hka;by_cases hlj:j < c.args.length
      ·obtain⟨ab,ao,acp,kt,hvt,hBt,hbt,hcapt,⟨e0,e1,e2,e3⟩,hkt⟩:=hka.at_ hlj;cases hvt
       have hjj:(j:Int) < (c.args.length:Int):=by omega
       obtain⟨ta,tc,rfl⟩:=hkt.form;have HKT:=Aa (fun(W:World) (hb:Below wr.heap.size wr W)=>hkt.later' hb);have TDj:=Aa (TDk.out j hlj);have TTj:=Aa (TTk.out j hlj);have HBj:=Aa (HAB.out j hlj);have HDJ:=Aa (fun(hy:(decide (AE c.args[j]≤24)&& AW dvs c.args[j])=true)=>(fun l h hl=>(by
        by_cases e:l=j
        ·subst e;exact hy
        ·exact hdj.out l h (by omega)):∀l (h:l < c.args.length),l < j+1→(decide (AE c.args[l]≤24)&& AW dvs c.args[l])=true))
       clear hka hkt;have hb1:b' < wr.heap.size:=hbs';have hb2:ab < wr.heap.size:=hbt;have p2:=q2 2;have p1:=q2 1;have hb3:=k2u.1;clear q2 d0;generalize c.args[j]=ty at*;generalize AE ty=dt at*;generalize AW dvs ty=tt at*;replace p1:wr.cell? ⟨wo.heap.size,1,none⟩=some (.int .i64 dvs):=p1;replace p2:wr.cell? ⟨wo.heap.size,2,none⟩=some (.slice (some ⟨b',off',none⟩) dcs.length cc):=p2;have hS0:∀W,Below wr.heap.size wr W→W.cell? ⟨wo.heap.size,1,none⟩=some (.int .i64 dvs)∧W.cell? ⟨wo.heap.size,2,none⟩=some (.slice (some ⟨b',off',none⟩) dcs.length cc)∧W.cell? ⟨b',off'+k*2+1,none⟩=some (.slice (some ⟨ab,ao,none⟩) c.args.length acp)∧W.cell? ⟨ab,ao+j*4,none⟩=some (.int .i64 ty.op)∧W.cell? ⟨ab,ao+j*4+1,none⟩=some (.int .i64 ty.n)∧W.cell? ⟨ab,ao+j*4+2,none⟩=some (.string ty.s)∧W.cell? ⟨ab,ao+j*4+3,none⟩=some (.slice ta ty.kids.length tc):=fun W hb=>
        ⟨(hb.cell (p:=⟨wo.heap.size,1,none⟩) hb3).trans p1,(hb.cell (p:=⟨wo.heap.size,2,none⟩) hb3).trans p2,(hb.cell (p:=⟨b',off'+k*2+1,none⟩) hb1).trans d1,(hb.cell (p:=⟨ab,ao+j*4,none⟩) hb2).trans e0,(hb.cell (p:=⟨ab,ao+j*4+1,none⟩) hb2).trans e1,(hb.cell (p:=⟨ab,ao+j*4+2,none⟩) hb2).trans e2,(hb.cell (p:=⟨ab,ao+j*4+3,none⟩) hb2).trans e3⟩
       have HS0:=Aa hS0;clear hS0;go_wp2_with fail;clear p1 p2 d1 e0 e1 e2 e3;refine wp_region_held_drew (S:=(fun W=>W.cell? ⟨wo.heap.size,1,none⟩=some (.int .i64 dvs)∧W.cell? ⟨wo.heap.size,2,none⟩=some (.slice (some ⟨b',off',none⟩) dcs.length cc)∧W.cell? ⟨b',off'+k*2+1,none⟩=some (.slice (some ⟨ab,ao,none⟩) c.args.length acp)∧W.cell? ⟨ab,ao+j*4,none⟩=some (.int .i64 ty.op)∧W.cell? ⟨ab,ao+j*4+1,none⟩=some (.int .i64 ty.n)∧W.cell? ⟨ab,ao+j*4+2,none⟩=some (.string ty.s)∧W.cell? ⟨ab,ao+j*4+3,none⟩=some (.slice ta ty.kids.length tc))) (by kernel_rfl) (by first | (dsimp only;exact HS0.out _ (Below.refl _ _).drew) | (exact HS0.out _ (Below.refl _ _).drew)) (fun hHeld=> ?_);generalize hxd:wr.drew=x1 at hHeld ⊢;have hd1:Below wr.heap.size wr x1:=by rw[←hxd];exact(Ab _ _).drew
       clear hxd;refine tkH (i:=0) ?_;refine tkH (i:=1) ?_;refine tkH (i:=2) ?_;refine tkH (i:=3) ?_;refine tkH (i:=4) ?_;refine tkH (i:=5) ?_;refine tkH (i:=6) ?_;refine tkH (i:=7) ?_;refine tkH (i:=8) ?_;refine rdH (i:=9) (fun K hK=> ?_);go_simp;refine(TDj.out _ _ x1 (HKT.out x1 hd1)).mono ?_;rintro e w6 ⟨rfl,b6⟩;replace b6:=hd1.trans (b6.mono hd1.size);refine bkH hK (by first | (dsimp only;exact HS0.out _ b6) | (exact HS0.out _ b6)) (fun hHeld=> ?_);clear hK K;by_cases hdl:dt≤24
       ·have hdb:decide ((dt:Int) > 24)=false:=by simp;omega
        have hdi:¬((dt:Int) > 24):=by omega
        have hdl':=Aa hdl;clear hdl;refine tkH (i:=10) ?_;refine tkH (i:=11) ?_;refine tkH (i:=12) ?_;refine tkH (i:=13) ?_;refine tkH (i:=14) ?_;refine tkH (i:=15) ?_;refine tkH (i:=16) ?_;refine tkH (i:=17) ?_;refine tkH (i:=18) ?_;refine tkH (i:=19) ?_;refine tkH (i:=20) ?_;refine tkH (i:=21) ?_;refine tkH (i:=22) ?_;refine rdH (i:=23) (fun K hK=> ?_);go_simp;refine(TTj.out _ _ w6 (HKT.out w6 b6)).mono ?_;rintro e w7 ⟨rfl,b7⟩;replace b7:=b6.trans (b7.mono b6.size);refine bkH hK (by first | (dsimp only;exact HS0.out _ b7) | (exact HS0.out _ b7)) (fun hHeld=> ?_);clear hK K;refine tkH (i:=24) ?_;refine tkH (i:=25) ?_;refine A2 (by kernel_rfl) ?_ _;have b7u:=bu.trans (b7.mono bu.size);cases tt with
        |true=>
         have hy:=Aa (HDJ.out (by rw[Ax hdl'.out];rfl));clear hdb hdi b6 b7 hd1;go_wp2;go_roundw
         case rel=>exact⟨j+1,hlj,by go_num,b7u,hy⟩
         case measure=>simp[intOf];omega
        |false=>
         have hy:=Aa (HBj.out (by simp));have bt:=BW.out.trans ((BK.out.trans (b7u.mono BK.out.size)).mono BW.out.size);clear hdb hdi b6 b7 hd1;go_wp2;go_ret;exact⟨Ac (HTk.out (by rw[←HE.out];exact hy.out)).symm,bt⟩
       ·have hdb:decide ((dt:Int) > 24)=true:=by simp;omega
        have hdi:(dt:Int) > 24:=by omega
        have hdl':=Aa hdl;clear hdl;refine tkH (i:=10) ?_;refine tkH (i:=11) ?_;refine skH (i:=12) ?_;refine skH (i:=13) ?_;refine skH (i:=14) ?_;refine skH (i:=15) ?_;refine skH (i:=16) ?_;refine skH (i:=17) ?_;refine skH (i:=18) ?_;refine skH (i:=19) ?_;refine skH (i:=20) ?_;refine skH (i:=21) ?_;refine skH (i:=22) ?_;refine skH (i:=23) ?_;refine skH (i:=24) ?_;refine tkH (i:=25) ?_;refine A2 (by kernel_rfl) ?_ _;have hy:=Aa (HBj.out (by rw[AF hdl'.out];rfl));have b7u:=bu.trans (b6.mono bu.size);have bt:=BW.out.trans ((BK.out.trans (b7u.mono BK.out.size)).mono BW.out.size);clear hdb hdi b6 hd1;go_wp2;go_ret;exact⟨Ac (HTk.out (by rw[←HE.out];exact hy.out)).symm,bt⟩
      ·obtain rfl:j=c.args.length:=by omega
       have hy:=Aa (HDK.out (HCG.out hcc.out fun l hl=>hdj.out l hl hl));have bt:=BK.out.trans (bu.mono BK.out.size);obtain⟨a2,ac2,hv2⟩:=hka.form;cases hv2
       clear hka;go_wp2;go_roundw
       case rel=>exact⟨k+1,hlk,by go_num,bt,hy⟩
       case measure=>simp[intOf];omega
    ·obtain rfl:k=dcs.length:=by omega
     have hy:=Aa (HDY.out (HE.out.symm.trans (Ea fun l hl=>hdk.out l hl hl)));have bt:=BW.out.trans (bz.mono BW.out.size);go_wp2;go_roundw
     case rel=>exact⟨i+1,hlt,by go_num,bt,k1z,hy⟩
     case measure=>simp[intOf];omega
  ·obtain rfl:i=ds.length:=by omega
   have hy:=Aa (HTy.out fun j hj=>hd.out j hj hj);have q1:=k1.2.1;go_wp2_with fail;clear q1;refine(DE.out _ bb).mono ?_;rintro e w3 ⟨rfl,b3⟩;replace k1:=k1.below b3 k1.1;replace bb:=bb.trans (b3.mono bb.size);clear b3;have q1:=k1.2.1;by_cases hdl:dpx≤24
   ·have hdi:(dpx:Int)≤24:=by omega
    have hdl':=Aa hdl;clear hdl;go_wp2_with fail;clear q1;refine(EE.out _ bb).mono ?_;rintro e w4 ⟨rfl,b4⟩;replace bb:=bb.trans (b4.mono bb.size);go_wp2;go_ret;exact⟨Ac (by rw[hy.out,Ax hdl'.out];rfl),bb⟩
   ·have hdi:¬((dpx:Int)≤24):=by omega
    have hdl':=Aa hdl;clear hdl;go_wp2;go_ret;exact⟨Ac (by rw[hy.out,AF hdl'.out];rfl),bb⟩
end Go.Proofs.YtifhcbeaiijkcaaGreat
