/- Parts of the proof of FnFuel. -/
import Derived.Test.YtifhcbeaiijkcaaGreatZ15
import Derived.Test.YtifhcbeaiijkcaaGreatZ07
import Derived.Test.YtifhcbeaiijkcaaGreatZ16
import Derived.Test.YtifhcbeaiijkcaaGreatZ09
import Derived.Test.YtifhcbeaiijkcaaGreatZ08
import Derived.Test.YtifhcbeaiijkcaaGreatZ14
import Derived.Test.YtifhcbeaiijkcaaGreatZ05
import Derived.Test.YtifhcbeaiijkcaaGreatZ12
set_option linter.unusedVariables false
set_option linter.unusedSimpArgs false
set_option maxRecDepth 1000000
set_option maxHeartbeats 16000000
namespace Go.Proofs.YtifhcbeaiijkcaaGreat
open Go.RowKit
open _root_.Go.World renaming alloc→Wa,setCell→Ws
open _root_.Go.Proofs.Tryz renaming prog→Pq
mutual
theorem N9:∀ (p:Nd) (v:Vl) (e e':Env),Br p v e=some e'→e'.length≤e.length+wgN p+1
 | .mk op n s t0 ks,v,e,e',h=>by
  unfold Br at h;split at h
  ·cases h;omega
  ·split at h
   ·cases h;simp only[List.length_cons];omega
   ·split at h
    ·split at h
     ·split at h
      ·cases h;omega
      ·cases h
     ·cases h
    ·split at h
     ·rename_i c vs;split at h
      ·have h2:=Oa ks vs e e' h;have:=Aw (.mk op n s t0 ks);simp only[Nd.s,Nd.t,Nd.kids]at this;omega
      ·cases h
     ·cases h
theorem Oa:∀ (ks:List Nd) (vs:List Vl) (e e':Env),Bc ks vs e=some e'→e'.length≤e.length+wgN.wgNs ks
 | [],vs,e,e',h=>by unfold Bc at h;cases h;omega
 |k::ks,[],e,e',h=>by unfold Bc at h;cases h
 |k::ks,v::vs,e,e',h=>by
  unfold Bc at h;split at h
  ·rename_i e1 h1;have h2:=N9 k v e e1 h1;have h3:=Oa ks vs e1 e' h;unfold wgN.wgNs;omega
  ·cases h
end
theorem TI {ks:List Nd}{k:Nat}(h:k < ks.length):wgN.wgNs (ks.drop k)=1+wgN ks[k]+wgN.wgNs (ks.drop (k+1)):=by
 rw[List.drop_eq_getElem_cons h,wgN.wgNs]
theorem Kd {w x:World}{cur cur2:Array Value}{e e2:TypeId}{n:Nat}(h:((w.alloc (.cells cur e)).alloc (.cells cur2 e2)).drewN n=x):Below w.heap.size w x:=by
 have b:Below w.heap.size w ((w.alloc (.cells cur e)).alloc (.cells cur2 e2)):=((Ac _ _).alloc (Ad _) _).alloc (by simp) _;exact b.trans ((Still.below ⟨n,h.symm⟩ _).mono b.size)
def MtS (B:Nat) (X:Nat→Prop) (g:Nat) (r:Option Nat) (w:World) (o:Option Env) (e:Ending) (w':World):Prop:=Below w.heap.size w w'∧ ∃a n cap,match o with |some env=>e= .returned (.tuple #[.slice a n cap,.bool true])∧RdS B X g r w' #[.slice a n cap] (.sc env) |none=>e= .returned (.tuple #[.slice a n cap,.bool false])
theorem Ob {w x:World}{cur cur2:Array Value}{e e2:TypeId}(h:(w.alloc (.cells cur e)).alloc (.cells cur2 e2)=x):Below w.heap.size w x∧Bx x w.heap.size cur∧Bx x (w.heap.size+1) cur2:=by
 obtain⟨b1,k1⟩:=Bx.alloc (w:=w) (cur:=cur) (e:=e) rfl;obtain⟨b2,k2⟩:=Bx.alloc h;simp only[BM]at b2 k2;exact⟨b1.trans (b2.mono (by omega)),k1.below b2 (by omega),k2⟩
theorem EC {w:World}{cur cur2:Array Value}{e e2:TypeId}:Below w.heap.size w ((w.alloc (.cells cur e)).alloc (.cells cur2 e2)):=((Ac _ _).alloc (Ad _) _).alloc (by simp) _
theorem Ke (B:Nat) (X:Nat→Prop) (g:Nat) (r:Option Nat):∀ (N:Nat) (x:Nd) (kv ev:Value) (c:Array Value) (v:Vl) (env:Env) (w:World),wgN x < N→wgN x≤1048576→env.length+wgN x+1≤4294967296→BG x=true→B≤w.heap.size→g < w.heap.size→(∀k,r=some k→k < w.heap.size)→(∀b,X b→b < w.heap.size)→RdNs B w kv x.kids→RdS B X g r w c (.th v)→RdS B X g r w #[ev] (.sc env)→
  Calls Pq 177 #[ndV x kv,.agg c,ev] w (MtS B X g r w (Br x v env))
 |0,x,kv,ev,c,v,env,w,hN,hl,hel,hp,hB,hg,hr,hX,hk,ht,he=>by omega
 |N+1,x,kv,ev,c,v,env,w,hN,hl,hel,hp,hB,hg,hr,hX,hk,ht,he=>by
  have hwg:=Aw x;have hlen:=AU x.kids;have hks:x.kids.length≤1048576:=by omega
  have hops:x.op=17∨x.op=18∨x.op=19∨x.op=20:=by
   rw[Gl,AH]at hp;have:=hp.2;unfold Bj at this;by_cases h17:x.op=17
   ·omega
   by_cases h18:x.op=18
   ·omega
   by_cases h19:x.op=19
   ·omega
   by_cases h20:x.op=20
   ·omega
   simp[h17,h18,h19,h20]at this
  have hpk:∀j (hj:j < x.kids.length),BG x.kids[j]=true:=fun j hj=>by
   rw[Gl,AH,Gk,Be]at hp;exact hp.1 _ (As hj)
  have HKL:=Aa (show env.length+wgN.wgNs x.kids≤4294967295 by omega);have IH:=Aa (fun(j:Nat) (hj:j < x.kids.length) (kv ev:Value) (c:Array Value) (v:Vl) (env:Env) (W:World) (hb:Below w.heap.size w W) (hel:env.length+wgN x.kids[j]+1≤4294967296) (h1:RdNs B W kv x.kids[j].kids) (h2:RdS B X g r W c (.th v)) (h3:RdS B X g r W #[ev] (.sc env))=>(by
   have:=AT (As hj);exact Ke B X g r N x.kids[j] kv ev c v env W (by omega) (by omega) hel (hpk j hj) (Ar hB hb.size) (Aj hg hb.size) (fun k e=>Aj (hr k e) hb.size) (fun b e=>Aj (hX b e) hb.size) h1 h2 h3:Calls Pq 177 #[ndV x.kids[j] kv,.agg c,ev] W (MtS B X g r W (Br x.kids[j] v env))))
  have BND:=Aa (fun(W:World) (hb:Below w.heap.size w W) (name:Str)=>(FR (X:=X) (r:=r) name (he.lat hb hB hr) ht.formS (by omega) (Ar hB hb.size) (Aj hg hb.size) (fun k e=>Aj (hr k e) hb.size) (fun b e=>Aj (hX b e) hb.size)));have KL:=Aa (fun(W:World) (hb:Below w.heap.size w W)=>hk.later (hb.mono hB) (Ad _));have TL:=Aa (fun(W:World) (hb:Below w.heap.size w W)=>ht.lat hb hB hr);have EL:=Aa (fun(W:World) (hb:Below w.heap.size w W)=>he.lat hb hB hr);have HE:=Aa (NX x v env);obtain⟨ka,kc,rfl⟩:=hk.form;obtain⟨a1,c1,xx,a2,l2,c2,arg,self,a3,l3,c3,rfl,cs,hpv,hvs⟩:=ht.th_kids;have hvl:=hpv.len;obtain⟨ea,ec,rfl⟩:=he.sc_form;unfold maxLen at hvl;unfold ndV;clear hN hl hel hp hk ht he hwg hlen hpk;generalize x.op=xop at*;generalize x.n=xn at*;generalize x.s=xs at*;generalize x.t=xt at*;generalize Br x v env=fx at*;generalize x.kids=ks at*;unfold svC at BND TL ⊢;rcases hops with o |o |o |o
  ·subst o;go_enter Tryz.func177,Tryz.ntmps177;go_wp2;go_ret2;refine⟨EC,ea,env.length,ec,?_⟩;rw[show fx=some env by rw[HE.out];simp];exact⟨rfl,EL.out _ EC⟩
  ·subst o;go_enter Tryz.func177,Tryz.ntmps177;go_wp2_with fail;refine(BND.out _ EC xs).mono ?_;rintro e w2 ⟨a,cap,rfl,b2,h2⟩;have h3:=h2 v (TL.out _ EC);have b3:Below w.heap.size w w2:=EC.trans (b2.mono EC.size);clear h2 b2;have H3:=Aa h3;clear h3;go_wp2;go_ret2;refine⟨b3,a,env.length+1,cap,?_⟩;rw[show fx=some ((xs,v)::env)by rw[HE.out];simp];exact⟨rfl,H3.out⟩
  ·subst o;by_cases h1:kdV v=1
   ·by_cases h2:nmV v=xn
    ·have HF:=Aa (show fx=some env by rw[HE.out];simp[h1,h2]);rw[h1,h2];clear h1 h2;go_enter Tryz.func177,Tryz.ntmps177;go_wp2_with fail;go_quiet (fail);generalize hxx:World.drewN _ _=x0;have bb:=Kd hxx;clear hxx;go_wp2;go_ret2;refine⟨bb,ea,env.length,ec,?_⟩;rw[HF.out];exact⟨rfl,EL.out _ bb⟩
    ·have HF:=Aa (show fx=none by rw[HE.out];simp[h2]);rw[h1];have h2b:(nmV v==xn)=false:=by simpa using h2
     clear h1;generalize nmV v=nv at*;go_enter Tryz.func177,Tryz.ntmps177;go_wp2_with fail;go_quiet (fail);generalize hxx:World.drewN _ _=x0;have bb:=Kd hxx;clear hxx;go_wp2;go_ret2;refine⟨bb,ea,env.length,ec,?_⟩;rw[HF.out];rfl
   ·have HF:=Aa (show fx=none by rw[HE.out];simp[h1]);have h1b:(kdV v==1)=false:=by simpa using h1
    generalize kdV v=kd at*;go_enter Tryz.func177,Tryz.ntmps177;go_wp2_with fail;go_quiet (fail);generalize hxx:World.drewN _ _=x0;have bb:=Kd hxx;clear hxx;go_wp2;go_ret2;refine⟨bb,ea,env.length,ec,?_⟩;rw[HF.out];rfl
  ·subst o;have HE2:=Aa (show fx=if kdV v=2∧tgV v=xs∧(ksV v).length=ks.length then Bc ks (ksV v) env else none by rw[HE.out];simp);by_cases h1:kdV v=2
   ·by_cases h2:tgV v=xs
    ·by_cases h3:(ksV v).length=ks.length
     ·have HF:=Aa (show fx=Bc ks (ksV v) env by rw[HE2.out,Ag ⟨h1,h2,h3⟩]);have H3:=Aa h3;have h3b:(((ksV v).length:Int) !=(ks.length:Int))=false:=by simp[h3]
      rw[h1,h2];clear h1 h2 h3;go_enter Tryz.func177,Tryz.ntmps177;go_wp2_with fail;generalize hxx:Wa (Wa _ _) _=x0;obtain⟨bb,k1,k2⟩:=Ob hxx;have e0:=EL.out _ bb;clear hxx
      go_loopw [8,2] (fun i p wr=>∃ (k:Nat) (pa:Option Addr) (pc:Nat) (e':Env),k≤ks.length∧i= .int .i64 k∧p= .slice pa e'.length pc∧Below w.heap.size w wr∧Bx wr w.heap.size #[.int .i64 20,.int .i64 xn,.string xs,.string xt,.slice ka ks.length kc]∧Bx wr (w.heap.size+1) #[.int .i64 2,.int .i64 (nmV v),.string xs,.slice a1 (ksV v).length c1,.int .i64 xx.op,.int .i64 xx.n,.string xx.s,.string xx.t,.slice a2 l2 c2,.string arg,.string self,.slice a3 l3 c3]∧RdS B X g r wr #[.slice pa e'.length pc] (.sc e')∧Hid (Bc (ks.drop k) ((ksV v).drop k) e'=fx)∧Hid (e'.length+wgN.wgNs (ks.drop k)≤4294967295)) (fun i _ _=>ks.length - (intOf i).toNat)
      case atStart=>exact⟨0,ea,ec,env,Av _,rfl,rfl,bb,k1,k2,e0,Aa HF.out.symm,HKL⟩
      case round=>
       clear bb k1 k2 e0;obtain⟨k,pa,pc,e',hk,rfl,rfl,bb,k1,k2,he,hf,hl⟩:=hrel;have q1:=k1.2.1;have y1:=k1.1;by_cases hlt:k < ks.length
       ·obtain⟨b,off,cap,kv,hv,hB',hbs,hcap,⟨d0,d1,d2,d3,d4⟩,hkr⟩:=(KL.out wr bb).at_ hlt;cases hv
        have hkv:k < (ksV v).length:=by rw[H3.out];exact hlt
        have hki:(k:Int) < (ks.length:Int):=by omega
        have hk0:(0:Int)≤ (k:Int):=by omega
        have hkvi:(k:Int) < ((ksV v).length:Int):=by omega
        obtain⟨kva,kvc,rfl⟩:=hkr.form;have HK:=Aa hkr;have HS:=Aa (NY hlt hkv e');have HLD:=Aa (TI hlt);have HLk:=Aa (show e'.length+wgN ks[k]+1≤4294967296 by have:=HLD.out;have:=hl.out;omega);have HLn:=Aa (fun(ef:Env) (h:Br ks[k] (ksV v)[k] e'=some ef)=>(by have:=N9 _ _ _ _ h;have:=HLD.out;have:=hl.out;omega:ef.length+wgN.wgNs (ks.drop (k+1))≤4294967295));obtain⟨pb,po,pcap,hpe,hpk,hpcap,hpm,hpcell⟩:=hpv.at_ hkv;cases hpe
        have IHk:=Aa (IH.out k hlt);have HV:=Aa (fun(W:World) (hb:Below w.heap.size w W)=>(hvs k hkv).lat hb hB hr);obtain⟨kdu,nnu,ssu,a1u,l1u,c1u,xxu,a2u,l2u,c2u,argu,selfu,a3u,l3u,c3u,hcs⟩:=(hvs k hkv).formS;rw[hcs]at hpcell HV;have hpc:∀i,i < 12→w.cell? ⟨pb,po+k*12+i,none⟩= (svC kdu nnu ssu (.slice a1u l1u c1u) xxu (.slice a2u l2u c2u) argu selfu (.slice a3u l3u c3u))[i]?:=hpcell;clear hpcell hkr;generalize ks[k]=y at*;generalize (ksV v)[k]=u at*;have HE3:=Aa (fun(W:World) (hb:Below wr.heap.size wr W)=>he.lat hb (Ar hB bb.size) (fun k e=>Aj (hr k e) bb.size));clear he;unfold svC at hpc HV;go_wp2_with fail;clear q1 y1;cases hfo:Br y u e' with
        |some ef=>
         have HS0:=Aa (fun(W:World) (hb:Below wr.heap.size wr W)=>(by
          have j1:=(k1.below hb k1.1).2.1;have j2:=(k2.below hb k2.1).2.1;have bw:=bb.trans (hb.mono bb.size);exact⟨j1 4,j2 3,(hb.cell (p:=⟨b,off+k*5,none⟩) hbs).trans d0,(hb.cell (p:=⟨b,off+k*5+1,none⟩) hbs).trans d1,(hb.cell (p:=⟨b,off+k*5+2,none⟩) hbs).trans d2,(hb.cell (p:=⟨b,off+k*5+3,none⟩) hbs).trans d3,(hb.cell (p:=⟨b,off+k*5+4,none⟩) hbs).trans d4,(bw.cell (p:=⟨pb,po+k*12,none⟩) hpk.2.2.1).trans (hpc 0 (by omega)),(bw.cell (p:=⟨pb,po+k*12+1,none⟩) hpk.2.2.1).trans (hpc 1 (by omega)),(bw.cell (p:=⟨pb,po+k*12+2,none⟩) hpk.2.2.1).trans (hpc 2 (by omega)),(bw.cell (p:=⟨pb,po+k*12+3,none⟩) hpk.2.2.1).trans (hpc 3 (by omega)),(bw.cell (p:=⟨pb,po+k*12+4,none⟩) hpk.2.2.1).trans (hpc 4 (by omega)),(bw.cell (p:=⟨pb,po+k*12+5,none⟩) hpk.2.2.1).trans (hpc 5 (by omega)),(bw.cell (p:=⟨pb,po+k*12+6,none⟩) hpk.2.2.1).trans (hpc 6 (by omega)),(bw.cell (p:=⟨pb,po+k*12+7,none⟩) hpk.2.2.1).trans (hpc 7 (by omega)),(bw.cell (p:=⟨pb,po+k*12+8,none⟩) hpk.2.2.1).trans (hpc 8 (by omega)),(bw.cell (p:=⟨pb,po+k*12+9,none⟩) hpk.2.2.1).trans (hpc 9 (by omega)),(bw.cell (p:=⟨pb,po+k*12+10,none⟩) hpk.2.2.1).trans (hpc 10 (by omega)),(bw.cell (p:=⟨pb,po+k*12+11,none⟩) hpk.2.2.1).trans (hpc 11 (by omega))⟩:W.cell? ⟨w.heap.size,4,none⟩=some (.slice (some ⟨b,off,none⟩) ks.length kc)∧W.cell? ⟨w.heap.size+1,3,none⟩=some (.slice (some ⟨pb,po,none⟩) (ksV v).length c1)∧W.cell? ⟨b,off+k*5,none⟩=some (.int .i64 y.op)∧W.cell? ⟨b,off+k*5+1,none⟩=some (.int .i64 y.n)∧W.cell? ⟨b,off+k*5+2,none⟩=some (.string y.s)∧W.cell? ⟨b,off+k*5+3,none⟩=some (.string y.t)∧W.cell? ⟨b,off+k*5+4,none⟩=some (.slice kva y.kids.length kvc)∧W.cell? ⟨pb,po+k*12,none⟩=some (.int .i64 kdu)∧W.cell? ⟨pb,po+k*12+1,none⟩=some (.int .i64 nnu)∧W.cell? ⟨pb,po+k*12+2,none⟩=some (.string ssu)∧W.cell? ⟨pb,po+k*12+3,none⟩=some (.slice a1u l1u c1u)∧W.cell? ⟨pb,po+k*12+4,none⟩=some (.int .i64 xxu.op)∧W.cell? ⟨pb,po+k*12+5,none⟩=some (.int .i64 xxu.n)∧W.cell? ⟨pb,po+k*12+6,none⟩=some (.string xxu.s)∧W.cell? ⟨pb,po+k*12+7,none⟩=some (.string xxu.t)∧W.cell? ⟨pb,po+k*12+8,none⟩=some (.slice a2u l2u c2u)∧W.cell? ⟨pb,po+k*12+9,none⟩=some (.string argu)∧W.cell? ⟨pb,po+k*12+10,none⟩=some (.string selfu)∧W.cell? ⟨pb,po+k*12+11,none⟩=some (.slice a3u l3u c3u)))
         have K1:=Aa k1;have K2:=Aa k2;have BB:=Aa bb;clear k1 k2 hpc d0 d1 d2 d3 d4 bb hpk;refine wp_region_held_drew (S:=(fun W=>W.cell? ⟨w.heap.size,4,none⟩=some (.slice (some ⟨b,off,none⟩) ks.length kc)∧W.cell? ⟨w.heap.size+1,3,none⟩=some (.slice (some ⟨pb,po,none⟩) (ksV v).length c1)∧W.cell? ⟨b,off+k*5,none⟩=some (.int .i64 y.op)∧W.cell? ⟨b,off+k*5+1,none⟩=some (.int .i64 y.n)∧W.cell? ⟨b,off+k*5+2,none⟩=some (.string y.s)∧W.cell? ⟨b,off+k*5+3,none⟩=some (.string y.t)∧W.cell? ⟨b,off+k*5+4,none⟩=some (.slice kva y.kids.length kvc)∧W.cell? ⟨pb,po+k*12,none⟩=some (.int .i64 kdu)∧W.cell? ⟨pb,po+k*12+1,none⟩=some (.int .i64 nnu)∧W.cell? ⟨pb,po+k*12+2,none⟩=some (.string ssu)∧W.cell? ⟨pb,po+k*12+3,none⟩=some (.slice a1u l1u c1u)∧W.cell? ⟨pb,po+k*12+4,none⟩=some (.int .i64 xxu.op)∧W.cell? ⟨pb,po+k*12+5,none⟩=some (.int .i64 xxu.n)∧W.cell? ⟨pb,po+k*12+6,none⟩=some (.string xxu.s)∧W.cell? ⟨pb,po+k*12+7,none⟩=some (.string xxu.t)∧W.cell? ⟨pb,po+k*12+8,none⟩=some (.slice a2u l2u c2u)∧W.cell? ⟨pb,po+k*12+9,none⟩=some (.string argu)∧W.cell? ⟨pb,po+k*12+10,none⟩=some (.string selfu)∧W.cell? ⟨pb,po+k*12+11,none⟩=some (.slice a3u l3u c3u))) (by kernel_rfl) (by first | (dsimp only;exact HS0.out _ (Below.refl _ _).drew) | (exact HS0.out _ (Below.refl _ _).drew)) (fun hHeld=> ?_);generalize hxd:World.drew _=x1 at hHeld ⊢;have hd1:Below wr.heap.size wr x1:=by rw[←hxd];exact(Ac _ _).drew
         clear hxd;have bw1:=BB.out.trans (hd1.mono BB.out.size);refine tkH (i:=0) ?_;refine tkH (i:=1) ?_;refine tkH (i:=2) ?_;refine tkH (i:=3) ?_;refine tkH (i:=4) ?_;refine tkH (i:=5) ?_;refine tkH (i:=6) ?_;refine tkH (i:=7) ?_;refine tkH (i:=8) ?_;refine tkH (i:=9) ?_;refine tkH (i:=10) ?_;refine rdH (i:=11) (fun K hK=> ?_);go_simp;refine(IHk.out _ _ _ _ _ x1 bw1 HLk.out (HK.out.later hd1 (Ar hB BB.out.size)) (HV.out x1 bw1) (HE3.out x1 hd1)).mono ?_;rintro e w6 ⟨b6,a6,n6,c6,h6⟩;rw[hfo]at h6;obtain⟨rfl,h7⟩:=h6;have H7:=Aa h7;clear h7;replace b6:=hd1.trans (b6.mono hd1.size);refine bkH hK (by first | (dsimp only;exact HS0.out _ b6) | (exact HS0.out _ b6)) (fun hHeld=> ?_);clear hK K;refine tkH (i:=12) ?_;refine tkH (i:=13) ?_;refine tkH (i:=14) ?_;refine tkH (i:=15) ?_;refine tkH (i:=16) ?_;refine Bs (by kernel_rfl) ?_ _;have bt:=BB.out.trans (b6.mono BB.out.size);have k1:=K1.out.below b6 K1.out.1;have k2:=K2.out.below b6 K2.out.1;clear b6 hd1 bw1;have hf2:=Aa (HS.out.symm.trans hf.out);rw[hfo]at hf2;have hf3:=Aa (show Bc (ks.drop (k+1)) ((ksV v).drop (k+1)) ef=fx from hf2.out);have hl3:=Aa (show ef.length+wgN.wgNs (ks.drop (k+1))≤4294967295 by have:=HLn.out ef hfo;omega);obtain⟨a7,c7,hs7⟩:=H7.out.sc_form;cases hs7
         clear hf2;go_wp2;go_roundw
         case rel=>exact⟨k+1,a6,c6,ef,hlt,by go_num,rfl,bt,k1,k2,H7.out,hf3,hl3⟩
         case measure=>simp[intOf];omega
        |none=>
         have HS0:=Aa (fun(W:World) (hb:Below wr.heap.size wr W)=>(by
          have j1:=(k1.below hb k1.1).2.1;have j2:=(k2.below hb k2.1).2.1;have bw:=bb.trans (hb.mono bb.size);exact⟨j1 4,j2 3,(hb.cell (p:=⟨b,off+k*5,none⟩) hbs).trans d0,(hb.cell (p:=⟨b,off+k*5+1,none⟩) hbs).trans d1,(hb.cell (p:=⟨b,off+k*5+2,none⟩) hbs).trans d2,(hb.cell (p:=⟨b,off+k*5+3,none⟩) hbs).trans d3,(hb.cell (p:=⟨b,off+k*5+4,none⟩) hbs).trans d4,(bw.cell (p:=⟨pb,po+k*12,none⟩) hpk.2.2.1).trans (hpc 0 (by omega)),(bw.cell (p:=⟨pb,po+k*12+1,none⟩) hpk.2.2.1).trans (hpc 1 (by omega)),(bw.cell (p:=⟨pb,po+k*12+2,none⟩) hpk.2.2.1).trans (hpc 2 (by omega)),(bw.cell (p:=⟨pb,po+k*12+3,none⟩) hpk.2.2.1).trans (hpc 3 (by omega)),(bw.cell (p:=⟨pb,po+k*12+4,none⟩) hpk.2.2.1).trans (hpc 4 (by omega)),(bw.cell (p:=⟨pb,po+k*12+5,none⟩) hpk.2.2.1).trans (hpc 5 (by omega)),(bw.cell (p:=⟨pb,po+k*12+6,none⟩) hpk.2.2.1).trans (hpc 6 (by omega)),(bw.cell (p:=⟨pb,po+k*12+7,none⟩) hpk.2.2.1).trans (hpc 7 (by omega)),(bw.cell (p:=⟨pb,po+k*12+8,none⟩) hpk.2.2.1).trans (hpc 8 (by omega)),(bw.cell (p:=⟨pb,po+k*12+9,none⟩) hpk.2.2.1).trans (hpc 9 (by omega)),(bw.cell (p:=⟨pb,po+k*12+10,none⟩) hpk.2.2.1).trans (hpc 10 (by omega)),(bw.cell (p:=⟨pb,po+k*12+11,none⟩) hpk.2.2.1).trans (hpc 11 (by omega))⟩:W.cell? ⟨w.heap.size,4,none⟩=some (.slice (some ⟨b,off,none⟩) ks.length kc)∧W.cell? ⟨w.heap.size+1,3,none⟩=some (.slice (some ⟨pb,po,none⟩) (ksV v).length c1)∧W.cell? ⟨b,off+k*5,none⟩=some (.int .i64 y.op)∧W.cell? ⟨b,off+k*5+1,none⟩=some (.int .i64 y.n)∧W.cell? ⟨b,off+k*5+2,none⟩=some (.string y.s)∧W.cell? ⟨b,off+k*5+3,none⟩=some (.string y.t)∧W.cell? ⟨b,off+k*5+4,none⟩=some (.slice kva y.kids.length kvc)∧W.cell? ⟨pb,po+k*12,none⟩=some (.int .i64 kdu)∧W.cell? ⟨pb,po+k*12+1,none⟩=some (.int .i64 nnu)∧W.cell? ⟨pb,po+k*12+2,none⟩=some (.string ssu)∧W.cell? ⟨pb,po+k*12+3,none⟩=some (.slice a1u l1u c1u)∧W.cell? ⟨pb,po+k*12+4,none⟩=some (.int .i64 xxu.op)∧W.cell? ⟨pb,po+k*12+5,none⟩=some (.int .i64 xxu.n)∧W.cell? ⟨pb,po+k*12+6,none⟩=some (.string xxu.s)∧W.cell? ⟨pb,po+k*12+7,none⟩=some (.string xxu.t)∧W.cell? ⟨pb,po+k*12+8,none⟩=some (.slice a2u l2u c2u)∧W.cell? ⟨pb,po+k*12+9,none⟩=some (.string argu)∧W.cell? ⟨pb,po+k*12+10,none⟩=some (.string selfu)∧W.cell? ⟨pb,po+k*12+11,none⟩=some (.slice a3u l3u c3u)))
         have K1:=Aa k1;have K2:=Aa k2;have BB:=Aa bb;clear k1 k2 hpc d0 d1 d2 d3 d4 bb hpk;refine wp_region_held_drew (S:=(fun W=>W.cell? ⟨w.heap.size,4,none⟩=some (.slice (some ⟨b,off,none⟩) ks.length kc)∧W.cell? ⟨w.heap.size+1,3,none⟩=some (.slice (some ⟨pb,po,none⟩) (ksV v).length c1)∧W.cell? ⟨b,off+k*5,none⟩=some (.int .i64 y.op)∧W.cell? ⟨b,off+k*5+1,none⟩=some (.int .i64 y.n)∧W.cell? ⟨b,off+k*5+2,none⟩=some (.string y.s)∧W.cell? ⟨b,off+k*5+3,none⟩=some (.string y.t)∧W.cell? ⟨b,off+k*5+4,none⟩=some (.slice kva y.kids.length kvc)∧W.cell? ⟨pb,po+k*12,none⟩=some (.int .i64 kdu)∧W.cell? ⟨pb,po+k*12+1,none⟩=some (.int .i64 nnu)∧W.cell? ⟨pb,po+k*12+2,none⟩=some (.string ssu)∧W.cell? ⟨pb,po+k*12+3,none⟩=some (.slice a1u l1u c1u)∧W.cell? ⟨pb,po+k*12+4,none⟩=some (.int .i64 xxu.op)∧W.cell? ⟨pb,po+k*12+5,none⟩=some (.int .i64 xxu.n)∧W.cell? ⟨pb,po+k*12+6,none⟩=some (.string xxu.s)∧W.cell? ⟨pb,po+k*12+7,none⟩=some (.string xxu.t)∧W.cell? ⟨pb,po+k*12+8,none⟩=some (.slice a2u l2u c2u)∧W.cell? ⟨pb,po+k*12+9,none⟩=some (.string argu)∧W.cell? ⟨pb,po+k*12+10,none⟩=some (.string selfu)∧W.cell? ⟨pb,po+k*12+11,none⟩=some (.slice a3u l3u c3u))) (by kernel_rfl) (by first | (dsimp only;exact HS0.out _ (Below.refl _ _).drew) | (exact HS0.out _ (Below.refl _ _).drew)) (fun hHeld=> ?_);generalize hxd:World.drew _=x1 at hHeld ⊢;have hd1:Below wr.heap.size wr x1:=by rw[←hxd];exact(Ac _ _).drew
         clear hxd;have bw1:=BB.out.trans (hd1.mono BB.out.size);refine tkH (i:=0) ?_;refine tkH (i:=1) ?_;refine tkH (i:=2) ?_;refine tkH (i:=3) ?_;refine tkH (i:=4) ?_;refine tkH (i:=5) ?_;refine tkH (i:=6) ?_;refine tkH (i:=7) ?_;refine tkH (i:=8) ?_;refine tkH (i:=9) ?_;refine tkH (i:=10) ?_;refine rdH (i:=11) (fun K hK=> ?_);go_simp;refine(IHk.out _ _ _ _ _ x1 bw1 HLk.out (HK.out.later hd1 (Ar hB BB.out.size)) (HV.out x1 bw1) (HE3.out x1 hd1)).mono ?_;rintro e w6 ⟨b6,a6,n6,c6,h6⟩;rw[hfo]at h6;obtain rfl:=h6;replace b6:=hd1.trans (b6.mono hd1.size);refine bkH hK (by first | (dsimp only;exact HS0.out _ b6) | (exact HS0.out _ b6)) (fun hHeld=> ?_);clear hK K;refine tkH (i:=12) ?_;refine tkH (i:=13) ?_;refine tkH (i:=14) ?_;refine tkH (i:=15) ?_;refine tkH (i:=16) ?_;refine Bs (by kernel_rfl) ?_ _;have bt:=BB.out.trans (b6.mono BB.out.size);have k1:=K1.out.below b6 K1.out.1;have k2:=K2.out.below b6 K2.out.1;clear b6 hd1 bw1;have hf2:=Aa (HS.out.symm.trans hf.out);rw[hfo]at hf2;have hf3:=Aa (show fx=none from hf2.out.symm);clear hf2;go_wp2;go_ret2;refine⟨bt,pa,e'.length,pc,?_⟩;rw[hf3.out];rfl
       ·obtain rfl:k=ks.length:=by omega
        have hf2:=Aa (hf.out.symm.trans (by rw[Ff,Bc]:Bc (ks.drop ks.length) ((ksV v).drop ks.length) e'=some e'));have H4:=Aa (And.intro bb he);clear bb he;go_wp2;go_ret2;refine⟨H4.out.1,pa,e'.length,pc,?_⟩;rw[hf2.out];exact⟨rfl,H4.out.2⟩
     ·have HF:=Aa (show fx=none by rw[HE2.out,Ab (fun h=>h3 h.2.2)]);rw[h1,h2];have h3b:(((ksV v).length:Int) !=(ks.length:Int))=true:=by rw[bne_iff_ne];omega
      clear h1 h2 h3;go_enter Tryz.func177,Tryz.ntmps177;go_wp2;go_ret2;refine⟨EC,ea,env.length,ec,?_⟩;rw[HF.out];rfl
    ·have HF:=Aa (show fx=none by rw[HE2.out,Ab (fun h=>h2 h.2.1)]);rw[h1];have h2b:=E7 h2;clear h1;generalize tgV v=sv at*;go_enter Tryz.func177,Tryz.ntmps177;go_wp2;go_ret2;refine⟨EC,ea,env.length,ec,?_⟩;rw[HF.out];rfl
   ·have HF:=Aa (show fx=none by rw[HE2.out,Ab (fun h=>h1 h.1)]);have h1b:(kdV v !=2)=true:=by simpa using h1
    generalize kdV v=kd at*;go_enter Tryz.func177,Tryz.ntmps177;go_wp2;go_ret2;refine⟨EC,ea,env.length,ec,?_⟩;rw[HF.out];rfl
theorem SPre.start2 {B g:Nat}{X:Nat→Prop}{lv:Value}{ds:List Dt}{x:Nd}{kv ev:Value}{env:Env}{s:Es}{w W:World}{r:Option Nat}(h:SPre B X g lv ds x kv ev env s w r) {cur:Array Value}{e e2:TypeId}(hW:(w.alloc (.cells cur e)).alloc (.cells sv0 e2)=W):Sw B g lv w r W r (.ok () s) cur (w.heap.size+1):=by
 obtain⟨bb,k1,k2⟩:=Ob hW;have hlt:=h.ev.lt;exact⟨(h.ev.same bb).1,(h.ev.same bb).2,k1,k2,AQ _,fun e=>by have:=(h.ev.row _ e).2;omega,fun e=>by have:=(h.ev.row _ e).2;omega,by omega,by omega⟩
theorem Vj {w w1 z:World}{q:Nat}{o:Obj}(h:w.grownBy w1 (some q)) (hz:w1.alloc o=z):w.grownBy z (some q):=by
 rw[←hz];exact h.trans' (World.grownBy_alloc w1 o (some q))
theorem Vk {E:Nd→Env→Es→Rs Vl}{env e:Env}{v:Vl}{ks:List Nd}{k:Nat}(hk:k < ks.length) (s:Es) {p y:Nd}(hp:ks[k].kids=[p,y]) (h:Br p v env=some e):A5 E env v (ks.drop k) s=E y e s:=by
 rw[List.drop_eq_getElem_cons hk];unfold A5;rw[(CV hp).1,(CV hp).2,h]
theorem Vm {E:Nd→Env→Es→Rs Vl}{env:Env}{v:Vl}{ks:List Nd}{k:Nat}(hk:k < ks.length) (s:Es) {p y:Nd}(hp:ks[k].kids=[p,y]) (h:Br p v env=none):A5 E env v (ks.drop k) s=A5 E env v (ks.drop (k+1)) s:=by
 rw[List.drop_eq_getElem_cons hk]
 conv=>lhs;unfold A5
 rw[(CV hp).1,h]
theorem Vn {E:Nd→Env→Es→Rs Vl}{env:Env}{v:Vl}{ks:List Nd}(s:Es):A5 E env v (ks.drop ks.length) s= .bad 2 s.out:=by
 rw[Ff];rfl
theorem Vo {B g:Nat}{lv:Value}{ds:List Dt}{ar:Str→Option Nat}{m:Nat}{X:Nat→Prop}{x:Nd}{kv ev:Value}{env:Env}{s:Es}{w:World}{r:Option Nat}(hm:s.fuel≤m) (P:SPre B X g lv ds x kv ev env s w r) (ho:x.op=7) (IH:B8 B g lv ds ar m):
  Calls Pq 123 #[.pointer (some ⟨g,0,none⟩),ndV x kv,ev] w (BA B X g lv (AF ar (Ai ar m) x env s) r w):=by
 have PP:=Aa P;have IH:=Aa IH;obtain⟨ya,az,hkk,hna,haz⟩:=GQ P.np ho;have hl0:0 < x.kids.length:=by rw[hkk];simp
 have hy0:x.kids[0]=ya:=by simp[hkk]
 obtain⟨b,off,cap,kv0,hv,hbB, -,hcap,hc5,hk0⟩:=P.rk.at_ (j:=0) hl0;rw[hy0,Nat.zero_mul,Nat.add_zero]at hc5;rw[hy0]at hk0;obtain⟨c0,c1,c2,c3,c4⟩:=hc5;subst hv;obtain⟨hbw,hbg⟩:=P.nb hbB;have HM:=Aa (show ya∈x.kids from by rw[hkk];simp);have HE:=Aa (show AF ar (Ai ar m) x env s= (Ai ar m ya env s).bind fun v s1=>A5 (Ai ar m) env v (x.kids.drop 1) s1 from by rw[Ot ho,show x.kid 0=ya by unfold Nd.kid;rw[hkk];rfl]);have ALT:=Aa (fun(k:Nat) (hk:k < x.kids.length) (h1:1≤k)=>(by
  refine Iw (haz _ ?_);have:x.kids[k]=az[k - 1]'(by have:=AX List.length hkk;simp at this;omega):=by
   have h2:∀ (l:List Nd) (h:x.kids=l) (h3:k < l.length),x.kids[k]=l[k]:=fun l h h3=>by subst h;rfl
   rw[h2 _ hkk (by rw[←hkk];exact hk)];rw[List.getElem_cons];simp[show ¬k=0 by omega]
  rw[this];exact As _:∃p e,x.kids[k].kids=[p,e]∧BG p=true∧Ao e=true))
 obtain⟨k0a,k0c,rfl⟩:=hk0.form;have HKA:=Aa hk0;have hlen:=AU x.kids;have hwg:=Aw x;have hpw:=P.wg;have hks:x.kids.length≤1048576:=by omega
 have WG:=Aa (fun(k:Nat) (hk:k < x.kids.length)=>(by have:=AT (As hk);omega:wgN x.kids[k]+1≤1048576));have hk0i:(0:Int) < (x.kids.length:Int):=by omega
 obtain⟨ea,ec,rfl⟩:=P.re.sc_form;have hgw:=P.ev.lt;have hBw:=P.ev.gB.2;have hel:env.length≤4194304000:=Ar P.lm.inv_sc.1 (Cz _);unfold ndV;clear P ho hkk haz hk0 hy0 hlen hwg hpw;go_enter Tryz.func123,Tryz.ntmps123;go_wp2_with fail;generalize hW:Wa (Wa _ _) _=W1;have N1:=Aa (PP.out.start2 hW);have hka:=HKA.out.later (PP.out.ev.tw N1.out.tw) (Ad _);clear c0 c1 c2 c3 c4 hW;refine(IH.out (Xq X (w.heap.size+1)) ya _ _ env s W1 r hm (PP.out.sub N1.out.tw hna HM.out PP.out.sz (Ad _) N1.out.ev hka (AQ _) N1.out.rx.1)).mono ?_;rintro e W2 ⟨c2,r2,rfl,t2,h2⟩;have N2:=Aa (N1.out.step t2 h2.evS);have H2:=Aa h2;have HF2:=Aa h2.formS;have HKD:=Aa (fun v s2 h=>PP.out.kid (s1:=s) (ar:=ar) (m:=m) (v:=v) (s2:=s2) hna HM.out PP.out.sz (Ad _) h);obtain⟨res1,hr1⟩:∃R,Ai ar m ya env s=R:=⟨_,rfl⟩;rw[hr1]at N2 H2;have HR1:=Aa hr1;obtain⟨kd2,nn2,ss2,a12,l12,c12,xx2,a22,l22,c22,arg2,self2,a32,l32,c32,rfl⟩:=h2.formS;clear h2 t2 hka hr1;unfold svC;cases res1 with
 |bad cd o=>
  have HC:=Aa (show cd=1∨cd=2 from N2.out.ev.1);have hcb:(cd !=0)=true:=by rcases HC.out with rfl |rfl <;> rfl
  have lg:=N2.out.ev.lt;have q2:W2.cell? ⟨g,2,none⟩=some (.int .i64 cd):=by
   obtain⟨f2,e2⟩:=N2.out.ev.2;exact e2.cells.2.2
  have lb:=N2.out.bx.1;have K9:=Aa N2.out.rx;have ck:=K9.out.2.1;have fk:=K9.out.2.2;have yk:=K9.out.1;unfold sv0 at ck;go_wp2;generalize hz:Wa _ _=z;obtain⟨k9,g9⟩:=Bx.set12 K9.out (.int .i64 0) (.int .i64 0) (.string ⟨#[]⟩) (.slice none 0 0) (.int .i64 0) (.int .i64 0) (.string ⟨#[]⟩) (.string ⟨#[]⟩) (.slice none 0 0) (.string ⟨#[]⟩) (.string ⟨#[]⟩) (.slice none 0 0);obtain⟨bz, -⟩:=Bx.alloc hz;have g10:=Vj g9 hz;have c9:=(k9.below bz k9.1).2.1;refine AA (v:= .agg sv0) ?_ rfl ?_
  ·simp[results,Tryz.results123,go_sem,c9,sv0]
  ·rw[HE.out,HR1.out];exact Sw.fin (res:= .bad cd o) N2.out ⟨FormS.zero,N2.out.ev⟩ hBw g10
 |ok v s2=>
  have HK:=Aa (HKD.out v s2 HR1.out);have q2:W2.cell? ⟨g,2,none⟩=some (.int .i64 0):=Ev.cells N2.out.ev |>.2.2
  have lg:=N2.out.ev.lt;have lb:=N2.out.bx.1;have qb:=N2.out.bx.2.1;have hn1:W2.heap.size≠g:=by have:=N2.out.ev.lt;omega
  have hn2:r2≠some W2.heap.size:=fun e=>by have:=(N2.out.ev.row _ e).2;omega
  go_wp2_with fail;generalize hW3:Wa _ _=W3;obtain⟨b3,k3⟩:=Bx.alloc hW3;have N3:=Aa (N2.out.same b3);have T3:=Aa (N2.out.ev.same b3).2;have K3:=Aa k3;have R3:=Aa (H2.out.1.later T3.out (N2.out.ev.tw T3.out));clear q2 lg lb qb hW3 b3 k3
  go_loopw [8] (fun i wr=>∃k:Nat,1≤k∧k≤x.kids.length∧i= .int .i64 k∧Below W3.heap.size W3 wr∧Hid (A5 (Ai ar m) env v (x.kids.drop k) s2=A5 (Ai ar m) env v (x.kids.drop 1) s2)) (fun i _=>x.kids.length - (intOf i).toNat)
  case atStart=>exact⟨1,Ad _,by omega,rfl,Ac _ _,Aa rfl⟩
  case round=>
   obtain⟨k,hk1,hk,rfl,bb,hal⟩:=hrel;have N:=Aa (N3.out.same bb);have TW:=Aa (N3.out.ev.same bb).2;have qb:=N.out.bx.2.1;have lb:=N.out.bx.1;by_cases hlt:k < x.kids.length
   ·obtain⟨p,y,hpy,hpp,hny⟩:=ALT.out k hlt hk1;obtain⟨b',off',cap',kv',hv',hB',hbs, -,⟨-, -, -, -,d4⟩,hkr⟩:=(PP.out.rkW N.out.tw).at_ hlt;cases hv'
    rw[hpy]at hkr;obtain⟨pb,po,pcap,kvp,kve,hpv,hpB,hpcap,⟨p0,p1,p2,p3,p4⟩,hkp,⟨e0,e1,e2,e3,e4⟩,hke⟩:=hkr.two';rw[hpv]at d4;obtain⟨pka,pkc,rfl⟩:=hkp.form;obtain⟨eka,ekc,rfl⟩:=hke.form;have HPY:=Aa hpy;have HKP:=Aa hkp;have HKE:=Aa hke;have hki:(k:Int) < (x.kids.length:Int):=by omega
    have hk0:(0:Int)≤ (k:Int):=by omega
    have hpw:=Aj hpB N.out.ev.gB.2;have HWP:=Aa (show wgN p+1≤1048576∧wgN y≤1048576 by
     have h1:=WG.out k hlt;have h2:=Aw x.kids[k];have h3:=AT (k:=p) (ks:=x.kids[k].kids) (by rw[hpy];simp);have h4:=AT (k:=y) (ks:=x.kids[k].kids) (by rw[hpy];simp);omega)
    have BB:=Aa bb;clear hkr hkp hke hpy bb;have HQ:=Aa (fun(W':World) (r':Option Nat) (t:Tw g r2 r' wr W')=>(by
     have k3:=N.out.bx.tw t N.out.ng N.out.nb;have k4:=K3.out.tw (TW.out.trans t) hn1 hn2;have b3:=N.out.ev.tw t;exact⟨k3.2.1 4,(b3.cell (p:=⟨b,off+k*5+4,none⟩) hB').trans d4,(b3.cell (p:=⟨pb,po,none⟩) hpB).trans p0,(b3.cell (p:=⟨pb,po+1,none⟩) hpB).trans p1,(b3.cell (p:=⟨pb,po+2,none⟩) hpB).trans p2,(b3.cell (p:=⟨pb,po+3,none⟩) hpB).trans p3,(b3.cell (p:=⟨pb,po+4,none⟩) hpB).trans p4,k4.2.1 0,k4.2.1 1,k4.2.1 2,k4.2.1 3,k4.2.1 4,k4.2.1 5,k4.2.1 6,k4.2.1 7,k4.2.1 8,k4.2.1 9,k4.2.1 10,k4.2.1 11⟩:W'.cell? ⟨w.heap.size,4,none⟩=some (.slice (some ⟨b,off,none⟩) x.kids.length cap)∧W'.cell? ⟨b,off+k*5+4,none⟩=some (.slice (some ⟨pb,po,none⟩) 2 pcap)∧W'.cell? ⟨pb,po,none⟩=some (.int .i64 p.op)∧W'.cell? ⟨pb,po+1,none⟩=some (.int .i64 p.n)∧W'.cell? ⟨pb,po+2,none⟩=some (.string p.s)∧W'.cell? ⟨pb,po+3,none⟩=some (.string p.t)∧W'.cell? ⟨pb,po+4,none⟩=some (.slice pka p.kids.length pkc)∧W'.cell? ⟨W2.heap.size,0,none⟩=some (.int .i64 kd2)∧W'.cell? ⟨W2.heap.size,1,none⟩=some (.int .i64 nn2)∧W'.cell? ⟨W2.heap.size,2,none⟩=some (.string ss2)∧W'.cell? ⟨W2.heap.size,3,none⟩=some (.slice a12 l12 c12)∧W'.cell? ⟨W2.heap.size,4,none⟩=some (.int .i64 xx2.op)∧W'.cell? ⟨W2.heap.size,5,none⟩=some (.int .i64 xx2.n)∧W'.cell? ⟨W2.heap.size,6,none⟩=some (.string xx2.s)∧W'.cell? ⟨W2.heap.size,7,none⟩=some (.string xx2.t)∧W'.cell? ⟨W2.heap.size,8,none⟩=some (.slice a22 l22 c22)∧W'.cell? ⟨W2.heap.size,9,none⟩=some (.string arg2)∧W'.cell? ⟨W2.heap.size,10,none⟩=some (.string self2)∧W'.cell? ⟨W2.heap.size,11,none⟩=some (.slice a32 l32 c32)))
    have HQE:=Aa (fun(W':World) (r':Option Nat) (t:Tw g r2 r' wr W')=>(by
     have k3:=N.out.bx.tw t N.out.ng N.out.nb;have b3:=N.out.ev.tw t;exact⟨k3.2.1 4,(b3.cell (p:=⟨b,off+k*5+4,none⟩) hB').trans d4,(b3.cell (p:=⟨pb,po+5,none⟩) hpB).trans e0,(b3.cell (p:=⟨pb,po+5+1,none⟩) hpB).trans e1,(b3.cell (p:=⟨pb,po+5+2,none⟩) hpB).trans e2,(b3.cell (p:=⟨pb,po+5+3,none⟩) hpB).trans e3,(b3.cell (p:=⟨pb,po+5+4,none⟩) hpB).trans e4,Aj hB' (Ar N.out.ev.gB.2 t.size)⟩:W'.cell? ⟨w.heap.size,4,none⟩=some (.slice (some ⟨b,off,none⟩) x.kids.length cap)∧W'.cell? ⟨b,off+k*5+4,none⟩=some (.slice (some ⟨pb,po,none⟩) 2 pcap)∧W'.cell? ⟨pb,po+5,none⟩=some (.int .i64 y.op)∧W'.cell? ⟨pb,po+5+1,none⟩=some (.int .i64 y.n)∧W'.cell? ⟨pb,po+5+2,none⟩=some (.string y.s)∧W'.cell? ⟨pb,po+5+3,none⟩=some (.string y.t)∧W'.cell? ⟨pb,po+5+4,none⟩=some (.slice eka y.kids.length ekc)∧b < W'.heap.size))
    have TB:=Aa (fun(W':World) (h:Below wr.heap.size wr W')=>(Tw.of_below h (fun k e=>(N.out.ev.row k e).2):Tw g r2 r2 wr W'));clear d4 p0 p1 p2 p3 p4 e0 e1 e2 e3 e4;go_wp2_with fail;clear qb lb;cases hfo:Br p v env with
    |none=>
     refine wp_region_held_drew (S:=(fun W'=>W'.cell? ⟨w.heap.size,4,none⟩=some (.slice (some ⟨b,off,none⟩) x.kids.length cap)∧W'.cell? ⟨b,off+k*5+4,none⟩=some (.slice (some ⟨pb,po,none⟩) 2 pcap)∧W'.cell? ⟨pb,po,none⟩=some (.int .i64 p.op)∧W'.cell? ⟨pb,po+1,none⟩=some (.int .i64 p.n)∧W'.cell? ⟨pb,po+2,none⟩=some (.string p.s)∧W'.cell? ⟨pb,po+3,none⟩=some (.string p.t)∧W'.cell? ⟨pb,po+4,none⟩=some (.slice pka p.kids.length pkc)∧W'.cell? ⟨W2.heap.size,0,none⟩=some (.int .i64 kd2)∧W'.cell? ⟨W2.heap.size,1,none⟩=some (.int .i64 nn2)∧W'.cell? ⟨W2.heap.size,2,none⟩=some (.string ss2)∧W'.cell? ⟨W2.heap.size,3,none⟩=some (.slice a12 l12 c12)∧W'.cell? ⟨W2.heap.size,4,none⟩=some (.int .i64 xx2.op)∧W'.cell? ⟨W2.heap.size,5,none⟩=some (.int .i64 xx2.n)∧W'.cell? ⟨W2.heap.size,6,none⟩=some (.string xx2.s)∧W'.cell? ⟨W2.heap.size,7,none⟩=some (.string xx2.t)∧W'.cell? ⟨W2.heap.size,8,none⟩=some (.slice a22 l22 c22)∧W'.cell? ⟨W2.heap.size,9,none⟩=some (.string arg2)∧W'.cell? ⟨W2.heap.size,10,none⟩=some (.string self2)∧W'.cell? ⟨W2.heap.size,11,none⟩=some (.slice a32 l32 c32))) (by kernel_rfl) (by first | (dsimp only;exact HQ.out _ _ (TB.out _ (Below.refl _ _).drew)) | (exact HQ.out _ _ (TB.out _ (Below.refl _ _).drew))) (fun hHeld=> ?_);generalize hxd:World.drew _=x1 at hHeld ⊢;have hd1:Below wr.heap.size wr x1:=by rw[←hxd];exact(Ac _ _).drew
     clear hxd;have N5:=Aa (N.out.same hd1);have T5:=Aa (TB.out _ hd1);refine tkH (i:=0) ?_;refine tkH (i:=1) ?_;refine tkH (i:=2) ?_;refine tkH (i:=3) ?_;refine tkH (i:=4) ?_;refine tkH (i:=5) ?_;refine tkH (i:=6) ?_;refine tkH (i:=7) ?_;refine tkH (i:=8) ?_;refine tkH (i:=9) ?_;refine rdH (i:=10) (fun K hK=> ?_);go_simp;refine(Ke B (Xq X (w.heap.size+1)) g r2 (wgN p+1) p _ _ _ v env x1 (CM _) (by have:=HWP.out.1;omega) (by have:=HWP.out.1;omega) hpp N5.out.ev.gB.2 N5.out.ev.lt (fun k e=>(N5.out.ev.row k e).2) (fun k e=>e.elim (fun e=>Aj (PP.out.hx k e) N5.out.tw.size) (fun e=>by have:=N5.out.rx.1;omega)) (HKP.out.later (N.out.ev.tw T5.out) (Ad _)) (R3.out.later (TW.out.trans T5.out) (N3.out.ev.tw (TW.out.trans T5.out))) (PP.out.reW N5.out.tw (AQ _))).mono ?_;rintro e w6 ⟨b6,a6,n6,cc6,h6⟩;rw[hfo]at h6;obtain rfl:=h6;replace b6:=hd1.trans (b6.mono hd1.size);refine bkH hK (by first | (dsimp only;exact HQ.out _ _ (TB.out _ b6)) | (exact HQ.out _ _ (TB.out _ b6))) (fun hHeld=> ?_);clear hK K;refine tkH (i:=11) ?_;refine tkH (i:=12) ?_;refine tkH (i:=13) ?_;refine tkH (i:=14) ?_;refine tkH (i:=15) ?_;refine Bs (by kernel_rfl) ?_ _;have bt:=BB.out.trans (b6.mono BB.out.size);have HA:=Aa ((Vm (E:=Ai ar m) hlt s2 HPY.out hfo).symm.trans hal.out);clear b6 hd1 hHeld hal;go_wp2;go_roundw
     case rel=>exact⟨k+1,by omega,hlt,by go_num,bt,HA⟩
     case measure=>simp[intOf];omega
    |some env'=>
     refine wp_region_held_drew (S:=(fun W'=>W'.cell? ⟨w.heap.size,4,none⟩=some (.slice (some ⟨b,off,none⟩) x.kids.length cap)∧W'.cell? ⟨b,off+k*5+4,none⟩=some (.slice (some ⟨pb,po,none⟩) 2 pcap)∧W'.cell? ⟨pb,po,none⟩=some (.int .i64 p.op)∧W'.cell? ⟨pb,po+1,none⟩=some (.int .i64 p.n)∧W'.cell? ⟨pb,po+2,none⟩=some (.string p.s)∧W'.cell? ⟨pb,po+3,none⟩=some (.string p.t)∧W'.cell? ⟨pb,po+4,none⟩=some (.slice pka p.kids.length pkc)∧W'.cell? ⟨W2.heap.size,0,none⟩=some (.int .i64 kd2)∧W'.cell? ⟨W2.heap.size,1,none⟩=some (.int .i64 nn2)∧W'.cell? ⟨W2.heap.size,2,none⟩=some (.string ss2)∧W'.cell? ⟨W2.heap.size,3,none⟩=some (.slice a12 l12 c12)∧W'.cell? ⟨W2.heap.size,4,none⟩=some (.int .i64 xx2.op)∧W'.cell? ⟨W2.heap.size,5,none⟩=some (.int .i64 xx2.n)∧W'.cell? ⟨W2.heap.size,6,none⟩=some (.string xx2.s)∧W'.cell? ⟨W2.heap.size,7,none⟩=some (.string xx2.t)∧W'.cell? ⟨W2.heap.size,8,none⟩=some (.slice a22 l22 c22)∧W'.cell? ⟨W2.heap.size,9,none⟩=some (.string arg2)∧W'.cell? ⟨W2.heap.size,10,none⟩=some (.string self2)∧W'.cell? ⟨W2.heap.size,11,none⟩=some (.slice a32 l32 c32))) (by kernel_rfl) (by first | (dsimp only;exact HQ.out _ _ (TB.out _ (Below.refl _ _).drew)) | (exact HQ.out _ _ (TB.out _ (Below.refl _ _).drew))) (fun hHeld=> ?_);generalize hxd:World.drew _=x1 at hHeld ⊢;have hd1:Below wr.heap.size wr x1:=by rw[←hxd];exact(Ac _ _).drew
     clear hxd;have N5:=Aa (N.out.same hd1);have T5:=Aa (TB.out _ hd1);refine tkH (i:=0) ?_;refine tkH (i:=1) ?_;refine tkH (i:=2) ?_;refine tkH (i:=3) ?_;refine tkH (i:=4) ?_;refine tkH (i:=5) ?_;refine tkH (i:=6) ?_;refine tkH (i:=7) ?_;refine tkH (i:=8) ?_;refine tkH (i:=9) ?_;refine rdH (i:=10) (fun K hK=> ?_);go_simp;refine(Ke B (Xq X (w.heap.size+1)) g r2 (wgN p+1) p _ _ _ v env x1 (CM _) (by have:=HWP.out.1;omega) (by have:=HWP.out.1;omega) hpp N5.out.ev.gB.2 N5.out.ev.lt (fun k e=>(N5.out.ev.row k e).2) (fun k e=>e.elim (fun e=>Aj (PP.out.hx k e) N5.out.tw.size) (fun e=>by have:=N5.out.rx.1;omega)) (HKP.out.later (N.out.ev.tw T5.out) (Ad _)) (R3.out.later (TW.out.trans T5.out) (N3.out.ev.tw (TW.out.trans T5.out))) (PP.out.reW N5.out.tw (AQ _))).mono ?_;rintro e w6 ⟨b6,a6,n6,cc6,h6⟩;rw[hfo]at h6;obtain⟨rfl,h7⟩:=h6;have H7:=Aa h7;clear h7;replace b6:=hd1.trans (b6.mono hd1.size);refine bkH hK (by first | (dsimp only;exact HQ.out _ _ (TB.out _ b6)) | (exact HQ.out _ _ (TB.out _ b6))) (fun hHeld=> ?_);clear hK K;refine tkH (i:=11) ?_;refine tkH (i:=12) ?_;refine tkH (i:=13) ?_;refine tkH (i:=14) ?_;refine tkH (i:=15) ?_;refine Bs (by kernel_rfl) ?_ _;have T6:=Aa (TB.out _ b6);have N6:=Aa (N.out.same b6);obtain⟨g1,g2,g3,g4,g5,g6,g7,g8⟩:=HQE.out _ _ T6.out;have lb6:=N6.out.bx.1;have hpw6:=Aj hpB N6.out.ev.gB.2;have HA:=Aa (hal.out.symm.trans (Vk (E:=Ai ar m) hlt s2 HPY.out hfo));have HFL:=Aa (J7 (AZ s2.fuel) p v env env' HK.out.2.1 (PP.out.lm.fuel (by have:=HK.out.2.2.1;omega)).inv_sc.2 hfo);have HFG:=Aa (GR p v env env' HK.out.1 PP.out.gd hfo);obtain⟨fa,fc,hf7⟩:=H7.out.sc_form;cases hf7
     clear b6 hd1 hHeld hal;go_wp2_with fail;clear g1 g2 g3 g4 g5 g6 g7 g8;have PRE:SPre B (Xq X (w.heap.size+1)) g lv ds y (.slice eka y.kids.length ekc) (.slice a6 env'.length cc6) env' s2 w6 r2:=
      ⟨hny,HWP.out.2,HFG.out,.sc _ (by have h1:=HFL.out.1;have h2:=PP.out.lm.inv_sc.1;have h3:=E0 HK.out.2.2.1 (by have:=PP.out.sz;omega);have:=HWP.out.1;omega) HFL.out.2,HK.out.2.2.2,HKE.out.later (N.out.ev.tw T6.out) (Ad _),H7.out,N6.out.ev,PP.out.dtW N6.out.tw,fun k e=>e.elim (fun e=>Aj (PP.out.hx k e) N6.out.tw.size) (fun e=>by have:=N6.out.rx.1;omega)⟩
     refine(IH.out _ _ _ _ _ _ _ _ (by have:=HK.out.2.2.1;omega) PRE).mono ?_;rintro e W7 ⟨c7,r7,rfl,t7,h7⟩;have N7:=Aa (N6.out.step t7 h7.evS);have H8:=Aa h7;obtain⟨kd7,nn7,ss7,a17,l17,c17,xx7,a27,l27,c27,arg7,self7,a37,l37,c37,rfl⟩:=h7.formS;clear h7 t7 PRE;unfold svC;have K9:=Aa N7.out.rx;have ck:=K9.out.2.1;have fk:=K9.out.2.2;have yk:=K9.out.1;unfold sv0 at ck;go_wp2;generalize hz:Ws (Ws _ _ _) _ _=z;obtain⟨k9,g9⟩:=Bx.set12 K9.out (.int .i64 kd7) (.int .i64 nn7) (.string ss7) (.slice a17 l17 c17) (.int .i64 xx7.op) (.int .i64 xx7.n) (.string xx7.s) (.string xx7.t) (.slice a27 l27 c27) (.string arg7) (.string self7) (.slice a37 l37 c37);rw[hz]at k9 g9;have c9:=k9.2.1;refine AA (v:= .agg (svC kd7 nn7 ss7 (.slice a17 l17 c17) xx7 (.slice a27 l27 c27) arg7 self7 (.slice a37 l37 c37))) ?_ rfl ?_
     ·simp[results,Tryz.results123,go_sem,c9,svC]
     ·rw[HE.out,HR1.out];dsimp only[Rs.bind];rw[HA.out];exact Sw.fin (res:=Ai ar m y env' s2) N7.out H8.out hBw g9
   ·obtain rfl:k=x.kids.length:=by omega
    have HA:=Aa (hal.out.symm.trans (Vn s2));clear bb hal;go_wp2_with fail;refine(Gp N.out.ev).mono ?_;rintro e W4 ⟨rfl,e4,t4⟩;rw[Ag rfl]at e4;have N4:=Aa (N.out.step (σ':= .bad 2 s2.out) t4 ⟨.inr rfl,_,e4⟩);clear e4 t4 qb lb;unfold sv0;have K9:=Aa N4.out.rx;have ck:=K9.out.2.1;have fk:=K9.out.2.2;have yk:=K9.out.1;unfold sv0 at ck;go_wp2;generalize hz:Ws (Ws _ _ _) _ _=z;obtain⟨k9,g9⟩:=Bx.set12 K9.out (.int .i64 0) (.int .i64 0) (.string ⟨#[]⟩) (.slice none 0 0) (.int .i64 0) (.int .i64 0) (.string ⟨#[]⟩) (.string ⟨#[]⟩) (.slice none 0 0) (.string ⟨#[]⟩) (.string ⟨#[]⟩) (.slice none 0 0);rw[hz]at k9 g9;have c9:=k9.2.1;refine AA (v:= .agg (sv0)) ?_ rfl ?_
    ·simp[results,Tryz.results123,go_sem,c9,sv0]
    ·rw[HE.out,HR1.out];dsimp only[Rs.bind];rw[HA.out];exact Sw.fin (res:= .bad 2 s2.out) N4.out ⟨FormS.zero,N4.out.ev⟩ hBw g9
theorem Lj (ds:List Dt) (dv:Value) (s:Str) (B:Nat) (w:World) (hr:RdDts B w dv ds) (hds:ds.length≤1048576):
  Calls Pq 115 #[dv,.string s] w fun e w'=>e= .returned (.int .i64 (dIx ds s))∧w'=w:=by
 have HR:=Aa hr;have HH:=Aa (fun(k:Nat) (hk:k < ds.length) (h:ds[k].name=s) (hj:∀j (h:j < ds.length),j < k→ds[j].name≠s)=>Qr hk h hj);have HN:=Aa (fun(hj:∀j (h:j < ds.length),ds[j].name≠s)=>Qs hj);generalize dIx ds s=dx at*;obtain⟨ka,kc,rfl⟩:=hr.form;clear hr;go_enter Tryz.func115,Tryz.ntmps115;go_wp2
 go_loop [5] (fun i=>∃k:Nat,k≤ds.length∧i= .int .i64 k∧Hid (∀j (h:j < ds.length),j < k→ds[j].name≠s)) (fun i=>ds.length - (intOf i).toNat)
 case atStart=>exact⟨0,Av _,rfl,Aa (fun j h hk=>absurd hk (Ay j))⟩
 case round=>
  obtain⟨k,hk,rfl,hd⟩:=hrel;by_cases hlt:k < ds.length
  ·obtain⟨b,off,cap,cv,hv,hB,hbs,hcap,c0,c1,c2, -⟩:=HR.out.at_ hlt;cases hv
   have hki:(k:Int) < (ds.length:Int):=by omega
   by_cases he:ds[k].name=s
   ·have he':=Aa (HH.out k hlt he hd.out);have hq:=Gh he;clear he;go_wp2;go_ret;exact⟨AK he'.out.symm,rfl⟩
   ·have he':=Aa he;have hq:=E7 he;clear he;go_wp2
    go_round
    case rel=>exact⟨k+1,hlt,by go_num,Aa (fun j h hj=>by
     by_cases e:j=k
     ·subst e;exact he'.out
     ·exact hd.out j h (by omega))⟩
    case measure=>simp[intOf];omega
  ·obtain rfl:k=ds.length:=by omega
   have he':=Aa (HN.out fun j h=>hd.out j h h);go_wp2;go_ret;exact⟨AK he'.out.symm,rfl⟩
theorem Lk (ds:List Dt) (dv:Value) (s:Str) (B:Nat) (w:World) (hr:RdDts B w dv ds) (hl:AR ds≤1048576):
  Calls Pq 116 #[dv,.string s] w fun e w'=>e= .returned (.tuple #[.int .i64 (Bg ds s).1,.int .i64 (Bg ds s).2])∧w'=w:=by
 have HR:=Aa hr;have hln:=De ds;have hds:ds.length≤1048576:=by omega
 have SZ:=Aa (EN hl);have HH:=Aa (fun(i:Nat) (hi:i < ds.length) (k:Nat) (hk:k < ds[i].cons.length) (h:ds[i].cons[k].name=s) (h1:∀j (h:j < ds[i].cons.length),j < k→ds[i].cons[j].name≠s) (h2:∀j (h:j < ds.length),j < i→ ∀l (hl:l < ds[j].cons.length),ds[j].cons[l].name≠s)=>(by
  rcases Gv ds s with ⟨_,h5⟩ |⟨i',hi',k',hk',h5,h6,h7,h8⟩
  ·exact absurd h (h5 i hi k hk)
  ·have e1:i'=i:=by
    rcases KN i' i with h9 |h9 |h9
    ·exact absurd h6 (h2 i' hi' h9 k' hk')
    ·exact h9
    ·exact absurd h (h8 i hi h9 k hk)
   subst e1;have e2:k'=k:=by
    rcases KN k' k with h9 |h9 |h9
    ·exact absurd h6 (h1 k' hk' h9)
    ·exact h9
    ·exact absurd h (h7 k hk h9)
   subst e2;exact h5:Bg ds s= ((i:Int),(k:Int))))
 have HN:=Aa (fun(h:∀i (hi:i < ds.length) l (hl:l < ds[i].cons.length),ds[i].cons[l].name≠s)=>(by
  rcases Gv ds s with ⟨h5,_⟩ |⟨i',hi',k',hk',h5,h6,h7,h8⟩
  ·exact h5
  ·exact absurd h6 (h i' hi' k' hk'):Bg ds s= (-1, -1)))
 generalize Bg ds s=co at*;obtain⟨ka,kc,rfl⟩:=hr.form;clear hr hln hl;go_enter Tryz.func116,Tryz.ntmps116;go_wp2
 go_loop [6] (fun i=>∃k:Nat,k≤ds.length∧i= .int .i64 k∧Hid (∀j (h:j < ds.length),j < k→ ∀l (hl:l < ds[j].cons.length),ds[j].cons[l].name≠s)) (fun i=>ds.length - (intOf i).toNat)
 case atStart=>exact⟨0,Av _,rfl,Aa (fun j h hk=>absurd hk (Ay j))⟩
 case round=>
  obtain⟨i,hi,rfl,hd⟩:=hrel;by_cases hlt:i < ds.length
  ·obtain⟨b,off,cap,cv,hv,hB,hbs,hcap,c0,c1,c2,hkr⟩:=HR.out.at_ hlt;cases hv
   have hki:(i:Int) < (ds.length:Int):=by omega
   have HC:=Aa hkr;have HHi:=Aa (HH.out i hlt);have hsz:=SZ.out i hlt;obtain⟨ca,cc,rfl⟩:=hkr.form;clear hkr;go_wp2
   go_loop [7] (fun v=>∃k:Nat,k≤ds[i].cons.length∧v= .int .i64 k∧Hid (∀l (hl:l < ds[i].cons.length),l < k→ds[i].cons[l].name≠s)) (fun v=>ds[i].cons.length - (intOf v).toNat)
   case atStart=>exact⟨0,Av _,rfl,Aa (fun j h hk=>absurd hk (Ay j))⟩
   case round=>
    obtain⟨k,hk,rfl,hdk⟩:=hrel;by_cases hlk:k < ds[i].cons.length
    ·obtain⟨b',off',cap',av,hv',hB',hbs',hcap',d0,d1, -⟩:=HC.out.at_ hlk;cases hv'
     have hkk:(k:Int) < (ds[i].cons.length:Int):=by omega
     by_cases he:ds[i].cons[k].name=s
     ·have he':=Aa (HHi.out k hlk he hdk.out hd.out);have hq:=Gh he;clear he;go_wp2;go_ret2;rw[he'.out];exact⟨rfl,rfl⟩
     ·have he':=Aa he;have hq:=E7 he;clear he;go_wp2
      go_round
      case rel=>exact⟨k+1,hlk,by go_num,Aa (fun j h hj=>by
       by_cases e:j=k
       ·subst e;exact he'.out
       ·exact hdk.out j h (by omega))⟩
      case measure=>simp[intOf];omega
    ·obtain rfl:k=ds[i].cons.length:=by omega
     go_wp2
     go_round
     case rel=>exact⟨i+1,hlt,by go_num,Aa (fun j h hj=>by
      by_cases e:j=i
      ·subst e;exact fun l hl=>hdk.out l hl hl
      ·exact hd.out j h (by omega))⟩
     case measure=>simp[intOf];omega
  ·obtain rfl:i=ds.length:=by omega
   have he':=Aa (HN.out fun j h=>hd.out j h h);go_wp2;go_ret2;rw[he'.out];exact⟨rfl,rfl⟩
def Bt (ds:List Dt) (b:Bool) (t:Tp):Bool:=Ch ds t&& (!b || Db ds t)
theorem P6 {ds:List Dt}{b:Bool}{t:Tp}(h:t.op≠4):Bt ds b t=true:=by unfold Bt Ch Db;simp[h]
theorem P7 {ds:List Dt}{b:Bool}{t:Tp}(h:t.op=4):Bt ds b t= (decide (0≤dIx ds t.s)&& (!b || decide ((t.kids.length:Int)=EP ds t.s))):=by unfold Bt Ch Db;simp[h]
theorem Ll (m:Bool) (ds:List Dt) (dv:Value) (hds:ds.length≤1048576):∀ (N:Nat) (x:Tp) (kv:Value) (B B':Nat) (w:World),wgT x < N→wgT x≤1048576→RdDts B' w dv ds→RdTps B w kv x.kids→
  Calls Pq 176 #[dv,tpV x kv,.bool m] w fun e w'=>e= .returned (.bool (At (Bt ds m) x))∧Below w.heap.size w w'
 |0,x,kv,B,B',w,hN,hl,hd,hr=>by omega
 |N+1,x,kv,B,B',w,hN,hl,hd,hr=>by
  have HR:=Aa (fun(W:World) (hb:Below w.heap.size w W)=>hr.later' hb);have HD:=Aa (fun(W:World) (hb:Below w.heap.size w W)=>hd.later' hb);have DA:=Aa (fun(W:World) (hb:Below w.heap.size w W)=>Lj ds dv x.s _ W (hd.later' hb) hds);have hwg:=Eg x;have hlen:=DS x.kids;have hks:x.kids.length≤1048576:=by omega
  have IH:=Aa (fun(j:Nat) (hj:j < x.kids.length) (kv:Value) (B:Nat) (W:World) (hb:Below w.heap.size w W) (h:RdTps B W kv x.kids[j].kids)=>(by
   have:=CJ (As hj);exact Ll m ds dv hds N x.kids[j] kv B _ W (by omega) (by omega) (hd.later' hb) h:Calls Pq 176 #[dv,tpV x.kids[j] kv,.bool m] W fun e w'=>e= .returned (.bool (At (Bt ds m) x.kids[j]))∧Below W.heap.size W w'))
  have HE:=Aa (Eu (Bt ds m) x);have H4:=Aa (@P7 ds m x);have HN4:=Aa (@P6 ds m x);have HP:=Aa (show 0≤dIx ds x.s→ ∃k,∃hk:k < ds.length,dIx ds x.s=k∧EP ds x.s=ds[k].vars from fun h=>by
   rcases LF ds x.s with ⟨h1,_⟩ |⟨k,hk,h1, -⟩
   ·omega
   ·refine⟨k,hk,h1,?_⟩;unfold EP;rw[h1];simp[List.getD,Bl hk])
  obtain⟨ka,kc,rfl⟩:=hr.form;obtain⟨da,dc,rfl⟩:=hd.form;clear hr hd hN hwg hlen hl;unfold tpV at IH ⊢;generalize x.op=xop at*;generalize x.n=xn at*;generalize x.s=xs at*;generalize At (Bt ds m) x=ax at*;generalize Bt ds m x=nx at*;generalize x.kids=ks at*;go_enter Tryz.func176,Tryz.ntmps176;go_wp2_with fail;generalize hxx:Wa _ _=x0;obtain⟨bb,k1⟩:=Bx.alloc hxx;clear hxx
  go_loopw [7] (fun i wr=>∃k:Nat,k≤ks.length∧i= .int .i64 k∧Below w.heap.size w wr∧Bx wr w.heap.size #[.int .i64 xop,.int .i64 xn,.string xs,.slice ka ks.length kc]∧Hid (∀j (h:j < ks.length),j < k→At (Bt ds m) ks[j]=true)) (fun i _=>ks.length - (intOf i).toNat)
  case atStart=>exact⟨0,Av _,rfl,bb,k1,Aa (fun j h hk=>absurd hk (Ay j))⟩
  case round=>
   clear bb k1;obtain⟨k,hk,rfl,bb,k1,hd⟩:=hrel;by_cases hlt:k < ks.length
   ·obtain⟨b,off,cap,kv,hv,hB,hbs,hcap,⟨c0,c1,c2,c3⟩,hkr⟩:=(HR.out wr bb).at_ hlt;cases hv
    have hki:(k:Int) < (ks.length:Int):=by omega
    obtain⟨kva,kvc,rfl⟩:=hkr.form;have HK:=Aa hkr;have q1:=k1.2.1;clear hkr;go_wp2_with fail;clear q1 c0 c1 c2 c3;refine(IH.out k hlt _ _ wr bb HK.out).mono ?_;rintro e w2 ⟨rfl,b2⟩;replace k1:=k1.below b2 k1.1;replace bb:=bb.trans (b2.mono bb.size);clear b2 HK;cases hp:At (Bt ds m) ks[k]with
    |true=>
     have hp':=Aa hp;clear hp;go_wp2;go_roundw
     case rel=>exact⟨k+1,hlt,by go_num,bb,k1,Aa (fun j h hj=>by
      by_cases e:j=k
      ·subst e;exact hp'.out
      ·exact hd.out j h (by omega))⟩
     case measure=>simp[intOf];omega
    |false=>
     have hp':=Aa ((DH (Bt ds m) ks).trans (Dw hlt hp));clear hp;go_wp2;go_ret;exact⟨Ae (by rw[HE.out,hp'.out];simp),bb⟩
   ·obtain rfl:k=ks.length:=by omega
    have hy:=(DH (Bt ds m) ks).trans (DT (fun j hj=>hd.out j hj hj));have HE2:Hid (ax=nx):=Aa (by rw[HE.out,hy];simp);clear hy HE;have q1:=k1.2.1;by_cases o4:xop=4
    ·subst o4;have H4b:=Aa (H4.out rfl);clear H4;go_wp2_with fail;clear q1;refine(DA.out wr bb).mono ?_;rintro e w2 ⟨rfl,rfl⟩;have q1:=k1.2.1;by_cases hd0:0≤dIx ds xs
     ·obtain⟨k,hk,hdx,hva⟩:=HP.out hd0;rw[hdx];have HDX:=Aa hdx;have HVA:=Aa hva;have hd0':=Aa hd0;obtain⟨b,off,cap,cv,hv,hB,hbs,hcap,c0,c1,c2, -⟩:=(HD.out _ bb).at_ hk;cases hv
      have hki:(k:Int) < (ds.length:Int):=by omega
      have hk0:(0:Int)≤ (k:Int):=by omega
      clear hdx hva hd0 c0 c2;cases m with
      |false=>
       go_wp2_with fail;go_quiet (fail);go_wp2;go_ret;exact⟨Ae (by rw[HE2.out,H4b.out,AN hd0'.out];rfl),bb.trans (Still.below ⟨_,rfl⟩ _)⟩
      |true=>
       go_wp2_with fail;go_quiet (fail);go_wp2
       all_goals go_ret
       all_goals exact⟨Ae (by rw[HE2.out,H4b.out,HVA.out,AN hd0'.out];simp only[Bool.not_true,Bool.false_or,Hb];rw[BR,BQ,FO];exact eq_comm),bb.trans (Still.below ⟨_,rfl⟩ _)⟩
     ·have hd1:¬(dIx ds xs≥0):=hd0;have hd0':=Aa hd0;have hd2:decide (dIx ds xs≥0)=false:=AG hd0;generalize dIx ds xs=dx at*;go_wp2_with fail;go_quiet (fail);go_wp2;go_ret;exact⟨Ae (by rw[HE2.out,H4b.out,AG (p:=0≤dx) (by have:=hd0'.out;omega)];rfl),bb.trans (Still.below ⟨_,rfl⟩ _)⟩
    ·have o4b:(xop !=4)=true:=by simp[o4]
     have hn:=Aa (HN4.out o4);go_wp2;go_ret;exact⟨Ae (by rw[HE2.out,hn.out]),bb⟩
theorem Gt {α:Type}(p q:α→Bool):∀l:List α,l.all (fun x=>p x&& q x)= (l.all p&& l.all q)
 | []=>rfl
 |x::xs=>by simp only[List.all_cons];rw[Gt p q xs];cases p x <;> cases q x <;> simp
theorem P8 (p q:Tp→Bool) (x:Tp):At (fun t=>p t&& q t) x= (At p x&& At q x):=by
 have h:∀N (x:Tp),wgT x < N→At (fun t=>p t&& q t) x= (At p x&& At q x):=by
  intro N;induction N with
  |zero=>intro x h;omega
  |succ N ih=>
   intro x h;rw[Eu,Eu,Eu,DH,DH,DH];have:x.kids.all (At fun t=>p t&& q t)=x.kids.all (fun t=>At p t&& At q t):=by
    rw[BR,Be,Be];refine forall_congr' fun y=>forall_congr' fun hy=> ?_;have:=CJ hy;have:=Eg x;rw[ih y (by omega)]
   rw[this,Gt];cases p x <;> cases q x <;> cases x.kids.all (At p) <;> cases x.kids.all (At q) <;> rfl
 exact h _ x (CM _)
theorem P9 (p q:Tp→Bool) (ds:List Dt):Bo (fun t=>p t&& q t) ds= (Bo p ds&& Bo q ds):=by
 unfold Bo;have h1:∀c:Cn,c.args.all (At fun t=>p t&& q t)= (c.args.all (At p)&& c.args.all (At q)):=fun c=>by
  rw[show(At fun t=>p t&& q t)= (fun t=>At p t&& At q t)from funext (P8 p q),Gt]
 have h2:∀d:Dt,(d.cons.all fun c=>c.args.all (At fun t=>p t&& q t))= ((d.cons.all fun c=>c.args.all (At p))&& (d.cons.all fun c=>c.args.all (At q))):=fun d=>by
  rw[show(fun c:Cn=>c.args.all (At fun t=>p t&& q t))= (fun c=>c.args.all (At p)&& c.args.all (At q))from funext h1,Gt]
 rw[show(fun d:Dt=>d.cons.all fun c=>c.args.all (At fun t=>p t&& q t))= (fun d=>(d.cons.all fun c=>c.args.all (At p))&& (d.cons.all fun c=>c.args.all (At q)))from funext h2,Gt]
theorem Qa (ds:List Dt):Bt ds false=Ch ds:=funext fun t=>by unfold Bt;simp
theorem Qb (ds:List Dt):Bt ds true=fun t=>Ch ds t&& Db ds t:=funext fun t=>by unfold Bt;simp
theorem Lm (m:Bool) (ds:List Dt) (dv:Value) (B:Nat) (w:World) (hr:RdDts B w dv ds) (hl:AR ds≤1048576):
  Calls Pq 117 #[dv,.bool m] w fun e w'=>e= .returned (.bool (Bo (Bt ds m) ds))∧Below w.heap.size w w':=by
 have HR:=Aa (fun(W:World) (hb:Below w.heap.size w W)=>hr.later' hb);have hln:=De ds;have hds:ds.length≤1048576:=by omega
 have SZ:=Aa (EN hl);have SA:=Aa (Ho hl);have HO:=Aa (fun(i:Nat) (hi:i < ds.length) (k:Nat) (hk:k < ds[i].cons.length) (j:Nat) (hj:j < ds[i].cons[k].args.length) (kv:Value) (B:Nat) (W:World) (hb:Below w.heap.size w W) (h:RdTps B W kv ds[i].cons[k].args[j].kids)=>(by
  have:=Hp hl i hi k hk j hj;exact Ll m ds dv hds 1048577 _ kv B _ W (by omega) this (hr.later' hb) h:Calls Pq 176 #[dv,tpV ds[i].cons[k].args[j] kv,.bool m] W fun e w'=>e= .returned (.bool (At (Bt ds m) ds[i].cons[k].args[j]))∧Below W.heap.size W w'))
 have HN:=Aa (fun(i:Nat) (hi:i < ds.length) (k:Nat) (hk:k < ds[i].cons.length) (j:Nat) (hj:j < ds[i].cons[k].args.length) (h:At (Bt ds m) ds[i].cons[k].args[j]=false)=>Ja (q:=Bt ds m) i hi k hk (Dw hj h));have HY:=Aa (fun h=>Jb (q:=Bt ds m) (ds:=ds) h);generalize Bo (Bt ds m) ds=aq at*;obtain⟨ka,kc,rfl⟩:=hr.form;unfold tpV at HO;clear hr hln hl;go_enter Tryz.func117,Tryz.ntmps117;go_wp2
 go_loopw [5] (fun i wr=>∃k:Nat,k≤ds.length∧i= .int .i64 k∧Below w.heap.size w wr∧Hid (∀j (h:j < ds.length),j < k→ ∀l (hl:l < ds[j].cons.length),(ds[j].cons[l].args.all (At (Bt ds m)))=true)) (fun i _=>ds.length - (intOf i).toNat)
 case atStart=>exact⟨0,Av _,rfl,Ac _ _,Aa (fun j h hk=>absurd hk (Ay j))⟩
 case round=>
  obtain⟨ii,hi,rfl,bb,hd⟩:=hrel;by_cases hlt:ii < ds.length
  ·obtain⟨b,off,cap,cv,hv,hB,hbs,hcap,c0,c1,c2,hkr⟩:=(HR.out w (Ac _ _)).at_ hlt;cases hv
   have hki:(ii:Int) < (ds.length:Int):=by omega
   have hsz:=SZ.out ii hlt;have SAi:=Aa (SA.out ii hlt);have HOi:=Aa (HO.out ii hlt);have HNi:=Aa (HN.out ii hlt);have HC:=Aa (fun(W:World) (hb:Below w.heap.size w W)=>hkr.later' hb);have HC2:=Aa (fun(W:World) (hb:Below w.heap.size w W)=>(hb.cell (p:=⟨b,off+ii*3+2,none⟩) hbs).trans c2);obtain⟨ca,cc,rfl⟩:=hkr.form;clear hkr c0 c1 c2;go_wp2
   go_loopw [6] (fun i wz=>∃k:Nat,k≤ds[ii].cons.length∧i= .int .i64 k∧Below w.heap.size w wz∧Hid (∀l (hl:l < ds[ii].cons.length),l < k→ds[ii].cons[l].args.all (At (Bt ds m))=true)) (fun i _=>ds[ii].cons.length - (intOf i).toNat)
   case atStart=>exact⟨0,Av _,rfl,bb,Aa (fun j h hk=>absurd hk (Ay j))⟩
   case round=>
    clear bb;obtain⟨k,hk,rfl,bb,hdk⟩:=hrel;have c2:=HC2.out wr bb;by_cases hlk:k < ds[ii].cons.length
    ·obtain⟨b',off',cap',av,hv',hB',hbs',hcap',d0,d1,hka⟩:=(HC.out w (Ac _ _)).at_ hlk;cases hv'
     have hkk:(k:Int) < (ds[ii].cons.length:Int):=by omega
     have hza:=SAi.out k hlk;have HA:=Aa (fun(W:World) (hb:Below w.heap.size w W)=>hka.later' hb);have HD1:=Aa (fun(W:World) (hb:Below w.heap.size w W)=>(hb.cell (p:=⟨b',off'+k*2+1,none⟩) hbs').trans d1);have HOk:=Aa (HOi.out k hlk);have HNk:=Aa (HNi.out k hlk);obtain⟨aa,ac,rfl⟩:=hka.form;clear hka d0 d1;go_wp2;clear c2
     go_loopw [7] (fun i wz=>∃j:Nat,j≤ds[ii].cons[k].args.length∧i= .int .i64 j∧Below w.heap.size w wz∧Hid (∀l (hl:l < ds[ii].cons[k].args.length),l < j→At (Bt ds m) ds[ii].cons[k].args[l]=true)) (fun i _=>ds[ii].cons[k].args.length - (intOf i).toNat)
     case atStart=>exact⟨0,Av _,rfl,bb,Aa (fun j h hk=>absurd hk (Ay j))⟩
     case round=>
      clear bb;obtain⟨j,hj,rfl,bb,hdj⟩:=hrel;have c2:=HC2.out wr bb;have d1:=HD1.out wr bb;by_cases hlj:j < ds[ii].cons[k].args.length
      ·obtain⟨ab,ao,acp,kt,hvt,hBt,hbt,hcapt,⟨e0,e1,e2,e3⟩,hkt⟩:=(HA.out wr bb).at_ hlj;cases hvt
       have hjj:(j:Int) < (ds[ii].cons[k].args.length:Int):=by omega
       obtain⟨ta,tc,rfl⟩:=hkt.form;have HKT:=Aa hkt;clear hkt;go_wp2_with fail;clear c2 d1 e0 e1 e2 e3;refine(HOk.out j hlj _ _ wr bb HKT.out).mono ?_;rintro e w2 ⟨rfl,b2⟩;replace bb:=bb.trans (b2.mono bb.size);clear b2;cases hp:At (Bt ds m) ds[ii].cons[k].args[j]with
       |true=>
        have hp':=Aa hp;clear hp;go_wp2;go_roundw
        case rel=>exact⟨j+1,hlj,by go_num,bb,Aa (fun l h hl=>by
         by_cases e:l=j
         ·subst e;exact hp'.out
         ·exact hdj.out l h (by omega))⟩
        case measure=>simp[intOf];omega
       |false=>
        have hp':=Aa (HNk.out j hlj hp);clear hp;go_wp2;go_ret;exact⟨Ae hp'.out.symm,bb⟩
      ·obtain rfl:j=ds[ii].cons[k].args.length:=by omega
       have hy:=Aa (DT fun l hl=>hdj.out l hl hl);go_wp2;go_roundw
       case rel=>exact⟨k+1,hlk,by go_num,bb,Aa (fun j h hj=>by
        by_cases e:j=k
        ·subst e;exact hy.out
        ·exact hdk.out j h (by omega))⟩
       case measure=>simp[intOf];omega
    ·obtain rfl:k=ds[ii].cons.length:=by omega
     go_wp2;go_roundw
     case rel=>exact⟨ii+1,hlt,by go_num,bb,Aa (fun j h hj=>by
      by_cases e:j=ii
      ·subst e;exact fun l hl=>hdk.out l hl hl
      ·exact hd.out j h (by omega))⟩
     case measure=>simp[intOf];omega
  ·obtain rfl:ii=ds.length:=by omega
   have he:=Aa (HY.out fun j h=>hd.out j h h);go_wp2;go_ret;exact⟨Ae he.out.symm,bb⟩
theorem Qd {n sz:Nat}{at_:Nat→Array Value}{c:Array Value}(hsz:∀j,j < n→(at_ j).size=sz) (hc:c.size=sz) (h0:0 < sz):BF n sz at_++c.toList=BF (n+1) sz (fun j=>if j < n then at_ j else c):=by
 have hsz2:∀j,j < n+1→((fun j=>if j < n then at_ j else c) j).size=sz:=fun j hj=>by
  dsimp only;by_cases h:j < n
  ·rw[Ag h];exact hsz j h
  ·rw[Ab h];exact hc
 refine List.ext_getElem? fun k=> ?_;by_cases hk:k < (n+1)*sz
 ·obtain⟨j,i,hj,hi,rfl⟩:=Hn hsz2 hk;rw[CQ hsz2 hj hi];by_cases h:j < n
  ·have hlt:j*sz+i < n*sz:=by
    have:(j+1)*sz≤n*sz:=Dq _ h;rw[Dg]at this;omega
   rw[BV (by rw[Cf];exact hlt),CQ hsz h hi];simp only[Ag h]
  ·obtain rfl:j=n:=by omega
   rw[Cp (by rw[Cf];omega),Cf,show j*sz+i - j*sz=i by omega,Array.getElem?_toList];simp only[Ab h]
 ·have hn:(n+1)*sz=n*sz+sz:=by rw[Dg,Nat.one_mul]
  rw[Hc (by rw[AV,Cf,Array.length_toList,hc];omega),Hc (by rw[Cf];omega)]
theorem Sw.grown {B g:Nat}{lv:Value}{w W W':World}{r rW:Option Nat}{σ:Rs Unit}{cur:Array Value}{q:Nat}{o:Option Nat}(h:Sw B g lv w r W rW σ cur q) (hg:W.grownBy W' o) (ho:∀b,o=some b→w.heap.size≤b∧b≠w.heap.size∧b≠q∧b≠g∧rW≠some b):Sw B g lv w r W' rW σ cur q:=by
 cases o with
 |none=>exact h.same (Below.of_grown hg (Ad _) (fun q e=>by cases e))
 |some b=>
  obtain⟨h1,h2,h3,h4,h5⟩:=ho b rfl;exact⟨h.ev.grown hg h4 h5,h.tw.grown hg h1,h.bx.grown hg (fun e=>h2 (Ah e).symm),h.rx.grown hg (fun e=>h3 (Ah e).symm),h.qw,h.nb,h.nq,h.ng,h.nr⟩
theorem RdS.grow {B g:Nat}{Y:Nat→Prop}{rW:Option Nat}{W W':World}{c:Array Value}{x:Xl}{o:Option Nat}(h:RdS B Y g rW W c x) (hg:W.grownBy W' o) (ho:∀b,o=some b→Y b∧B≤b) (hB:B≤W.heap.size) (hr:∀k,rW=some k→k < W.heap.size):RdS B Y g rW W' c x:=by
 cases o with
 |none=>
  have hb:Below W.heap.size W W':=Below.of_grown hg (Ad _) (fun q e=>by cases e);exact h.lat hb hB hr
 |some b=>
  obtain⟨h1,h2⟩:=ho b rfl;exact h.wrote b h1 hg (Below.of_grown hg hB (fun q e=>by cases e;exact h2))
theorem Lq {g base sz:Nat}{r r':Option Nat}{w w':World}{e:TypeId}{v:Value}{n:Nat}{xs:List Value}(h:w.ownsRow base e sz v n xs) (t:Tw g r r' w w') (hg:∀q,v.ownBlock=some q→q≠g∧r≠some q):w'.ownsRow base e sz v n xs:=by
 refine⟨h.1,?_⟩;rcases h.2 with hn |⟨q,cap,cur,rfl,hb,hgg,rest⟩
 ·exact .inl hn
 ·obtain⟨h1,h2⟩:=hg q rfl;exact .inr ⟨q,cap,cur,rfl,hb,by rw[t.block q (h.lt q rfl).2 h1 h2];exact hgg,rest⟩
structure CnS (B g T:Nat) (X:Nat→Prop) (lv:Value) (s:Str) (w:World) (r:Option Nat) (cur:Array Value) (W:World) (rW:Option Nat) (σ:Rs Unit) (kv:Value) (n:Nat) (cs:Nat→Array Value) (vs:List Vl) (Y:Nat→Prop):Prop where
 now:Sw B g lv w r W rW σ cur (w.heap.size+1)
 bt:Bx W (T) (svC 2 0 s kv Nd.zero AB eS eS AB)
 nt:rW≠some (T)
 gt:g < w.heap.size
 hT:w.heap.size+2≤T
 own:W.ownsRow (T+1) 106 12 kv n (BF n 12 cs)
 sz:∀j,j < n→(cs j).size=12
 nq:∀q,kv.ownBlock=some q→rW≠some q∧Y q
 xy:∀b,X b→Y b
 yx:∀b,b < w.heap.size→Y b→X b
 yl:∀b,Y b→b < W.heap.size
 yt:Y (T)
 yq:Y (w.heap.size+1)
 rd:∀t,σ= .ok () t→vs.length=n∧ ∀j (h:j < vs.length),RdS B Y g rW W (cs j) (.th vs[j])
section
variable {B g T:Nat}{X Y:Nat→Prop}{lv:Value}{s:Str}{w:World}{r:Option Nat}{cur:Array Value}{W:World}{rW:Option Nat}{σ:Rs Unit}{kv:Value}{n:Nat}{cs:Nat→Array Value}{vs:List Vl}
theorem CnS.qb (h:CnS B g T X lv s w r cur W rW σ kv n cs vs Y):∀q,kv.ownBlock=some q→T+1≤q∧q < W.heap.size:=fun q e=>h.own.lt q e
theorem CnS.call (h:CnS B g T X lv s w r cur W rW σ kv n cs vs Y) {W':World}{r':Option Nat}{σ':Rs Unit}(t:Tw g rW r' W W') (e:EvS B g lv σ' W' r') (hσ:∀t,σ'= .ok () t→ ∃t',σ= .ok () t'):CnS B g T X lv s w r cur W' r' σ' kv n cs vs Y:=by
 have hb:=h.now.ev.tw t;have hgt:=h.gt;have hT:=h.hT;refine⟨h.now.step t e,h.bt.tw t (by omega) h.nt,t.nb h.nt h.bt.1,h.gt,h.hT,Lq h.own t (fun q hq=>⟨by have:=h.qb q hq;omega,(h.nq q hq).1⟩),h.sz,fun q hq=>⟨t.nb (h.nq q hq).1 (h.qb q hq).2,(h.nq q hq).2⟩,h.xy,h.yx,fun b hb=>Aj (h.yl b hb) t.size,h.yt,h.yq,fun t' ht=> ?_⟩;obtain⟨t2,h2⟩:=hσ t' ht;obtain⟨h3,h4⟩:=h.rd t2 h2;exact⟨h3,fun j hj=>(h4 j hj).later t hb⟩
theorem CnS.same (h:CnS B g T X lv s w r cur W rW σ kv n cs vs Y) {W':World}(b:Below W.heap.size W W'):CnS B g T X lv s w r cur W' rW σ kv n cs vs Y:=
 h.call (h.now.ev.same b).2 (h.now.ev.same b).1 (fun t e=>⟨t,e⟩)
theorem CnS.pre (h:CnS B g T X lv s w r cur W rW σ kv n cs vs Y) {ds:List Dt}{x y:Nd}{kvx ev kvy:Value}{env:Env}{s0 s1:Es}(P:SPre B X g lv ds x kvx ev env s0 w r) (hσ:σ= .ok () s1) (hn:Ao y=true) (hm:y∈x.kids) (hs:s1.out.length+s1.fuel≤4000) (hf:s1.fuel≤s0.fuel) (hk:RdNs B W kvy y.kids):SPre B Y g lv ds y kvy ev env s1 W rW:=by
 have he:=h.now.ev;rw[hσ]at he;exact⟨hn,by have:=AT hm;have:=Aw x;have:=P.wg;omega,P.gd,P.lm.fuel hf,hs,hk,(P.re.off (fun b hb hx hy=>hx (h.yx b hb hy))).later h.now.tw (P.ev.tw h.now.tw),he,P.dtW h.now.tw,h.yl⟩
theorem CnS.app (h:CnS B g T X lv s w r cur W rW σ kv n cs vs Y) {c:Array Value}{v:Vl}(hc:c.size=12) (hv:∀t,σ= .ok () t→RdS B Y g rW W c (.th v)) {v':Value}{w4:World}(ho:w4.ownsRow (T+1) 106 12 v' (n+1) (BF n 12 cs++c.toList)) (hg:W.grownBy w4 kv.ownBlock)
  (hat:v'.ownBlock=kv.ownBlock∨v'.ownBlock=some W.heap.size):
  CnS B g T X lv s w r cur (w4.setCell ⟨T,3,none⟩ v') rW σ v' (n+1) (fun j=>if j < n then cs j else c) (vs++ [v]) (fun b=>Y b∨v'.ownBlock=some b):=by
 have hgt:=h.gt;have hT:=h.hT;have hgB:=h.now.ev.gB;have hws:=h.now.tw.size;have hrl:=h.now.ev.row;have hqlt:∀q,kv.ownBlock=some q→T+1≤q∧q < W.heap.size:=h.qb;have hg2:=grownBy.setCell w4 (T) 3 v';have hY':∀b,b < W.heap.size→ ¬Y b→ ¬(Y b∨v'.ownBlock=some b):=fun b hb hy h2=>by
  rcases h2 with h2 |h2
  ·exact hy h2
  ·rcases hat with e |e
   ·exact hy (h.nq b (by rw[←e];exact h2)).2
   ·rw[e]at h2;have:=Ah h2;omega
 have hsw4:=h.now.grown hg (fun b e=>by
  have h1:=hqlt b e;exact⟨by omega,by omega,by omega,by omega,(h.nq b e).1⟩)
 have hsw:=hsw4.grown hg2 (fun b e=>by
  have:=Ah e;subst this;exact⟨by omega,by omega,by omega,by omega,h.nt⟩)
 have hbt:=(h.bt.grown hg (fun e=>by have:=hqlt _ e.symm;omega)).st 3 (by simp[svC]) v';have hread:∀ {c:Array Value} {u:Vl},RdS B Y g rW W c (.th u)→RdS B (fun b=>Y b∨v'.ownBlock=some b) g rW (w4.setCell ⟨T,3,none⟩ v') c (.th u):=fun {c u} hr0=>by
  have h1:=hr0.off hY';have h2:=h1.grow hg (fun b e=>⟨.inl (h.nq b e).2,by have:=hqlt b e;omega⟩) hgB.2 (fun k e=>(hrl k e).2);exact h2.grow hg2 (fun b e=>by have:=Ah e;subst this;exact⟨.inl h.yt,by omega⟩) (Ar hgB.2 hg.size) (fun k e=>Aj (hrl k e).2 hg.size)
 refine⟨hsw,?_,h.nt,h.gt,h.hT,?_,fun j hj=> ?_,fun q hq=>⟨?_,.inr hq⟩,fun b hb=> .inl (h.xy b hb),fun b hb hy=> ?_,fun b hy=> ?_,.inl h.yt,.inl h.yq,fun t ht=> ?_⟩
 ·simpa [svC] using hbt
 ·rw[←Qd h.sz hc (by omega)];exact ho.kept hg2 (by
   cases hq:v'.ownBlock with
   |none=>exact .inl rfl
   |some q=>exact .inr (fun e=>by have:=(ho.lt q hq).1;have:=Ah e;omega))
 ·by_cases hlt:j < n
  ·rw[Ag hlt];exact h.sz j hlt
  ·rw[Ab hlt];exact hc
 ·intro e;rcases hat with e2 |e2
  ·exact(h.nq q (by rw[←e2];exact hq)).1 e
  ·rw[e2]at hq;have:=Ah hq;have:=(hrl q e).2;omega
 ·rcases hy with hy |hy
  ·exact h.yx b hb hy
  ·have:=(ho.lt b hy).1;omega
 ·rcases hy with hy |hy
  ·exact Aj (h.yl b hy) (by rw[AS];exact hg.size)
  ·rw[AS];exact(ho.lt b hy).2
 ·obtain⟨h3,h4⟩:=h.rd t ht;refine⟨by rw[AV,h3];rfl,fun j hj=> ?_⟩;rw[AV,List.length_singleton]at hj;by_cases hlt:j < n
  ·rw[Ag hlt,G9 (by omega)];exact hread (h4 j (by omega))
  ·rw[Ab hlt];have hj2:j=vs.length:=by omega
   subst hj2;rw[Ha (Ad _)];simp only[EI,List.getElem_cons_zero];exact hread (hv t ht)
theorem CnS.done (h:CnS B g T X lv s w r cur W rW σ kv n cs vs Y) {t:Es}(ht:σ= .ok () t) (hX:∀b,X b→b < w.heap.size):RdS B (Xq X (w.heap.size+1)) g rW W (svC 2 0 s kv Nd.zero AB eS eS AB) (.th (.con s vs)):=by
 have hgt:=h.gt;have hT:=h.hT;obtain⟨h3,h4⟩:=h.rd t ht;refine .con s kv vs cs ?_ (fun j hj=>(h4 j hj).off (fun b _ hy hx=>hy (hx.elim (h.xy b) (fun e=>by rw[e];exact h.yq))));rw[h3];rcases h.own.2 with ⟨rfl,h0⟩ |⟨q,cap,cu,rfl,hb,hgg,hn,hm,hc,ht⟩
 ·exact .inl ⟨by omega,_,_,rfl⟩
 ·obtain⟨hq1,hq2⟩:=h.nq q rfl;have hqb:=h.qb q rfl;refine .inr ⟨q,0,cap,rfl,⟨by omega,hq1,hqb.2,fun e=>e.elim (fun e=>by have:=hX _ e;omega) (fun e=>by omega)⟩,⟨by omega,hn⟩,fun j hj=>⟨h.sz j hj,fun i hi=> ?_⟩⟩;rw[BU,FM W q _ cu _ (0,0) hgg];have h5:=CQ h.sz hj hi;rw[←ht,Ej,Ag (by omega),Array.getElem?_toList]at h5;exact h5
end
def KInv (E:Nd→Env→Es→Rs Vl) (env:Env) (ks:List Nd) (s:Es) (k:Nat) (σ:Rs Unit) (vs:List Vl):Prop:=match σ with
 | .ok _ s1=>DW vs (Bd E env (ks.drop k) s1)=Bd E env ks s
 | .bad c o=>Bd E env ks s= .bad c o
theorem KInv.zero (E:Nd→Env→Es→Rs Vl) (env:Env) (ks:List Nd) (s:Es):KInv E env ks s 0 (.ok () s) []:=Lv _
theorem KInv.step {E:Nd→Env→Es→Rs Vl}{env:Env}{ks:List Nd}{s:Es}{k:Nat}{σ:Rs Unit}{vs:List Vl}(h:KInv E env ks s k σ vs) (hk:k < ks.length):KInv E env ks s (k+1) (σ.bind fun _ s1=>E ks[k] env s1).st (vs++ [(σ.bind fun _ s1=>E ks[k] env s1).val]):=by
 cases σ with
 |bad c o=>exact h
 |ok u s1=>
  have h:DW vs (Bd E env (ks.drop k) s1)=Bd E env ks s:=h
  show KInv E env ks s (k+1) (E ks[k] env s1).st (vs++ [(E ks[k] env s1).val])
  cases hE:E ks[k] env s1 with
  |ok v s2=>exact(Lw hk vs hE).symm.trans h
  |bad c o=>exact h.symm.trans (Lx hk vs hE)
theorem KInv.done {E:Nd→Env→Es→Rs Vl}{env:Env}{ks:List Nd}{s:Es}{σ:Rs Unit}{vs:List Vl}(h:KInv E env ks s ks.length σ vs):Bd E env ks s=σ.bind fun _ s1=> .ok vs s1:=by
 cases σ with
 |bad c o=>exact h
 |ok u s1=>exact h.symm.trans (Ly E env ks s1 vs)
theorem EvS.cell0 {B g:Nat}{lv:Value}{σ:Rs Unit}{w:World}{r:Option Nat}(h:EvS B g lv σ w r):w.cell? ⟨g,0,none⟩=some lv:=by
 obtain⟨f,c,o,h⟩:=h.ev;exact h.cells.1
def Ep (σ:Rs Unit):Rs Vl:=σ.bind fun _ s=> .bad 2 s.out
theorem Hq {B g:Nat}{lv:Value}{σ:Rs Unit}{w:World}{r:Option Nat}(h:EvS B g lv σ w r):Calls Pq 122 #[.pointer (some ⟨g,0,none⟩)] w fun e w'=>e= .returned (.agg sv0)∧Tw g r r w w'∧EvS B g lv (Ep σ).st w' r:=by
 cases σ with
 |ok u s=>
  refine(Gp (c:=0) h).mono ?_;rintro e w' ⟨he,h2,t⟩;rw[Ag rfl]at h2;exact⟨he,t,.inr rfl,_,h2⟩
 |bad c o=>
  obtain⟨hc,f,h⟩:=h;refine(Gp h).mono ?_;rintro e w' ⟨he,h2,t⟩;rw[Ab (by rcases hc with rfl |rfl <;> decide)]at h2;exact⟨he,t,hc,_,h2⟩
theorem ResS.stuck {B:Nat}{X:Nat→Prop}{g:Nat}{lv:Value}{σ:Rs Unit}{w:World}{r:Option Nat}(h:EvS B g lv (Ep σ).st w r):ResS B X g lv (Ep σ) sv0 w r:=by
 cases σ with
 |ok u s=>exact⟨FormS.zero,h⟩
 |bad c o=>exact⟨FormS.zero,h⟩
end Go.Proofs.YtifhcbeaiijkcaaGreat
