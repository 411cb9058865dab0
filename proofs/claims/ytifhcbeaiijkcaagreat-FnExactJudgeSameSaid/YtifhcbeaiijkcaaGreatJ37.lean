/- Parts of the proof of FnExactJudgeSame. -/
import Derived.Test.YtifhcbeaiijkcaaGreatJ34
import Derived.Test.YtifhcbeaiijkcaaGreatJ06
set_option linter.unusedVariables false
set_option linter.unusedSimpArgs false
set_option maxRecDepth 1000000
set_option maxHeartbeats 16000000
namespace Go.Proofs.YtifhcbeaiijkcaaGreat
open Go.RowKit
open _root_.Go.World renaming alloc→Wa,setCell→Ws
open _root_.Go.Proofs.Tryz renaming prog→Pq
mutual
theorem Mm:∀ (p:Nd) (v:Vl) (e e':Env),BL p v e=some e'→e'.length≤e.length+wgN p+1
 | .mk op n s t0 ks,v,e,e',h=>by
  unfold BL at h;split at h
  ·cases h;omega
  ·split at h
   ·cases h;simp only[List.length_cons];omega
   ·split at h
    ·split at h
     ·split at h
      ·cases h;omega
      ·cases h
     ·cases h
    ·split at h
     ·rename_i c vs;split at h
      ·have h2:=Mn ks vs e e' h;have:=Av (.mk op n s t0 ks);simp only[Nd.s,Nd.t,Nd.kids]at this;omega
      ·cases h
     ·cases h
theorem Mn:∀ (ks:List Nd) (vs:List Vl) (e e':Env),Bh ks vs e=some e'→e'.length≤e.length+wgN.wgNs ks
 | [],vs,e,e',h=>by unfold Bh at h;cases h;omega
 |k::ks,[],e,e',h=>by unfold Bh at h;cases h
 |k::ks,v::vs,e,e',h=>by
  unfold Bh at h;split at h
  ·rename_i e1 h1;have h2:=Mm k v e e1 h1;have h3:=Mn ks vs e1 e' h;unfold wgN.wgNs;omega
  ·cases h
end
theorem Rf {ks:List Nd}{k:Nat}(h:k < ks.length):wgN.wgNs (ks.drop k)=1+wgN ks[k]+wgN.wgNs (ks.drop (k+1)):=by
 rw[List.drop_eq_getElem_cons h,wgN.wgNs]
theorem Jw {w x:World}{cur cur2:Array Value}{e e2:TypeId}{n:Nat}(h:((w.alloc (.cells cur e)).alloc (.cells cur2 e2)).drewN n=x):Below w.heap.size w x:=by
 have b:Below w.heap.size w ((w.alloc (.cells cur e)).alloc (.cells cur2 e2)):=((Ab _ _).alloc (Ad _) _).alloc (by simp) _;exact b.trans ((Still.below ⟨n,h.symm⟩ _).mono b.size)
def MtS (B:Nat) (X:Nat→Prop) (g:Nat) (r:Option Nat) (w:World) (o:Option Env) (e:Ending) (w':World):Prop:=Below w.heap.size w w'∧ ∃a n cap,match o with |some env=>e= .returned (.tuple #[.slice a n cap,.bool true])∧RdS B X g r w' #[.slice a n cap] (.sc env) |none=>e= .returned (.tuple #[.slice a n cap,.bool false])
theorem Mo {w x:World}{cur cur2:Array Value}{e e2:TypeId}(h:(w.alloc (.cells cur e)).alloc (.cells cur2 e2)=x):Below w.heap.size w x∧Bx x w.heap.size cur∧Bx x (w.heap.size+1) cur2:=by
 obtain⟨b1,k1⟩:=Bx.alloc (w:=w) (cur:=cur) (e:=e) rfl;obtain⟨b2,k2⟩:=Bx.alloc h;simp only[Bo]at b2 k2;exact⟨b1.trans (b2.mono (by omega)),k1.below b2 (by omega),k2⟩
theorem EH {w:World}{cur cur2:Array Value}{e e2:TypeId}:Below w.heap.size w ((w.alloc (.cells cur e)).alloc (.cells cur2 e2)):=((Ab _ _).alloc (Ad _) _).alloc (by simp) _
theorem Jx (B:Nat) (X:Nat→Prop) (g:Nat) (r:Option Nat):∀ (N:Nat) (x:Nd) (kv ev:Value) (c:Array Value) (v:Vl) (env:Env) (w:World),wgN x < N→wgN x≤1048576→env.length+wgN x+1≤4294967296→BQ x=true→B≤w.heap.size→g < w.heap.size→(∀k,r=some k→k < w.heap.size)→(∀b,X b→b < w.heap.size)→RdNs B w kv x.kids→RdS B X g r w c (.th v)→RdS B X g r w #[ev] (.sc env)→
  Calls Pq 177 #[ndV x kv,.agg c,ev] w (MtS B X g r w (BL x v env))
 |0,x,kv,ev,c,v,env,w,hN,hl,hel,hp,hB,hg,hr,hX,hk,ht,he=>by omega
 |N+1,x,kv,ev,c,v,env,w,hN,hl,hel,hp,hB,hg,hr,hX,hk,ht,he=>by
  have hwg:=Av x;have hlen:=AY x.kids;have hks:x.kids.length≤1048576:=by omega
  have hops:x.op=17∨x.op=18∨x.op=19∨x.op=20:=by
   rw[FX,Cd]at hp;have:=hp.2;unfold Br at this;by_cases h17:x.op=17
   ·omega
   by_cases h18:x.op=18
   ·omega
   by_cases h19:x.op=19
   ·omega
   by_cases h20:x.op=20
   ·omega
   simp[h17,h18,h19,h20]at this
  have hpk:∀j (hj:j < x.kids.length),BQ x.kids[j]=true:=fun j hj=>by
   rw[FX,Cd,FW,BA]at hp;exact hp.1 _ (An hj)
  have HKL:=Aa (show env.length+wgN.wgNs x.kids≤4294967295 by omega);have IH:=Aa (fun(j:Nat) (hj:j < x.kids.length) (kv ev:Value) (c:Array Value) (v:Vl) (env:Env) (W:World) (hb:Below w.heap.size w W) (hel:env.length+wgN x.kids[j]+1≤4294967296) (h1:RdNs B W kv x.kids[j].kids) (h2:RdS B X g r W c (.th v)) (h3:RdS B X g r W #[ev] (.sc env))=>(by
   have:=AT (An hj);exact Jx B X g r N x.kids[j] kv ev c v env W (by omega) (by omega) hel (hpk j hj) (At hB hb.size) (Ah hg hb.size) (fun k e=>Ah (hr k e) hb.size) (fun b e=>Ah (hX b e) hb.size) h1 h2 h3:Calls Pq 177 #[ndV x.kids[j] kv,.agg c,ev] W (MtS B X g r W (BL x.kids[j] v env))))
  have BND:=Aa (fun(W:World) (hb:Below w.heap.size w W) (name:Str)=>(FF (X:=X) (r:=r) name (he.lat hb hB hr) ht.formS (by omega) (At hB hb.size) (Ah hg hb.size) (fun k e=>Ah (hr k e) hb.size) (fun b e=>Ah (hX b e) hb.size)));have KL:=Aa (fun(W:World) (hb:Below w.heap.size w W)=>hk.later (hb.mono hB) (Ad _));have TL:=Aa (fun(W:World) (hb:Below w.heap.size w W)=>ht.lat hb hB hr);have EL:=Aa (fun(W:World) (hb:Below w.heap.size w W)=>he.lat hb hB hr);have HE:=Aa (Mj x v env);obtain⟨ka,kc,rfl⟩:=hk.form;obtain⟨a1,c1,xx,a2,l2,c2,arg,self,a3,l3,c3,rfl,cs,hpv,hvs⟩:=ht.th_kids;have hvl:=hpv.len;obtain⟨ea,ec,rfl⟩:=he.sc_form;unfold maxLen at hvl;unfold ndV;clear hN hl hel hp hk ht he hwg hlen hpk;generalize x.op=xop at*;generalize x.n=xn at*;generalize x.s=xs at*;generalize x.t=xt at*;generalize BL x v env=fx at*;generalize x.kids=ks at*;unfold svC at BND TL ⊢;rcases hops with o |o |o |o
  ·subst o;go_enter Tryz.func177,Tryz.ntmps177;go_wp2;go_ret2;refine⟨EH,ea,env.length,ec,?_⟩;rw[show fx=some env by rw[HE.out];simp];exact⟨rfl,EL.out _ EH⟩
  ·subst o;go_enter Tryz.func177,Tryz.ntmps177;go_wp2_with fail;refine(BND.out _ EH xs).mono ?_;rintro e w2 ⟨a,cap,rfl,b2,h2⟩;have h3:=h2 v (TL.out _ EH);have b3:Below w.heap.size w w2:=EH.trans (b2.mono EH.size);clear h2 b2;have H3:=Aa h3;clear h3;go_wp2;go_ret2;refine⟨b3,a,env.length+1,cap,?_⟩;rw[show fx=some ((xs,v)::env)by rw[HE.out];simp];exact⟨rfl,H3.out⟩
  ·subst o;by_cases h1:kdV v=1
   ·by_cases h2:nmV v=xn
    ·have HF:=Aa (show fx=some env by rw[HE.out];simp[h1,h2]);rw[h1,h2];clear h1 h2;go_enter Tryz.func177,Tryz.ntmps177;go_wp2_with fail;go_quiet (fail);generalize hxx:World.drewN _ _=x0;have bb:=Jw hxx;clear hxx;go_wp2;go_ret2;refine⟨bb,ea,env.length,ec,?_⟩;rw[HF.out];exact⟨rfl,EL.out _ bb⟩
    ·have HF:=Aa (show fx=none by rw[HE.out];simp[h2]);rw[h1];have h2b:(nmV v==xn)=false:=by simpa using h2
     clear h1;generalize nmV v=nv at*;go_enter Tryz.func177,Tryz.ntmps177;go_wp2_with fail;go_quiet (fail);generalize hxx:World.drewN _ _=x0;have bb:=Jw hxx;clear hxx;go_wp2;go_ret2;refine⟨bb,ea,env.length,ec,?_⟩;rw[HF.out];rfl
   ·have HF:=Aa (show fx=none by rw[HE.out];simp[h1]);have h1b:(kdV v==1)=false:=by simpa using h1
    generalize kdV v=kd at*;go_enter Tryz.func177,Tryz.ntmps177;go_wp2_with fail;go_quiet (fail);generalize hxx:World.drewN _ _=x0;have bb:=Jw hxx;clear hxx;go_wp2;go_ret2;refine⟨bb,ea,env.length,ec,?_⟩;rw[HF.out];rfl
  ·subst o;have HE2:=Aa (show fx=if kdV v=2∧tgV v=xs∧(ksV v).length=ks.length then Bh ks (ksV v) env else none by rw[HE.out];simp);by_cases h1:kdV v=2
   ·by_cases h2:tgV v=xs
    ·by_cases h3:(ksV v).length=ks.length
     ·have HF:=Aa (show fx=Bh ks (ksV v) env by rw[HE2.out,Af ⟨h1,h2,h3⟩]);have H3:=Aa h3;have h3b:(((ksV v).length:Int) !=(ks.length:Int))=false:=by simp[h3]
      rw[h1,h2];clear h1 h2 h3;go_enter Tryz.func177,Tryz.ntmps177;go_wp2_with fail;generalize hxx:Wa (Wa _ _) _=x0;obtain⟨bb,k1,k2⟩:=Mo hxx;have e0:=EL.out _ bb;clear hxx
      go_loopw [8,2] (fun i p wr=>∃ (k:Nat) (pa:Option Addr) (pc:Nat) (e':Env),k≤ks.length∧i= .int .i64 k∧p= .slice pa e'.length pc∧Below w.heap.size w wr∧Bx wr w.heap.size #[.int .i64 20,.int .i64 xn,.string xs,.string xt,.slice ka ks.length kc]∧Bx wr (w.heap.size+1) #[.int .i64 2,.int .i64 (nmV v),.string xs,.slice a1 (ksV v).length c1,.int .i64 xx.op,.int .i64 xx.n,.string xx.s,.string xx.t,.slice a2 l2 c2,.string arg,.string self,.slice a3 l3 c3]∧RdS B X g r wr #[.slice pa e'.length pc] (.sc e')∧Hid (Bh (ks.drop k) ((ksV v).drop k) e'=fx)∧Hid (e'.length+wgN.wgNs (ks.drop k)≤4294967295)) (fun i _ _=>ks.length - (intOf i).toNat)
      case atStart=>exact⟨0,ea,ec,env,Ao _,rfl,rfl,bb,k1,k2,e0,Aa HF.out.symm,HKL⟩
      case round=>
       clear bb k1 k2 e0;obtain⟨k,pa,pc,e',hk,rfl,rfl,bb,k1,k2,he,hf,hl⟩:=hrel;have q1:=k1.2.1;have y1:=k1.1;by_cases hlt:k < ks.length
       ·obtain⟨b,off,cap,kv,hv,hB',hbs,hcap,⟨d0,d1,d2,d3,d4⟩,hkr⟩:=(KL.out wr bb).at_ hlt;cases hv
        have hkv:k < (ksV v).length:=by rw[H3.out];exact hlt
        have hki:(k:Int) < (ks.length:Int):=by omega
        have hk0:(0:Int)≤ (k:Int):=by omega
        have hkvi:(k:Int) < ((ksV v).length:Int):=by omega
        obtain⟨kva,kvc,rfl⟩:=hkr.form;have HK:=Aa hkr;have HS:=Aa (Mk hlt hkv e');have HLD:=Aa (Rf hlt);have HLk:=Aa (show e'.length+wgN ks[k]+1≤4294967296 by have:=HLD.out;have:=hl.out;omega);have HLn:=Aa (fun(ef:Env) (h:BL ks[k] (ksV v)[k] e'=some ef)=>(by have:=Mm _ _ _ _ h;have:=HLD.out;have:=hl.out;omega:ef.length+wgN.wgNs (ks.drop (k+1))≤4294967295));obtain⟨pb,po,pcap,hpe,hpk,hpcap,hpm,hpcell⟩:=hpv.at_ hkv;cases hpe
        have IHk:=Aa (IH.out k hlt);have HV:=Aa (fun(W:World) (hb:Below w.heap.size w W)=>(hvs k hkv).lat hb hB hr);obtain⟨kdu,nnu,ssu,a1u,l1u,c1u,xxu,a2u,l2u,c2u,argu,selfu,a3u,l3u,c3u,hcs⟩:=(hvs k hkv).formS;rw[hcs]at hpcell HV;have hpc:∀i,i < 12→w.cell? ⟨pb,po+k*12+i,none⟩= (svC kdu nnu ssu (.slice a1u l1u c1u) xxu (.slice a2u l2u c2u) argu selfu (.slice a3u l3u c3u))[i]?:=hpcell;clear hpcell hkr;generalize ks[k]=y at*;generalize (ksV v)[k]=u at*;have HE3:=Aa (fun(W:World) (hb:Below wr.heap.size wr W)=>he.lat hb (At hB bb.size) (fun k e=>Ah (hr k e) bb.size));clear he;unfold svC at hpc HV;go_wp2_with fail;clear q1 y1;cases hfo:BL y u e' with
        |some ef=>
         have HS0:=Aa (fun(W:World) (hb:Below wr.heap.size wr W)=>(by
          have j1:=(k1.below hb k1.1).2.1;have j2:=(k2.below hb k2.1).2.1;have bw:=bb.trans (hb.mono bb.size);exact⟨j1 4,j2 3,(hb.cell (p:=⟨b,off+k*5,none⟩) hbs).trans d0,(hb.cell (p:=⟨b,off+k*5+1,none⟩) hbs).trans d1,(hb.cell (p:=⟨b,off+k*5+2,none⟩) hbs).trans d2,(hb.cell (p:=⟨b,off+k*5+3,none⟩) hbs).trans d3,(hb.cell (p:=⟨b,off+k*5+4,none⟩) hbs).trans d4,(bw.cell (p:=⟨pb,po+k*12,none⟩) hpk.2.2.1).trans (hpc 0 (by omega)),(bw.cell (p:=⟨pb,po+k*12+1,none⟩) hpk.2.2.1).trans (hpc 1 (by omega)),(bw.cell (p:=⟨pb,po+k*12+2,none⟩) hpk.2.2.1).trans (hpc 2 (by omega)),(bw.cell (p:=⟨pb,po+k*12+3,none⟩) hpk.2.2.1).trans (hpc 3 (by omega)),(bw.cell (p:=⟨pb,po+k*12+4,none⟩) hpk.2.2.1).trans (hpc 4 (by omega)),(bw.cell (p:=⟨pb,po+k*12+5,none⟩) hpk.2.2.1).trans (hpc 5 (by omega)),(bw.cell (p:=⟨pb,po+k*12+6,none⟩) hpk.2.2.1).trans (hpc 6 (by omega)),(bw.cell (p:=⟨pb,po+k*12+7,none⟩) hpk.2.2.1).trans (hpc 7 (by omega)),(bw.cell (p:=⟨pb,po+k*12+8,none⟩) hpk.2.2.1).trans (hpc 8 (by omega)),(bw.cell (p:=⟨pb,po+k*12+9,none⟩) hpk.2.2.1).trans (hpc 9 (by omega)),(bw.cell (p:=⟨pb,po+k*12+10,none⟩) hpk.2.2.1).trans (hpc 10 (by omega)),(bw.cell (p:=⟨pb,po+k*12+11,none⟩) hpk.2.2.1).trans (hpc 11 (by omega))⟩:W.cell? ⟨w.heap.size,4,none⟩=some (.slice (some ⟨b,off,none⟩) ks.length kc)∧W.cell? ⟨w.heap.size+1,3,none⟩=some (.slice (some ⟨pb,po,none⟩) (ksV v).length c1)∧W.cell? ⟨b,off+k*5,none⟩=some (.int .i64 y.op)∧W.cell? ⟨b,off+k*5+1,none⟩=some (.int .i64 y.n)∧W.cell? ⟨b,off+k*5+2,none⟩=some (.string y.s)∧W.cell? ⟨b,off+k*5+3,none⟩=some (.string y.t)∧W.cell? ⟨b,off+k*5+4,none⟩=some (.slice kva y.kids.length kvc)∧W.cell? ⟨pb,po+k*12,none⟩=some (.int .i64 kdu)∧W.cell? ⟨pb,po+k*12+1,none⟩=some (.int .i64 nnu)∧W.cell? ⟨pb,po+k*12+2,none⟩=some (.string ssu)∧W.cell? ⟨pb,po+k*12+3,none⟩=some (.slice a1u l1u c1u)∧W.cell? ⟨pb,po+k*12+4,none⟩=some (.int .i64 xxu.op)∧W.cell? ⟨pb,po+k*12+5,none⟩=some (.int .i64 xxu.n)∧W.cell? ⟨pb,po+k*12+6,none⟩=some (.string xxu.s)∧W.cell? ⟨pb,po+k*12+7,none⟩=some (.string xxu.t)∧W.cell? ⟨pb,po+k*12+8,none⟩=some (.slice a2u l2u c2u)∧W.cell? ⟨pb,po+k*12+9,none⟩=some (.string argu)∧W.cell? ⟨pb,po+k*12+10,none⟩=some (.string selfu)∧W.cell? ⟨pb,po+k*12+11,none⟩=some (.slice a3u l3u c3u)))
         have K1:=Aa k1;have K2:=Aa k2;have BB:=Aa bb;clear k1 k2 hpc d0 d1 d2 d3 d4 bb hpk;refine wp_region_held_drew (S:=(fun W=>W.cell? ⟨w.heap.size,4,none⟩=some (.slice (some ⟨b,off,none⟩) ks.length kc)∧W.cell? ⟨w.heap.size+1,3,none⟩=some (.slice (some ⟨pb,po,none⟩) (ksV v).length c1)∧W.cell? ⟨b,off+k*5,none⟩=some (.int .i64 y.op)∧W.cell? ⟨b,off+k*5+1,none⟩=some (.int .i64 y.n)∧W.cell? ⟨b,off+k*5+2,none⟩=some (.string y.s)∧W.cell? ⟨b,off+k*5+3,none⟩=some (.string y.t)∧W.cell? ⟨b,off+k*5+4,none⟩=some (.slice kva y.kids.length kvc)∧W.cell? ⟨pb,po+k*12,none⟩=some (.int .i64 kdu)∧W.cell? ⟨pb,po+k*12+1,none⟩=some (.int .i64 nnu)∧W.cell? ⟨pb,po+k*12+2,none⟩=some (.string ssu)∧W.cell? ⟨pb,po+k*12+3,none⟩=some (.slice a1u l1u c1u)∧W.cell? ⟨pb,po+k*12+4,none⟩=some (.int .i64 xxu.op)∧W.cell? ⟨pb,po+k*12+5,none⟩=some (.int .i64 xxu.n)∧W.cell? ⟨pb,po+k*12+6,none⟩=some (.string xxu.s)∧W.cell? ⟨pb,po+k*12+7,none⟩=some (.string xxu.t)∧W.cell? ⟨pb,po+k*12+8,none⟩=some (.slice a2u l2u c2u)∧W.cell? ⟨pb,po+k*12+9,none⟩=some (.string argu)∧W.cell? ⟨pb,po+k*12+10,none⟩=some (.string selfu)∧W.cell? ⟨pb,po+k*12+11,none⟩=some (.slice a3u l3u c3u))) (by kernel_rfl) (by first | (dsimp only;exact HS0.out _ (Below.refl _ _).drew) | (exact HS0.out _ (Below.refl _ _).drew)) (fun hHeld=> ?_);generalize hxd:World.drew _=x1 at hHeld ⊢;have hd1:Below wr.heap.size wr x1:=by rw[←hxd];exact(Ab _ _).drew
         clear hxd;have bw1:=BB.out.trans (hd1.mono BB.out.size);refine tkH (i:=0) ?_;refine tkH (i:=1) ?_;refine tkH (i:=2) ?_;refine tkH (i:=3) ?_;refine tkH (i:=4) ?_;refine tkH (i:=5) ?_;refine tkH (i:=6) ?_;refine tkH (i:=7) ?_;refine tkH (i:=8) ?_;refine tkH (i:=9) ?_;refine tkH (i:=10) ?_;refine rdH (i:=11) (fun K hK=> ?_);go_simp;refine(IHk.out _ _ _ _ _ x1 bw1 HLk.out (HK.out.later hd1 (At hB BB.out.size)) (HV.out x1 bw1) (HE3.out x1 hd1)).mono ?_;rintro e w6 ⟨b6,a6,n6,c6,h6⟩;rw[hfo]at h6;obtain⟨rfl,h7⟩:=h6;have H7:=Aa h7;clear h7;replace b6:=hd1.trans (b6.mono hd1.size);refine bkH hK (by first | (dsimp only;exact HS0.out _ b6) | (exact HS0.out _ b6)) (fun hHeld=> ?_);clear hK K;refine tkH (i:=12) ?_;refine tkH (i:=13) ?_;refine tkH (i:=14) ?_;refine tkH (i:=15) ?_;refine tkH (i:=16) ?_;refine A2 (by kernel_rfl) ?_ _;have bt:=BB.out.trans (b6.mono BB.out.size);have k1:=K1.out.below b6 K1.out.1;have k2:=K2.out.below b6 K2.out.1;clear b6 hd1 bw1;have hf2:=Aa (HS.out.symm.trans hf.out);rw[hfo]at hf2;have hf3:=Aa (show Bh (ks.drop (k+1)) ((ksV v).drop (k+1)) ef=fx from hf2.out);have hl3:=Aa (show ef.length+wgN.wgNs (ks.drop (k+1))≤4294967295 by have:=HLn.out ef hfo;omega);obtain⟨a7,c7,hs7⟩:=H7.out.sc_form;cases hs7
         clear hf2;go_wp2;go_roundw
         case rel=>exact⟨k+1,a6,c6,ef,hlt,by go_num,rfl,bt,k1,k2,H7.out,hf3,hl3⟩
         case measure=>simp[intOf];omega
        |none=>
         have HS0:=Aa (fun(W:World) (hb:Below wr.heap.size wr W)=>(by
          have j1:=(k1.below hb k1.1).2.1;have j2:=(k2.below hb k2.1).2.1;have bw:=bb.trans (hb.mono bb.size);exact⟨j1 4,j2 3,(hb.cell (p:=⟨b,off+k*5,none⟩) hbs).trans d0,(hb.cell (p:=⟨b,off+k*5+1,none⟩) hbs).trans d1,(hb.cell (p:=⟨b,off+k*5+2,none⟩) hbs).trans d2,(hb.cell (p:=⟨b,off+k*5+3,none⟩) hbs).trans d3,(hb.cell (p:=⟨b,off+k*5+4,none⟩) hbs).trans d4,(bw.cell (p:=⟨pb,po+k*12,none⟩) hpk.2.2.1).trans (hpc 0 (by omega)),(bw.cell (p:=⟨pb,po+k*12+1,none⟩) hpk.2.2.1).trans (hpc 1 (by omega)),(bw.cell (p:=⟨pb,po+k*12+2,none⟩) hpk.2.2.1).trans (hpc 2 (by omega)),(bw.cell (p:=⟨pb,po+k*12+3,none⟩) hpk.2.2.1).trans (hpc 3 (by omega)),(bw.cell (p:=⟨pb,po+k*12+4,none⟩) hpk.2.2.1).trans (hpc 4 (by omega)),(bw.cell (p:=⟨pb,po+k*12+5,none⟩) hpk.2.2.1).trans (hpc 5 (by omega)),(bw.cell (p:=⟨pb,po+k*12+6,none⟩) hpk.2.2.1).trans (hpc 6 (by omega)),(bw.cell (p:=⟨pb,po+k*12+7,none⟩) hpk.2.2.1).trans (hpc 7 (by omega)),(bw.cell (p:=⟨pb,po+k*12+8,none⟩) hpk.2.2.1).trans (hpc 8 (by omega)),(bw.cell (p:=⟨pb,po+k*12+9,none⟩) hpk.2.2.1).trans (hpc 9 (by omega)),(bw.cell (p:=⟨pb,po+k*12+10,none⟩) hpk.2.2.1).trans (hpc 10 (by omega)),(bw.cell (p:=⟨pb,po+k*12+11,none⟩) hpk.2.2.1).trans (hpc 11 (by omega))⟩:W.cell? ⟨w.heap.size,4,none⟩=some (.slice (some ⟨b,off,none⟩) ks.length kc)∧W.cell? ⟨w.heap.size+1,3,none⟩=some (.slice (some ⟨pb,po,none⟩) (ksV v).length c1)∧W.cell? ⟨b,off+k*5,none⟩=some (.int .i64 y.op)∧W.cell? ⟨b,off+k*5+1,none⟩=some (.int .i64 y.n)∧W.cell? ⟨b,off+k*5+2,none⟩=some (.string y.s)∧W.cell? ⟨b,off+k*5+3,none⟩=some (.string y.t)∧W.cell? ⟨b,off+k*5+4,none⟩=some (.slice kva y.kids.length kvc)∧W.cell? ⟨pb,po+k*12,none⟩=some (.int .i64 kdu)∧W.cell? ⟨pb,po+k*12+1,none⟩=some (.int .i64 nnu)∧W.cell? ⟨pb,po+k*12+2,none⟩=some (.string ssu)∧W.cell? ⟨pb,po+k*12+3,none⟩=some (.slice a1u l1u c1u)∧W.cell? ⟨pb,po+k*12+4,none⟩=some (.int .i64 xxu.op)∧W.cell? ⟨pb,po+k*12+5,none⟩=some (.int .i64 xxu.n)∧W.cell? ⟨pb,po+k*12+6,none⟩=some (.string xxu.s)∧W.cell? ⟨pb,po+k*12+7,none⟩=some (.string xxu.t)∧W.cell? ⟨pb,po+k*12+8,none⟩=some (.slice a2u l2u c2u)∧W.cell? ⟨pb,po+k*12+9,none⟩=some (.string argu)∧W.cell? ⟨pb,po+k*12+10,none⟩=some (.string selfu)∧W.cell? ⟨pb,po+k*12+11,none⟩=some (.slice a3u l3u c3u)))
         have K1:=Aa k1;have K2:=Aa k2;have BB:=Aa bb;clear k1 k2 hpc d0 d1 d2 d3 d4 bb hpk;refine wp_region_held_drew (S:=(fun W=>W.cell? ⟨w.heap.size,4,none⟩=some (.slice (some ⟨b,off,none⟩) ks.length kc)∧W.cell? ⟨w.heap.size+1,3,none⟩=some (.slice (some ⟨pb,po,none⟩) (ksV v).length c1)∧W.cell? ⟨b,off+k*5,none⟩=some (.int .i64 y.op)∧W.cell? ⟨b,off+k*5+1,none⟩=some (.int .i64 y.n)∧W.cell? ⟨b,off+k*5+2,none⟩=some (.string y.s)∧W.cell? ⟨b,off+k*5+3,none⟩=some (.string y.t)∧W.cell? ⟨b,off+k*5+4,none⟩=some (.slice kva y.kids.length kvc)∧W.cell? ⟨pb,po+k*12,none⟩=some (.int .i64 kdu)∧W.cell? ⟨pb,po+k*12+1,none⟩=some (.int .i64 nnu)∧W.cell? ⟨pb,po+k*12+2,none⟩=some (.string ssu)∧W.cell? ⟨pb,po+k*12+3,none⟩=some (.slice a1u l1u c1u)∧W.cell? ⟨pb,po+k*12+4,none⟩=some (.int .i64 xxu.op)∧W.cell? ⟨pb,po+k*12+5,none⟩=some (.int .i64 xxu.n)∧W.cell? ⟨pb,po+k*12+6,none⟩=some (.string xxu.s)∧W.cell? ⟨pb,po+k*12+7,none⟩=some (.string xxu.t)∧W.cell? ⟨pb,po+k*12+8,none⟩=some (.slice a2u l2u c2u)∧W.cell? ⟨pb,po+k*12+9,none⟩=some (.string argu)∧W.cell? ⟨pb,po+k*12+10,none⟩=some (.string selfu)∧W.cell? ⟨pb,po+k*12+11,none⟩=some (.slice a3u l3u c3u))) (by kernel_rfl) (by first | (dsimp only;exact HS0.out _ (Below.refl _ _).drew) | (exact HS0.out _ (Below.refl _ _).drew)) (fun hHeld=> ?_);generalize hxd:World.drew _=x1 at hHeld ⊢;have hd1:Below wr.heap.size wr x1:=by rw[←hxd];exact(Ab _ _).drew
         clear hxd;have bw1:=BB.out.trans (hd1.mono BB.out.size);refine tkH (i:=0) ?_;refine tkH (i:=1) ?_;refine tkH (i:=2) ?_;refine tkH (i:=3) ?_;refine tkH (i:=4) ?_;refine tkH (i:=5) ?_;refine tkH (i:=6) ?_;refine tkH (i:=7) ?_;refine tkH (i:=8) ?_;refine tkH (i:=9) ?_;refine tkH (i:=10) ?_;refine rdH (i:=11) (fun K hK=> ?_);go_simp;refine(IHk.out _ _ _ _ _ x1 bw1 HLk.out (HK.out.later hd1 (At hB BB.out.size)) (HV.out x1 bw1) (HE3.out x1 hd1)).mono ?_;rintro e w6 ⟨b6,a6,n6,c6,h6⟩;rw[hfo]at h6;obtain rfl:=h6;replace b6:=hd1.trans (b6.mono hd1.size);refine bkH hK (by first | (dsimp only;exact HS0.out _ b6) | (exact HS0.out _ b6)) (fun hHeld=> ?_);clear hK K;refine tkH (i:=12) ?_;refine tkH (i:=13) ?_;refine tkH (i:=14) ?_;refine tkH (i:=15) ?_;refine tkH (i:=16) ?_;refine A2 (by kernel_rfl) ?_ _;have bt:=BB.out.trans (b6.mono BB.out.size);have k1:=K1.out.below b6 K1.out.1;have k2:=K2.out.below b6 K2.out.1;clear b6 hd1 bw1;have hf2:=Aa (HS.out.symm.trans hf.out);rw[hfo]at hf2;have hf3:=Aa (show fx=none from hf2.out.symm);clear hf2;go_wp2;go_ret2;refine⟨bt,pa,e'.length,pc,?_⟩;rw[hf3.out];rfl
       ·obtain rfl:k=ks.length:=by omega
        have hf2:=Aa (hf.out.symm.trans (by rw[EO,Bh]:Bh (ks.drop ks.length) ((ksV v).drop ks.length) e'=some e'));have H4:=Aa (And.intro bb he);clear bb he;go_wp2;go_ret2;refine⟨H4.out.1,pa,e'.length,pc,?_⟩;rw[hf2.out];exact⟨rfl,H4.out.2⟩
     ·have HF:=Aa (show fx=none by rw[HE2.out,Ae (fun h=>h3 h.2.2)]);rw[h1,h2];have h3b:(((ksV v).length:Int) !=(ks.length:Int))=true:=by rw[G0];omega
      clear h1 h2 h3;go_enter Tryz.func177,Tryz.ntmps177;go_wp2;go_ret2;refine⟨EH,ea,env.length,ec,?_⟩;rw[HF.out];rfl
    ·have HF:=Aa (show fx=none by rw[HE2.out,Ae (fun h=>h2 h.2.1)]);rw[h1];have h2b:=Em h2;clear h1;generalize tgV v=sv at*;go_enter Tryz.func177,Tryz.ntmps177;go_wp2;go_ret2;refine⟨EH,ea,env.length,ec,?_⟩;rw[HF.out];rfl
   ·have HF:=Aa (show fx=none by rw[HE2.out,Ae (fun h=>h1 h.1)]);have h1b:(kdV v !=2)=true:=by simpa using h1
    generalize kdV v=kd at*;go_enter Tryz.func177,Tryz.ntmps177;go_wp2;go_ret2;refine⟨EH,ea,env.length,ec,?_⟩;rw[HF.out];rfl
end Go.Proofs.YtifhcbeaiijkcaaGreat
