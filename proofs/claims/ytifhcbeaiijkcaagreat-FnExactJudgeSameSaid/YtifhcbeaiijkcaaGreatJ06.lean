/- Parts of the proof of FnExactJudgeSame. -/
import Derived.Test.YtifhcbeaiijkcaaGreatJ05
set_option linter.unusedVariables false
set_option linter.unusedSimpArgs false
set_option maxRecDepth 1000000
set_option maxHeartbeats 16000000
namespace Go.Proofs.YtifhcbeaiijkcaaGreat
open Go.RowKit
open _root_.Go.World renaming alloc→Wa,setCell→Ws
open _root_.Go.Proofs.Tryz renaming prog→Pq
theorem Rc (op n:Int) (s t:Str) (ks:List Nd) (v:Vl) (env:Env):BL (.mk op n s t ks) v env=if op=17 then some env else if op=18 then some ((s,v)::env)else if op=19 then(if kdV v=1∧nmV v=n then some env else none)else if kdV v=2∧tgV v=s∧(ksV v).length=ks.length then Bh ks (ksV v) env else none:=by
 unfold BL;by_cases h17:op=17
 ·rw[Af h17,Af h17]
 rw[Ae h17,Ae h17];by_cases h18:op=18
 ·rw[Af h18,Af h18]
 rw[Ae h18,Ae h18];by_cases h19:op=19
 ·rw[Af h19,Af h19];cases v <;> simp[kdV,nmV]
 rw[Ae h19,Ae h19];cases v <;> simp[kdV,tgV,ksV]
theorem Mj (x:Nd) (v:Vl) (env:Env):BL x v env=if x.op=17 then some env else if x.op=18 then some ((x.s,v)::env)else if x.op=19 then(if kdV v=1∧nmV v=x.n then some env else none)else if kdV v=2∧tgV v=x.s∧(ksV v).length=x.kids.length then Bh x.kids (ksV v) env else none:=by
 cases x
 exact Rc _ _ _ _ _ _ _
def Re (o:Option Env) (ks:List Nd) (vs:List Vl):Option Env:=match o with |some e=>Bh ks vs e |none=>none
theorem Mk {ks:List Nd}{vs:List Vl}{k:Nat}(h1:k < ks.length) (h2:k < vs.length) (env:Env):Bh (ks.drop k) (vs.drop k) env=Re (BL ks[k] vs[k] env) (ks.drop (k+1)) (vs.drop (k+1)):=by
 rw[List.drop_eq_getElem_cons h1,List.drop_eq_getElem_cons h2,Bh];rfl
theorem Bx.allocD {w x:World}{cur:Array Value}{e:TypeId}{n:Nat}(h:(w.alloc (.cells cur e)).drewN n=x):Below w.heap.size w x∧Bx x w.heap.size cur:=by
 subst h;obtain⟨b1,k1⟩:=Bx.alloc (w:=w) (cur:=cur) (e:=e) rfl;have b2:Below (w.alloc (.cells cur e)).heap.size (w.alloc (.cells cur e)) ((w.alloc (.cells cur e)).drewN n):=Still.below ⟨n,rfl⟩ _;exact⟨b1.trans (b2.mono b1.size),k1.below b2 k1.1⟩
theorem PvAt.at_ {X:Nat→Prop}{g:Nat}{r:Option Nat}{w:World}{kv:Value}{n:Nat}{pv:Nat→Value}(h:PvAt X g r w kv n pv) {j:Nat}(hj:j < n):∃b off cap,kv= .slice (some ⟨b,off,none⟩) n cap∧Kp X g r w b∧n≤cap∧w.cell? ⟨b,off+j,none⟩=some (pv j):=by
 rcases h with ⟨h0,_⟩ |⟨b,off,cap,h1,h2,h3,h4⟩
 ·omega
 ·exact⟨b,off,cap,h1,h2,h3.2,h4 j hj⟩
theorem PvAt.form {X:Nat→Prop}{g:Nat}{r:Option Nat}{w:World}{kv:Value}{n:Nat}{pv:Nat→Value}(h:PvAt X g r w kv n pv):∃a cap,kv= .slice a n cap:=by
 rcases h with ⟨rfl,a,cap,rfl⟩ |⟨b,off,cap,rfl,_⟩
 ·exact⟨_,_,rfl⟩
 ·exact⟨_,_,rfl⟩
theorem PvAt.len {X:Nat→Prop}{g:Nat}{r:Option Nat}{w:World}{kv:Value}{n:Nat}{pv:Nat→Value}(h:PvAt X g r w kv n pv):n≤maxLen:=by
 rcases h with ⟨rfl,a,cap,rfl⟩ |⟨b,off,cap,_,_,h,_⟩
 ·simp
 ·exact h.1
theorem RdX.sc_form {B g:Nat}{X:Nat→Prop}{r:Option Nat}{w:World}{ev:Value}{e:Env}(h:RdX B X g r w ev (.sc e)):∃a,ev= .pointer a:=by
 cases h with
 |nil=>exact⟨_,rfl⟩
 |cons=>exact⟨_,rfl⟩
theorem RdX.th_ptr {B g:Nat}{X:Nat→Prop}{r:Option Nat}{w:World}{tv:Value}{v:Vl}(h:RdX B X g r w tv (.th v)):∃b,tv= .pointer (some ⟨b,0,none⟩):=by
 obtain⟨b,_,_,_,_,_,rfl,_⟩:=h.th_form;exact⟨b,rfl⟩
def MtR (B:Nat) (X:Nat→Prop) (g:Nat) (r:Option Nat) (w:World) (o:Option Env) (e:Ending) (w':World):Prop:=Below w.heap.size w w'∧ ∃ev,match o with |some env=>e= .returned (.tuple #[ev,.bool true])∧RdX B X g r w' ev (.sc env) |none=>e= .returned (.tuple #[ev,.bool false])
theorem RdX.lat {B g:Nat}{X:Nat→Prop}{r:Option Nat}{w w':World}{v:Value}{x:Xl}(h:RdX B X g r w v x) (b:Below w.heap.size w w') (hB:B≤w.heap.size) (hr:∀k,r=some k→k < w.heap.size):RdX B X g r w' v x:=h.later (Tw.of_below b hr) (b.mono hB)
theorem PvAt.below {X:Nat→Prop}{g:Nat}{r:Option Nat}{w w':World}{kv:Value}{n:Nat}{pv:Nat→Value}(h:PvAt X g r w kv n pv) (b:Below w.heap.size w w') (hr:∀k,r=some k→k < w.heap.size):PvAt X g r w' kv n pv:=h.later (Tw.of_below b hr)
theorem Ml (B:Nat) (X:Nat→Prop) (g:Nat) (r:Option Nat):∀ (N:Nat) (x:Nd) (kv tv ev:Value) (v:Vl) (env:Env) (w:World),wgN x < N→wgN x≤1048576→BQ x=true→B≤w.heap.size→g < w.heap.size→(∀k,r=some k→k < w.heap.size)→(∀b,X b→b < w.heap.size)→RdNs B w kv x.kids→RdX B X g r w tv (.th v)→RdX B X g r w ev (.sc env)→
  Calls Pq 167 #[ndV x kv,tv,ev] w (MtR B X g r w (BL x v env))
 |0,x,kv,tv,ev,v,env,w,hN,hl,hp,hB,hg,hr,hX,hk,ht,he=>by omega
 |N+1,x,kv,tv,ev,v,env,w,hN,hl,hp,hB,hg,hr,hX,hk,ht,he=>by
  have hwg:=Av x;have hlen:=AY x.kids;have hks:x.kids.length≤1048576:=by omega
  have hops:x.op=17∨x.op=18∨x.op=19∨x.op=20:=by
   rw[FX,Cd]at hp;have:=hp.2;unfold Br at this;by_cases h17:x.op=17
   ·omega
   by_cases h18:x.op=18
   ·omega
   by_cases h19:x.op=19
   ·omega
   by_cases h20:x.op=20
   ·omega
   simp[h17,h18,h19,h20]at this
  have hpk:∀j (hj:j < x.kids.length),BQ x.kids[j]=true:=fun j hj=>by
   rw[FX,Cd,FW,BA]at hp;exact hp.1 _ (An hj)
  have IH:=Aa (fun(j:Nat) (hj:j < x.kids.length) (kv tv ev:Value) (v:Vl) (env:Env) (W:World) (hb:Below w.heap.size w W) (h1:RdNs B W kv x.kids[j].kids) (h2:RdX B X g r W tv (.th v)) (h3:RdX B X g r W ev (.sc env))=>(by
   have:=AT (An hj);exact Ml B X g r N x.kids[j] kv tv ev v env W (by omega) (by omega) (hpk j hj) (At hB hb.size) (Ah hg hb.size) (fun k e=>Ah (hr k e) hb.size) (fun b e=>Ah (hX b e) hb.size) h1 h2 h3:Calls Pq 167 #[ndV x.kids[j] kv,tv,ev] W (MtR B X g r W (BL x.kids[j] v env))))
  have KL:=Aa (fun(W:World) (hb:Below w.heap.size w W)=>hk.later (hb.mono hB) (Ad _));have TL:=Aa (fun(W:World) (hb:Below w.heap.size w W)=>ht.lat hb hB hr);have EL:=Aa (fun(W:World) (hb:Below w.heap.size w W)=>he.lat hb hB hr);have HE:=Aa (Mj x v env);obtain⟨ka,kc,rfl⟩:=hk.form;obtain⟨tb,tkv,tnm,tx,tbv,tev,rfl,tk,tc,pv,hpv,hvs⟩:=ht.th_form;obtain⟨ta,tcp,rfl⟩:=hpv.form;have hvl:=hpv.len;obtain⟨ea,rfl⟩:=he.sc_form;unfold maxLen at hvl;unfold ndV;clear hN hl hp hk ht he hwg hlen hpk;generalize x.op=xop at*;generalize x.n=xn at*;generalize x.s=xs at*;generalize x.t=xt at*;generalize BL x v env=fx at*;generalize x.kids=ks at*;unfold thC at tc;have tc2:∀ (cur:Array Value) (e:TypeId),∀j,(w.alloc (.cells cur e)).cell? ⟨tb,j,none⟩= (thC (kdV v) (nmV v) (tgV v) (.slice ta (ksV v).length tcp) tnm tx tbv tev)[j]?:=fun cur e j=>(((Ab w.heap.size w).alloc (Ad _) (.cells cur e)).cell (p:=⟨tb,j,none⟩) tk.2.2.1).trans (tc j);rcases hops with o |o |o |o
  ·subst o;go_enter Tryz.func167,Tryz.ntmps167;go_wp2;go_ret2;have bb:Below w.heap.size w (w.alloc (.cells #[.int .i64 17,.int .i64 xn,.string xs,.string xt,.slice ka ks.length kc] 41)):=(Ab _ _).alloc (Ad _) _;refine⟨bb,.pointer ea,?_⟩;rw[show fx=some env by rw[HE.out];simp];exact⟨rfl,EL.out _ bb⟩
  ·subst o;go_enter Tryz.func167,Tryz.ntmps167;go_wp2;go_ret2;have b1:Below w.heap.size w (w.alloc (.cells #[.int .i64 18,.int .i64 xn,.string xs,.string xt,.slice ka ks.length kc] 41)):=(Ab _ _).alloc (Ad _) _;generalize hy0:w.alloc _=y0 at*;generalize hy1:y0.alloc _=y1 at*;have s0:y0.heap.size=w.heap.size+1:=by rw[←hy0,Bo]
   obtain⟨b2,k2⟩:=Bx.alloc hy1;rw[s0]at k2;have bb:=b1.trans (b2.mono b1.size);refine⟨bb,.pointer (some ⟨w.heap.size+1,0,none⟩),?_⟩;rw[show fx=some ((xs,v)::env)by rw[HE.out];simp];refine⟨rfl,.cons (w.heap.size+1) xs (.pointer (some ⟨tb,0,none⟩)) (.pointer ea) v env ⟨?_,fun e=> ?_,k2.1,fun e=> ?_⟩ k2.2.1 (TL.out _ bb) (EL.out _ bb)⟩
   ·omega
   ·have:=hr _ e;omega
   ·have:=hX _ e;omega
  ·subst o;by_cases h1:kdV v=1
   ·by_cases h2:nmV v=xn
    ·have HF:=Aa (show fx=some env by rw[HE.out];simp[h1,h2]);rw[h1,h2]at tc2;have tc3:=tc2 #[.int .i64 19,.int .i64 xn,.string xs,.string xt,.slice ka ks.length kc] 41;unfold thC at tc3;clear tc2 tc h1 h2;go_enter Tryz.func167,Tryz.ntmps167;go_wp2_with fail;go_quiet (fail);go_wp2;go_ret2;have bb:Below w.heap.size w ((w.alloc (.cells #[.int .i64 19,.int .i64 xn,.string xs,.string xt,.slice ka ks.length kc] 41)).drewN nq):=(Bx.allocD (w:=w) rfl).1;refine⟨bb,.pointer ea,?_⟩;rw[HF.out];exact⟨rfl,EL.out _ bb⟩
    ·have HF:=Aa (show fx=none by rw[HE.out];simp[h2]);rw[h1]at tc2;have tc3:=tc2 #[.int .i64 19,.int .i64 xn,.string xs,.string xt,.slice ka ks.length kc] 41;unfold thC at tc3;have h2b:(nmV v==xn)=false:=by simpa using h2
     clear tc2 tc h1;generalize nmV v=nv at*;go_enter Tryz.func167,Tryz.ntmps167;go_wp2_with fail;go_quiet (fail);go_wp2;go_ret2;have bb:Below w.heap.size w ((w.alloc (.cells #[.int .i64 19,.int .i64 xn,.string xs,.string xt,.slice ka ks.length kc] 41)).drewN nq):=(Bx.allocD (w:=w) rfl).1;refine⟨bb,.pointer ea,?_⟩;rw[HF.out];rfl
   ·have HF:=Aa (show fx=none by rw[HE.out];simp[h1]);have tc3:=tc2 #[.int .i64 19,.int .i64 xn,.string xs,.string xt,.slice ka ks.length kc] 41;unfold thC at tc3;have h1b:(kdV v==1)=false:=by simpa using h1
    clear tc2 tc;generalize kdV v=kd at*;go_enter Tryz.func167,Tryz.ntmps167;go_wp2_with fail;go_quiet (fail);go_wp2;go_ret2;have bb:Below w.heap.size w ((w.alloc (.cells #[.int .i64 19,.int .i64 xn,.string xs,.string xt,.slice ka ks.length kc] 41)).drewN nq):=(Bx.allocD (w:=w) rfl).1;refine⟨bb,.pointer ea,?_⟩;rw[HF.out];rfl
  ·subst o;have HE2:=Aa (show fx=if kdV v=2∧tgV v=xs∧(ksV v).length=ks.length then Bh ks (ksV v) env else none by rw[HE.out];simp);by_cases h1:kdV v=2
   ·by_cases h2:tgV v=xs
    ·by_cases h3:(ksV v).length=ks.length
     ·have HF:=Aa (show fx=Bh ks (ksV v) env by rw[HE2.out,Af ⟨h1,h2,h3⟩]);rw[h1,h2]at tc2;have tc3:=tc2 #[.int .i64 20,.int .i64 xn,.string xs,.string xt,.slice ka ks.length kc] 41;unfold thC at tc3;have h3b:(((ksV v).length:Int) !=(ks.length:Int))=false:=by simp[h3]
      have H3:=Aa h3;have T3:=Aa (show w.cell? ⟨tb,3,none⟩=some (.slice ta (ksV v).length tcp)from tc 3);clear tc2 tc h1 h2 h3;go_enter Tryz.func167,Tryz.ntmps167;go_wp2_with fail;go_quiet (fail);generalize hxx:World.drewN _ _=x0;obtain⟨bb,k1⟩:=Bx.allocD hxx;have q1:=k1.2.1;clear hxx tc3;go_wp2_with fail;clear q1;have e0:=EL.out _ bb
      go_loopw [2,71] (fun p i wr=>∃ (k:Nat) (a:Option Addr) (e':Env),k≤ks.length∧i= .int .i64 k∧p= .pointer a∧Below w.heap.size w wr∧Bx wr w.heap.size #[.int .i64 20,.int .i64 xn,.string xs,.string xt,.slice ka ks.length kc]∧RdX B X g r wr (.pointer a) (.sc e')∧Hid (Bh (ks.drop k) ((ksV v).drop k) e'=fx)) (fun _ i _=>ks.length - (intOf i).toNat)
      case atStart=>exact⟨0,ea,env,Ao _,rfl,rfl,bb,k1,e0,Aa HF.out.symm⟩
      case round=>
       clear bb k1 e0;obtain⟨k,a,e',hk,rfl,rfl,bb,k1,he,hf⟩:=hrel;by_cases hlt:k < ks.length
       ·obtain⟨b,off,cap,kv,hv,hB',hbs,hcap,⟨c0,c1,c2,c3,c4⟩,hkr⟩:=(KL.out wr bb).at_ hlt;cases hv
        have hkv:k < (ksV v).length:=by rw[H3.out];exact hlt
        have hki:(k:Int) < (ks.length:Int):=by omega
        have hk0:(0:Int)≤ (k:Int):=by omega
        have hkvi:(k:Int) < ((ksV v).length:Int):=by omega
        obtain⟨kva,kvc,rfl⟩:=hkr.form;have HK:=Aa hkr;have HS:=Aa (Mk hlt hkv e');obtain⟨pb,po,pcap,hpe,hpk,hpc,hpcell⟩:=hpv.at_ hkv;cases hpe
        have IHk:=Aa (IH.out k hlt);have HV:=Aa (fun(W:World) (hb:Below w.heap.size w W)=>(hvs k hkv).lat hb hB hr);obtain⟨pvb,hpvb⟩:=(hvs k hkv).th_ptr;rw[hpvb]at hpcell HV;clear hkr;generalize ks[k]=y at*;generalize (ksV v)[k]=u at*;go_wp2_with fail;generalize hyy:Wa _ _=wy;obtain⟨by_,k2⟩:=Bx.alloc hyy;clear hyy c0 c1 c2 c3 c4;have BY:=Aa (bb.trans (by_.mono bb.size));have HE3:=Aa (fun(W:World) (hb:Below wr.heap.size wr W)=>he.lat hb (At hB bb.size) (fun k e=>Ah (hr k e) bb.size));clear he;cases hfo:BL y u e' with
        |some ef=>
         have hS:∀W,Below wy.heap.size wy W→W.cell? ⟨wr.heap.size,0,none⟩=some (.int .i64 y.op)∧W.cell? ⟨wr.heap.size,1,none⟩=some (.int .i64 y.n)∧W.cell? ⟨wr.heap.size,2,none⟩=some (.string y.s)∧W.cell? ⟨wr.heap.size,3,none⟩=some (.string y.t)∧W.cell? ⟨wr.heap.size,4,none⟩=some (.slice kva y.kids.length kvc)∧W.cell? ⟨tb,3,none⟩=some (.slice (some ⟨pb,po,none⟩) (ksV v).length tcp)∧W.cell? ⟨pb,po+k,none⟩=some (.pointer (some ⟨pvb,0,none⟩)):=fun W hb=>
          ⟨(k2.below hb k2.1).2.1 0,(k2.below hb k2.1).2.1 1,(k2.below hb k2.1).2.1 2,(k2.below hb k2.1).2.1 3,(k2.below hb k2.1).2.1 4,((BY.out.trans (hb.mono BY.out.size)).cell (p:=⟨tb,3,none⟩) tk.2.2.1).trans T3.out,((BY.out.trans (hb.mono BY.out.size)).cell (p:=⟨pb,po+k,none⟩) hpk.2.2.1).trans hpcell⟩
         have HS0:=Aa hS;clear hS k2;refine wp_region_held_drew (S:=(fun W=>W.cell? ⟨wr.heap.size,0,none⟩=some (.int .i64 y.op)∧W.cell? ⟨wr.heap.size,1,none⟩=some (.int .i64 y.n)∧W.cell? ⟨wr.heap.size,2,none⟩=some (.string y.s)∧W.cell? ⟨wr.heap.size,3,none⟩=some (.string y.t)∧W.cell? ⟨wr.heap.size,4,none⟩=some (.slice kva y.kids.length kvc)∧W.cell? ⟨tb,3,none⟩=some (.slice (some ⟨pb,po,none⟩) (ksV v).length tcp)∧W.cell? ⟨pb,po+k,none⟩=some (.pointer (some ⟨pvb,0,none⟩)))) (by kernel_rfl) (by first | (dsimp only;exact HS0.out _ (Below.refl _ _).drew) | (exact HS0.out _ (Below.refl _ _).drew)) (fun hHeld=> ?_);generalize hxd:World.drew _=x1 at hHeld ⊢;have hd1:Below wy.heap.size wy x1:=by rw[←hxd];exact(Ab _ _).drew
         clear hxd;have bw1:=BY.out.trans (hd1.mono BY.out.size);have hz0:=bb.size;have bw2:=by_.trans (hd1.mono by_.size);refine tkH (i:=0) ?_;refine tkH (i:=1) ?_;refine tkH (i:=2) ?_;refine tkH (i:=3) ?_;refine tkH (i:=4) ?_;refine tkH (i:=5) ?_;refine tkH (i:=6) ?_;refine tkH (i:=7) ?_;refine tkH (i:=8) ?_;refine rdH (i:=9) (fun K hK=> ?_);go_simp;refine(IHk.out _ _ _ _ _ x1 bw1 (HK.out.later bw2 (At hB bb.size)) (HV.out x1 bw1) (HE3.out x1 bw2)).mono ?_;rintro e w6 ⟨b6,ev6,h6⟩;rw[hfo]at h6;obtain⟨rfl,h7⟩:=h6;have H7:=Aa h7;clear h7;obtain⟨a6,rfl⟩:=H7.out.sc_form;replace b6:=hd1.trans (b6.mono hd1.size);refine bkH hK (by first | (dsimp only;exact HS0.out _ b6) | (exact HS0.out _ b6)) (fun hHeld=> ?_);clear hK K;refine tkH (i:=10) ?_;refine tkH (i:=11) ?_;refine tkH (i:=12) ?_;refine tkH (i:=13) ?_;refine tkH (i:=14) ?_;refine A2 (by kernel_rfl) ?_ _;have bt:=BY.out.trans (b6.mono BY.out.size);replace k1:=(k1.below by_ k1.1).below b6 (Ah k1.1 by_.size);clear b6 hd1 bw1 bw2 by_ hpcell hpk bb;have hf2:=Aa (HS.out.symm.trans hf.out);rw[hfo]at hf2;have hf3:=Aa (show Bh (ks.drop (k+1)) ((ksV v).drop (k+1)) ef=fx from hf2.out);clear hf2;go_wp2;go_roundw
         case rel=>exact⟨k+1,a6,ef,hlt,by go_num,rfl,bt,k1,H7.out,hf3⟩
         case measure=>simp[intOf];omega
        |none=>
         have hS:∀W,Below wy.heap.size wy W→W.cell? ⟨wr.heap.size,0,none⟩=some (.int .i64 y.op)∧W.cell? ⟨wr.heap.size,1,none⟩=some (.int .i64 y.n)∧W.cell? ⟨wr.heap.size,2,none⟩=some (.string y.s)∧W.cell? ⟨wr.heap.size,3,none⟩=some (.string y.t)∧W.cell? ⟨wr.heap.size,4,none⟩=some (.slice kva y.kids.length kvc)∧W.cell? ⟨tb,3,none⟩=some (.slice (some ⟨pb,po,none⟩) (ksV v).length tcp)∧W.cell? ⟨pb,po+k,none⟩=some (.pointer (some ⟨pvb,0,none⟩)):=fun W hb=>
          ⟨(k2.below hb k2.1).2.1 0,(k2.below hb k2.1).2.1 1,(k2.below hb k2.1).2.1 2,(k2.below hb k2.1).2.1 3,(k2.below hb k2.1).2.1 4,((BY.out.trans (hb.mono BY.out.size)).cell (p:=⟨tb,3,none⟩) tk.2.2.1).trans T3.out,((BY.out.trans (hb.mono BY.out.size)).cell (p:=⟨pb,po+k,none⟩) hpk.2.2.1).trans hpcell⟩
         have HS0:=Aa hS;clear hS k2;refine wp_region_held_drew (S:=(fun W=>W.cell? ⟨wr.heap.size,0,none⟩=some (.int .i64 y.op)∧W.cell? ⟨wr.heap.size,1,none⟩=some (.int .i64 y.n)∧W.cell? ⟨wr.heap.size,2,none⟩=some (.string y.s)∧W.cell? ⟨wr.heap.size,3,none⟩=some (.string y.t)∧W.cell? ⟨wr.heap.size,4,none⟩=some (.slice kva y.kids.length kvc)∧W.cell? ⟨tb,3,none⟩=some (.slice (some ⟨pb,po,none⟩) (ksV v).length tcp)∧W.cell? ⟨pb,po+k,none⟩=some (.pointer (some ⟨pvb,0,none⟩)))) (by kernel_rfl) (by first | (dsimp only;exact HS0.out _ (Below.refl _ _).drew) | (exact HS0.out _ (Below.refl _ _).drew)) (fun hHeld=> ?_);generalize hxd:World.drew _=x1 at hHeld ⊢;have hd1:Below wy.heap.size wy x1:=by rw[←hxd];exact(Ab _ _).drew
         clear hxd;have bw1:=BY.out.trans (hd1.mono BY.out.size);have hz0:=bb.size;have bw2:=by_.trans (hd1.mono by_.size);refine tkH (i:=0) ?_;refine tkH (i:=1) ?_;refine tkH (i:=2) ?_;refine tkH (i:=3) ?_;refine tkH (i:=4) ?_;refine tkH (i:=5) ?_;refine tkH (i:=6) ?_;refine tkH (i:=7) ?_;refine tkH (i:=8) ?_;refine rdH (i:=9) (fun K hK=> ?_);go_simp;refine(IHk.out _ _ _ _ _ x1 bw1 (HK.out.later bw2 (At hB bb.size)) (HV.out x1 bw1) (HE3.out x1 bw2)).mono ?_;rintro e w6 ⟨b6,ev6,h6⟩;rw[hfo]at h6;obtain rfl:=h6;replace b6:=hd1.trans (b6.mono hd1.size);refine bkH hK (by first | (dsimp only;exact HS0.out _ b6) | (exact HS0.out _ b6)) (fun hHeld=> ?_);clear hK K;refine tkH (i:=10) ?_;refine tkH (i:=11) ?_;refine tkH (i:=12) ?_;refine tkH (i:=13) ?_;refine tkH (i:=14) ?_;refine A2 (by kernel_rfl) ?_ _;have bt:=BY.out.trans (b6.mono BY.out.size);replace k1:=(k1.below by_ k1.1).below b6 (Ah k1.1 by_.size);clear b6 hd1 bw1 bw2 by_ hpcell hpk bb;have hf2:=Aa (HS.out.symm.trans hf.out);rw[hfo]at hf2;have hf3:=Aa (show fx=none from hf2.out.symm);clear hf2;go_wp2;go_ret2;refine⟨bt,.pointer a,?_⟩;rw[hf3.out];rfl
       ·obtain rfl:k=ks.length:=by omega
        have hf2:=Aa (hf.out.symm.trans (by rw[EO,Bh]:Bh (ks.drop ks.length) ((ksV v).drop ks.length) e'=some e'));have H4:=Aa (And.intro bb he);clear bb he;go_wp2;go_ret2;refine⟨H4.out.1,.pointer a,?_⟩;rw[hf2.out];exact⟨rfl,H4.out.2⟩
     ·have HF:=Aa (show fx=none by rw[HE2.out,Ae (fun h=>h3 h.2.2)]);rw[h1,h2]at tc2;have tc3:=tc2 #[.int .i64 20,.int .i64 xn,.string xs,.string xt,.slice ka ks.length kc] 41;unfold thC at tc3;have h3b:(((ksV v).length:Int) !=(ks.length:Int))=true:=by rw[G0];omega
      clear tc2 tc h1 h2 h3;go_enter Tryz.func167,Tryz.ntmps167;go_wp2_with fail;go_quiet (fail);go_wp2;go_ret2;have bb:Below w.heap.size w ((w.alloc (.cells #[.int .i64 20,.int .i64 xn,.string xs,.string xt,.slice ka ks.length kc] 41)).drewN nq):=(Bx.allocD (w:=w) rfl).1;refine⟨bb,.pointer ea,?_⟩;rw[HF.out];rfl
    ·have HF:=Aa (show fx=none by rw[HE2.out,Ae (fun h=>h2 h.2.1)]);rw[h1]at tc2;have tc3:=tc2 #[.int .i64 20,.int .i64 xn,.string xs,.string xt,.slice ka ks.length kc] 41;unfold thC at tc3;have h2b:=Em h2;clear tc2 tc h1;generalize tgV v=sv at*;go_enter Tryz.func167,Tryz.ntmps167;go_wp2_with fail;go_quiet (fail);go_wp2;go_ret2;have bb:Below w.heap.size w ((w.alloc (.cells #[.int .i64 20,.int .i64 xn,.string xs,.string xt,.slice ka ks.length kc] 41)).drewN nq):=(Bx.allocD (w:=w) rfl).1;refine⟨bb,.pointer ea,?_⟩;rw[HF.out];rfl
   ·have HF:=Aa (show fx=none by rw[HE2.out,Ae (fun h=>h1 h.1)]);have tc3:=tc2 #[.int .i64 20,.int .i64 xn,.string xs,.string xt,.slice ka ks.length kc] 41;unfold thC at tc3;have h1b:(kdV v !=2)=true:=by simpa using h1
    clear tc2 tc;generalize kdV v=kd at*;go_enter Tryz.func167,Tryz.ntmps167;go_wp2_with fail;go_quiet (fail);go_wp2;go_ret2;have bb:Below w.heap.size w ((w.alloc (.cells #[.int .i64 20,.int .i64 xn,.string xs,.string xt,.slice ka ks.length kc] 41)).drewN nq):=(Bx.allocD (w:=w) rfl).1;refine⟨bb,.pointer ea,?_⟩;rw[HF.out];rfl
end Go.Proofs.YtifhcbeaiijkcaaGreat
