/- Parts of the proof of FnExactJudgeSame. -/
import Derived.Test.YtifhcbeaiijkcaaGreatJ33
import Derived.Test.YtifhcbeaiijkcaaGreatJ01
import Derived.Test.YtifhcbeaiijkcaaGreatJ08
import Derived.Test.YtifhcbeaiijkcaaGreatJ09
set_option linter.unusedVariables false
set_option linter.unusedSimpArgs false
set_option maxRecDepth 1000000
set_option maxHeartbeats 16000000
namespace Go.Proofs.YtifhcbeaiijkcaaGreat
open Go.RowKit
open _root_.Go.World renaming alloc→Wa,setCell→Ws
open _root_.Go.Proofs.Tryz renaming prog→Pq
theorem RdS.th_kids {B g:Nat}{X:Nat→Prop}{r:Option Nat}{w:World}{c:Array Value}{v:Vl}(h:RdS B X g r w c (.th v)):∃a1 c1 x a2 l2 c2 arg self a3 l3 c3,c=svC (kdV v) (nmV v) (tgV v) (.slice a1 (ksV v).length c1) x (.slice a2 l2 c2) arg self (.slice a3 l3 c3)∧
  ∃cs:Nat→Array Value,RwAt X g r w (.slice a1 (ksV v).length c1) (ksV v).length 12 cs∧ ∀j (hj:j < (ksV v).length),RdS B X g r w (cs j) (.th (ksV v)[j]):=by
 have h0:=h;obtain⟨y,hy⟩:∃y,Xl.th v=y:=⟨_,rfl⟩;rw[hy]at h;cases h with
 |int n=>cases hy;exact⟨_,_,_,_,_,_,_,_,_,_,_,rfl,fun _=> #[],.inl ⟨rfl,_,_,rfl⟩,fun j hj=>absurd hj (Aw j)⟩
 |con s kv vs cs hk hv=>
  cases hy
  obtain⟨a,cap,rfl⟩:=hk.form;exact⟨_,_,_,_,_,_,_,_,_,_,_,rfl,cs,hk,hv⟩
 |fn arg self body env bv ev hx he=>
  cases hy
  obtain⟨a,cap,rfl⟩:=hx.form;obtain⟨a3,c3,rfl,_⟩:=he.env_at;exact⟨_,_,_,_,_,_,_,_,_,_,_,rfl,fun _=> #[],.inl ⟨rfl,_,_,rfl⟩,fun j hj=>absurd hj (Aw j)⟩
 |sc=>cases hy
theorem RwAt.at_ {X:Nat→Prop}{g:Nat}{r:Option Nat}{w:World}{v:Value}{n sz:Nat}{at_:Nat→Array Value}(h:RwAt X g r w v n sz at_) {j:Nat}(hj:j < n):∃b off cap,v= .slice (some ⟨b,off,none⟩) n cap∧Kp X g r w b∧n≤cap∧n≤maxLen∧ ∀i,i < sz→w.cell? ⟨b,off+j*sz+i,none⟩= (at_ j)[i]?:=by
 rcases h with ⟨h0,_⟩ |⟨b,off,cap,h1,h2,h3,h4⟩
 ·omega
 ·exact⟨b,off,cap,h1,h2,h3.2,h3.1,(h4 j hj).2⟩
theorem RwAt.len {X:Nat→Prop}{g:Nat}{r:Option Nat}{w:World}{v:Value}{n sz:Nat}{at_:Nat→Array Value}(h:RwAt X g r w v n sz at_):n≤maxLen:=by
 rcases h with ⟨rfl,_⟩ |⟨b,off,cap,h1,h2,h3,h4⟩
 ·simp
 ·exact h3.1
theorem RdS.sc_form {B g:Nat}{X:Nat→Prop}{r:Option Nat}{w:World}{ev:Value}{env:Env}(h:RdS B X g r w #[ev] (.sc env)):∃a cap,ev= .slice a env.length cap:=by
 obtain⟨a,cap,rfl,_⟩:=h.env_at;exact⟨a,cap,rfl⟩
theorem RdS.lat {B g:Nat}{X:Nat→Prop}{r:Option Nat}{w w':World}{v:Array Value}{x:Xl}(h:RdS B X g r w v x) (b:Below w.heap.size w w') (hB:B≤w.heap.size) (hr:∀k,r=some k→k < w.heap.size):RdS B X g r w' v x:=h.later (Tw.of_below b hr) (b.mono hB)
theorem RwAt.off {X Y:Nat→Prop}{g:Nat}{r:Option Nat}{w:World}{v:Value}{n sz:Nat}{at_:Nat→Array Value}(h:RwAt X g r w v n sz at_) (hY:∀b,b < w.heap.size→ ¬X b→ ¬Y b):RwAt Y g r w v n sz at_:=by
 rcases h with h |⟨b,off,cap,h1,h2,h3,h4⟩
 ·exact .inl h
 ·exact .inr ⟨b,off,cap,h1,h2.off hY,h3,h4⟩
theorem RdS.off {B g:Nat}{X Y:Nat→Prop}{r:Option Nat}{w:World}{v:Array Value}{x:Xl}(h:RdS B X g r w v x) (hY:∀b,b < w.heap.size→ ¬X b→ ¬Y b):RdS B Y g r w v x:=by
 induction h with
 |int n=>exact .int n
 |con s kv vs cs hk _ ih=>exact .con s kv vs cs (hk.off hY) ih
 |fn arg self body env bv ev hx _ ih=>exact .fn arg self body env bv ev hx ih
 |sc env ev cs hk _ ih=>exact .sc env ev cs (hk.off hY) ih
theorem RdS.wrote {B g:Nat}{X:Nat→Prop}{r:Option Nat}{w w':World}{v:Array Value}{x:Xl}(h:RdS B X g r w v x) (q:Nat) (hq:X q) (hg:w.grownBy w' (some q)) (hB:Below B w w'):RdS B X g r w' v x:=by
 have hk:∀b,Kp X g r w b→Kp X g r w' b∧ ∀o,w'.cell? ⟨b,o,none⟩=w.cell? ⟨b,o,none⟩:=fun b h=>⟨⟨h.1,h.2.1,Ah h.2.2.1 hg.size,h.2.2.2⟩,fun o=>CD (hg.block b h.2.2.1 (fun e=>h.2.2.2 (by rw[Am e];exact hq)))⟩
 have hrow:∀ {v:Value} {n sz:Nat} {at_:Nat→Array Value},RwAt X g r w v n sz at_→RwAt X g r w' v n sz at_:=fun h=>by
  rcases h with h |⟨b,off,cap,h1,h2,h3,h4⟩
  ·exact .inl h
  ·exact .inr ⟨b,off,cap,h1,(hk b h2).1,h3,fun j hj=>⟨(h4 j hj).1,fun i hi=>((hk b h2).2 _).trans ((h4 j hj).2 i hi)⟩⟩
 induction h with
 |int n=>exact .int n
 |con s kv vs cs hk _ ih=>exact .con s kv vs cs (hrow hk) ih
 |fn arg self body env bv ev hx _ ih=>exact .fn arg self body env bv ev (hx.later hB (Ad _)) ih
 |sc env ev cs hk _ ih=>exact .sc env ev cs (hrow hk) ih
def ResS (B:Nat) (X:Nat→Prop) (g:Nat) (lv:Value) (res:Rs Vl) (c:Array Value) (w:World) (r:Option Nat):Prop:=match res with
 | .ok v s=>RdS B X g r w c (.th v)∧Ev B g lv w s.fuel 0 s.out r
 | .bad cd o=>FormS c∧(cd=1∨cd=2)∧ ∃f:Int,Ev B g lv w f cd o r
theorem ResS.formS {B:Nat}{X:Nat→Prop}{g:Nat}{lv:Value}{res:Rs Vl}{c:Array Value}{w:World}{r:Option Nat}(h:ResS B X g lv res c w r):FormS c:=by
 cases res with
 |ok v s=>exact h.1.formS
 |bad cd o=>exact h.1
def BH (B:Nat) (X:Nat→Prop) (g:Nat) (lv:Value) (res:Rs Vl) (r:Option Nat) (w:World) (e:Ending) (w':World):Prop:=∃c r',e= .returned (.agg c)∧Tw g r r' w w'∧ResS B X g lv res c w' r'
def EvS (B g:Nat) (lv:Value) (σ:Rs Unit) (w:World) (r:Option Nat):Prop:=match σ with
 | .ok _ s=>Ev B g lv w s.fuel 0 s.out r
 | .bad cd o=>(cd=1∨cd=2)∧ ∃f:Int,Ev B g lv w f cd o r
def Rs.st {α:Type}:Rs α→Rs Unit
 | .ok _ s=> .ok () s
 | .bad c o=> .bad c o
theorem ResS.evS {B:Nat}{X:Nat→Prop}{g:Nat}{lv:Value}{res:Rs Vl}{c:Array Value}{w:World}{r:Option Nat}(h:ResS B X g lv res c w r):EvS B g lv res.st w r:=by
 cases res with
 |ok v s=>exact h.2
 |bad cd o=>exact h.2
theorem EvS.ev {B g:Nat}{lv:Value}{σ:Rs Unit}{w:World}{r:Option Nat}(h:EvS B g lv σ w r):∃f c o,Ev B g lv w f c o r:=by
 cases σ with
 |ok _ s=>exact⟨_,_,_,h⟩
 |bad cd o=>obtain⟨f,h⟩:=h.2;exact⟨_,_,_,h⟩
theorem EvS.lt {B g:Nat}{lv:Value}{σ:Rs Unit}{w:World}{r:Option Nat}(h:EvS B g lv σ w r):g < w.heap.size:=by obtain⟨f,c,o,h⟩:=h.ev;exact h.lt
theorem EvS.gB {B g:Nat}{lv:Value}{σ:Rs Unit}{w:World}{r:Option Nat}(h:EvS B g lv σ w r):B≤g∧B≤w.heap.size:=by obtain⟨f,c,o,h⟩:=h.ev;exact h.gB
theorem EvS.row {B g:Nat}{lv:Value}{σ:Rs Unit}{w:World}{r:Option Nat}(h:EvS B g lv σ w r):∀k,r=some k→B≤k∧k < w.heap.size:=by obtain⟨f,c,o,h⟩:=h.ev;exact h.row
theorem EvS.refl {B g:Nat}{lv:Value}{σ:Rs Unit}{w:World}{r:Option Nat}(h:EvS B g lv σ w r):Tw g r r w w:=Tw.refl (fun k e=>(h.row k e).2)
theorem EvS.tw {B g:Nat}{lv:Value}{σ:Rs Unit}{w w':World}{r r':Option Nat}(h:EvS B g lv σ w r) (t:Tw g r r' w w'):Below B w w':=t.below h.gB.2 h.gB.1 (fun k e=>(h.row k e).1)
theorem EvS.same {B g:Nat}{lv:Value}{σ:Rs Unit}{w w':World}{r:Option Nat}(h:EvS B g lv σ w r) (b:Below w.heap.size w w'):EvS B g lv σ w' r∧Tw g r r w w':=by
 cases σ with
 |ok _ s=>exact⟨(Ev.same h b).1,(Ev.same h b).2⟩
 |bad cd o=>obtain⟨hc,f,h⟩:=h;exact⟨⟨hc,f,(h.same b).1⟩,(h.same b).2⟩
theorem EvS.grown {B g b:Nat}{lv:Value}{σ:Rs Unit}{W W':World}{r:Option Nat}(h:EvS B g lv σ W r) (hg:W.grownBy W' (some b)) (h1:b≠g) (h2:r≠some b):EvS B g lv σ W' r:=by
 cases σ with
 |ok _ s=>exact Ev.grown h hg h1 h2
 |bad cd o=>obtain⟨hc,f,h⟩:=h;exact⟨hc,f,h.grown hg h1 h2⟩
structure SPre (B:Nat) (X:Nat→Prop) (g:Nat) (lv:Value) (ds:List Dt) (x:Nd) (kv ev:Value) (env:Env) (s:Es) (w:World) (r:Option Nat):Prop where
 np:Aj x=true
 wg:wgN x≤1048576
 gd:Good (.sc env)
 lm:Lim (A3 s.fuel) (.sc env)
 sz:s.out.length+s.fuel≤4000
 rk:RdNs B w kv x.kids
 re:RdS B X g r w #[ev] (.sc env)
 ev:Ev B g lv w s.fuel 0 s.out r
 dt:RdDts B w lv ds
 hx:∀b,X b→b < w.heap.size
def Ck (B g:Nat) (lv:Value) (ds:List Dt) (ar:Str→Option Nat) (m:Nat):Prop:=∀ (X:Nat→Prop) (x:Nd) (kv ev:Value) (env:Env) (s:Es) (w:World) (r:Option Nat),s.fuel≤m→SPre B X g lv ds x kv ev env s w r→
 Calls Pq 56 #[.pointer (some ⟨g,0,none⟩),ndV x kv,ev] w (BH B X g lv (Ag ar m x env s) r w)
structure Sw (B g:Nat) (lv:Value) (w:World) (r:Option Nat) (W:World) (rW:Option Nat) (σ:Rs Unit) (cur:Array Value) (q:Nat):Prop where
 ev:EvS B g lv σ W rW
 tw:Tw g r rW w W
 bx:Bx W w.heap.size cur
 rx:Bx W q sv0
 qw:w.heap.size≤q
 nb:rW≠some w.heap.size
 nq:rW≠some q
 ng:w.heap.size≠g
 nr:q≠g
theorem Sw.step {B g:Nat}{lv:Value}{w W W':World}{r rW r':Option Nat}{σ σ':Rs Unit}{cur:Array Value}{q:Nat}(h:Sw B g lv w r W rW σ cur q) (t:Tw g rW r' W W') (e:EvS B g lv σ' W' r'):Sw B g lv w r W' r' σ' cur q:=
 ⟨e,h.tw.trans t,h.bx.tw t h.ng h.nb,h.rx.tw t h.nr h.nq,h.qw,t.nb h.nb h.bx.1,t.nb h.nq h.rx.1,h.ng,h.nr⟩
theorem Sw.same {B g:Nat}{lv:Value}{w W W':World}{r rW:Option Nat}{σ:Rs Unit}{cur:Array Value}{q:Nat}(h:Sw B g lv w r W rW σ cur q) (b:Below W.heap.size W W'):Sw B g lv w r W' rW σ cur q:=
 h.step (h.ev.same b).2 (h.ev.same b).1
def Xq (X:Nat→Prop) (q:Nat):Nat→Prop:=fun b=>X b∨b=q
theorem Sw.fin {B g:Nat}{X:Nat→Prop}{lv:Value}{w W z:World}{r rW:Option Nat}{res:Rs Vl}{cur:Array Value}{q:Nat}{c:Array Value}(h:Sw B g lv w r W rW res.st cur q) (hr:ResS B (Xq X q) g lv res c W rW) (hB:B≤w.heap.size) (hg:W.grownBy z (some q)):BH B X g lv res r w (.returned (.agg c)) z:=by
 have hb:Below B W z:=⟨hg.os,hg.tape,hg.output,hg.size,fun k hk=>hg.block k (Ah hk h.ev.gB.2) (fun e=>by have:=Am e;have:=h.qw;omega)⟩;refine⟨c,rW,rfl,h.tw.grown hg h.qw,?_⟩;have he:=h.ev.grown hg h.nr h.nq;cases res with
 |ok v s=>exact⟨(RdS.wrote hr.1 q (.inr rfl) hg hb).off (fun b _ hn hx=>hn (.inl hx)),he⟩
 |bad cd o=>exact⟨hr.1,he⟩
theorem SPre.start {B g:Nat}{X:Nat→Prop}{lv:Value}{ds:List Dt}{x:Nd}{kv ev:Value}{env:Env}{s:Es}{w:World}{r:Option Nat}(h:SPre B X g lv ds x kv ev env s w r) {f:Nat}{W1 W:World}{cur:Array Value}{e e2:TypeId}
  (h1:(w.setCell ⟨g,1,none⟩ (.int .i64 f)).alloc (.cells cur e)=W1) (h2:W1.alloc (.cells sv0 e2)=W):Sw B g lv w r W r (.ok () ⟨f,s.out⟩) cur (w.heap.size+1):=by
 obtain⟨e1,t1⟩:=h.ev.setF (f:Int);obtain⟨b2,k2⟩:=Bx.alloc h1;obtain⟨e2,t2⟩:=e1.same b2;have hlt:=h.ev.lt;rw[AP]at k2;have hs1:W1.heap.size=w.heap.size+1:=by rw[←h1];simp
 obtain⟨b3,k3⟩:=Bx.alloc h2;obtain⟨e3,t3⟩:=e2.same b3;rw[hs1]at k3;exact⟨e3,(t1.trans t2).trans t3,k2.below b3 k2.1,k3,AJ _,fun e=>by have:=(h.ev.row _ e).2;omega,fun e=>by have:=(h.ev.row _ e).2;omega,by omega,by omega⟩
theorem SPre.rkW {B g:Nat}{X:Nat→Prop}{lv:Value}{ds:List Dt}{x:Nd}{kv ev:Value}{env:Env}{s:Es}{w W:World}{r rW:Option Nat}(h:SPre B X g lv ds x kv ev env s w r) (t:Tw g r rW w W):RdNs B W kv x.kids:=h.rk.later (h.ev.tw t) (Ad _)
theorem SPre.reW {B g:Nat}{X:Nat→Prop}{lv:Value}{ds:List Dt}{x:Nd}{kv ev:Value}{env:Env}{s:Es}{w W:World}{r rW:Option Nat}(h:SPre B X g lv ds x kv ev env s w r) (t:Tw g r rW w W) {q:Nat}(hq:w.heap.size≤q):RdS B (Xq X q) g rW W #[ev] (.sc env):=
 (h.re.off (fun b hb hn hx=>hx.elim hn (fun e=>by omega))).later t (h.ev.tw t)
theorem SPre.dtW {B g:Nat}{X:Nat→Prop}{lv:Value}{ds:List Dt}{x:Nd}{kv ev:Value}{env:Env}{s:Es}{w W:World}{r rW:Option Nat}(h:SPre B X g lv ds x kv ev env s w r) (t:Tw g r rW w W):RdDts B W lv ds:=h.dt.later (h.ev.tw t) (Ad _)
theorem SPre.nb {B g:Nat}{X:Nat→Prop}{lv:Value}{ds:List Dt}{x:Nd}{kv ev:Value}{env:Env}{s:Es}{w:World}{r:Option Nat}(h:SPre B X g lv ds x kv ev env s w r) {b:Nat}(hb:b < B):b < w.heap.size∧b≠g:=⟨Ah hb h.ev.gB.2,fun e=>by have:=h.ev.gB.1;omega⟩
theorem RdS.offq {B g:Nat}{X:Nat→Prop}{w W:World}{r rW:Option Nat}{c:Array Value}{x:Xl}(h:RdS B X g r w c x) {q:Nat}(hq:w.heap.size≤q) (t:Tw g r rW w W) (hb:Below B w W):RdS B (Xq X q) g rW W c x:=
 (h.off (fun b hb hn hx=>hx.elim hn (fun e=>by omega))).later t hb
theorem RdS.fn_inv {B g:Nat}{X:Nat→Prop}{r:Option Nat}{w:World}{c:Array Value}{arg self:Str}{body:Nd}{env:Env}(h:RdS B X g r w c (.th (.fn arg self body env))):∃bv ev,c=svC 3 0 eS AC body bv arg self ev∧RdNs B w bv body.kids∧RdS B X g r w #[ev] (.sc env):=by
 cases h with
 |fn _ _ _ _ bv ev hx he=>exact⟨bv,ev,rfl,hx,he⟩
theorem Good.inv_fn {a s:Str}{b:Nd}{e:Env}(h:Good (.th (.fn a s b e))):Aj b=true∧wgN b≤1048576∧Good (.sc e):=by cases h with |fn _ _ _ _ h1 h2 h3=>exact⟨h1,h2,h3⟩
theorem Uk {s:Str}(h:s.toList=[]):s=ByteArray.empty:=by
 have:=FT s ByteArray.empty;rw[h]at this;exact of_decide_eq_true (this.symm.trans (by rw[ByteArray.toList_eq];rfl))
theorem SPre.sub {B g:Nat}{X:Nat→Prop}{lv:Value}{ds:List Dt}{x y:Nd}{kv ev kvy:Value}{env:Env}{s s1:Es}{w W:World}{r rW:Option Nat}{q:Nat}(h:SPre B X g lv ds x kv ev env s w r) (t:Tw g r rW w W) (hn:Aj y=true) (hm:y∈x.kids) (hs:s1.out.length+s1.fuel≤4000) (hf:s1.fuel≤s.fuel) (e1:Ev B g lv W s1.fuel 0 s1.out rW) (hk:RdNs B W kvy y.kids) (hq:w.heap.size≤q) (hqW:q < W.heap.size):SPre B (Xq X q) g lv ds y kvy ev env s1 W rW:=
 ⟨hn,by have:=AT hm;have:=Av x;have:=h.wg;omega,h.gd,h.lm.fuel hf,hs,hk,h.reW t hq,e1,h.dtW t,fun b e=>by
  rcases e with e |e
  ·exact Ah (h.hx b e) t.size
  ·omega⟩
def Rs.val:Rs Vl→Vl
 | .ok v _=>v
 | .bad _ _=> .int 0
theorem Rs.bind_val {β:Type}(r:Rs Vl) (k:Vl→Es→Rs β):(r.bind fun v s=>k v s)=r.st.bind fun _ s=>k r.val s:=by cases r <;> rfl
theorem Rs.st_ok {r:Rs Vl}{s:Es}(h:r.st= .ok () s):r= .ok r.val s:=by
 cases r with
 |ok v s1=>cases h;rfl
 |bad c o=>cases h
theorem SPre.bindK {B g:Nat}{X:Nat→Prop}{lv:Value}{ds:List Dt}{x y:Nd}{kv ev ev' kvy:Value}{env:Env}{name:Str}{v:Vl}{s s1:Es}{w W:World}{r rW:Option Nat}{q:Nat}(h:SPre B X g lv ds x kv ev env s w r) (t:Tw g r rW w W) (hn:Aj y=true) (hm:y∈x.kids) (gv:Good (.th v)) (lm:Lim (A3 s1.fuel) (.th v)) (hs:s1.out.length+s1.fuel≤4000) (hf:s1.fuel < s.fuel) (e1:Ev B g lv W s1.fuel 0 s1.out rW) (hk:RdNs B W kvy y.kids)
  (he:RdS B (Xq X q) g rW W #[ev'] (.sc ((name,v)::env))) (hq:w.heap.size≤q) (hqW:q < W.heap.size):SPre B (Xq X q) g lv ds y kvy ev' ((name,v)::env) s1 W rW:=
 ⟨hn,by have:=AT hm;have:=Av x;have:=h.wg;omega,.cons _ _ _ gv h.gd,h.lm.bind (M:=A3 s1.fuel) lm (by have:=E0 hf (by have:=h.sz;omega);omega),hs,hk,he,e1,h.dtW t,fun b e=>by
  rcases e with e |e
  ·exact Ah (h.hx b e) t.size
  ·omega⟩
theorem SPre.kid {B g:Nat}{X:Nat→Prop}{lv:Value}{ds:List Dt}{x y:Nd}{kv ev:Value}{env:Env}{s s1 s2:Es}{w:World}{r:Option Nat}{ar:Str→Option Nat}{m:Nat}{v:Vl}(h:SPre B X g lv ds x kv ev env s w r) (hn:Aj y=true) (hm:y∈x.kids) (hs:s1.out.length+s1.fuel≤4000) (hf:s1.fuel≤s.fuel) (he:Ag ar m y env s1= .ok v s2):Good (.th v)∧Lim (A3 s2.fuel) (.th v)∧s2.fuel < s1.fuel∧s2.out.length+s2.fuel≤4000:=
 Q1 hn (by have:=AT hm;have:=Av x;have:=h.wg;omega) h.gd (h.lm.fuel hf) hs he
mutual
def CU:Vl→Int→Int
 | .int _,r=>r - 1
 | .con _ ks,r=>CB ks (r - 1)
 | .fn _ _ _ _,r=>r - 1
def CB:List Vl→Int→Int
 | [],r=>r
 |k::ks,r=>if 0≤r then CB ks (CU k r)else r
end
theorem M9 (v:Vl) (r:Int):CU v r=CB (ksV v) (r - 1):=by cases v <;> simp[CU,ksV,CB]
theorem Na:∀ (ks:List Vl) {r:Int},r < 0→CB ks r=r
 | [],r,h=>by rw[CB]
 |k::ks,r,h=>by rw[CB,Ae (by omega)]
mutual
theorem Nb:∀ (v:Vl) (r:Int),0≤r→((Ar v:Int)≤r→CU v r=r - Ar v)∧(r < Ar v→CU v r= -1)
 | .int n,r,h=>by simp only[Ar,CU];omega
 | .fn _ _ _ _,r,h=>by simp only[Ar,CU];omega
 | .con s ks,r,h=>by
  have:=JO ks (r - 1) (by omega);simp only[Ar,CU];omega
theorem JO:∀ (ks:List Vl) (r:Int), -1≤r→((Ar.countVs ks:Int)≤r→CB ks r=r - Ar.countVs ks)∧(r < Ar.countVs ks→CB ks r= -1)
 | [],r,h=>by
  simp only[Ar.countVs,CB];omega
 |k::ks,r,h=>by
  rw[CB,Ar.countVs];by_cases h0:0≤r
  ·rw[Af h0];have h1:=Nb k r h0;by_cases h2:(Ar k:Int)≤r
   ·rw[h1.1 h2];have h3:=JO ks (r - Ar k) (by omega);omega
   ·rw[h1.2 (by omega),Na ks (by omega)];omega
  ·rw[Ae h0];omega
end
theorem TK (ks:List Vl) (r:Int) (h:-1≤r):-1≤CB ks r∧CB ks r≤r:=by
 have:=JO ks r h;omega
theorem TM (v:Vl) (r:Int) (h:0≤r):-1≤CU v r∧CU v r≤r:=by rw[M9];have:=TK (ksV v) (r - 1) (by omega);omega
theorem TN {ks:List Vl}{k:Nat}(hk:k < ks.length) {r:Int}(h:0≤r):CB (ks.drop k) r=CB (ks.drop (k+1)) (CU ks[k] r):=by
 rw[List.drop_eq_getElem_cons hk,CB,Af h]
theorem Nc {v u:Vl}(h:u∈ksV v):Ar u < Ar v:=by
 cases v with
 |con s ks=>
  have:∀ (l:List Vl),u∈l→Ar u≤Ar.countVs l:=fun l=>by
   induction l with
   |nil=>intro h;simp at h
   |cons a l ih=>
    intro h;rw[Ar.countVs];rcases List.mem_cons.1 h with rfl |h
    ·omega
    ·have:=ih h;omega
  have:=this ks h
  show Ar u < 1+Ar.countVs ks
  omega
 |_=>simp[ksV]at h
theorem TO {v:Vl}(h:0 < (ksV v).length):kdV v=2:=by cases v <;> first |rfl | (simp[ksV]at h)
theorem Nf (B:Nat) (X:Nat→Prop) (g:Nat) (r:Option Nat):∀ (N:Nat) (v:Vl) (c:Array Value) (w:World) (R:Int),Ar v < N→0≤R→R≤1000000→B≤w.heap.size→(∀k,r=some k→k < w.heap.size)→RdS B X g r w c (.th v)→
  Calls Pq 57 #[.agg c,.int .i64 R] w fun e w'=>e= .returned (.int .i64 (CU v R))∧Below w.heap.size w w'
 |0,v,c,w,R,hN,h0,h1,hB,hr,ht=>by omega
 |N+1,v,c,w,R,hN,h0,h1,hB,hr,ht=>by
  have IH:=Aa (fun(j:Nat) (hj:j < (ksV v).length) (c:Array Value) (W:World) (R:Int) (hb:Below w.heap.size w W) (h0:0≤R) (h1:R≤1000000) (h2:RdS B X g r W c (.th (ksV v)[j]))=>(by
   have:=Nc (An hj);exact Nf B X g r N _ c W R (by omega) h0 h1 (At hB hb.size) (fun k e=>Ah (hr k e) hb.size) h2:Calls Pq 57 #[.agg c,.int .i64 R] W fun e w'=>e= .returned (.int .i64 (CU (ksV v)[j] R))∧Below W.heap.size W w'))
  have HE:=Aa (M9 v R);have HKD:=Aa (@TO v);obtain⟨a1,c1,xx,a2,l2,c2,arg,self,a3,l3,c3,rfl,cs,hpv,hvs⟩:=ht.th_kids;have hvl:=hpv.len;unfold maxLen at hvl;generalize CU v R=res at*;generalize kdV v=kd at*;generalize ksV v=ks at*;clear ht hN;unfold svC;go_enter Tryz.func57,Tryz.ntmps57;go_wp2_with fail;generalize hW:Wa _ _=W1;obtain⟨b1,k1⟩:=Bx.alloc hW;clear hW
  go_loopw [5,1] (fun i ro wr=>∃ (k:Nat) (q:Int),k≤ks.length∧i= .int .i64 k∧ro= .int .i64 q∧Below w.heap.size w wr∧Bx wr w.heap.size #[.int .i64 kd,.int .i64 (nmV v),.string (tgV v),.slice a1 ks.length c1,.int .i64 xx.op,.int .i64 xx.n,.string xx.s,.string xx.t,.slice a2 l2 c2,.string arg,.string self,.slice a3 l3 c3]∧ -1≤q∧q≤1000000∧Hid (CB (ks.drop k) q=res)) (fun i _ _=>ks.length - (intOf i).toNat)
  case atStart=>exact⟨0,R - 1,Ao _,rfl,by go_num,b1,k1,by omega,by omega,Aa HE.out.symm⟩
  case round=>
   clear b1 k1;obtain⟨k,q,hk,rfl,rfl,bb,k1,hq0,hq1,hr2⟩:=hrel;have q1:=k1.2.1;have y1:=k1.1;by_cases hlt:k < ks.length
   ·have hki:(k:Int) < (ks.length:Int):=by omega
    have hk0:(0:Int)≤ (k:Int):=by omega
    have hkd:=HKD.out (by omega);clear HKD;subst hkd;by_cases hqn:0≤q
    ·obtain⟨pb,po,pcap,hpe,hpk,hpcap,hpm,hpcell⟩:=hpv.at_ hlt;cases hpe
     obtain⟨kdu,nnu,ssu,a1u,l1u,c1u,xxu,a2u,l2u,c2u,argu,selfu,a3u,l3u,c3u,hcs⟩:=(hvs k hlt).formS;have HV:=Aa ((hvs k hlt).lat bb hB hr);rw[hcs]at hpcell HV;have hpc:∀i,i < 12→wr.cell? ⟨pb,po+k*12+i,none⟩= (svC kdu nnu ssu (.slice a1u l1u c1u) xxu (.slice a2u l2u c2u) argu selfu (.slice a3u l3u c3u))[i]?:=fun i hi=>(bb.cell (p:=⟨pb,po+k*12+i,none⟩) hpk.2.2.1).trans (hpcell i hi);unfold svC at hpc HV;have e0:wr.cell? ⟨pb,po+k*12,none⟩=some (.int .i64 kdu):=hpc 0 (by omega);have e1:wr.cell? ⟨pb,po+k*12+1,none⟩=some (.int .i64 nnu):=hpc 1 (by omega);have e2:wr.cell? ⟨pb,po+k*12+2,none⟩=some (.string ssu):=hpc 2 (by omega);have e3:wr.cell? ⟨pb,po+k*12+3,none⟩=some (.slice a1u l1u c1u):=hpc 3 (by omega);have e4:wr.cell? ⟨pb,po+k*12+4,none⟩=some (.int .i64 xxu.op):=hpc 4 (by omega);have e5:wr.cell? ⟨pb,po+k*12+5,none⟩=some (.int .i64 xxu.n):=hpc 5 (by omega);have e6:wr.cell? ⟨pb,po+k*12+6,none⟩=some (.string xxu.s):=hpc 6 (by omega);have e7:wr.cell? ⟨pb,po+k*12+7,none⟩=some (.string xxu.t):=hpc 7 (by omega);have e8:wr.cell? ⟨pb,po+k*12+8,none⟩=some (.slice a2u l2u c2u):=hpc 8 (by omega);have e9:wr.cell? ⟨pb,po+k*12+9,none⟩=some (.string argu):=hpc 9 (by omega);have e10:wr.cell? ⟨pb,po+k*12+10,none⟩=some (.string selfu):=hpc 10 (by omega);have e11:wr.cell? ⟨pb,po+k*12+11,none⟩=some (.slice a3u l3u c3u):=hpc 11 (by omega);have HS:=Aa (TN hlt hqn);have HBD:=Aa (TM ks[k] q hqn);have IHk:=Aa (IH.out k hlt);clear hpc hpcell;generalize ks[k]=u at*;go_wp2_with fail;clear e0 e1 e2 e3 e4 e5 e6 e7 e8 e9 e10 e11 q1;refine(IHk.out _ wr q bb hqn hq1 HV.out).mono ?_;rintro e w2 ⟨rfl,b2⟩;have k2:=k1.below b2 k1.1;have bb2:=bb.trans (b2.mono bb.size);have hbd:=HBD.out;have HR2:=Aa (HS.out.symm.trans hr2.out);generalize CU u q=q2 at*;clear b2 k1 bb;go_wp2;go_roundw
     case rel=>exact⟨k+1,q2,hlt,by go_num,rfl,bb2,k2,by omega,by omega,HR2⟩
     case measure=>simp[intOf];omega
    ·have HR2:=Aa ((Na (ks.drop k) (by omega)).symm.trans hr2.out);have BB:=Aa bb;clear bb;go_wp2;go_ret;exact⟨Ap HR2.out,BB.out⟩
   ·obtain rfl:k=ks.length:=by omega
    have HR2:=Aa (show q=res by have:=hr2.out;rw[EO,CB]at this;exact this);have BB:=Aa bb;clear bb;go_wp2;go_ret;exact⟨Ap HR2.out,BB.out⟩
theorem JV {w W:World}{a b c:Array Value}{e e2 e3:TypeId}(hW:((w.alloc (.cells a e)).alloc (.cells b e2)).alloc (.cells c e3)=W):Below w.heap.size w W∧Bx W w.heap.size a∧Bx W (w.heap.size+1) b∧Bx W (w.heap.size+2) c:=by
 obtain⟨b1,k1⟩:=Bx.alloc (w:=w) (cur:=a) (e:=e) rfl;obtain⟨b2,k2⟩:=Bx.alloc (w:=w.alloc (.cells a e)) (cur:=b) (e:=e2) rfl;obtain⟨b3,k3⟩:=Bx.alloc hW;simp only[Bo]at b2 b3 k2 k3;have b12:Below w.heap.size w ((w.alloc (.cells a e)).alloc (.cells b e2)):=b1.trans (b2.mono (by omega));exact⟨b12.trans (b3.mono (by omega)),(k1.below b2 (by first |omega |simp)).below b3 (by first |omega |simp),k2.below b3 (by first |omega |simp),k3⟩
theorem Ny (B:Nat) (X:Nat→Prop) (g:Nat) (r:Option Nat):∀ (N:Nat) (u:Vl) (c:Array Value) (w:World),Ar u < N→Ar u≤4000→B≤w.heap.size→(∀k,r=some k→k < w.heap.size)→RdS B X g r w c (.th u)→
  Calls Pq 58 #[.agg c] w fun e w'=>Below w.heap.size w w'∧ ∃kv,e= .returned (.agg (vlC u kv))∧RdTv (fun b=>w.heap.size≤b) w' u (vlC u kv)
 |0,u,c,w,hN,h0,hB,hr,ht=>by omega
 |N+1,u,c,w,hN,h0,hB,hr,ht=>by
  cases u with
  |int n=>
   obtain⟨a1,c1,xx,a2,l2,c2,arg,self,a3,l3,c3,rfl⟩:=ht.th_form;clear ht;unfold svC kdV nmV tgV;go_enter Tryz.func58,Tryz.ntmps58;go_wp2;generalize hW:Wa (Wa (Wa _ _) _) _=W;obtain⟨bb, -,k2, -⟩:=JV hW;have c9:=k2.2.1;refine Aq (v:= .agg (vlC (.int n) (.slice none 0 0))) ?_ rfl ⟨bb,_,rfl,.mk _ _ (fun _=> #[]) (.inl ⟨rfl,_,_,rfl⟩) (fun j h=>absurd h (Aw j))⟩;simp[results,Tryz.results58,go_sem,c9,vlC,kdV,nmV,tgV]
  |fn arg0 self0 body env=>
   obtain⟨a1,c1,xx,a2,l2,c2,arg,self,a3,l3,c3,rfl⟩:=ht.th_form;clear ht;unfold svC kdV nmV tgV;go_enter Tryz.func58,Tryz.ntmps58;go_wp2;generalize hW:Wa (Wa (Wa _ _) _) _=W;obtain⟨bb, -,k2, -⟩:=JV hW;have c9:=k2.2.1;refine Aq (v:= .agg (vlC (.fn arg0 self0 body env) (.slice none 0 0))) ?_ rfl ⟨bb,_,rfl,.mk _ _ (fun _=> #[]) (.inl ⟨rfl,_,_,rfl⟩) (fun j h=>absurd h (Aw j))⟩;simp[results,Tryz.results58,go_sem,c9,vlC,kdV,nmV,tgV]
  |con sn ks=>
   have IH:=Aa (fun(j:Nat) (hj:j < ks.length) (c:Array Value) (W:World) (hb:Below w.heap.size w W) (h2:RdS B X g r W c (.th ks[j]))=>(by
    have:=Nc (v:= .con sn ks) (u:=ks[j]) (An hj);exact Ny B X g r N _ c W (by omega) (by omega) (At hB hb.size) (fun k e=>Ah (hr k e) hb.size) h2:Calls Pq 58 #[.agg c] W fun e w'=>Below W.heap.size W w'∧ ∃kv,e= .returned (.agg (vlC ks[j] kv))∧RdTv (fun b=>W.heap.size≤b) w' ks[j] (vlC ks[j] kv)))
   obtain⟨a1,c1,xx,a2,l2,c2,arg,self,a3,l3,c3,rfl,cs,hpv,hvs⟩:=ht.th_kids;have hvl:=hpv.len;unfold maxLen at hvl;have hks:ks.length≤4000:=by
    have:∀l:List Vl,l.length≤Ar.countVs l:=fun l=>by
     induction l with
     |nil=>simp
     |cons a l ih=>
      have hp:1≤Ar a:=by cases a <;> (unfold Ar;omega)
      rw[Ar.countVs,List.length_cons];omega
    have h1:=this ks;have h2:Ar (.con sn ks)=1+Ar.countVs ks:=rfl;omega
   obtain⟨ti,hi,hz0,hz1,hz2⟩:=info_parts Tryz.infoVl;replace hpv:RwAt X g r w (.slice a1 ks.length c1) ks.length 12 cs:=hpv;replace hvs:∀j (hj:j < ks.length),RdS B X g r w (cs j) (.th ks[j]):=hvs;clear ht hN h0;unfold svC kdV nmV tgV ksV;go_enter Tryz.func58,Tryz.ntmps58;go_wp2_with fail;generalize hW:Wa (Wa (Wa _ _) _) _=W1;obtain⟨b1,k1,k2,k3⟩:=JV hW;obtain⟨w1,hw1⟩:∃w1,w.alloc (.cells #[.int .i64 2,.int .i64 0,.string sn,.slice a1 ks.length c1,.int .i64 xx.op,.int .i64 xx.n,.string xx.s,.string xx.t,.slice a2 l2 c2,.string arg,.string self,.slice a3 l3 c3] 106)=w1:=⟨_,rfl⟩;have hs1:w1.heap.size=w.heap.size+1:=by rw[←hw1];simp
   have b1':Below w1.heap.size w1 W1:=by rw[←hW,hw1];exact((Ab _ _).alloc (Ad _) _).alloc (by simp) _
   have S0:Shw w1 W1 (.con sn ks) 0 (.slice none 0 0):=⟨b1',by rw[hs1];exact k2,by rw[hs1];exact k3,[],fun _=> #[],World.ownsRow_nil _ _ _ _,fun j hj=>absurd hj (Aw j),fun j _ hj=>absurd hj (Aw j)⟩;have HW1:=Aa (show Below w.heap.size w w1 by rw[←hw1];exact(Ab _ _).alloc (Ad _) _);have KB:=Aa k1;have B1:=Aa b1;clear k2 k3 hW b1' b1 k1 hw1
   go_loopw [4] (fun i wr=>∃ (k:Nat) (kv:Value),k≤ks.length∧i= .int .i64 k∧Shw w1 wr (.con sn ks) k kv∧Below W1.heap.size W1 W1∧Bx wr w.heap.size #[.int .i64 2,.int .i64 0,.string sn,.slice a1 ks.length c1,.int .i64 xx.op,.int .i64 xx.n,.string xx.s,.string xx.t,.slice a2 l2 c2,.string arg,.string self,.slice a3 l3 c3]) (fun i _=>ks.length - (intOf i).toNat)
   case atStart=>exact⟨0,_,Ao _,rfl,S0,Ab _ _,KB.out⟩
   case round=>
    clear S0;obtain⟨k,kv,hk,rfl,hs, -,kb⟩:=hrel;obtain⟨va,vc,rfl⟩:=hs.form;have qb:=kb.2.1;have lb:=kb.1;have bw:=HW1.out.trans (hs.bb.mono HW1.out.size);by_cases hlt:k < ks.length
    ·obtain⟨pb,po,pcap,hpe,hpk,hpcap,hpm,hpcell⟩:=hpv.at_ hlt;cases hpe
     have hki:(k:Int) < (ks.length:Int):=by omega
     have hk0:(0:Int)≤ (k:Int):=by omega
     obtain⟨kdu,nnu,ssu,a1u,l1u,c1u,xxu,a2u,l2u,c2u,argu,selfu,a3u,l3u,c3u,hcs⟩:=(hvs k hlt).formS;have HV:=Aa (fun(W:World) (hb:Below w.heap.size w W)=>(hvs k hlt).lat hb hB hr);rw[hcs]at hpcell HV;have hpc:∀i,i < 12→wr.cell? ⟨pb,po+k*12+i,none⟩= (svC kdu nnu ssu (.slice a1u l1u c1u) xxu (.slice a2u l2u c2u) argu selfu (.slice a3u l3u c3u))[i]?:=fun i hi=>(bw.cell (p:=⟨pb,po+k*12+i,none⟩) hpk.2.2.1).trans (hpcell i hi);unfold svC at hpc HV;have HS:=Aa hs;have KB2:=Aa kb;have hpw:pb < w.heap.size:=hpk.2.2.1;have HQ:=Aa (fun(W':World) (h:Below wr.heap.size wr W')=>(by
      have j1:=(kb.below h kb.1).2.1;have j2:Bx wr (w1.heap.size+1) _:=HS.out.bt;have j3:=(j2.below h j2.1).2.1;rw[hs1]at j3;have hpw2:pb < wr.heap.size:=Ah hpw bw.size;exact⟨j3 3,j1 3,(h.cell (p:=⟨pb,po+k*12,none⟩) hpw2).trans (hpc 0 (by omega)),(h.cell (p:=⟨pb,po+k*12+1,none⟩) hpw2).trans (hpc 1 (by omega)),(h.cell (p:=⟨pb,po+k*12+2,none⟩) hpw2).trans (hpc 2 (by omega)),(h.cell (p:=⟨pb,po+k*12+3,none⟩) hpw2).trans (hpc 3 (by omega)),(h.cell (p:=⟨pb,po+k*12+4,none⟩) hpw2).trans (hpc 4 (by omega)),(h.cell (p:=⟨pb,po+k*12+5,none⟩) hpw2).trans (hpc 5 (by omega)),(h.cell (p:=⟨pb,po+k*12+6,none⟩) hpw2).trans (hpc 6 (by omega)),(h.cell (p:=⟨pb,po+k*12+7,none⟩) hpw2).trans (hpc 7 (by omega)),(h.cell (p:=⟨pb,po+k*12+8,none⟩) hpw2).trans (hpc 8 (by omega)),(h.cell (p:=⟨pb,po+k*12+9,none⟩) hpw2).trans (hpc 9 (by omega)),(h.cell (p:=⟨pb,po+k*12+10,none⟩) hpw2).trans (hpc 10 (by omega)),(h.cell (p:=⟨pb,po+k*12+11,none⟩) hpw2).trans (hpc 11 (by omega))⟩:W'.cell? ⟨w.heap.size+2,3,none⟩=some (.slice va k vc)∧W'.cell? ⟨w.heap.size,3,none⟩=some (.slice (some ⟨pb,po,none⟩) ks.length c1)∧W'.cell? ⟨pb,po+k*12,none⟩=some (.int .i64 kdu)∧W'.cell? ⟨pb,po+k*12+1,none⟩=some (.int .i64 nnu)∧W'.cell? ⟨pb,po+k*12+2,none⟩=some (.string ssu)∧W'.cell? ⟨pb,po+k*12+3,none⟩=some (.slice a1u l1u c1u)∧W'.cell? ⟨pb,po+k*12+4,none⟩=some (.int .i64 xxu.op)∧W'.cell? ⟨pb,po+k*12+5,none⟩=some (.int .i64 xxu.n)∧W'.cell? ⟨pb,po+k*12+6,none⟩=some (.string xxu.s)∧W'.cell? ⟨pb,po+k*12+7,none⟩=some (.string xxu.t)∧W'.cell? ⟨pb,po+k*12+8,none⟩=some (.slice a2u l2u c2u)∧W'.cell? ⟨pb,po+k*12+9,none⟩=some (.string argu)∧W'.cell? ⟨pb,po+k*12+10,none⟩=some (.string selfu)∧W'.cell? ⟨pb,po+k*12+11,none⟩=some (.slice a3u l3u c3u)))
     clear hs kb hpc hpcell;go_wp2_with fail;clear qb lb;refine CQ 10 (S:=(fun W'=>W'.cell? ⟨w.heap.size+2,3,none⟩=some (.slice va k vc)∧W'.cell? ⟨w.heap.size,3,none⟩=some (.slice (some ⟨pb,po,none⟩) ks.length c1)∧W'.cell? ⟨pb,po+k*12,none⟩=some (.int .i64 kdu)∧W'.cell? ⟨pb,po+k*12+1,none⟩=some (.int .i64 nnu)∧W'.cell? ⟨pb,po+k*12+2,none⟩=some (.string ssu)∧W'.cell? ⟨pb,po+k*12+3,none⟩=some (.slice a1u l1u c1u)∧W'.cell? ⟨pb,po+k*12+4,none⟩=some (.int .i64 xxu.op)∧W'.cell? ⟨pb,po+k*12+5,none⟩=some (.int .i64 xxu.n)∧W'.cell? ⟨pb,po+k*12+6,none⟩=some (.string xxu.s)∧W'.cell? ⟨pb,po+k*12+7,none⟩=some (.string xxu.t)∧W'.cell? ⟨pb,po+k*12+8,none⟩=some (.slice a2u l2u c2u)∧W'.cell? ⟨pb,po+k*12+9,none⟩=some (.string argu)∧W'.cell? ⟨pb,po+k*12+10,none⟩=some (.string selfu)∧W'.cell? ⟨pb,po+k*12+11,none⟩=some (.slice a3u l3u c3u))) (by kernel_rfl) (by kernel_rfl) (by first | (dsimp only;exact HQ.out _ (Below.refl _ _).drew) | (exact HQ.out _ (Below.refl _ _).drew)) (fun hHeld=> ?_);generalize hxd:wr.drew=x1 at hHeld ⊢;have hd:Below wr.heap.size wr x1:=by rw[←hxd];exact(Ab _ _).drew
     have h1:=HS.out.same hd;clear hxd;refine tkT (i:=0) ?_;refine tkT (i:=1) ?_;refine tkT (i:=2) ?_;refine tkT (i:=3) ?_;refine tkT (i:=4) ?_;refine tkT (i:=5) ?_;refine tkT (i:=6) ?_;have hvk:∀q,(Value.slice va k vc).ownBlock=some q→q < x1.heap.size:=by
      obtain⟨ps,cs2,ho, -⟩:=h1.row;exact A5 ho
     have hw2:w1.heap.size+2≤x1.heap.size:=by have:=h1.bt.1;omega
     have HH1:=Aa h1;have bwx:=bw.trans (hd.mono bw.size);refine rdT (i:=7) (fun K hK=> ?_);go_simp;refine(IH.out k hlt _ x1 bwx (HV.out x1 bwx)).mono ?_;rintro e w2 ⟨b2,kv2,rfl,ct⟩;have h2:=HH1.out.same b2;obtain⟨ka2,kc2,rfl⟩:=ct.form;unfold vlC;refine bkT hK (by first | (dsimp only;exact HQ.out _ (hd.trans (b2.mono hd.size))) | (exact HQ.out _ (hd.trans (b2.mono hd.size)))) (fun hHeld=> ?_);clear hK K;refine rdT (i:=8) (fun K hK=> ?_);go_simp;generalize hy:w2.alloc _=w3;obtain⟨b3,k3⟩:=Bx.alloc hy;have h3:=h2.same b3;refine bkT hK (by first | (dsimp only;exact HQ.out _ (hd.trans ((b2.trans (b3.mono b2.size)).mono hd.size))) | (exact HQ.out _ (hd.trans ((b2.trans (b3.mono b2.size)).mono hd.size)))) (fun hHeld=> ?_);clear hK K;have hd3:Below wr.heap.size wr w3:=hd.trans ((b2.trans (b3.mono b2.size)).mono hd.size);have S3:=HQ.out _ hd3;refine Gv (rs:=[9]) (by kernel_rfl) (by simp) ?_;refine AllReadyT.cons (by (simp only[List.getElem?_toArray,List.getElem?_cons_succ,List.getElem?_cons_zero];rfl)) (fun K hK=> ?_) AllReadyT.nil;rw[Af (by rfl)];obtain⟨ps,hps,hnext⟩:=h3.app (M:=x1.heap.size) hlt hvk (by have:=b2.size;have:=b3.size;omega) hw2 (ct.later fun q hq hl=>⟨hq,Ah hl b3.size,b3.block q hl⟩);refine It _ _ 58 rfl (w1.heap.size+2) 60 ti (.agg #[.int .i64 0,.int .i64 0,.string ⟨#[]⟩,.slice none 0 0]) 4 56 Tryz.underlying58 hi hz0 hz1 hz2 rfl (by decide) _ _ _ rfl hps (vlC ks[k] (.slice ka2 (ksV ks[k]).length kc2)) rfl ?_ w2.heap.size rfl ?_ ?_ ?_ ?_ ?_
     ·simp[Value.oneCell',vlC]
     ·exact k3.2.1
     ·unfold maxLen;omega
     ·omega
     ·have:=b2.size;have:=b3.size;omega
     ·intro v4 w4 o4 g4 alt;obtain⟨a4,c4,rfl⟩:=AR o4;have HN:=Aa (hnext _ w4 o4 g4 (by
       rcases alt with e |e
       ·exact .inl e
       ·exact .inr ⟨_,e,Ad _⟩))
      have hpl:=hps.lt;have hb3:=hd3.size;have hbw:=bw.size;have hlw:w.heap.size < wr.heap.size:=KB2.out.1;have K4:=h3.bt.grown g4 (fun e=>by have:=hpl _ e.symm;omega);have KB4:=(KB2.out.below hd3 KB2.out.1).grown g4 (fun e=>by have:=hpl _ e.symm;omega);have KB5:=Aa KB4;rw[hs1]at K4;have hcell:∀o,w4.cell? ⟨pb,o,none⟩=w3.cell? ⟨pb,o,none⟩:=fun o=>CD (g4.block pb (by omega) (fun e=>by have:=hpl _ e.symm;omega));have S4:w4.cell? ⟨w.heap.size+2,3,none⟩=some (.slice va k vc)∧w4.cell? ⟨w.heap.size,3,none⟩=some (.slice (some ⟨pb,po,none⟩) ks.length c1)∧w4.cell? ⟨pb,po+k*12,none⟩=some (.int .i64 kdu)∧w4.cell? ⟨pb,po+k*12+1,none⟩=some (.int .i64 nnu)∧w4.cell? ⟨pb,po+k*12+2,none⟩=some (.string ssu)∧w4.cell? ⟨pb,po+k*12+3,none⟩=some (.slice a1u l1u c1u)∧w4.cell? ⟨pb,po+k*12+4,none⟩=some (.int .i64 xxu.op)∧w4.cell? ⟨pb,po+k*12+5,none⟩=some (.int .i64 xxu.n)∧w4.cell? ⟨pb,po+k*12+6,none⟩=some (.string xxu.s)∧w4.cell? ⟨pb,po+k*12+7,none⟩=some (.string xxu.t)∧w4.cell? ⟨pb,po+k*12+8,none⟩=some (.slice a2u l2u c2u)∧w4.cell? ⟨pb,po+k*12+9,none⟩=some (.string argu)∧w4.cell? ⟨pb,po+k*12+10,none⟩=some (.string selfu)∧w4.cell? ⟨pb,po+k*12+11,none⟩=some (.slice a3u l3u c3u):=by
       refine⟨K4.2.1 3,KB4.2.1 3,(hcell _).trans S3.2.2.1,(hcell _).trans S3.2.2.2.1,(hcell _).trans S3.2.2.2.2.1,(hcell _).trans S3.2.2.2.2.2.1,(hcell _).trans S3.2.2.2.2.2.2.1,(hcell _).trans S3.2.2.2.2.2.2.2.1,(hcell _).trans S3.2.2.2.2.2.2.2.2.1,(hcell _).trans S3.2.2.2.2.2.2.2.2.2.1,(hcell _).trans S3.2.2.2.2.2.2.2.2.2.2.1,(hcell _).trans S3.2.2.2.2.2.2.2.2.2.2.2.1,(hcell _).trans S3.2.2.2.2.2.2.2.2.2.2.2.2.1,(hcell _).trans S3.2.2.2.2.2.2.2.2.2.2.2.2.2⟩
      have q4:=K4.2.1;have f4:=K4.2.2;have y4:=K4.1;refine hK.out _ _ (by first | (dsimp only;exact S4) | (exact S4)) (fun hHeld=> ?_);clear hK K
      try simp only[Act.put,List.setIfInBounds_toArray,List.set_cons_zero,List.set_cons_succ]
      have HN2:=Aa (show Shw w1 (w4.setCell ⟨w.heap.size+2,3,none⟩ (.slice a4 (k+1) c4)) (.con sn ks) (k+1) (.slice a4 (k+1) c4)by have:=HN.out;rw[hs1]at this;exact this);have KB6:=Aa (show Bx (w4.setCell ⟨w.heap.size+2,3,none⟩ (.slice a4 (k+1) c4)) w.heap.size _ from KB5.out.grown (grownBy.setCell w4 (w.heap.size+2) 3 _) (fun e=>by have:=Am e;omega));unfold vlC at q4;clear h1 h2 h3 HH1 K4 KB4 hnext hps alt o4 g4 b2 b3 k3 ct hd hd3 S3 S4 hcell hpl bw bwx;refine CM (by kernel_rfl) ?_;dsimp only[List.drop];go_wp2;go_roundw
      case rel=>exact⟨k+1,_,hlt,by go_num,HN2.out,Ab _ _,KB6.out⟩
      case measure=>simp[intOf];omega
    ·obtain rfl:k=ks.length:=by omega
     have hki:¬((ks.length:Int) < (ks.length:Int)):=by omega
     have k1:=hs.bo;have k2:=hs.bt;unfold vlC at k2;rw[hs1]at k1 k2;have HS:=Aa hs;have BW:=Aa bw;clear hs kb bw;have fk1:=k1.2.2;have ck1:=k1.2.1;have yk1:=k1.1;have ck2:=k2.2.1;have yk2:=k2.1;have hne:w.heap.size+1≠w.heap.size+2:=by omega
     go_wp2;generalize hz:Ws (Ws _ _ _) _ _=z;have K1:=HS.out.bo;rw[hs1]at K1;have k5:=(((K1.st 0 (by simp) (.int .i64 2)).st 1 (by simp) (.int .i64 0)).st 2 (by simp) (.string sn)).st 3 (by simp) (.slice va ks.length vc);have g5:wr.grownBy z (some (w.heap.size+1)):=by
      rw[←hz];exact(((grownBy.setCell wr (w.heap.size+1) 0 _).trans' (grownBy.setCell _ (w.heap.size+1) 1 _)).trans' (grownBy.setCell _ (w.heap.size+1) 2 _)).trans' (grownBy.setCell _ (w.heap.size+1) 3 _)
     have c9:∀j,z.cell? ⟨w.heap.size+1,j,none⟩= #[.int .i64 2,.int .i64 0,.string sn,.slice va ks.length vc][j]?:=by
      rw[←hz];exact fun j=>(k5.2.1 j).trans rfl
     refine Aq (v:= .agg (vlC (.con sn ks) (.slice va ks.length vc))) ?_ rfl ⟨BW.out.trans (Below.of_grown g5 BW.out.size (fun q e=>by have:=Am e;omega)),_,rfl,?_⟩
     ·simp[results,Tryz.results58,go_sem,c9,vlC,kdV,nmV,tgV]
     ·refine RdTv.later (Shw.done (u:= .con sn ks) HS.out) fun q hq hl=>⟨by omega,Ah hl g5.size,g5.block q hl (fun e=>by have:=Am e;omega)⟩
theorem JQ (n:Int) (w:World):Calls Pq 118 #[.int .i64 n] w fun e w'=>e= .returned (.agg (svC 1 n eS AC Nd.zero AC eS eS AC))∧Below w.heap.size w w':=by
 go_enter Tryz.func118,Tryz.ntmps118;go_wp2_with fail;generalize hx:Wa _ _=x;obtain⟨bx,k1⟩:=Bx.alloc hx;have c9:=k1.2.1;refine Aq (v:= .agg (svC 1 n eS AC Nd.zero AC eS eS AC)) ?_ rfl ⟨rfl,bx⟩;simp[results,Tryz.results118,go_sem,c9,svC,Nd.zero,Nd.op,Nd.n,Nd.s,Nd.t];rfl
theorem JR {B g:Nat}{lv:Value}{w:World}{f c:Int}{o:List Int}{r:Option Nat}(h:Ev B g lv w f c o r) (hc:c=1∨c=2) (op n:Int) (s t:Str) (ka:Option Addr) (kl kc:Nat) (ea:Option Addr) (el ec:Nat):
  Calls Pq 56 #[.pointer (some ⟨g,0,none⟩),.agg #[.int .i64 op,.int .i64 n,.string s,.string t,.slice ka kl kc],.slice ea el ec] w fun e w'=>e= .returned (.agg sv0)∧Ev B g lv w' f c o r∧Tw g r r w w':=by
 have HH:=Aa h;have hlt:=h.lt;obtain⟨ov,h1, -, -⟩:=h.bx;have q1:∀o1 o2,((w.alloc o1).alloc o2).cell? ⟨g,2,none⟩=some (.int .i64 c):=fun o1 o2=>(Fh (p:=⟨g,2,none⟩) (by simp;omega)).trans ((Fh (p:=⟨g,2,none⟩) hlt).trans (h1.2.1 2));have hcb:(c !=0)=true:=by rcases hc with rfl |rfl <;> rfl
 clear h h1 hc;go_enter Tryz.func56,Tryz.ntmps56;go_wp2_with fail;generalize hx:Wa (Wa _ _) _=x;obtain⟨b2,k2⟩:=Bx.alloc hx;rw[Bo]at k2;have c9:=k2.2.1;have bb:Below w.heap.size w x:=((Ab _ _).alloc (Ad _) _).trans (b2.mono (by simp));refine Aq (v:= .agg sv0) ?_ rfl ⟨rfl,HH.out.same bb⟩;simp[results,Tryz.results56,go_sem,c9,sv0]
end Go.Proofs.YtifhcbeaiijkcaaGreat
