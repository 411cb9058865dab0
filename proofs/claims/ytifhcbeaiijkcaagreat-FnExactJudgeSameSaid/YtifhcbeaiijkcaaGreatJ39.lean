/- Parts of the proof of FnExactJudgeSame. -/
import Derived.Test.YtifhcbeaiijkcaaGreatJ38
import Derived.Test.YtifhcbeaiijkcaaGreatJ12
set_option linter.unusedVariables false
set_option linter.unusedSimpArgs false
set_option maxRecDepth 1000000
set_option maxHeartbeats 16000000
namespace Go.Proofs.YtifhcbeaiijkcaaGreat
open Go.RowKit
open _root_.Go.World renaming alloc→Wa,setCell→Ws
open _root_.Go.Proofs.Tryz renaming prog→Pq
theorem Pu {n sz:Nat}{at_:Nat→Array Value}{c:Array Value}(hsz:∀j,j < n→(at_ j).size=sz) (hc:c.size=sz) (h0:0 < sz):Ci n sz at_++c.toList=Ci (n+1) sz (fun j=>if j < n then at_ j else c):=by
 have hsz2:∀j,j < n+1→((fun j=>if j < n then at_ j else c) j).size=sz:=fun j hj=>by
  dsimp only;by_cases h:j < n
  ·rw[Af h];exact hsz j h
  ·rw[Ae h];exact hc
 refine Ke fun k=> ?_;by_cases hk:k < (n+1)*sz
 ·obtain⟨j,i,hj,hi,rfl⟩:=G3 hsz2 hk;rw[Ex hsz2 hj hi];by_cases h:j < n
  ·have hlt:j*sz+i < n*sz:=by
    have:(j+1)*sz≤n*sz:=Er _ h;rw[Et]at this;omega
   rw[Ff (by rw[CG];exact hlt),Ex hsz h hi];simp only[Af h]
  ·obtain rfl:j=n:=by omega
   rw[EN (by rw[CG];omega),CG,show j*sz+i - j*sz=i by omega,Array.getElem?_toList];simp only[Ae h]
 ·have hn:(n+1)*sz=n*sz+sz:=by rw[Et,GV]
  rw[FB (by rw[Bl,CG,Array.length_toList,hc];omega),FB (by rw[CG];omega)]
theorem Sw.grown {B g:Nat}{lv:Value}{w W W':World}{r rW:Option Nat}{σ:Rs Unit}{cur:Array Value}{q:Nat}{o:Option Nat}(h:Sw B g lv w r W rW σ cur q) (hg:W.grownBy W' o) (ho:∀b,o=some b→w.heap.size≤b∧b≠w.heap.size∧b≠q∧b≠g∧rW≠some b):Sw B g lv w r W' rW σ cur q:=by
 cases o with
 |none=>exact h.same (Below.of_grown hg (Ad _) (fun q e=>by cases e))
 |some b=>
  obtain⟨h1,h2,h3,h4,h5⟩:=ho b rfl;exact⟨h.ev.grown hg h4 h5,h.tw.grown hg h1,h.bx.grown hg (fun e=>h2 (Am e).symm),h.rx.grown hg (fun e=>h3 (Am e).symm),h.qw,h.nb,h.nq,h.ng,h.nr⟩
theorem RdS.grow {B g:Nat}{Y:Nat→Prop}{rW:Option Nat}{W W':World}{c:Array Value}{x:Xl}{o:Option Nat}(h:RdS B Y g rW W c x) (hg:W.grownBy W' o) (ho:∀b,o=some b→Y b∧B≤b) (hB:B≤W.heap.size) (hr:∀k,rW=some k→k < W.heap.size):RdS B Y g rW W' c x:=by
 cases o with
 |none=>
  have hb:Below W.heap.size W W':=Below.of_grown hg (Ad _) (fun q e=>by cases e);exact h.lat hb hB hr
 |some b=>
  obtain⟨h1,h2⟩:=ho b rfl;exact h.wrote b h1 hg (Below.of_grown hg hB (fun q e=>by cases e;exact h2))
theorem KN {g base sz:Nat}{r r':Option Nat}{w w':World}{e:TypeId}{v:Value}{n:Nat}{xs:List Value}(h:w.ownsRow base e sz v n xs) (t:Tw g r r' w w') (hg:∀q,v.ownBlock=some q→q≠g∧r≠some q):w'.ownsRow base e sz v n xs:=by
 refine⟨h.1,?_⟩;rcases h.2 with hn |⟨q,cap,cur,rfl,hb,hgg,rest⟩
 ·exact .inl hn
 ·obtain⟨h1,h2⟩:=hg q rfl;exact .inr ⟨q,cap,cur,rfl,hb,by rw[t.block q (h.lt q rfl).2 h1 h2];exact hgg,rest⟩
structure CnS (B g T:Nat) (X:Nat→Prop) (lv:Value) (s:Str) (w:World) (r:Option Nat) (cur:Array Value) (W:World) (rW:Option Nat) (σ:Rs Unit) (kv:Value) (n:Nat) (cs:Nat→Array Value) (vs:List Vl) (Y:Nat→Prop):Prop where
 now:Sw B g lv w r W rW σ cur (w.heap.size+1)
 bt:Bx W (T) (svC 2 0 s kv Nd.zero AC eS eS AC)
 nt:rW≠some (T)
 gt:g < w.heap.size
 hT:w.heap.size+2≤T
 own:W.ownsRow (T+1) 106 12 kv n (Ci n 12 cs)
 sz:∀j,j < n→(cs j).size=12
 nq:∀q,kv.ownBlock=some q→rW≠some q∧Y q
 xy:∀b,X b→Y b
 yx:∀b,b < w.heap.size→Y b→X b
 yl:∀b,Y b→b < W.heap.size
 yt:Y (T)
 yq:Y (w.heap.size+1)
 rd:∀t,σ= .ok () t→vs.length=n∧ ∀j (h:j < vs.length),RdS B Y g rW W (cs j) (.th vs[j])
section
variable {B g T:Nat}{X Y:Nat→Prop}{lv:Value}{s:Str}{w:World}{r:Option Nat}{cur:Array Value}{W:World}{rW:Option Nat}{σ:Rs Unit}{kv:Value}{n:Nat}{cs:Nat→Array Value}{vs:List Vl}
theorem CnS.qb (h:CnS B g T X lv s w r cur W rW σ kv n cs vs Y):∀q,kv.ownBlock=some q→T+1≤q∧q < W.heap.size:=fun q e=>h.own.lt q e
theorem CnS.call (h:CnS B g T X lv s w r cur W rW σ kv n cs vs Y) {W':World}{r':Option Nat}{σ':Rs Unit}(t:Tw g rW r' W W') (e:EvS B g lv σ' W' r') (hσ:∀t,σ'= .ok () t→ ∃t',σ= .ok () t'):CnS B g T X lv s w r cur W' r' σ' kv n cs vs Y:=by
 have hb:=h.now.ev.tw t;have hgt:=h.gt;have hT:=h.hT;refine⟨h.now.step t e,h.bt.tw t (by omega) h.nt,t.nb h.nt h.bt.1,h.gt,h.hT,KN h.own t (fun q hq=>⟨by have:=h.qb q hq;omega,(h.nq q hq).1⟩),h.sz,fun q hq=>⟨t.nb (h.nq q hq).1 (h.qb q hq).2,(h.nq q hq).2⟩,h.xy,h.yx,fun b hb=>Ah (h.yl b hb) t.size,h.yt,h.yq,fun t' ht=> ?_⟩;obtain⟨t2,h2⟩:=hσ t' ht;obtain⟨h3,h4⟩:=h.rd t2 h2;exact⟨h3,fun j hj=>(h4 j hj).later t hb⟩
theorem CnS.same (h:CnS B g T X lv s w r cur W rW σ kv n cs vs Y) {W':World}(b:Below W.heap.size W W'):CnS B g T X lv s w r cur W' rW σ kv n cs vs Y:=
 h.call (h.now.ev.same b).2 (h.now.ev.same b).1 (fun t e=>⟨t,e⟩)
theorem CnS.pre (h:CnS B g T X lv s w r cur W rW σ kv n cs vs Y) {ds:List Dt}{x y:Nd}{kvx ev kvy:Value}{env:Env}{s0 s1:Es}(P:SPre B X g lv ds x kvx ev env s0 w r) (hσ:σ= .ok () s1) (hn:Aj y=true) (hm:y∈x.kids) (hs:s1.out.length+s1.fuel≤4000) (hf:s1.fuel≤s0.fuel) (hk:RdNs B W kvy y.kids):SPre B Y g lv ds y kvy ev env s1 W rW:=by
 have he:=h.now.ev;rw[hσ]at he;exact⟨hn,by have:=AT hm;have:=Av x;have:=P.wg;omega,P.gd,P.lm.fuel hf,hs,hk,(P.re.off (fun b hb hx hy=>hx (h.yx b hb hy))).later h.now.tw (P.ev.tw h.now.tw),he,P.dtW h.now.tw,h.yl⟩
theorem CnS.app (h:CnS B g T X lv s w r cur W rW σ kv n cs vs Y) {c:Array Value}{v:Vl}(hc:c.size=12) (hv:∀t,σ= .ok () t→RdS B Y g rW W c (.th v)) {v':Value}{w4:World}(ho:w4.ownsRow (T+1) 106 12 v' (n+1) (Ci n 12 cs++c.toList)) (hg:W.grownBy w4 kv.ownBlock)
  (hat:v'.ownBlock=kv.ownBlock∨v'.ownBlock=some W.heap.size):
  CnS B g T X lv s w r cur (w4.setCell ⟨T,3,none⟩ v') rW σ v' (n+1) (fun j=>if j < n then cs j else c) (vs++ [v]) (fun b=>Y b∨v'.ownBlock=some b):=by
 have hgt:=h.gt;have hT:=h.hT;have hgB:=h.now.ev.gB;have hws:=h.now.tw.size;have hrl:=h.now.ev.row;have hqlt:∀q,kv.ownBlock=some q→T+1≤q∧q < W.heap.size:=h.qb;have hg2:=grownBy.setCell w4 (T) 3 v';have hY':∀b,b < W.heap.size→ ¬Y b→ ¬(Y b∨v'.ownBlock=some b):=fun b hb hy h2=>by
  rcases h2 with h2 |h2
  ·exact hy h2
  ·rcases hat with e |e
   ·exact hy (h.nq b (by rw[←e];exact h2)).2
   ·rw[e]at h2;have:=Am h2;omega
 have hsw4:=h.now.grown hg (fun b e=>by
  have h1:=hqlt b e;exact⟨by omega,by omega,by omega,by omega,(h.nq b e).1⟩)
 have hsw:=hsw4.grown hg2 (fun b e=>by
  have:=Am e;subst this;exact⟨by omega,by omega,by omega,by omega,h.nt⟩)
 have hbt:=(h.bt.grown hg (fun e=>by have:=hqlt _ e.symm;omega)).st 3 (by simp[svC]) v';have hread:∀ {c:Array Value} {u:Vl},RdS B Y g rW W c (.th u)→RdS B (fun b=>Y b∨v'.ownBlock=some b) g rW (w4.setCell ⟨T,3,none⟩ v') c (.th u):=fun {c u} hr0=>by
  have h1:=hr0.off hY';have h2:=h1.grow hg (fun b e=>⟨.inl (h.nq b e).2,by have:=hqlt b e;omega⟩) hgB.2 (fun k e=>(hrl k e).2);exact h2.grow hg2 (fun b e=>by have:=Am e;subst this;exact⟨.inl h.yt,by omega⟩) (At hgB.2 hg.size) (fun k e=>Ah (hrl k e).2 hg.size)
 refine⟨hsw,?_,h.nt,h.gt,h.hT,?_,fun j hj=> ?_,fun q hq=>⟨?_,.inr hq⟩,fun b hb=> .inl (h.xy b hb),fun b hb hy=> ?_,fun b hy=> ?_,.inl h.yt,.inl h.yq,fun t ht=> ?_⟩
 ·simpa [svC] using hbt
 ·rw[←Pu h.sz hc (by omega)];exact ho.kept hg2 (by
   cases hq:v'.ownBlock with
   |none=>exact .inl rfl
   |some q=>exact .inr (fun e=>by have:=(ho.lt q hq).1;have:=Am e;omega))
 ·by_cases hlt:j < n
  ·rw[Af hlt];exact h.sz j hlt
  ·rw[Ae hlt];exact hc
 ·intro e;rcases hat with e2 |e2
  ·exact(h.nq q (by rw[←e2];exact hq)).1 e
  ·rw[e2]at hq;have:=Am hq;have:=(hrl q e).2;omega
 ·rcases hy with hy |hy
  ·exact h.yx b hb hy
  ·have:=(ho.lt b hy).1;omega
 ·rcases hy with hy |hy
  ·exact Ah (h.yl b hy) (by rw[AP];exact hg.size)
  ·rw[AP];exact(ho.lt b hy).2
 ·obtain⟨h3,h4⟩:=h.rd t ht;refine⟨by rw[Bl,h3];rfl,fun j hj=> ?_⟩;rw[Bl,List.length_singleton]at hj;by_cases hlt:j < n
  ·rw[Af hlt,IB (by omega)];exact hread (h4 j (by omega))
  ·rw[Ae hlt];have hj2:j=vs.length:=by omega
   subst hj2;rw[Ka (Ad _)];simp only[FC,List.getElem_cons_zero];exact hread (hv t ht)
theorem CnS.done (h:CnS B g T X lv s w r cur W rW σ kv n cs vs Y) {t:Es}(ht:σ= .ok () t) (hX:∀b,X b→b < w.heap.size):RdS B (Xq X (w.heap.size+1)) g rW W (svC 2 0 s kv Nd.zero AC eS eS AC) (.th (.con s vs)):=by
 have hgt:=h.gt;have hT:=h.hT;obtain⟨h3,h4⟩:=h.rd t ht;refine .con s kv vs cs ?_ (fun j hj=>(h4 j hj).off (fun b _ hy hx=>hy (hx.elim (h.xy b) (fun e=>by rw[e];exact h.yq))));rw[h3];rcases h.own.2 with ⟨rfl,h0⟩ |⟨q,cap,cu,rfl,hb,hgg,hn,hm,hc,ht⟩
 ·exact .inl ⟨by omega,_,_,rfl⟩
 ·obtain⟨hq1,hq2⟩:=h.nq q rfl;have hqb:=h.qb q rfl;refine .inr ⟨q,0,cap,rfl,⟨by omega,hq1,hqb.2,fun e=>e.elim (fun e=>by have:=hX _ e;omega) (fun e=>by omega)⟩,⟨by omega,hn⟩,fun j hj=>⟨h.sz j hj,fun i hi=> ?_⟩⟩;rw[BS,Fe W q _ cu _ (0,0) hgg];have h5:=Ex h.sz hj hi;rw[←ht,DU,Af (by omega),Array.getElem?_toList]at h5;exact h5
end
def KInv (E:Nd→Env→Es→Rs Vl) (env:Env) (ks:List Nd) (s:Es) (k:Nat) (σ:Rs Unit) (vs:List Vl):Prop:=match σ with
 | .ok _ s1=>Ee vs (Bn E env (ks.drop k) s1)=Bn E env ks s
 | .bad c o=>Bn E env ks s= .bad c o
theorem KInv.zero (E:Nd→Env→Es→Rs Vl) (env:Env) (ks:List Nd) (s:Es):KInv E env ks s 0 (.ok () s) []:=KU _
theorem KInv.step {E:Nd→Env→Es→Rs Vl}{env:Env}{ks:List Nd}{s:Es}{k:Nat}{σ:Rs Unit}{vs:List Vl}(h:KInv E env ks s k σ vs) (hk:k < ks.length):KInv E env ks s (k+1) (σ.bind fun _ s1=>E ks[k] env s1).st (vs++ [(σ.bind fun _ s1=>E ks[k] env s1).val]):=by
 cases σ with
 |bad c o=>exact h
 |ok u s1=>
  have h:Ee vs (Bn E env (ks.drop k) s1)=Bn E env ks s:=h
  show KInv E env ks s (k+1) (E ks[k] env s1).st (vs++ [(E ks[k] env s1).val])
  cases hE:E ks[k] env s1 with
  |ok v s2=>exact(KV hk vs hE).symm.trans h
  |bad c o=>exact h.symm.trans (KW hk vs hE)
theorem KInv.done {E:Nd→Env→Es→Rs Vl}{env:Env}{ks:List Nd}{s:Es}{σ:Rs Unit}{vs:List Vl}(h:KInv E env ks s ks.length σ vs):Bn E env ks s=σ.bind fun _ s1=> .ok vs s1:=by
 cases σ with
 |bad c o=>exact h
 |ok u s1=>exact h.symm.trans (KX E env ks s1 vs)
theorem EvS.cell0 {B g:Nat}{lv:Value}{σ:Rs Unit}{w:World}{r:Option Nat}(h:EvS B g lv σ w r):w.cell? ⟨g,0,none⟩=some lv:=by
 obtain⟨f,c,o,h⟩:=h.ev;exact h.cells.1
def Ez (σ:Rs Unit):Rs Vl:=σ.bind fun _ s=> .bad 2 s.out
theorem Hg {B g:Nat}{lv:Value}{σ:Rs Unit}{w:World}{r:Option Nat}(h:EvS B g lv σ w r):Calls Pq 122 #[.pointer (some ⟨g,0,none⟩)] w fun e w'=>e= .returned (.agg sv0)∧Tw g r r w w'∧EvS B g lv (Ez σ).st w' r:=by
 cases σ with
 |ok u s=>
  refine(F7 (c:=0) h).mono ?_;rintro e w' ⟨he,h2,t⟩;rw[Af rfl]at h2;exact⟨he,t,.inr rfl,_,h2⟩
 |bad c o=>
  obtain⟨hc,f,h⟩:=h;refine(F7 h).mono ?_;rintro e w' ⟨he,h2,t⟩;rw[Ae (by rcases hc with rfl |rfl <;> decide)]at h2;exact⟨he,t,hc,_,h2⟩
theorem ResS.stuck {B:Nat}{X:Nat→Prop}{g:Nat}{lv:Value}{σ:Rs Unit}{w:World}{r:Option Nat}(h:EvS B g lv (Ez σ).st w r):ResS B X g lv (Ez σ) sv0 w r:=by
 cases σ with
 |ok u s=>exact⟨FormS.zero,h⟩
 |bad c o=>exact⟨FormS.zero,h⟩
theorem Tryz.infoSv:(Tryz.prog.info? 106).map (fun i=>(i.zero,i.size,i.bytes))=some (some (.agg #[.int .i64 0,.int .i64 0,.string ⟨#[]⟩,.slice none 0 0,.int .i64 0,.int .i64 0,.string ⟨#[]⟩,.string ⟨#[]⟩,.slice none 0 0,.string ⟨#[]⟩,.string ⟨#[]⟩,.slice none 0 0]),12,184):=by kernel_rfl
theorem Ui {B g:Nat}{lv:Value}{ds:List Dt}{ar:Str→Option Nat}{m:Nat}{X:Nat→Prop}{x:Nd}{kv ev:Value}{env:Env}{s:Es}{w:World}{r:Option Nat}(hm:s.fuel≤m) (P:SPre B X g lv ds x kv ev env s w r) (ho:x.op=15) (IH:Ck B g lv ds ar m) (har:ar=arP ds) (hlw:AN ds≤1048576):
  Calls Pq 124 #[.pointer (some ⟨g,0,none⟩),ndV x kv,ev] w (BH B X g lv (AI ar (Ag ar m) x env s) r w):=by
 obtain⟨lda,ldc,rfl⟩:=P.dt.form;have PP:=Aa P;have IH:=Aa IH;have hX:=P.hx;have HNK:=Aa (fun(k:Nat) (hk:k < x.kids.length)=>((Ei P.np (by omega)).2 _ (An hk):Aj x.kids[k]=true));have HM:=Aa (fun(k:Nat) (hk:k < x.kids.length)=>(An hk:x.kids[k]∈x.kids));have HE:=Aa (MD (ar:=ar) (E:=Ag ar m) (env:=env) (s:=s) ho);obtain⟨ka,kc,rfl⟩:=P.rk.form;obtain⟨ea,ec,rfl⟩:=P.re.sc_form;have hlen:=AY x.kids;have hwg:=Av x;have hpw:=P.wg;have hks:x.kids.length≤1048576:=by omega
 have hgw:=P.ev.lt;have hBw:=P.ev.gB.2;obtain⟨i0,hi0,hz0,hz1,hz2⟩:=info_parts Tryz.infoSv;have CO:=Aa (fun(W:World) (rW:Option Nat) (t:Tw g r rW w W)=>KF ds _ x.s _ W (PP.out.dtW t) hlw);have HAR:=Aa (fun(i k:Nat) (hi:i < ds.length) (hk:k < ds[i].cons.length) (h:Bp ds x.s= ((i:Int),(k:Int)))=>(by rw[har];exact Lc hi hk h:ar x.s=some ds[i].cons[k].args.length));have HAN:=Aa (fun(h:Bp ds x.s= (-1, -1))=>(by rw[har];exact Ld h:ar x.s=none));unfold ndV;clear P ho hlen hwg hpw har;go_enter Tryz.func124,Tryz.ntmps124;go_wp2_with fail;generalize hW:Wa (Wa _ _) _=W1;have N1:=Aa (PP.out.start2 hW);have hs1:W1.heap.size=w.heap.size+2:=by rw[←hW];simp
 have HS0:=Aa (fun(W:World) (h:Below W1.heap.size W1 W)=>(And.intro (Ev.cells (N1.out.same h).ev).1 ((N1.out.same h).bx.2.1 2):W.cell? ⟨g,0,none⟩=some (.slice lda ds.length ldc)∧W.cell? ⟨w.heap.size,2,none⟩=some (.string x.s)));clear hW;refine wp_region_held_drew (S:=(fun W'=>W'.cell? ⟨g,0,none⟩=some (.slice lda ds.length ldc)∧W'.cell? ⟨w.heap.size,2,none⟩=some (.string x.s))) (by kernel_rfl) (by first | (dsimp only;exact HS0.out _ (Below.refl _ _).drew) | (exact HS0.out _ (Below.refl _ _).drew)) (fun hHeld=> ?_);generalize hxd:World.drew _=x1 at hHeld ⊢;have hd1:Below W1.heap.size W1 x1:=by rw[←hxd];exact(Ab _ _).drew
 have N2:=Aa (N1.out.same hd1);clear hxd;refine tkH (i:=0) ?_;refine tkH (i:=1) ?_;refine tkH (i:=2) ?_;refine tkH (i:=3) ?_;refine tkH (i:=4) ?_;refine tkH (i:=5) ?_;refine rdH (i:=6) (fun K hK=> ?_);go_simp;refine(CO.out x1 _ N2.out.tw).mono ?_;rintro e W6 ⟨rfl,rfl⟩;refine bkH hK (by first | (dsimp only;exact HS0.out _ hd1) | (exact HS0.out _ hd1)) (fun hHeld=> ?_);clear hK K;refine tkH (i:=7) ?_;refine tkH (i:=8) ?_;refine tkH (i:=9) ?_;refine tkH (i:=10) ?_;refine tkH (i:=11) ?_;refine A2 (by kernel_rfl) ?_ _;obtain⟨ia,hia⟩:∃z,(Bp ds x.s).1=z:=⟨_,rfl⟩;obtain⟨ib,hib⟩:∃z,(Bp ds x.s).2=z:=⟨_,rfl⟩;rw[hia,hib];have HIA:=Aa hia;have HIB:=Aa hib;have qb:=N2.out.bx.2.1;have lb:=N2.out.bx.1;have hs2:=hd1.size;clear hia hib hHeld hd1;go_wp2_with fail;generalize hT:Wa _ _=W3;obtain⟨b3,k3⟩:=Bx.alloc hT;obtain⟨T,hTT⟩:∃z,W6.heap.size=z:=⟨_,rfl⟩;rw[hTT]at k3 b3 ⊢;have N3:=Aa (N2.out.same (by rw[hTT];exact b3));have hTw:w.heap.size+2≤T:=by omega
 have C0:CnS B g T X (.slice lda ds.length ldc) x.s w r #[.int .i64 x.op,.int .i64 x.n,.string x.s,.string x.t,.slice ka x.kids.length kc] W3 r (.ok () s) AC 0 (fun _=> #[]) [] (fun b=>X b∨b=T∨b=w.heap.size+1):=
  ⟨N3.out,k3,fun e=>by have:=(PP.out.ev.row _ e).2;omega,hgw,hTw,by exact World.ownsRow_nil _ _ _ _,fun j hj=>absurd hj (Aw j),fun q e=>by simp[Value.ownBlock]at e,fun b hb=> .inl hb,fun b hb hy=>by
   rcases hy with hy |hy |hy
   ·exact hy
   ·omega
   ·omega,fun b hy=>by
   have:=N3.out.rx.1;rcases hy with hy |hy |hy
   ·have:=hX b hy;omega
   ·rw[hy];exact k3.1
   ·rw[hy];exact this,.inr (.inl rfl),.inr (.inr rfl),fun t ht=>⟨rfl,fun j hj=>absurd hj (Aw j)⟩⟩
 clear qb lb hT b3 k3 hs1 hs2
 go_loopw [10] (fun i wr=>∃ (k:Nat) (rW:Option Nat) (σ:Rs Unit) (kv:Value) (cs:Nat→Array Value) (vs:List Vl) (Y:Nat→Prop),k≤x.kids.length∧i= .int .i64 k∧CnS B g T X (.slice lda ds.length ldc) x.s w r #[.int .i64 x.op,.int .i64 x.n,.string x.s,.string x.t,.slice ka x.kids.length kc] wr rW σ kv k cs vs Y∧Hid (KInv (Ag ar m) env x.kids s k σ vs)∧Hid (∀t,σ= .ok () t→t.fuel≤s.fuel∧t.out.length+t.fuel≤4000)) (fun i _=>x.kids.length - (intOf i).toNat)
 case atStart=>exact⟨0,_,_,_,_,_,_,Ao _,rfl,C0,Aa (KInv.zero _ _ _ _),Aa (fun t ht=>by cases ht;exact⟨Ad _,PP.out.sz⟩)⟩
 case round=>
  clear C0;obtain⟨k,rW,σ,kv,cs,vs,Y,hk,rfl,hC,hki,hft⟩:=hrel;have C:=Aa hC;clear hC;have qb:=C.out.now.bx.2.1;have lb:=C.out.now.bx.1;by_cases hlt:k < x.kids.length
  ·obtain⟨b,off,cap',kvy,hv',hB',hbs',hcap',⟨d0,d1,d2,d3,d4⟩,hka⟩:=(PP.out.rkW C.out.now.tw).at_ hlt;cases hv'
   have hki1:(k:Int) < (x.kids.length:Int):=by omega
   have hk0:(0:Int)≤ (k:Int):=by omega
   obtain⟨kya,kyc,rfl⟩:=hka.form;have HKA:=Aa hka;have hny:=HNK.out k hlt;have hmy:=HM.out k hlt;have HKS:=Aa (hki.out.step hlt);clear hka;generalize x.kids[k]=y at*;obtain⟨va,vc,rfl⟩:=AR C.out.own;have HQ:=Aa (fun(W':World) (r':Option Nat) (t:Tw g rW r' wr W')=>(by
    have k3:=C.out.now.bx.tw t C.out.now.ng C.out.now.nb;have k4:=C.out.bt.tw t (by have:=C.out.hT;omega) C.out.nt;have b3:=C.out.now.ev.tw t;exact⟨k4.2.1 3,k3.2.1 4,(b3.cell (p:=⟨b,off+k*5,none⟩) hB').trans d0,(b3.cell (p:=⟨b,off+k*5+1,none⟩) hB').trans d1,(b3.cell (p:=⟨b,off+k*5+2,none⟩) hB').trans d2,(b3.cell (p:=⟨b,off+k*5+3,none⟩) hB').trans d3,(b3.cell (p:=⟨b,off+k*5+4,none⟩) hB').trans d4⟩:W'.cell? ⟨T,3,none⟩=some (.slice va k vc)∧W'.cell? ⟨w.heap.size,4,none⟩=some (.slice (some ⟨b,off,none⟩) x.kids.length kc)∧W'.cell? ⟨b,off+k*5,none⟩=some (.int .i64 y.op)∧W'.cell? ⟨b,off+k*5+1,none⟩=some (.int .i64 y.n)∧W'.cell? ⟨b,off+k*5+2,none⟩=some (.string y.s)∧W'.cell? ⟨b,off+k*5+3,none⟩=some (.string y.t)∧W'.cell? ⟨b,off+k*5+4,none⟩=some (.slice kya y.kids.length kyc)))
   have TB:=Aa (fun(W':World) (h:Below wr.heap.size wr W')=>(Tw.of_below h (fun k e=>(C.out.now.ev.row k e).2):Tw g rW rW wr W'));clear d0 d1 d2 d3 d4;go_wp2_with fail;clear qb lb;refine CQ 12 (S:=(fun W'=>W'.cell? ⟨T,3,none⟩=some (.slice va k vc)∧W'.cell? ⟨w.heap.size,4,none⟩=some (.slice (some ⟨b,off,none⟩) x.kids.length kc)∧W'.cell? ⟨b,off+k*5,none⟩=some (.int .i64 y.op)∧W'.cell? ⟨b,off+k*5+1,none⟩=some (.int .i64 y.n)∧W'.cell? ⟨b,off+k*5+2,none⟩=some (.string y.s)∧W'.cell? ⟨b,off+k*5+3,none⟩=some (.string y.t)∧W'.cell? ⟨b,off+k*5+4,none⟩=some (.slice kya y.kids.length kyc))) (by kernel_rfl) (by kernel_rfl) (by first | (dsimp only;exact HQ.out _ _ (TB.out _ (Below.refl _ _).drew)) | (exact HQ.out _ _ (TB.out _ (Below.refl _ _).drew))) (fun hHeld=> ?_);generalize hxd:World.drew _=x2 at hHeld ⊢;have hd1:Below wr.heap.size wr x2:=by rw[←hxd];exact(Ab _ _).drew
   clear hxd;have C2:=Aa (C.out.same hd1);have T2:=Aa (TB.out _ hd1);have PRE:=Aa (fun(t:Es) (h:σ= .ok () t)=>(And.intro (by have:=(hft.out t h).1;omega) (C2.out.pre PP.out h hny hmy (hft.out t h).2 (hft.out t h).1 (HKA.out.later (C.out.now.ev.tw T2.out) (Ad _))):t.fuel≤m∧SPre B Y g (.slice lda ds.length ldc) ds y (.slice kya y.kids.length kyc) (.slice ea env.length ec) env t x2 rW));refine tkT (i:=0) ?_;refine tkT (i:=1) ?_;refine tkT (i:=2) ?_;refine tkT (i:=3) ?_;refine tkT (i:=4) ?_;refine tkT (i:=5) ?_;refine tkT (i:=6) ?_;refine tkT (i:=7) ?_;refine tkT (i:=8) ?_;refine rdT (i:=9) (fun K hK=> ?_);go_simp;refine(GM IH.out C2.out.now.ev PRE.out ⟨_,_,_,rfl⟩ ⟨_,_,_,rfl⟩).mono ?_;rintro e W4 ⟨c4,r4,rfl,t4,h4⟩;have H4:=Aa h4;have HF4:=Aa h4.formS;obtain⟨kd4,nn4,ss4,a14,l14,c14,xx4,a24,l24,c24,arg4,self4,a34,l34,c34,rfl⟩:=h4.formS;unfold svC;refine bkT hK (by first | (dsimp only;exact HQ.out _ _ (T2.out.trans t4)) | (exact HQ.out _ _ (T2.out.trans t4))) (fun hHeld=> ?_);clear hK K;have C4:=Aa (C2.out.call t4 h4.evS (fun t ht=>by
    cases σ with
    |ok u t0=>exact⟨t0,rfl⟩
    |bad c o=>cases ht))
   have T4:=Aa (T2.out.trans t4);refine rdT (i:=10) (fun K hK=> ?_);go_simp;generalize hy:Wa _ _=W5;obtain⟨b5,k5⟩:=Bx.alloc hy;refine bkT hK (by first | (dsimp only;exact HQ.out _ _ (T4.out.trans (C4.out.now.ev.same b5).2)) | (exact HQ.out _ _ (T4.out.trans (C4.out.now.ev.same b5).2))) (fun hHeld=> ?_);clear hK K;have C5:=Aa (C4.out.same b5);have OWN:=Aa C5.out.own;have HLT:=C4.out.hT;have T5:=Aa (T4.out.trans (C4.out.now.ev.same b5).2);have HV5:=Aa (fun(t:Es) (ht:(σ.bind fun _ s1=>Ag ar m y env s1).st= .ok () t)=>(by
    have h1:=Rs.st_ok ht;have h2:=H4.out;rw[h1]at h2;exact h2.1.later (C4.out.now.ev.same b5).2 (C4.out.now.ev.tw (C4.out.now.ev.same b5).2)))
   have hsz5:=b5.size;have hsz4:=C4.out.bt.1;refine Gv (rs:=[11]) (by kernel_rfl) (by simp) ?_;refine AllReadyT.cons (by (simp only[List.getElem?_toArray,List.getElem?_cons_succ,List.getElem?_cons_zero];rfl)) (fun K hK=> ?_) AllReadyT.nil;rw[Af (by rfl)];refine It _ _ 103 rfl (T+1) 106 i0 _ 12 184 Tryz.underlying103 hi0 hz0 hz1 hz2 rfl (by decide) _ _ _ rfl OWN.out #[.int .i64 kd4,.int .i64 nn4,.string ss4,.slice a14 l14 c14,.int .i64 xx4.op,.int .i64 xx4.n,.string xx4.s,.string xx4.t,.slice a24 l24 c24,.string arg4,.string self4,.slice a34 l34 c34] rfl ?_ W4.heap.size rfl ?_ ?_ ?_ ?_ ?_
   ·simp[Value.oneCell']
   ·exact k5.2.1
   ·unfold maxLen;omega
   ·omega
   ·omega
   ·intro v6 w6 o6 g6 alt;obtain⟨v6a,v6c,rfl⟩:=AR o6;have C6:=Aa (C5.out.app (c:=svC kd4 nn4 ss4 (.slice a14 l14 c14) xx4 (.slice a24 l24 c24) arg4 self4 (.slice a34 l34 c34)) (v:=(σ.bind fun _ s1=>Ag ar m y env s1).val) rfl HV5.out o6 g6 alt);have hqb:=C5.out.qb;have hT:=C5.out.hT;have N6:=Aa (C5.out.now.grown g6 (fun q e=>by
     have h1:=hqb q e;exact⟨by omega,by omega,by omega,by omega,(C5.out.nq q e).1⟩))
    have K6:=Aa (C5.out.bt.grown g6 (fun e=>by have:=hqb _ e.symm;omega));have S6:w6.cell? ⟨T,3,none⟩=some (.slice va k vc)∧w6.cell? ⟨w.heap.size,4,none⟩=some (.slice (some ⟨b,off,none⟩) x.kids.length kc)∧w6.cell? ⟨b,off+k*5,none⟩=some (.int .i64 y.op)∧w6.cell? ⟨b,off+k*5+1,none⟩=some (.int .i64 y.n)∧w6.cell? ⟨b,off+k*5+2,none⟩=some (.string y.s)∧w6.cell? ⟨b,off+k*5+3,none⟩=some (.string y.t)∧w6.cell? ⟨b,off+k*5+4,none⟩=some (.slice kya y.kids.length kyc):=by
     have h0:=HQ.out _ _ T5.out;have hBl:Below B W5 w6:=Below.of_grown g6 C5.out.now.ev.gB.2 (fun q e=>by have:=hqb q e;omega);exact⟨K6.out.2.1 3,N6.out.bx.2.1 4,(hBl.cell (p:=⟨b,off+k*5,none⟩) hB').trans h0.2.2.1,(hBl.cell (p:=⟨b,off+k*5+1,none⟩) hB').trans h0.2.2.2.1,(hBl.cell (p:=⟨b,off+k*5+2,none⟩) hB').trans h0.2.2.2.2.1,(hBl.cell (p:=⟨b,off+k*5+3,none⟩) hB').trans h0.2.2.2.2.2.1,(hBl.cell (p:=⟨b,off+k*5+4,none⟩) hB').trans h0.2.2.2.2.2.2⟩
    refine hK.out _ _ (by first | (dsimp only;exact S6) | (exact S6)) (fun hHeld=> ?_);clear hK K
    try simp only[Act.put,List.setIfInBounds_toArray,List.set_cons_zero,List.set_cons_succ]
    have q6:=K6.out.2.1;have f6:=K6.out.2.2;have y6:=K6.out.1;have HFT:=Aa (fun(t:Es) (ht:(σ.bind fun _ s1=>Ag ar m y env s1).st= .ok () t)=>(by
     have h1:=Rs.st_ok ht;obtain⟨s1,hs1,he1⟩:∃s1,σ= .ok () s1∧Ag ar m y env s1= .ok (σ.bind fun _ s1=>Ag ar m y env s1).val t:=by
      cases σ with
      |ok u s1=>exact⟨s1,rfl,h1⟩
      |bad c o=>cases ht
     have h2:=hft.out s1 hs1;have h3:=PP.out.kid hny hmy h2.2 h2.1 he1;exact⟨by omega,h3.2.2.2⟩:t.fuel≤s.fuel∧t.out.length+t.fuel≤4000))
    clear S6 b5 hy k5 o6 g6 alt hqb hd1 t4 h4;refine CM (by kernel_rfl) ?_;dsimp only[List.drop];go_wp2;go_roundw
    case rel=>exact⟨k+1,_,_,_,_,vs++ [(σ.bind fun _ s1=>Ag ar m y env s1).val],_,hlt,by go_num,C6.out,HKS,HFT⟩
    case measure=>simp[intOf];omega
  ·obtain rfl:k=x.kids.length:=by omega
   have HKD:=Aa hki.out.done;have HDT:=Aa (PP.out.dtW C.out.now.tw);have qg:=C.out.now.ev;have q0:=EvS.cell0 C.out.now.ev;have lg:=C.out.now.ev.lt;have hki1:¬((x.kids.length:Int) < (x.kids.length:Int)):=by omega
   clear qg hlt hki;rcases Gq ds x.s with ⟨hco, -⟩ |⟨di,hdi,dk,hdk,hco, -, -, -⟩
   ·have HNO:=Aa (show ¬(ar x.s=some x.kids.length)by rw[HAN.out hco];simp);obtain rfl:ia= -1:=by rw[←HIA.out,hco]
    obtain rfl:ib= -1:=by rw[←HIB.out,hco]
    clear hco;go_wp2_with fail;go_quiet (fail);generalize hxy:World.drewN _ _=W7;have C7:=Aa (C.out.same (Still.below ⟨_,hxy.symm⟩ _));clear hxy qb lb q0 lg;go_wp2_with fail;refine(Hg C7.out.now.ev).mono ?_;rintro e W8 ⟨rfl,t8,e8⟩;have N8:=Aa (C7.out.now.step t8 e8);clear e8 t8;unfold sv0;have K9:=Aa N8.out.rx;have ck:=K9.out.2.1;have fk:=K9.out.2.2;have yk:=K9.out.1;unfold sv0 at ck;go_wp2;generalize hz:Ws (Ws _ _ _) _ _=z;obtain⟨k9,g9⟩:=Bx.set12 K9.out (.int .i64 0) (.int .i64 0) (.string ⟨#[]⟩) (.slice none 0 0) (.int .i64 0) (.int .i64 0) (.string ⟨#[]⟩) (.string ⟨#[]⟩) (.slice none 0 0) (.string ⟨#[]⟩) (.string ⟨#[]⟩) (.slice none 0 0);rw[hz]at k9 g9;have c9:=k9.2.1;refine Aq (v:= .agg (sv0)) ?_ rfl ?_
    ·simp[results,Tryz.results124,go_sem,c9,sv0]
    ·rw[HE.out,HKD.out,show((σ.bind fun _ s1=>Rs.ok vs s1).bind fun vs s1=>if ar x.s=some x.kids.length then Rs.ok (Vl.con x.s vs) s1 else .bad 2 s1.out)=Ez σ from by cases σ <;> first |rfl | (dsimp only[Rs.bind,Ez];rw[if_neg HNO.out])];exact Sw.fin (res:=Ez σ) N8.out (.stuck N8.out.ev) hBw g9
   ·have HA:=Aa (HAR.out di dk hdi hdk hco);obtain rfl:ia= (di:Int):=by rw[←HIA.out,hco]
    obtain rfl:ib= (dk:Int):=by rw[←HIB.out,hco]
    obtain⟨eb,eo,ecap,ecv,hev,heB,hebs, -, -, -,e2,hcr⟩:=HDT.out.at_ hdi;cases hev
    obtain⟨fb,fo,fcap,fav,hfv,hfB,hfbs, -, -,f1,har2⟩:=hcr.at_ hdk;cases hfv
    obtain⟨aa,ac,rfl⟩:=har2.form;have hdi1:(di:Int) < (ds.length:Int):=by omega
    have hdi0:(0:Int)≤ (di:Int):=by omega
    have hdin:¬((di:Int) < 0):=by omega
    have hdk1:(dk:Int) < (ds[di].cons.length:Int):=by omega
    have hdk0:(0:Int)≤ (dk:Int):=by omega
    clear hco hcr har2;generalize hal:ds[di].cons[dk].args.length=al at*;clear hal;by_cases hle:al=x.kids.length
    ·have hleb:((al:Int) !=(x.kids.length:Int))=false:=by rw[hle];simp
     have HYES:=Aa (show ar x.s=some x.kids.length by rw[HA.out,hle]);clear hle;obtain⟨va,vc,rfl⟩:=AR C.out.own;go_wp2_with fail;go_quiet (fail);generalize hxy:World.drewN _ _=W7;have C7:=Aa (C.out.same (Still.below ⟨_,hxy.symm⟩ _));clear hxy qb lb q0 lg e2 f1;have qt:=C7.out.bt.2.1;have lt:=C7.out.bt.1;have hRES:=Aa (show ResS B (Xq X (w.heap.size+1)) g (.slice (some ⟨eb,eo,none⟩) ds.length ldc) (σ.bind fun _ s1=> .ok (.con x.s vs) s1) (svC 2 0 x.s (.slice va x.kids.length vc) Nd.zero AC eS eS AC) W7 rW by
      have he:=C7.out.now.ev;cases σ with
      |ok u t=>exact⟨C7.out.done rfl hX,he⟩
      |bad c o=>exact⟨⟨_,_,_,_,_,_,_,_,_,_,_,_,_,_,_,rfl⟩,he⟩)
     have N8:=Aa (show Sw B g (.slice (some ⟨eb,eo,none⟩) ds.length ldc) w r W7 rW (σ.bind fun _ s1=>Rs.ok (Vl.con x.s vs) s1).st #[.int .i64 x.op,.int .i64 x.n,.string x.s,.string x.t,.slice ka x.kids.length kc] (w.heap.size+1)by
      have h8:=C7.out.now;cases σ <;> exact h8)
     unfold svC at qt;have K9:=Aa N8.out.rx;have ck:=K9.out.2.1;have fk:=K9.out.2.2;have yk:=K9.out.1;unfold sv0 at ck;go_wp2;generalize hz:Ws (Ws _ _ _) _ _=z;obtain⟨k9,g9⟩:=Bx.set12 K9.out (.int .i64 2) (.int .i64 0) (.string x.s) (.slice va x.kids.length vc) (.int .i64 Nd.zero.op) (.int .i64 Nd.zero.n) (.string Nd.zero.s) (.string Nd.zero.t) AC (.string eS) (.string eS) AC;rw[hz]at k9 g9;have c9:=k9.2.1;refine Aq (v:= .agg (svC 2 0 x.s (.slice va x.kids.length vc) Nd.zero AC eS eS AC)) ?_ rfl ?_
     ·simp[results,Tryz.results124,go_sem,c9,svC]
     ·rw[HE.out,HKD.out,show((σ.bind fun _ s1=>Rs.ok vs s1).bind fun vs s1=>if ar x.s=some x.kids.length then Rs.ok (Vl.con x.s vs) s1 else .bad 2 s1.out)=σ.bind fun _ s1=>Rs.ok (Vl.con x.s vs) s1 from by cases σ <;> first |rfl | (dsimp only[Rs.bind];rw[if_pos HYES.out])];exact Sw.fin (res:=σ.bind fun _ s1=> .ok (.con x.s vs) s1) N8.out hRES.out hBw g9
    ·have hleb:((al:Int) !=(x.kids.length:Int))=true:=by rw[G0];omega
     have HNO:=Aa (show ¬(ar x.s=some x.kids.length)by rw[HA.out];exact fun h=>hle (Am h));clear hle;go_wp2_with fail;go_quiet (fail);generalize hxy:World.drewN _ _=W7;have C7:=Aa (C.out.same (Still.below ⟨_,hxy.symm⟩ _));clear hxy qb lb q0 lg e2 f1;go_wp2_with fail;refine(Hg C7.out.now.ev).mono ?_;rintro e W8 ⟨rfl,t8,e8⟩;have N8:=Aa (C7.out.now.step t8 e8);clear e8 t8;unfold sv0;have K9:=Aa N8.out.rx;have ck:=K9.out.2.1;have fk:=K9.out.2.2;have yk:=K9.out.1;unfold sv0 at ck;go_wp2;generalize hz:Ws (Ws _ _ _) _ _=z;obtain⟨k9,g9⟩:=Bx.set12 K9.out (.int .i64 0) (.int .i64 0) (.string ⟨#[]⟩) (.slice none 0 0) (.int .i64 0) (.int .i64 0) (.string ⟨#[]⟩) (.string ⟨#[]⟩) (.slice none 0 0) (.string ⟨#[]⟩) (.string ⟨#[]⟩) (.slice none 0 0);rw[hz]at k9 g9;have c9:=k9.2.1;refine Aq (v:= .agg (sv0)) ?_ rfl ?_
     ·simp[results,Tryz.results124,go_sem,c9,sv0]
     ·rw[HE.out,HKD.out,show((σ.bind fun _ s1=>Rs.ok vs s1).bind fun vs s1=>if ar x.s=some x.kids.length then Rs.ok (Vl.con x.s vs) s1 else .bad 2 s1.out)=Ez σ from by cases σ <;> first |rfl | (dsimp only[Rs.bind,Ez];rw[if_neg HNO.out])];exact Sw.fin (res:=Ez σ) N8.out (.stuck N8.out.ev) hBw g9
structure WnS (B g:Nat) (lv:Value) (w:World) (r:Option Nat) (cur:Array Value) (W:World) (rW:Option Nat) (σ:Rs Unit) (v:Value) (xs:List Int):Prop where
 now:Sw B g lv w r W rW σ cur (w.heap.size+1)
 own:W.ownsRow (w.heap.size+2) 3 1 v xs.length (xs.map (Value.int .i64))
 nq:∀q,v.ownBlock=some q→rW≠some q
 gt:g < w.heap.size
section
variable {B g:Nat}{lv:Value}{w:World}{r:Option Nat}{cur:Array Value}{W:World}{rW:Option Nat}{σ:Rs Unit}{v:Value}{xs:List Int}
theorem WnS.call (h:WnS B g lv w r cur W rW σ v xs) {W':World}{r':Option Nat}{σ':Rs Unit}(t:Tw g rW r' W W') (e:EvS B g lv σ' W' r'):WnS B g lv w r cur W' r' σ' v xs:=
 ⟨h.now.step t e,KN h.own t (fun q hq=>⟨by have:=(h.own.lt q hq).1;have:=h.gt;omega,h.nq q hq⟩),fun q hq=>t.nb (h.nq q hq) (h.own.lt q hq).2,h.gt⟩
theorem WnS.same (h:WnS B g lv w r cur W rW σ v xs) {W':World}(b:Below W.heap.size W W'):WnS B g lv w r cur W' rW σ v xs:=
 h.call (h.now.ev.same b).2 (h.now.ev.same b).1
theorem WnS.app (h:WnS B g lv w r cur W rW σ v xs) {x:Int}{v':Value}{w4:World}(ho:w4.ownsRow (w.heap.size+2) 3 1 v' (xs.length+1) (xs.map (Value.int .i64)++ [.int .i64 x])) (hg:W.grownBy w4 v.ownBlock) (hat:v'.ownBlock=v.ownBlock∨ ∃k,W.heap.size≤k∧v'.ownBlock=some k):
  WnS B g lv w r cur w4 rW σ v' (xs++ [x]):=by
 have hgt:=h.gt;refine⟨h.now.grown hg (fun q e=>by
  have h1:=h.own.lt q e;exact⟨by omega,by omega,by omega,by omega,h.nq q e⟩),by simpa using ho,fun q hq e=> ?_,h.gt⟩
 rcases hat with e2 |⟨k,hk,e2⟩
 ·exact h.nq q (by rw[←e2];exact hq) e
 ·rw[e2]at hq;have:=Am hq;have:=(h.now.ev.row q e).2;omega
end
def BM (E:Nd→Env→Es→Rs Vl) (env:Env):List Nd→Es→Rs (List Int)
 | [],s=> .ok [] s
 |k::ks,s=>(E k env s).bind fun v s1=>(Co v s1).bind fun a s2=>(BM E env ks s2).bind fun zs s3=> .ok (a::zs) s3
def EM (xs:List Int) (r:Rs (List Int)):Rs (List Int):=r.bind fun us s=> .ok (xs++us) s
theorem Vu (r:Rs (List Int)):EM [] r=r:=by cases r <;> rfl
def IInv (E:Nd→Env→Es→Rs Vl) (env:Env) (ks:List Nd) (s:Es) (k:Nat) (σ:Rs Unit) (xs:List Int):Prop:=match σ with
 | .ok _ s1=>EM xs (BM E env (ks.drop k) s1)=BM E env ks s
 | .bad c o=>BM E env ks s= .bad c o
theorem IInv.zero (E:Nd→Env→Es→Rs Vl) (env:Env) (ks:List Nd) (s:Es):IInv E env ks s 0 (.ok () s) []:=Vu _
section
variable {E:Nd→Env→Es→Rs Vl}{env:Env}{ks:List Nd}{s:Es}{k:Nat}{σ:Rs Unit}{xs:List Int}
theorem IInv.bad (h:IInv E env ks s k σ xs) (hk:k < ks.length) {c:Int}{o:List Int}(he:(σ.bind fun _ s1=>E ks[k] env s1)= .bad c o) (ys:List Int) (k':Nat):IInv E env ks s k' (.bad c o) ys:=by
 cases σ with
 |bad c1 o1=>cases he;exact h
 |ok u s1=>
  have h:EM xs (BM E env (ks.drop k) s1)=BM E env ks s:=h;have he:E ks[k] env s1= .bad c o:=he;rw[List.drop_eq_getElem_cons hk,BM,he]at h;exact h.symm
theorem IInv.int (h:IInv E env ks s k σ xs) (hk:k < ks.length) {v:Vl}{s2:Es}(he:(σ.bind fun _ s1=>E ks[k] env s1)= .ok v s2) {a:Int}(ha:Co v s2= .ok a s2):IInv E env ks s (k+1) (.ok () s2) (xs++ [a]):=by
 cases σ with
 |bad c1 o1=>cases he
 |ok u s1=>
  have h:EM xs (BM E env (ks.drop k) s1)=BM E env ks s:=h;have he:E ks[k] env s1= .ok v s2:=he;rw[List.drop_eq_getElem_cons hk,BM,he]at h;dsimp only[Rs.bind]at h;rw[ha]at h;dsimp only[Rs.bind]at h
  show EM (xs++ [a]) (BM E env (ks.drop (k+1)) s2)=BM E env ks s
  rw[←h];cases BM E env (ks.drop (k+1)) s2 with
  |ok zs s3=>simp[EM,Rs.bind]
  |bad c o=>rfl
theorem IInv.not (h:IInv E env ks s k σ xs) (hk:k < ks.length) {v:Vl}{s2:Es}(he:(σ.bind fun _ s1=>E ks[k] env s1)= .ok v s2) (ha:Co v s2= .bad 2 s2.out) (ys:List Int) (k':Nat):IInv E env ks s k' (.bad 2 s2.out) ys:=by
 cases σ with
 |bad c1 o1=>cases he
 |ok u s1=>
  have h:EM xs (BM E env (ks.drop k) s1)=BM E env ks s:=h;have he:E ks[k] env s1= .ok v s2:=he;rw[List.drop_eq_getElem_cons hk,BM,he]at h;dsimp only[Rs.bind]at h;rw[ha]at h;exact h.symm
theorem IInv.done (h:IInv E env ks s ks.length σ xs):BM E env ks s=σ.bind fun _ s1=> .ok xs s1:=by
 cases σ with
 |bad c o=>exact h
 |ok u s1=>
  have h:EM xs (BM E env (ks.drop ks.length) s1)=BM E env ks s:=h;rw[EO,BM]at h;rw[←h];simp[EM,Rs.bind]
end
theorem Vv {ar:Str→Option Nat}{E:Nd→Env→Es→Rs Vl}{x:Nd}{env:Env}{s:Es}{a:Nd}(h:x.op=16) (hk:x.kids=[a]):AI ar E x env s= (BM E env x.kids s).bind fun xs s1=> .ok (.int (xs.getD 0 0)) ⟨s1.fuel,s1.out++ [xs.getD 0 0]⟩:=by
 rw[MF h,show x.kid 0=a by unfold Nd.kid;rw[hk];rfl,hk];unfold BM BM;cases E a env s with
 |bad c o=>rfl
 |ok v s1=>
  cases v with
  |int n=>rfl
  |_=>rfl
theorem Vw {ar:Str→Option Nat}{E:Nd→Env→Es→Rs Vl}{x:Nd}{env:Env}{s:Es}{a b:Nd}(h:10≤x.op∧x.op≤14) (hk:x.kids=[a,b]):AI ar E x env s= (BM E env x.kids s).bind fun xs s1=> .ok (.int (Do x.op (xs.getD 0 0) (xs.getD 1 0))) s1:=by
 rw[FV h,show x.kid 0=a by unfold Nd.kid;rw[hk];rfl,show x.kid 1=b by unfold Nd.kid;rw[hk];rfl,hk];unfold BM BM BM;cases E a env s with
 |bad c o=>rfl
 |ok v s1=>
  cases v with
  |int n=>
   dsimp only[Rs.bind,Co];cases E b env s1 with
   |bad c o=>rfl
   |ok v2 s2=>
    cases v2 with
    |int n2=>rfl
    |_=>rfl
  |_=>rfl
theorem Ev.app' {B g:Nat}{lv:Value}{W w4:World}{f:Int}{o:List Int}{r:Option Nat}{ov v':Value}{x:Int}(h:Ev B g lv W f 0 o r) (hb:Bx W g #[lv,.int .i64 f,.int .i64 0,ov]) (hr:ov.ownBlock=r)
  (ho:w4.ownsRow B 3 1 v' (o.length+1) (o.map (Value.int .i64)++ [.int .i64 x])) (hg:W.grownBy w4 ov.ownBlock) (hat:v'.ownBlock=ov.ownBlock∨ ∃k,W.heap.size≤k∧v'.ownBlock=some k):
  Ev B g lv (w4.setCell ⟨g,3,none⟩ v') f 0 (o++ [x]) v'.ownBlock∧Tw g r v'.ownBlock W (w4.setCell ⟨g,3,none⟩ v'):=by
 have hne:v'.ownBlock≠some g:=by
  rcases hat with e |⟨k,hk,e⟩
  ·rw[e,hr];exact h.ne
  ·rw[e];intro e2;have:=Am e2;have:=h.lt;omega
 have hne2:some g≠ov.ownBlock:=by rw[hr];exact fun e=>h.ne e.symm
 have k4:=hb.grown hg hne2;have hlt:∀k,v'.ownBlock=some k→B≤k∧k < w4.heap.size:=fun k e=>ho.lt k e;refine⟨⟨⟨v',by simpa using k4.st 3 (by simp) v',?_,rfl⟩,⟨h.gB.1,by rw[AP];exact At h.gB.2 hg.size⟩,hne⟩,⟨hg.os,hg.tape,hg.output,by rw[AP];exact hg.size,fun k hk hkg hkr=> ?_,fun k e=>⟨?_,by rw[AP];exact(hlt k e).2⟩,fun _=>hne⟩⟩
 ·have:=ho.kept (grownBy.setCell w4 g 3 v') (.inr hne)
  simpa using this
 ·exact((grownBy.setCell w4 g 3 v').block k (Ah hk hg.size) (fun e=>hkg (Am e))).trans (hg.block k hk (fun e=>hkr (by rw[←hr];exact e.symm)))
 ·rcases hat with e2 |⟨j,hj,e2⟩
  ·rw[e2,hr]at e;exact .inl e
  ·rw[e2]at e;have:=Am e;right;omega
end Go.Proofs.YtifhcbeaiijkcaaGreat
