/- Parts of the proof of FnFuel. -/
import Derived.Test.YtifhcbeaiijkcaaGreatZ01
import Derived.LoopN
set_option linter.unusedVariables false
set_option linter.unusedSimpArgs false
set_option maxRecDepth 1000000
set_option maxHeartbeats 16000000
namespace Go.Ev
open Go
theorem RA {ρ:Rho}{s s':St}{w:World}(h:Rel ρ s w) {bl d f:Nat}{ms:List (Nat×Nat×Nat)}(hf:Jt s bl=some (s',d,f,ms)):
  Rel ρ s' w∧s'.nb=s.nb∧s'.fm.get f=some ms∧f < s'.nf∧ ∃b b',s.h.get bl=some b∧s'.h.get bl=some b'∧b'.c=b.c∧b'.fam=f+1∧b'.d=d:=by
 unfold Jt at hf;cases hb:s.h.get bl with
 |none=>rw[hb]at hf;simp at hf
 |some b=>
  rw[hb]at hf;simp only at hf;cases hfa:b.fam with
  |zero=>
   rw[hfa]at hf;simp only[Af,Ax]at hf;obtain⟨rfl,rfl,rfl,rfl⟩:=hf;have hget:∀y,(T.upd (some (⟨b.c,Nat.succ s.nf,0⟩:Bk)) s.h bl).get y=if y=bl then some ⟨b.c,Nat.succ s.nf,0⟩else s.h.get y:=fun y=>T.get_upd _ _ _ _
   have hfm:∀g,(T.upd (some [(bl,0,Bi b.c)]) s.fm s.nf).get g=if g=s.nf then some [(bl,0,Bi b.c)]else s.fm.get g:=fun g=>T.get_upd _ _ _ _
   refine⟨⟨h.dom,h.blk,?_,?_,?_,?_,?_⟩,rfl,(hfm s.nf).trans (Ag rfl),CM _,b,⟨b.c,Nat.succ s.nf,0⟩,rfl,(hget bl).trans (Ag rfl),rfl,rfl,rfl⟩
   ·intro x cb sh z b' hx hb';change (T.upd (some (⟨b.c,Nat.succ s.nf,0⟩:Bk)) s.h bl).get x=some b' at hb';rw[hget]at hb';split at hb'
    ·rename_i e;subst e;simp only[Af]at hb';subst hb';exact h.con x cb sh z b hx hb
    ·exact h.con x cb sh z b' hx hb'
   ·intro x y cb sh sh' z z' b1 b2 hne hx hy h1 h2;change (T.upd (some (⟨b.c,Nat.succ s.nf,0⟩:Bk)) s.h bl).get x=some b1 at h1;change (T.upd (some (⟨b.c,Nat.succ s.nf,0⟩:Bk)) s.h bl).get y=some b2 at h2;rw[hget]at h1 h2;split at h1
    ·rename_i e;subst e;split at h2
     ·rename_i e';exact absurd e'.symm hne
     ·have:=h.inj x y cb sh sh' z z' b b2 hne hx hy hb h2;exact absurd hfa this.2.1
    ·split at h2
     ·rename_i e';subst e';have:=h.inj x y cb sh sh' z z' b1 b hne hx hy h1 hb;exact absurd (this.1.trans hfa) this.2.1
     ·exact h.inj x y cb sh sh' z z' b1 b2 hne hx hy h1 h2
   ·intro x b' g hb' hg;change (T.upd (some (⟨b.c,Nat.succ s.nf,0⟩:Bk)) s.h bl).get x=some b' at hb';rw[hget]at hb'
    show ∃ms,(T.upd (some [(bl,0,Bi b.c)]) s.fm s.nf).get g=some ms∧_
    rw[hfm];split at hb'
    ·rename_i e;subst e;simp only[Af]at hb';subst hb';have:g=s.nf:=by simpa using hg.symm
     subst this;rw[Ag rfl];exact⟨_,rfl,by simp[Cq]⟩
    ·have hlt:=h.nfl x b' hb';rw[Ab (by omega)];exact h.fam x b' g hb' hg
   ·intro x b' hb';change (T.upd (some (⟨b.c,Nat.succ s.nf,0⟩:Bk)) s.h bl).get x=some b' at hb';rw[hget]at hb'
    show b'.fam≤s.nf+1
    split at hb'
    ·simp only[Af]at hb';subst hb';exact Ad _
    ·have:=h.nfl x b' hb';omega
   ·intro x b' hb';change (T.upd (some (⟨b.c,Nat.succ s.nf,0⟩:Bk)) s.h bl).get x=some b' at hb';rw[hget]at hb';split at hb'
    ·rename_i e;subst e;exact h.lt x b hb
    ·exact h.lt x b' hb'
  |succ g=>
   rw[hfa]at hf;simp only at hf;split at hf
   ·simp at hf
   ·rename_i ms' hms;simp only[Af,Ax]at hf;obtain⟨rfl,rfl,rfl,rfl⟩:=hf;exact⟨h,rfl,hms,by have:=h.nfl bl b hb;omega,b,b,rfl,hb,rfl,hfa,rfl⟩
theorem MM {ρ:Rho}{s:St}{w:World}(h:Rel ρ s w) {f d lo hi:Nat}{ms:List (Nat×Nat×Nat)}(hms:s.fm.get f=some ms) (l:List S):
  (∀y b,(grow s f d lo hi ms l).h.get y=some b→(y=s.nb∧b=⟨l,f+1,d⟩)∨(y≠s.nb∧s.h.get y=some b∧(b.fam=f+1→ ¬(b.d < hi∧lo < b.d+b.c.length))))∧
  (∀y b g,(grow s f d lo hi ms l).h.get y=some b→b.fam=g+1→ ∃ms',(grow s f d lo hi ms l).fm.get g=some ms'∧(y,b.d,b.c.length)∈ms'):=by
 obtain⟨k1,k2⟩:=JM s.nb lo hi s.h ms;have hget:∀y,(grow s f d lo hi ms l).h.get y=if y=s.nb then some ⟨l,f+1,d⟩else(BI s.nb lo hi s.h ms).1.get y:=fun y=>T.get_upd (some (⟨l,f+1,d⟩:Bk)) _ _ _
 have hfm:∀g,(grow s f d lo hi ms l).fm.get g=if g=f then some ((s.nb,d,Bi l)::(BI s.nb lo hi s.h ms).2)else s.fm.get g:=fun g=>T.get_upd (some ((s.nb,d,Bi l)::(BI s.nb lo hi s.h ms).2)) s.fm f g
 have hold:∀y b,y≠s.nb→(BI s.nb lo hi s.h ms).1.get y=some b→s.h.get y=some b∧(b.fam=f+1→(y,b.d,b.c.length)∈ms∧ ¬(b.d < hi∧lo < b.d+b.c.length)):=by
  intro y b hy hb;have hb':=hb;rw[k1]at hb;split at hb
  ·simp at hb
  ·rename_i hno;refine⟨hb,fun hf=> ?_⟩;obtain⟨ms',e1,e2⟩:=h.fam y b f hb hf;rw[hms]at e1;simp only[Af]at e1;subst e1;exact⟨e2,fun hov=>hno ⟨_,e2,rfl,hy,hov⟩⟩
 refine⟨fun y b hb=> ?_,fun y b g hb hg=> ?_⟩
 ·rw[hget]at hb;split at hb
  ·rename_i e;simp only[Af]at hb;exact .inl ⟨e,hb.symm⟩
  ·rename_i e;obtain⟨h1,h2⟩:=hold y b e hb;exact .inr ⟨e,h1,fun hf=>(h2 hf).2⟩
 ·rw[hget]at hb;rw[hfm];split at hb
  ·rename_i e;simp only[Af]at hb;subst hb;have:g=f:=by simpa using hg.symm
   subst this;rw[Ag rfl];exact⟨_,rfl,by simp[e,Cq]⟩
  ·rename_i e;obtain⟨h1,h2⟩:=hold y b e hb;by_cases hgf:g=f
   ·subst hgf;rw[Ag rfl];obtain⟨h3,h4⟩:=h2 hg;exact⟨_,rfl,List.mem_cons_of_mem _ ((k2 _).2 ⟨h3,.inr h4⟩)⟩
   ·rw[Ab hgf];exact h.fam y b g h1 hg
theorem RB {ρ:Rho}{s:St}{w:World}(h:Rel ρ s w) {f d lo hi:Nat}{ms:List (Nat×Nat×Nat)}(hms:s.fm.get f=some ms) (hfn:f < s.nf) {l:List S}{cells:Array Value}(hlen:l.length≤cells.size)
  (hl:∀ (i:Nat) sv,l[i]?=some sv→ ∃cv,cells[i]?=some cv∧SR ρ sv cv) (el:TypeId):
  Rel (ρ.with s.nb (w.heap.size,0,cells.size)) (grow s f d lo hi ms l) (w.alloc (.cells cells el))∧Go s ρ w (grow s f d lo hi ms l) (ρ.with s.nb (w.heap.size,0,cells.size)) (w.alloc (.cells cells el)):=by
 obtain⟨g1,g2⟩:=MM (d:=d) (lo:=lo) (hi:=hi) h hms l;obtain⟨ra,go⟩:=h.alloc' hlen hl el;refine⟨⟨ra.dom,ra.blk,?_,?_,g2,?_,?_⟩,go.states rfl rfl⟩
 ·intro x cb sh z b hx hb;rcases g1 x b hb with ⟨rfl,rfl⟩ |⟨hne,hb',_⟩
  ·exact ra.con s.nb cb sh z ⟨l,0,0⟩ hx (by rw[Cw,Ag rfl])
  ·exact ra.con x cb sh z b hx (by rw[Cw,Ab hne];exact hb')
 ·intro x y cb sh sh' z z' bx b' hne hx hy hbx hby;rcases g1 x bx hbx with ⟨rfl,rfl⟩ |⟨hnx,hbx',_⟩
  ·rcases g1 y b' hby with ⟨rfl,rfl⟩ |⟨hny,hby',_⟩
   ·exact absurd rfl hne
   ·rw[Rho.with_at]at hx;rw[Rho.with_ne hny]at hy;simp only[Af,Ax]at hx;have:=h.block_lt hy;omega
  ·rcases g1 y b' hby with ⟨rfl,rfl⟩ |⟨hny,hby',_⟩
   ·rw[Rho.with_at]at hy;rw[Rho.with_ne hnx]at hx;simp only[Af,Ax]at hy;have:=h.block_lt hx;omega
   ·rw[Rho.with_ne hnx]at hx;rw[Rho.with_ne hny]at hy;exact h.inj x y cb sh sh' z z' bx b' hne hx hy hbx' hby'
 ·intro x b hb
  show b.fam≤s.nf
  rcases g1 x b hb with ⟨rfl,rfl⟩ |⟨hne,hb',_⟩
  ·exact hfn
  ·exact h.nfl x b hb'
 ·intro x b hb
  show x < s.nb+1
  rcases g1 x b hb with ⟨rfl,rfl⟩ |⟨hne,hb',_⟩
  ·omega
  ·have:=h.lt x b hb';omega
theorem RC {ρ:Rho}{s:St}{w:World}(h:Rel ρ s w) {f:Nat}{ms:List (Nat×Nat×Nat)}(hms:s.fm.get f=some ms) (hfn:f < s.nf) {bl o k:Nat}{b:Bk}(hb:s.h.get bl=some b) (hbf:b.fam=f+1)
  {cb sh z:Nat} (hx:ρ bl=some (cb,sh,z)) {old ns:List S} (hold:old.length=k) (hoc:∀ (i:Nat) sv,old[i]?=some sv→b.c[o+i]?=some sv) {vs:List Value} (hl:LR (SR ρ) ns vs) (hroom:sh+o+k+vs.length≤z):
  ∃cur e,w.heap[cb]?=some (.cells cur e (0,0))∧sh+o+k+vs.length≤cur.size∧
   Rel (ρ.with s.nb (cb,sh+o,z)) (grow s f (b.d+o) (b.d+o+k) (b.d+o+k+ns.length) ms (old++ns)) (w.setRow cb (cur.toList.take (sh+o+k)++vs++cur.toList.drop (sh+o+k+vs.length)).toArray)∧
   Go s ρ w (grow s f (b.d+o) (b.d+o+k) (b.d+o+k+ns.length) ms (old++ns)) (ρ.with s.nb (cb,sh+o,z)) (w.setRow cb (cur.toList.take (sh+o+k)++vs++cur.toList.drop (sh+o+k+vs.length)).toArray):=by
 obtain⟨g1,g2⟩:=MM (d:=b.d+o) (lo:=b.d+o+k) (hi:=b.d+o+k+ns.length) h hms (old++ns);obtain⟨cur,e,hc,hz⟩:=h.blk bl cb sh z hx;obtain⟨hcl,hcon⟩:=h.con bl cb sh z b hx hb;have hlen:=hl.length;have hroom':sh+o+k+vs.length≤cur.size:=by omega
 have hle:ρ.le (ρ.with s.nb (cb,sh+o,z)):=Rho.with_le h.none;refine⟨cur,e,hc,hroom',?_⟩;have hput:∀i,(w.setRow cb (cur.toList.take (sh+o+k)++vs++cur.toList.drop (sh+o+k+vs.length)).toArray).cell? ⟨cb,i,none⟩=if sh+o+k≤i∧i < sh+o+k+vs.length then vs[i - (sh+o+k)]? else w.cell? ⟨cb,i,none⟩:=by
  intro i;rw[cell_setRow_same w cb i cur _ e (0,0) hc,MA cur vs (sh+o+k) i hroom']
  congr 1
  exact(FM w cb i cur e (0,0) hc).symm
 have hcase:∀x q,ρ.with s.nb (cb,sh+o,z) x=some q→(x=s.nb∧q= (cb,sh+o,z))∨(x≠s.nb∧ρ x=some q):=by
  intro x q hq;by_cases hk:x=s.nb
  ·subst hk;rw[Rho.with_at]at hq;exact .inl ⟨rfl,(Ah hq).symm⟩
  ·exact .inr ⟨hk,by rw[Rho.with_ne hk]at hq;exact hq⟩
 have hcoord:∀y b' sh' z',y≠s.nb→ρ y=some (cb,sh',z')→s.h.get y=some b'→b'.fam=f+1∧sh'+b.d=sh+b'.d:=by
  intro y b' sh' z' hy hy' hb';by_cases hyb:y=bl
  ·subst hyb;rw[hx]at hy';simp only[Af,Ax]at hy';rw[hb]at hb';simp only[Af]at hb';subst hb';exact⟨hbf,by omega⟩
  ·have:=h.inj y bl cb sh' sh z' z b' b hyb hy' hx hb' hb;exact⟨this.1.trans hbf,this.2.2⟩
 refine⟨⟨?_,?_,?_,?_,g2,?_,?_⟩,⟨hle,rfl,rfl,rfl,by simp,?_,?_,AQ _,fun x y hxy=>by rcases hcase x y hxy with ⟨rfl,_⟩ |⟨_,h'⟩;exact .inr (Ad _);exact .inl h'⟩⟩
 ·intro x q hq
  show x < s.nb+1
  rcases hcase x q hq with ⟨rfl,_⟩ |⟨_,hq⟩
  ·omega
  ·have:=h.dom _ _ hq;omega
 ·intro x cb' sh' z' hq;have hany:∃y sh'',ρ y=some (cb',sh'',z'):=by
   rcases hcase x _ hq with ⟨_,hq⟩ |⟨_,hq⟩
   ·simp only[Ax]at hq;obtain⟨rfl,_,rfl⟩:=hq;exact⟨bl,sh,hx⟩
   ·exact⟨x,sh',hq⟩
  obtain⟨y,sh'',hy⟩:=hany;obtain⟨cs,e',h1,h2⟩:=h.blk y cb' sh'' z' hy;by_cases hcc:cb'=cb
  ·subst hcc;rw[hc]at h1;simp only[Af,Obj.cells.injEq]at h1;obtain⟨rfl,rfl,_⟩:=h1;refine⟨_,e,setRow_heap w cb' cur _ e (0,0) hc,?_⟩;rw[←h2];simp;omega
  ·exact⟨cs,e',by rw[setRow_other w cb cb' _ hcc];exact h1,h2⟩
 ·intro x cb' sh' z' b' hq hb';rcases g1 x b' hb' with ⟨rfl,rfl⟩ |⟨hne,hb'',hno⟩
  ·rw[Rho.with_at]at hq;simp only[Af,Ax]at hq;obtain⟨rfl,rfl,rfl⟩:=hq;refine⟨by simp only[AV];omega,fun i sv hi=> ?_⟩;rw[hput];by_cases hik:i < k
   ·rw[BV (by omega)]at hi;rw[Ab (by omega)];obtain⟨cv,h1,h2⟩:=hcon (o+i) sv (hoc i sv hi);exact⟨cv,by rw[Da];exact h1,h2.mono hle⟩
   ·rw[Cp (by omega),hold]at hi;have hi':i - k < ns.length:=(Em.1 hi).1;rw[Ag (by omega)];obtain⟨cv,h1,h2⟩:=hl.get hi;exact⟨cv,by rw[show sh+o+i - (sh+o+k)=i - k by omega];exact h1,h2.mono hle⟩
  ·rw[Rho.with_ne hne]at hq;obtain⟨h1,h2⟩:=h.con x cb' sh' z' b' hq hb'';refine⟨h1,fun i sv hi=> ?_⟩;obtain⟨cv,h3,h4⟩:=h2 i sv hi;refine⟨cv,?_,h4.mono hle⟩;by_cases hcc:cb'=cb
   ·subst hcc;obtain⟨c1,c2⟩:=hcoord x b' sh' z' hne hq hb'';have hno':=hno c1;have hi':i < b'.c.length:=(Em.1 hi).1;rw[hput,Ab]
    ·exact h3
    ·omega
   ·rw[cell_setRow_other w cb _ _ hcc];exact h3
 ·intro x y cb' sh1 sh2 z1 z2 b1 b2 hne hq1 hq2 h3 h4;rcases g1 x b1 h3 with ⟨rfl,rfl⟩ |⟨hnx,h3',_⟩
  ·rcases g1 y b2 h4 with ⟨rfl,rfl⟩ |⟨hny,h4',_⟩
   ·exact absurd rfl hne
   ·rw[Rho.with_at]at hq1;rw[Rho.with_ne hny]at hq2;simp only[Af,Ax]at hq1;obtain⟨rfl,rfl,rfl⟩:=hq1;obtain⟨c1,c2⟩:=hcoord y b2 sh2 z2 hny hq2 h4';exact⟨c1.symm,Nat.succ_ne_zero _,by show sh+o+b2.d=sh2+ (b.d+o);omega⟩
  ·rcases g1 y b2 h4 with ⟨rfl,rfl⟩ |⟨hny,h4',_⟩
   ·rw[Rho.with_at]at hq2;rw[Rho.with_ne hnx]at hq1;simp only[Af,Ax]at hq2;obtain⟨rfl,rfl,rfl⟩:=hq2;obtain⟨c1,c2⟩:=hcoord x b1 sh1 z1 hnx hq1 h3';exact⟨c1,by rw[c1];exact Nat.succ_ne_zero _,by show sh1+ (b.d+o)=sh+o+b1.d;omega⟩
   ·rw[Rho.with_ne hnx]at hq1;rw[Rho.with_ne hny]at hq2;exact h.inj x y cb' sh1 sh2 z1 z2 b1 b2 hne hq1 hq2 h3' h4'
 ·intro x b' hb'
  show b'.fam≤s.nf
  rcases g1 x b' hb' with ⟨rfl,rfl⟩ |⟨hne,hb'',_⟩
  ·exact hfn
  ·exact h.nfl x b' hb''
 ·intro x b' hb'
  show x < s.nb+1
  rcases g1 x b' hb' with ⟨rfl,rfl⟩ |⟨hne,hb'',_⟩
  ·omega
  ·have:=h.lt x b' hb'';omega
 ·intro c hc' hnot;exact setRow_other w cb c _ (fun e=>hnot bl sh z (by rw[e];exact hx))
 ·intro x cb' sh' z' hq;rcases hcase x _ hq with ⟨_,hq⟩ |⟨_,hq⟩
  ·simp only[Ax]at hq;obtain⟨rfl,_,rfl⟩:=hq;exact .inl ⟨bl,sh,z',hx⟩
  ·exact .inl ⟨x,sh',z',hq⟩
theorem LR.one {ρ:Rho}{l:List S}{vs:List Value}(h:LR (SR ρ) l vs):∀v∈vs,v.oneCell'=true:=LR.all (Q:=fun v=>v.oneCell'=true) (fun _ _=>SR.one) h
theorem MN {P:Program}{ρ:Rho}{s s':St}{w:World}(h:Rel ρ s w) {x o n:Nat}{l:List S}(hs:store s x o n l=some s') {cb sh z:Nat}(hx:ρ x=some (cb,sh,z)) {vs:List Value}(hl:LR (SR ρ) l vs):
  vs.length=n∧ ∃w',(storeCells ⟨cb,sh+o,none⟩ vs).run P w= .ok () w'∧Rel ρ s' w'∧Go s ρ w s' ρ w':=by
 unfold store at hs;replace hs:=Bh hs;obtain⟨hn,hs⟩:=hs;rw[Bf,BQ,Cq]at hn;split at hs
 ·rename_i s1 hp;obtain⟨r1,r2,rnb,_,⟨b,r3,_,r4⟩,_⟩:=JN h hp;subst hn;obtain⟨cur,e,h1,h2,h3,h4⟩:=MB r1 hs hx r2 (fun b' hb'=>by rw[r3]at hb';simp only[Af]at hb';subst hb';exact r4) hl;refine⟨hl.length.symm,_,?_,h3,h4.states rnb.symm rfl⟩;have:=run_storeCells_at P cb (sh+o) e vs 0 cur w h1 (by simpa using h2) hl.one
  simpa only[Nat.add_zero] using this
 ·simp at hs
theorem RE {P:Program}(w:World) (t ty e:TypeId) (i:TypeInfo) (ht:P.underlying t=some (.slice e)) (hi:P.info? e=some i)
  (g off sLen sCap:Nat) (cur:Array Value) (el:TypeId) (hg:w.heap[g]?=some (.cells cur el (0,0)))
  (a:Addr) (m c:Nat) (news:List Value) (hl:news.length=m*i.size) (hnews:∀j u,news[j]?=some u→w.cell? (a.add j)=some u) (h1:∀u∈news,u.oneCell'=true)
  (hroom:sLen+m≤sCap) (hfit:off+sLen*i.size+news.length≤cur.size):
  (Builtin.append_ #[t,t] ty #[.slice (some ⟨g,off,none⟩) sLen sCap,.slice (some a) m c]).run P w=
   .ok (.slice (some ⟨g,off,none⟩) (sLen+m) sCap) (w.setRow g (cur.toList.take (off+sLen*i.size)++news++cur.toList.drop (off+sLen*i.size+news.length)).toArray):=by
 have hf:=run_firstCells_some (P:=P) w i.size m a m c news hl hnews;have hst:=run_storeCells_at P g (off+sLen*i.size) el news 0 cur w hg (by simpa using hfit) h1;simp only[Nat.add_zero]at hst;simp[Builtin.append_,run_underlying ht,sizeOf,typeInfo,hi,Builtin.lenOf,hroom,hf,It,hst]
theorem MQ {P:Program}(w:World) (t ty e:TypeId) (i:TypeInfo) (ht:P.underlying t=some (.slice e)) (hi:P.info? e=some i) (b:Option Addr) (n c:Nat) (hc:n≤c) (a:Option Addr) (c':Nat):
  (Builtin.append_ #[t,t] ty #[.slice b n c,.slice a 0 c']).run P w= .ok (.slice b n c) w:=by
 have h0:(Builtin.firstCells i.size 0 (.slice a 0 c')).run P w= .ok #[] w:=by
  cases a with
  |none=>simp[Builtin.firstCells]
  |some a=>simp[Builtin.firstCells,loadCells,loadCellsFrom]
 cases b with
 |none=>simp[Builtin.append_,run_underlying ht,sizeOf,typeInfo,hi,Builtin.lenOf,hc,h0]
 |some b=>simp[Builtin.append_,run_underlying ht,sizeOf,typeInfo,hi,Builtin.lenOf,hc,h0,storeCells]
theorem RF {ρ:Rho}{s:St}{w:World}(h:Rel ρ s w) {sz m:Nat}{y:S}{ns:List S}(hn:HJ s sz y=some (m,ns)) {cy:Value}(hy:SR ρ y cy):
  ∃a c,cy= .slice a m c∧((m=0∧ns=[])∨ ∃ (ad:Addr) (vs:List Value),a=some ad∧0 < m∧ns.length=m*sz∧vs.length=m*sz∧LR (SR ρ) ns vs∧ ∀j v,vs[j]?=some v→w.cell? (ad.add j)=some v):=by
 unfold HJ at hn;split at hn
 ·simp only[Af,Ax]at hn;obtain⟨rfl,rfl⟩:=hn;exact⟨none,0,hy,.inl ⟨rfl,rfl⟩⟩
 ·rename_i bl o n sz' full;replace hn:=Bh hn;obtain⟨h1,hn⟩:=hn;rw[Bf,BQ]at h1;subst h1;obtain⟨cb,sh,zz,ad,cap,r1,r2,r3,r4,r5,r6,r7⟩:=hy;cases n with
  |zero=>
   simp only[Af,Ax]at hn;obtain⟨rfl,rfl⟩:=hn;exact⟨some ad,cap,r2,.inl ⟨rfl,rfl⟩⟩
  |succ n=>
   simp only at hn;split at hn
   ·rename_i l hl;simp only[Af,Ax]at hn;obtain⟨rfl,rfl⟩:=hn;obtain⟨cs,g1,g2,g3⟩:=h.cells_there hl r1;refine⟨some ad,cap,r2,.inr ⟨ad,cs,rfl,Nat.succ_pos _,by rw[g2.length];exact g1,g1,g2,?_⟩⟩;rw[r5 (by omega)];exact g3
   ·simp at hn
 ·simp at hn
theorem JO:m47=140737488355328:=rfl
theorem RG {P:Program}{ty:TypeId→Option TyI}(hty:TyOk P ty) {t el:TypeId}{j:TyI}(hu:P.underlying t=some (.slice el)) (hj:ty el=some j) (hz:j.sz≠0) (hzl:j.z.length=j.sz) {ρ:Rho}{s s':St}{w:World}(h:Rel ρ s w)
  {x y:S} {cx cy:Value} (hx:SR ρ x cx) (hy:SR ρ y cy) {v:V} (hv:app s j.sz j.by_ x y=some (v,s')) (ty':TypeId):
  ∃cv w' ρ',(Builtin.append_ #[t,t] ty' #[cx,cy]).run P w= .ok cv w'∧VR ρ' v cv∧Rel ρ' s' w'∧Go s ρ w s' ρ' w':=by
 obtain⟨inf,zv,hi1,hi2,hi3,hi4,hi5⟩:=hty.info hj;have hzs:zv.cells.size=inf.size:=by
  have:=(DM ρ hi5).length;rw[hi2,←hzl,this];simp
 unfold app at hv;split at hv
 ·simp at hv
 ·rename_i m ns hn;obtain⟨ay,cc,rfl,hnews⟩:=RF h hn hy;split at hv
  ·split at hv
   ·simp only[Af,Ax]at hv;obtain⟨rfl,rfl⟩:=hv;have hx':cx= .slice none 0 0:=hx;subst hx';exact⟨_,w,ρ,MQ w t ty' el inf hu hi1 _ _ _ (Ad _) ay cc,hx,h,Go.refl _ _ _⟩
   ·simp only[Af,Ax]at hv;obtain⟨rfl,rfl⟩:=hv;have hx':=hx;obtain⟨cb,sh,zz,ad,cap,r1,r2,r3,r4,r5,r6,r7⟩:=hx';subst r2;exact⟨_,w,ρ,MQ w t ty' el inf hu hi1 _ _ _ r3 ay cc,hx,h,Go.refl _ _ _⟩
   ·simp at hv
  ·rename_i m';rcases hnews with ⟨h0,_⟩ |⟨ad',vs,rfl,hm0,hnl,hvl,hnr,hnc⟩
   ·exact absurd h0 (Nat.succ_ne_zero _)
   ·have hvl':vs.length= (m'+1)*inf.size:=by rw[hi2];exact hvl
    have pre:∀ (olds:List Value) (old:List S),LR (SR ρ) old olds→ ∀ (k:Nat),
      (old++ns).length≤ (olds.toArray++vs.toArray++Builtin.zeroCells zv.cells k).size∧
      ∀ (i:Nat) sv,(old++ns)[i]?=some sv→ ∃cv,(olds.toArray++vs.toArray++Builtin.zeroCells zv.cells k)[i]?=some cv∧SR ρ sv cv:=by
     intro olds old ho k;have hl:=(ho.append hnr).length;refine⟨by simp at hl ⊢;omega,fun i sv hi=> ?_⟩;obtain⟨cv,h1,h2⟩:=(ho.append hnr).get hi;have hi':i < (olds++vs).length:=(Em.1 h1).1;refine⟨cv,?_,h2⟩;have:(olds.toArray++vs.toArray++Builtin.zeroCells zv.cells k).toList[i]?=some cv:=by
      simp only[Array.toList_append];rw[BV hi'];exact h1
     rw[←Array.getElem?_toList];exact this
    split at hv
    ·obtain⟨hb,hv⟩:=Bh hv;obtain⟨hb1,hb2⟩:=F6 hb;rw[JO]at hb1;rw[GO]at hb2;simp only[Af,Ax]at hv;obtain⟨rfl,rfl⟩:=hv;have hx':cx= .slice none 0 0:=hx;subst hx';have hb1':(m'+1)*inf.bytes≤140737488355328:=by rw[hi3];exact hb1
     have hb2':m'+1≤9223372036854775807:=hb2;have hrun:=run_append_nil (P:=P) w t ty' el inf zv hu hi1 hi4 ad' (m'+1) cc vs hvl' hnc (by omega) (by omega) (by omega);obtain⟨p1,p2⟩:=pre [] [] trivial (grownCap w (m'+1) 0 el - (m'+1));simp only[List.nil_append]at p1 p2;have e0:(([]:List Value).toArray++vs.toArray++Builtin.zeroCells zv.cells (grownCap w (m'+1) 0 el - (m'+1)))=vs.toArray++Builtin.zeroCells zv.cells (grownCap w (m'+1) 0 el - (m'+1)):=by simp
     rw[e0]at p1 p2;obtain⟨a1,a2⟩:=h.drew.alloc' p1 p2 el;refine⟨_,_,_,hrun,?_,a1,⟨a2.le,a2.os,a2.tape,a2.output,a2.size,a2.block,a2.new,a2.nbs,a2.fresh⟩⟩;have hge:=grownCap_ge w (m'+1) 0 el;refine⟨w.heap.size,0,_,_,_,Rho.with_at _ _ _,rfl,hge,fun hh=>by simp at hh,fun _=>rfl,?_,by omega⟩;simp only[FL,I4,List.size_toArray,hvl',hzs,hi2];rw[←Dg];have:(m'+1)+ (grownCap w (m'+1) 0 el - (m'+1))=grownCap w (m'+1) 0 el:=by omega
     rw[this];omega
    ·rename_i bl o n sz' full;replace hv:=Bh hv;obtain⟨hb,hv⟩:=hv;obtain⟨hb0,hb9⟩:=(AH _ _).mp hb;rw[Bf,BQ]at hb0;subst hb0;obtain⟨hb1,hb2⟩:=F6 hb9;rw[JO]at hb1;rw[GO]at hb2;have hb1':(n+ (m'+1))*inf.bytes≤140737488355328:=by rw[hi3];exact hb1
     have hb2':n+ (m'+1)≤9223372036854775807:=hb2;have hxx:=hx;obtain⟨cb,sh,zz,ad,cap,r1,r2,r3,r4,r5,r6,r7⟩:=hxx;subst r2;split at hv
     ·simp at hv
     ·rename_i old hold;have holds:∃olds:List Value,olds.length=n*inf.size∧old.length=n*j.sz∧LR (SR ρ) old olds∧(∀jj v,olds[jj]?=some v→w.cell? (ad.add jj)=some v)∧
        ∀b,s.h.get bl=some b→ ∀ (i:Nat) sv,old[i]?=some sv→b.c[o+i]?=some sv:=by
       cases n with
       |zero=>
        simp only[Af]at hold;subst hold;exact⟨[],by simp,by simp,trivial,fun _ _ h=>by simp at h,fun _ _ _ _ h=>by simp at h⟩
       |succ n=>
        simp only at hold;obtain⟨cs,g1,g2,g3⟩:=h.cells_there hold r1;refine⟨cs,by rw[hi2];exact g1,by rw[g2.length];exact g1,g2,?_,?_⟩
        ·rw[r5 (by omega)];exact g3
        ·intro b hb i sv hi;unfold cellsAt at hold;rw[hb]at hold;simp only at hold;obtain⟨_,hold⟩:=Bh hold;simp only[Af,GN,GM]at hold;rw[←hold,Ej]at hi;split at hi
         ·simpa using hi
         ·simp at hi
      obtain⟨olds,ho1,ho2,ho3,ho4,ho5⟩:=holds;have hge:=grownCap_ge w (n+ (m'+1)) cap el;have fresh:cap < n+ (m'+1)→ ∀ (s2:St),(∀cells:Array Value,(old++ns).length≤cells.size→(∀ (i:Nat) sv,(old++ns)[i]?=some sv→ ∃cv,cells[i]?=some cv∧SR ρ sv cv)→
        Rel (ρ.with s.nb (w.drew.heap.size,0,cells.size)) s2 (w.drew.alloc (.cells cells el))∧Go s ρ w.drew s2 (ρ.with s.nb (w.drew.heap.size,0,cells.size)) (w.drew.alloc (.cells cells el)))→
        ∃cv w' ρ',(Builtin.append_ #[t,t] ty' #[.slice (some ad) n cap,.slice (some ad') (m'+1) cc]).run P w= .ok cv w'∧VR ρ' (.c (.l s.nb 0 (n+ (m'+1)) j.sz false)) cv∧Rel ρ' s2 w'∧Go s ρ w s2 ρ' w':=by
       intro hlt s2 hs2;have hrun:=run_append_grow (P:=P) w t ty' el inf zv hu hi1 hi4 ad n cap olds ho1 ho4 ad' (m'+1) cc vs hvl' hnc hlt (by omega) (growslice_fits hlt hb1');obtain⟨p1,p2⟩:=pre olds old ho3 (grownCap w (n+ (m'+1)) cap el - (n+ (m'+1)));obtain⟨a1,a2⟩:=hs2 _ p1 p2;refine⟨_,_,_,hrun,?_,a1,⟨a2.le,a2.os,a2.tape,a2.output,a2.size,a2.block,a2.new,a2.nbs,a2.fresh⟩⟩;refine⟨w.heap.size,0,_,_,_,Rho.with_at _ _ _,rfl,hge,fun hh=>by simp at hh,fun _=>rfl,?_,by omega⟩;simp only[FL,I4,List.size_toArray,hvl',ho1,hzs,hi2];rw[←Dg,←Dg];have:n+ (m'+1)+ (grownCap w (n+ (m'+1)) cap el - (n+ (m'+1)))=grownCap w (n+ (m'+1)) cap el:=by omega
       rw[this];omega
      cases full with
      |true=>
       simp only[cond_true,Af,Ax]at hv;obtain⟨rfl,rfl⟩:=hv;have hcap:=r4 rfl;rw[FA];exact fresh (by omega) _ fun cells c1 c2=>h.drew.alloc' c1 c2 el
      |false=>
       simp only[cond_false]at hv;split at hv
       ·simp at hv
       ·rename_i s1 d f ms hf;simp only[Af,Ax]at hv;obtain⟨rfl,rfl⟩:=hv;obtain⟨q1,q2,q3,q4,b,b',q5,q6,q7,q8,q9⟩:=RA h hf;rw[FA,Cq];by_cases hroom:n+ (m'+1)≤cap
        ·have had:ad=⟨cb,sh+o,none⟩:=r5 (by omega);subst had;have hfit:sh+o+n*j.sz+vs.length≤zz:=by
          have e1:n*j.sz+ (m'+1)*j.sz≤cap*j.sz:=by rw[←Dg];exact Dq _ hroom
          have e2:vs.length= (m'+1)*j.sz:=hvl;omega
         obtain⟨cur,e,k1,k2,k3,k4⟩:=RC q1 q3 q4 q6 q8 r1 ho2 (o:=o) (fun i sv hi=>by rw[q7];exact ho5 b q5 i sv hi) hnr hfit;have hrun:=RE w t ty' el inf hu hi1 cb (sh+o) n cap cur e k1 ad' (m'+1) cc vs hvl' hnc hnr.one hroom (by rw[hi2];exact k2);rw[hi2]at hrun;rw[q2]at k3 k4;subst q9;refine⟨_,_,_,hrun,?_,k3,k4.states q2.symm rfl⟩;refine⟨cb,sh+o,zz,_,cap,Rho.with_at _ _ _,rfl,hroom,fun hh=>by simp at hh,fun _=>rfl,?_,by omega⟩;omega
        ·refine fresh (by omega) _ fun cells c1 c2=> ?_;have:=RB q1.drew q3 q4 (d:=Nat.add d o) (lo:=Nat.add (Nat.add d o) (Nat.mul n j.sz)) (hi:=Nat.add (Nat.add (Nat.add d o) (Nat.mul n j.sz)) ns.length) c1 c2 el;rw[q2]at this;exact⟨this.1,this.2.states q2.symm rfl⟩
    ·simp at hv
theorem RH {P:Program}(w:World) (t t' ty e:TypeId) (i:TypeInfo) (k:IntKind) (z:Value) (ht:P.underlying t=some (.slice e)) (ht':P.underlying t'=some (.int k)) (hi:P.info? e=some i) (hz:i.zero=some z)
  (n:Nat) (h0:0 < n) (hs:n*i.size≠0) (h63:(n:Int)≤9223372036854775807) (h48:n*i.bytes≤140737488355328):
  (Builtin.append_ #[t,t'] ty #[.slice none 0 0,.int .i64 n]).run P w=
   .ok (.slice (some ⟨w.heap.size,0,none⟩) n (grownCap w n 0 e)) (w.drew.alloc (.cells (Builtin.zeroCells z.cells n++Builtin.zeroCells z.cells (grownCap w n 0 e - n)) e)):=by
 have hn:n≠0:=by omega
 have h63':¬(9223372036854775807 < (n:Int)):=by omega
 have h48':¬(281474976710656 < Builtin.nextslicecap n 0*i.bytes):=by rw[nextslicecap_zero h0];omega
 have hw:IntKind.i64.wrap (n:Int)=n:=DV _ ⟨by omega,by omega⟩;have h48i:¬(281474976710656 < (n:Int)* (i.bytes:Int)):=by
  have h1:((n*i.bytes:Nat):Int)≤ ((140737488355328:Nat):Int):=Int.ofNat_le.2 h48;rw[Int.natCast_mul]at h1;generalize (n:Int)* (i.bytes:Int)=q at h1 ⊢;omega
 have hneg:¬((n:Int) < 0):=by omega
 have hmax:max (n:Int) 0=n:=Int.max_eq_left (by omega);have hle:¬((n:Int)≤0):=by omega
 simp[Builtin.append_,run_underlying ht,run_underlying ht',sizeOf,typeInfo,zeroValue,hi,hz,asInt,asIntOf,hw,hn,hs,hneg,hle,hmax,h48i,h63',h48',Question.forced,run_firstCells_none,newRow,grownCap]
theorem RI {P:Program}{ty:TypeId→Option TyI}(hty:TyOk P ty) {t t' el:TypeId}{k:IntKind}{j:TyI}(hu:P.underlying t=some (.slice el)) (hu':P.underlying t'=some (.int k)) (hj:ty el=some j) (hz:j.sz≠0) (hzl:j.z.length=j.sz) {ρ:Rho}{s s':St}{w:World}(h:Rel ρ s w)
  {x:S} {cx cn:Value} (hx:SR ρ x cx) {n:Option Nat} (hn:∀m,n=some m→cn= .int .i64 m) {v:V} (hv:Ib s j.sz j.by_ j.z n x=some (v,s')) (ty':TypeId):
  ∃cv w' ρ',(Builtin.append_ #[t,t'] ty' #[cx,cn]).run P w= .ok cv w'∧VR ρ' v cv∧Rel ρ' s' w'∧Go s ρ w s' ρ' w':=by
 obtain⟨inf,zv,hi1,hi2,hi3,hi4,hi5⟩:=hty.info hj;have hzs:zv.cells.size=inf.size:=by
  have:=(DM ρ hi5).length;rw[hi2,←hzl,this];simp
 unfold Ib at hv;split at hv
 ·have hx':cx= .slice none 0 0:=hx;subst hx';split at hv
  ·simp only[Af,Ax]at hv;obtain⟨rfl,rfl⟩:=hv;have hc:=hn 0 rfl;subst hc;refine⟨.slice none 0 0,w,ρ,?_,rfl,h,Go.refl _ _ _⟩;have hw:IntKind.i64.wrap 0=0:=rfl;simp[Builtin.append_,run_underlying hu,run_underlying hu',sizeOf,typeInfo,hi1,asInt,asIntOf,hw]
  ·rename_i m;obtain⟨hb,hv⟩:=Bh hv;obtain⟨hb1,hb2⟩:=F6 hb;rw[JO]at hb1;rw[GO]at hb2;simp only[Af,Ax]at hv;obtain⟨rfl,rfl⟩:=hv;have hc:=hn (m+1) rfl;subst hc;have hb1':(m+1)*inf.bytes≤140737488355328:=by rw[hi3];exact hb1
   have hb2':m+1≤9223372036854775807:=hb2;have hs0:(m+1)*inf.size≠0:=Nat.mul_ne_zero (by omega) (by rw[hi2];exact hz);have hrun:=RH (P:=P) w t t' ty' el inf k zv hu hu' hi1 hi4 (m+1) (by omega) hs0 (by omega) hb1';have hge:=grownCap_ge w (m+1) 0 el;have hlr:=Io (DM ρ hi5) (m+1);have hlen:(DJ j.z (m+1)).length= (m+1)*zv.cells.size:=by rw[GL,hzl,hzs,hi2]
   obtain⟨a1,a2⟩:=h.drew.alloc' (l:=DJ j.z (m+1)) (cells:=Builtin.zeroCells zv.cells (m+1)++Builtin.zeroCells zv.cells (grownCap w (m+1) 0 el - (m+1)))
    (by rw[hlen];simp only[FL,I4];omega)
    (fun i sv hi=>by
     obtain⟨cv,q1,q2⟩:=hlr.get hi;refine⟨cv,?_,q2⟩;have hi':i < (m+1)*zv.cells.size:=by rw[←hlen];exact(Em.1 hi).1
     rw[Ps (by rw[I4];exact hi')];rw[←Array.getElem?_toList];exact q1) el
   refine⟨_,_,_,hrun,?_,a1,⟨a2.le,a2.os,a2.tape,a2.output,a2.size,a2.block,a2.new,a2.nbs,a2.fresh⟩⟩;refine⟨w.heap.size,0,_,_,_,Rho.with_at _ _ _,rfl,hge,fun hh=>by simp at hh,fun _=>rfl,?_,by omega⟩;simp only[FL,I4,hzs,hi2];rw[←Dg];have:(m+1)+ (grownCap w (m+1) 0 el - (m+1))=grownCap w (m+1) 0 el:=by omega
   rw[this];omega
  ·simp at hv
 ·simp at hv
theorem RJ {P:Program}{ty:TypeId→Option TyI}(hty:TyOk P ty) {t el:TypeId}{j:TyI}(hu:P.underlying t=some (.slice el)) (hj:ty el=some j) (hzl:j.z.length=j.sz) {ρ:Rho}{s s':St}{w:World}(h:Rel ρ s w)
  {x:S} {cx:Value} (hx:SR ρ x cx) {v:V} (hv:Ia s j.sz j.z x=some (v,s')) (ty':TypeId):
  ∃cv w',(Builtin.clear_ #[t] ty' #[cx]).run P w= .ok cv w'∧VR ρ v cv∧Rel ρ s' w'∧Go s ρ w s' ρ w':=by
 obtain⟨inf,zv,hi1,hi2,hi3,hi4,hi5⟩:=hty.info hj;have hzs:zv.cells.size=j.sz:=by
  have:=(DM ρ hi5).length;rw[←hzl,this];simp
 unfold Ia at hv;split at hv
 ·simp only[Af,Ax]at hv;obtain⟨rfl,rfl⟩:=hv;have hx':cx= .slice none 0 0:=hx;subst hx';refine⟨.tuple #[],w,?_,trivial,h,Go.refl _ _ _⟩;unfold Builtin.clear_;simp[AY hu]
 ·rename_i bl o n sz' full;replace hv:=Bh hv;obtain⟨h1,hv⟩:=hv;rw[Bf,BQ]at h1;subst h1;obtain⟨cb,sh,zz,ad,cap,r1,r2,r3,r4,r5,r6,r7⟩:=hx;subst r2;by_cases hn:n=0
  ·subst hn;simp only[Bf,beq_self_eq_true,cond_true,Af,Ax]at hv;obtain⟨rfl,rfl⟩:=hv;refine⟨.tuple #[],w,?_,trivial,h,Go.refl _ _ _⟩;unfold Builtin.clear_;simp[AY hu]
  ·have:Nat.beq n 0=false:=by rw[Bf];simpa using hn
   rw[this,cond_false]at hv;split at hv
   ·rename_i s1 hs;simp only[Af,Ax]at hv;obtain⟨rfl,rfl⟩:=hv;have hl:=Io (DM ρ hi5) n;obtain⟨_,w',k1,k2,k3⟩:=MN (P:=P) h hs r1 hl;refine⟨.tuple #[],w',?_,trivial,k2,k3⟩;have had:ad=⟨cb,sh+o,none⟩:=r5 (by omega);subst had;unfold Builtin.clear_;obtain⟨n',rfl⟩:∃n',n=n'+1:=⟨n - 1,by omega⟩;simp only[Sem.run_bind,AY hu,Result.andThen_ok,List.getElem?_toArray,List.getElem?_cons_zero,Sem.run_pure];simp only[GP hi1 hi4,Result.andThen_ok,Sem.run_bind];rw[show(Builtin.zeroCells zv.cells (n'+1)).toList= ((Array.range ((n'+1)*zv.cells.size)).map (zv.cells[· %zv.cells.size]!)).toList from rfl,k1];rfl
   ·simp at hv
 ·simp at hv
def CT (P:Program) (call:Nat→List V→St→Option (V×St)):Prop:=
 ∀g vs s v s',call g vs s=some (v,s')→ ∀ (ρ:Rho) (w:World) (cargs:List Value),LR (VR ρ) vs cargs→Rel ρ s w→
  (callFunc g cargs.toArray).run P w= .ok (.enter g cargs.toArray) w∧
  Calls P g cargs.toArray w fun e w'=>∃cv ρ',e= .returned cv∧VR ρ' v cv∧Rel ρ' s' w'∧Go s ρ w s' ρ' w'
section
variable {P:Program}{ty:TypeId→Option TyI}{ibs:FuncId→Bool}{call:Nat→List V→St→Option (V×St)}
theorem Oper.wp_value {o:Oper}{a:Act}{w w':World}{next:Act→World→Prop}{Q:Exit→Act→World→Prop}{cv:Value}(h:(execOp a.eval o).run P w= .ok (.value cv) w') (hn:next (a.put o.dst cv) w'):o.wp P a w next Q:=by
 unfold Oper.wp;rw[h];exact hn
theorem Oper.wp_skip {o:Oper}{a:Act}{w w':World}{next:Act→World→Prop}{Q:Exit→Act→World→Prop}(h:(execOp a.eval o).run P w= .ok .skip w') (hn:next (a.put o.dst undef) w'):o.wp P a w next Q:=by
 unfold Oper.wp;rw[h];exact hn
theorem Oper.wp_enter {o:Oper}{a:Act}{w w':World}{next:Act→World→Prop}{Q:Exit→Act→World→Prop}{f:FuncId}{args:Array Value}(h:(execOp a.eval o).run P w= .ok (.enter f args) w') {R:Ending→World→Prop}
  (hc:Calls P f args w' R) (hn:∀e w'',R e w''→ ∃cv,e= .returned cv∧next (a.put o.dst cv) w''):o.wp P a w next Q:=by
 unfold Oper.wp;rw[h];refine Calls.mono hc fun e w'' hr=> ?_;obtain⟨cv,rfl,h2⟩:=hn e w'' hr;exact h2
theorem MR {ρ:Rho}:∀ {cs:List (Nat×Nat)}{vs:List Value},LR (fun(c:Nat×Nat) v=>PR ρ c.1 c.2 v) cs vs→LR (VR ρ) (cs.map fun c=>V.c (.p c.1 c.2)) vs
 | [],[],_=>trivial
 |_::_,_::_,h=>⟨h.1,MR h.2⟩
 | [],_::_,h=>h.elim
 |_::_,[],h=>h.elim
theorem RK (hty:TyOk P ty) (hcall:CT P call) {o:Oper}{x:M}(h:cMO ty ibs o.op=some (.m x)) {ρ:Rho}{e:E}{a:Act}(he:ER ρ e a) {s s':St}{w:World}(hr:Rel ρ s w) {v:V}(hv:mv call e s x=some (v,s'))
  {next:Act→World→Prop} {Q:Exit→Act→World→Prop} (hn:∀cv w' ρ',VR ρ' v cv→Rel ρ' s' w'→Go s ρ w s' ρ' w'→next (a.put o.dst cv) w'):o.wp P a w next Q:=by
 obtain⟨dst,op,type,pos,after,guard⟩:=o;cases op
 case store t y z=>
  simp only[cMO]at h;split at h <;> simp only[Af,reduceCtorEq,MO.m.injEq]at h
  rename_i i y' z' hi hy hz;subst h;obtain⟨inf,zv,hi1,hi2,hi3,hi4,hi5⟩:=hty.info hi;simp only[mv]at hv;split at hv
  ·rename_i bl o l h1 h2;split at hv
   ·rename_i s1 hs;simp only[Af,Ax]at hv;obtain⟨rfl,rfl⟩:=hv;obtain⟨cb,sh,zz,r1,r2⟩:=he.at hy h1;have hl:=VR.cells (he.ov hz) h2;obtain⟨k0,w',k1,k2,k3⟩:=MN (P:=P) hr hs r1 hl;refine Oper.wp_skip (w':=w') ?_ (hn undef w' ρ trivial k2 k3);have:(Instr.storeAt t (a.eval y) (a.eval z)).run P w= .ok () w':=by
     unfold Instr.storeAt storeVar;simp only[r2,Instr.sureAddr,Sem.run_bind,Sem.run_pure,Result.andThen_ok,DQ hi1];rw[Ab (by rw[hi2,←k0];simp)];exact k1
    simp only[execOp,Sem.run_bind,this,Result.andThen_ok];rfl
   ·simp at hv
  ·simp at hv
 case call c=>
  simp only[cMO]at h;split at h
  ·rename_i l hl;split at h
   ·rename_i b hc;unfold Fv at h;split at h
    ·split at h
     ·split at h <;> simp at h
     ·simp at h
    ·split at h
     ·split at h <;> simp at h
     ·simp at h
    ·simp at h
    ·simp at h
    ·rename_i x' y' t t' ht;split at h
     ·rename_i j j' hj hj';split at h
      ·simp at h
      ·rename_i hcc;simp only[not_or,KX]at hcc;obtain⟨hz,hzl⟩:=hcc;split at h
       rotate_left
       ·split at h
        ·rename_i ik hik;simp only[Af,MO.m.injEq]at h;subst h;obtain⟨el,hu,hje⟩:=hty.elem hj;have hu':=hty.under hj';rw[hik]at hu';obtain⟨x1,y1,ha,hx1,hy1⟩:=JQ hl;simp only[mv]at hv;have hux:Ev.os e x'≠ .un:=by
          intro hh;rw[hh]at hv;simp[Ib]at hv
         obtain⟨cv,w',ρ',k1,k2,k3,k4⟩:=RI hty hu hu' hje hz hzl hr (he.os hx1 rfl hux) (fun n hn=>JU he hy1 hn) hv type;refine Oper.wp_value (w':=w') ?_ (hn cv w' ρ' k2 k3 k4);rw[show execOp a.eval ⟨dst,.call c,type,pos,after,guard⟩= (do let d ←resolve a.eval c type;invoke d.target d.args)from rfl,Iq hc];rw[show c.args.map a.eval= #[a.eval x1,a.eval y1]by rw[←Array.toArray_toList (xs:=c.args),ha];simp];rw[show c.argTypes= #[t,t']by rw[←Array.toArray_toList (xs:=c.argTypes),ht]];unfold builtin;simp only[Sem.run_bind,k1,Result.andThen_ok,Sem.run_pure]
        ·simp at h
       rename_i htt;subst htt;simp only[Af,MO.m.injEq]at h;subst h;obtain⟨el,hu,hje⟩:=hty.elem hj;obtain⟨x1,y1,ha,hx1,hy1⟩:=JQ hl;simp only[mv]at hv;have hux:Ev.os e x'≠ .un:=by
        intro hh;rw[hh]at hv;unfold app at hv;split at hv
        ·simp at hv
        ·split at hv
         ·split at hv <;> simp_all
         ·split at hv <;> simp_all
       have huy:Ev.os e y'≠ .un:=by
        intro hh;rw[hh]at hv;simp[app,HJ]at hv
       obtain⟨cv,w',ρ',k1,k2,k3,k4⟩:=RG hty hu hje hz hzl hr (he.os hx1 rfl hux) (he.os hy1 rfl huy) hv type;refine Oper.wp_value (w':=w') ?_ (hn cv w' ρ' k2 k3 k4);rw[show execOp a.eval ⟨dst,.call c,type,pos,after,guard⟩= (do let d ←resolve a.eval c type;invoke d.target d.args)from rfl,Iq hc];rw[show c.args.map a.eval= #[a.eval x1,a.eval y1]by rw[←Array.toArray_toList (xs:=c.args),ha];simp];rw[show c.argTypes= #[t,t]by rw[←Array.toArray_toList (xs:=c.argTypes),ht]];unfold builtin;simp only[Sem.run_bind,k1,Result.andThen_ok,Sem.run_pure]
     ·simp at h
    ·rename_i x' t ht;split at h
     ·rename_i j hj;split at h
      ·simp at h
      ·rename_i hcc;simp only[not_or,KX]at hcc;obtain⟨hz,hzl⟩:=hcc;simp only[Af,MO.m.injEq]at h;subst h;obtain⟨el,hu,hje⟩:=hty.elem hj;obtain⟨x1,ha,hx1⟩:∃x1,c.args.toList=[x1]∧cO x1=some x':=by
        match hargs:c.args.toList,hl with
        | [x1],hl=>
         unfold cOs at hl;split at hl
         ·rename_i y1 m1 h1 h2;simp only[Af,List.cons.injEq]at hl;obtain⟨rfl,rfl⟩:=hl;exact⟨x1,rfl,h1⟩
         ·simp at hl
        | [],hl=>simp[cOs]at hl
        |x1::y1::r,hl=>
         unfold cOs at hl;split at hl
         ·rename_i y1 m1 h1 h2;simp only[Af,List.cons.injEq]at hl;obtain⟨rfl,rfl⟩:=hl;unfold cOs at h2;split at h2 <;> simp at h2
         ·simp at hl
       simp only[mv]at hv;have hux:Ev.os e x'≠ .un:=by
        intro hh;rw[hh]at hv;simp[Ia]at hv
       obtain⟨cv,w',k1,k2,k3,k4⟩:=RJ hty hu hje hzl hr (he.os hx1 rfl hux) hv type;refine Oper.wp_value (w':=w') ?_ (hn cv w' ρ k2 k3 k4);rw[show execOp a.eval ⟨dst,.call c,type,pos,after,guard⟩= (do let d ←resolve a.eval c type;invoke d.target d.args)from rfl,Iq hc];rw[show c.args.map a.eval= #[a.eval x1]by rw[←Array.toArray_toList (xs:=c.args),ha];simp];rw[show c.argTypes= #[t]by rw[←Array.toArray_toList (xs:=c.argTypes),ht]];unfold builtin;simp only[Sem.run_bind,k1,Result.andThen_ok,Sem.run_pure]
     ·simp at h
    ·simp at h
   ·rename_i f hc;split at h
    ·split at h <;> simp at h
    ·simp only[Af,MO.m.injEq]at h;subst h;simp only[mv]at hv;obtain⟨k1,k2⟩:=hcall _ _ _ _ _ hv ρ w _ (he.ovs hl) hr;refine Oper.wp_enter (w':=w) ?_ k2 ?_
     ·rw[show execOp a.eval ⟨dst,.call c,type,pos,after,guard⟩= (do let d ←resolve a.eval c type;invoke d.target d.args)from rfl,MW hc rfl];rw[show c.args.map a.eval= (c.args.toList.map a.eval).toArray by rw[←Array.toList_map]];exact k1
     ·rintro e' w'' ⟨cv,ρ',rfl,k3,k4,k5⟩;exact⟨cv,rfl,hn cv w'' ρ' k3 k4 k5⟩
   ·rename_i fx hne hc;simp only[Option.map_eq_some_iff]at h;obtain⟨f',hf,h⟩:=h;simp only[MO.m.injEq]at h;subst h;simp only[mv]at hv;split at hv
    ·rename_i g cs h1;obtain⟨arr,r1,r2⟩:=he.at hf h1;rw[FA]at hv;obtain⟨k1,k2⟩:=hcall _ _ _ _ _ hv ρ w _ ((he.ovs hl).append (MR r2)) hr;refine Oper.wp_enter (w':=w) ?_ k2 ?_
     ·rw[show execOp a.eval ⟨dst,.call c,type,pos,after,guard⟩= (do let d ←resolve a.eval c type;invoke d.target d.args)from rfl];unfold resolve;simp only[hc,r1,Deferred.ofValue,Sem.run_bind,Sem.run_pure,Result.andThen_ok,invoke];rw[show #[]++c.args.map a.eval++arr= (c.args.toList.map a.eval++arr.toList).toArray by simp];exact k1
     ·rintro e' w'' ⟨cv,ρ',rfl,k3,k4,k5⟩;exact⟨cv,rfl,hn cv w'' ρ' k3 k4 k5⟩
    ·simp at hv
   ·simp at h
  ·simp at h
 case makeFunc fn first caps=>
  cases fn <;> simp only[cMO,reduceCtorEq]at h
  split at h <;> simp at h
 all_goals
  first
   | (simp only[cMO,reduceCtorEq]at h;done)
   | (simp only[cMO,Option.map_eq_some_iff,reduceCtorEq,and_false,Hj]at h;done)
   | (simp only[cMO]at h;(repeat' split at h) <;> simp at h;done)
theorem MS (hty:TyOk P ty) (hib:Du P ibs) (hcall:CT P call) {o:Oper}{x:MO}(h:cMO ty ibs o.op=some x) {ρ:Rho}{e:E}{a:Act}(he:ER ρ e a) {s s':St}{w:World}(hr:Rel ρ s w) {v:V}(hv:mo call e s x=some (v,s'))
  {next:Act→World→Prop} {Q:Exit→Act→World→Prop} (hn:∀cv w' ρ',VR ρ' v cv→Rel ρ' s' w'→Go s ρ w s' ρ' w'→next (a.put o.dst cv) w'):o.wp P a w next Q:=by
 obtain⟨dst,op,type,pos,after,guard⟩:=o;cases x with
 |w x=>
  simp only[mo]at hv;split at hv
  ·rename_i v' hv';simp only[Af,Ax]at hv;obtain⟨rfl,rfl⟩:=hv;obtain⟨cv,h1,h2⟩:=R7 hty hib h he hv' dst type pos after guard w;exact Oper.wp_value h1 (hn cv w ρ h2 hr (Go.refl _ _ _))
  ·simp at hv
 |r x=>
  simp only[mo]at hv;split at hv
  ·rename_i v' hv';simp only[Af,Ax]at hv;obtain⟨rfl,rfl⟩:=hv;obtain⟨cv,h1,h2⟩:=Rr hty h he hr hv' dst type pos after guard;exact Oper.wp_value h1 (hn cv w ρ h2 hr (Go.refl _ _ _))
  ·simp at hv
 |a x=>
  simp only[mo]at hv;split at hv
  ·rename_i l f hv';simp only[Af,Ax]at hv;obtain⟨rfl,rfl⟩:=hv;obtain⟨cv,cells,el,h1,h2,h3⟩:=MI hty h he hv' dst type pos after guard w;obtain⟨k1,k2⟩:=hr.alloc h2 el;exact Oper.wp_value h1 (hn cv _ _ (h3 _ _ (Rho.with_at _ _ _)) k1 k2)
  ·simp at hv
 |m x=>exact RK hty hcall h he hr hv hn
end
inductive HS where
 |ev (i:Nat)
 |e2 (i j:Nat)
section
variable (ty:TypeId→Option TyI) (ibs:FuncId→Bool) (nt:Nat)
def DN (ops:Array Oper):Option (Nat×Bool)→Option (Option (Nat×Bool))
 |none=>some none
 |some (j,want)=>match (ops[j]?).bind (·.dst)with
  |some d=>some (some (d,want))
  |none=>none
def Fw:Option Tmp→Bool
 |none=>true
 |some d=>Nat.blt d nt
noncomputable def Mm (ops:Array Oper) (o:Oper):Option Stp:=
 match DN ops o.guard,cMO ty ibs o.op with
 |some g,some x=>if Fw nt o.dst then some (.ev o.dst g x)else none
 |_,_=>none
noncomputable def GJ (ops:Array Oper):List Oper→Option (List Stp)
 | []=>some []
 |o::l=>match Mm ty ibs nt ops o,GJ ops l with
  |some s,some m=>some (s::m)
  |_,_=>none
end
def FrOk (nt:Nat) (a:Act):Prop:=nt≤a.tmps.size∧a.defers=[]
theorem FrOk.put {nt:Nat}{a:Act}(h:FrOk nt a) (dst:Option Tmp) (v:Value):FrOk nt (a.put dst v):=by
 cases dst with
 |none=>exact h
 |some d=>exact⟨by simpa [Act.put] using h.1,h.2⟩
theorem Mn {a:Act}{d t:Nat}{v:Value}(hd:d < a.tmps.size):(a.put (some d) v).tmps.getD t undef=if t=d then v else a.tmps.getD t undef:=by
 simp only[Act.put,Array.getD_eq_getD_getElem?,Array.getElem?_setIfInBounds];by_cases h:d=t
 ·subst h;simp[hd]
 ·rw[Ab h,Ab (fun e=>h e.symm)]
theorem ER.put {ρ:Rho}{e:E}{a:Act}(he:ER ρ e a) {dst:Option Tmp}{v:V}{cv:Value}(hv:VR ρ v cv) {nt:Nat}(hd:Fw nt dst=true) (hf:FrOk nt a):ER ρ (put e dst v) (a.put dst cv):=by
 cases dst with
 |none=>exact he
 |some d=>
  have hlt:d < a.tmps.size:=by
   have h1:d < nt:=by
    have:Nat.ble (d+1) nt=true:=hd;exact Ce this
   exact Aj h1 hf.1
  intro t u hu;rw[Mn hlt];have hu':(T.upd (some v) e d).get t=some u:=hu;rw[T.get_upd]at hu';by_cases h:t=d
  ·rw[Ag h]at hu' ⊢;simp only[Af]at hu';subst hu';exact hv
  ·rw[Ab h]at hu' ⊢;exact he t u hu'
theorem Mo {ρ:Rho}{e:E}{a:Act}(he:ER ρ e a) {ops:Array Oper}{o:Oper}{j:Nat}{want:Bool}{d:Tmp}(hg:o.guard=some (j,want)) (hj:(ops[j]?).bind (·.dst)=some d):
  (∀b,ov e (.t d)= .c (.b b)→Region.wanted o (yielded ops a.tmps)= (b==want))∧(ov e (.t d)= .t []→Region.wanted o (yielded ops a.tmps)=false):=by
 have hov:=he.ov (x:= .tmp d) (y:= .t d) rfl;have hev:a.eval (.tmp d)=a.tmps.getD d undef:=rfl;rw[hev]at hov;constructor
 ·intro b hb;rw[hb]at hov;have h1:a.tmps.getD d undef= .bool b:=hov;have h2:a.tmps[d]?=some (.bool b):=by
   rw[Array.getD_eq_getD_getElem?]at h1;cases h3:a.tmps[d]? with
   |none=>rw[h3]at h1;simp[undef]at h1
   |some v=>rw[h3]at h1;simpa using h1
  simp only[Region.wanted,hg,yielded,hj,Option.bind_some,h2];rw[BR];simp
 ·intro hb;rw[hb]at hov;obtain⟨arr,h1,h2⟩:=hov;simp only[Region.wanted,hg,yielded,hj,Option.bind_some];rw[Array.getD_eq_getD_getElem?]at h1;cases h3:a.tmps[d]? with
  |none=>rfl
  |some v=>
   rw[h3]at h1;simp only[Option.getD_some]at h1;subst h1;rfl
section
variable {P:Program}{ty:TypeId→Option TyI}{ibs:FuncId→Bool}{call:Nat→List V→St→Option (V×St)}{nt:Nat}
theorem Q8 (hty:TyOk P ty) (hib:Du P ibs) (hcall:CT P call) {ops:Array Oper}{i:Nat}{o:Oper}(hi:ops[i]?=some o) {g:Option (Nat×Bool)}(hg:DN ops o.guard=some g) {x:MO}(hx:cMO ty ibs o.op=some x) (hd:Fw nt o.dst=true)
  {ρ:Rho} {e e':E} {a:Act} (he:ER ρ e a) {s s':St} {w:World} (hr:Rel ρ s w) (hf:FrOk nt a) (hs:evG call e s o.dst g x=some (e',s'))
  {K:Act→World→Prop} {Q:Exit→Act→World→Prop} (hK:∀a' w' ρ',ER ρ' e' a'→Rel ρ' s' w'→Go s ρ w s' ρ' w'→FrOk nt a'→K a' w'):wpOp P ops Q i K a w:=by
 have run:∀ {v:V} {s1:St},mo call e s x=some (v,s1)→e'=put e o.dst v→s'=s1→o.wp P a w K Q:=by
  intro v s1 h1 h2 h3;subst h2 h3;exact MS hty hib hcall hx he hr h1 fun cv w' ρ' k1 k2 k3=>hK _ _ ρ' ((he.mono k3.le).put k1 hd hf) k2 k3 (hf.put _ _)
 have skip:Region.wanted o (yielded ops a.tmps)=false→e'=put e o.dst (.t [])→s'=s→wpOp P ops Q i K a w:=by
  intro h1 h2 h3;subst h2 h3;unfold wpOp;simp only[hi,h1,Dh,Di];exact hK _ _ ρ (he.put (v:= .t []) ⟨#[],rfl,trivial⟩ hd hf) hr (Go.refl _ _ _) (hf.put _ _)
 have some_:Region.wanted o (yielded ops a.tmps)=true→o.wp P a w K Q→wpOp P ops Q i K a w:=by
  intro h1 h2;unfold wpOp;simp only[hi,h1,DU];exact .inl h2
 cases hog:o.guard with
 |none=>
  rw[hog]at hg;simp only[DN,Af]at hg;subst hg;simp only[evG]at hs;split at hs
  ·rename_i v s1 h1;simp only[Af,Ax]at hs;exact some_ (by simp[Region.wanted,hog]) (run h1 hs.1.symm hs.2.symm)
  ·simp at hs
 |some q=>
  obtain⟨j,want⟩:=q;rw[hog]at hg;simp only[DN]at hg;split at hg
  ·rename_i d hj;simp only[Af]at hg;subst hg;obtain⟨w1,w2⟩:=Mo he hog hj;simp only[evG]at hs;split at hs
   ·rename_i b hb;have hw:=w1 b hb;have hbw:(bif b then want else not want)= (b==want):=by cases b <;> cases want <;> rfl
    rw[hbw]at hs;cases hbb:(b==want)with
    |true=>
     rw[hbb,cond_true]at hs;split at hs
     ·rename_i v s1 h1;simp only[Af,Ax]at hs;exact some_ (by rw[hw,hbb]) (run h1 hs.1.symm hs.2.symm)
     ·simp at hs
    |false=>
     rw[hbb,cond_false]at hs;simp only[Af,Ax]at hs;exact skip (by rw[hw,hbb]) hs.1.symm hs.2.symm
   ·rename_i hb;simp only[Af,Ax]at hs;exact skip (w2 hb) hs.1.symm hs.2.symm
   ·simp at hs
  ·simp at hg
theorem Mp (hty:TyOk P ty) (hib:Du P ibs) (hcall:CT P call) {ops:Array Oper}{Q:Exit→Act→World→Prop}:
  ∀ (l:List Oper) (k:Nat) (st:List Stp),ops.toList.drop k=l→GJ ty ibs nt ops l=some st→ ∀ (e e':E) (s s':St) (ρ:Rho) (a:Act) (w:World),ER ρ e a→Rel ρ s w→FrOk nt a→reg call st e s=some (e',s')→
   (∀a' w' ρ',ER ρ' e' a'→Rel ρ' s' w'→Go s ρ w s' ρ' w'→FrOk nt a'→Q .normal a' w')→wpOps P ops Q (List.range' k l.length) a w
 | [],k,st,hk,hc,e,e',s,s',ρ,a,w,he,hr,hf,hs,hQ=>by
  simp only[GJ,Af]at hc;subst hc;have:some (e,s)=some (e',s'):=hs;simp only[Af,Ax]at this;obtain⟨rfl,rfl⟩:=this;exact hQ a w ρ he hr (Go.refl _ _ _) hf
 |o::l,k,st,hk,hc,e,e',s,s',ρ,a,w,he,hr,hf,hs,hQ=>by
  have hok:ops[k]?=some o:=by
   have:ops.toList[k]?=some o:=by
    have h1:(ops.toList.drop k)[0]?=some o:=by rw[hk];rfl
    rw[Hh]at h1
    simpa using h1
   simpa using this
  have hk':ops.toList.drop (k+1)=l:=by
   rw[←List.drop_drop,hk];rfl
  unfold GJ at hc;split at hc
  ·rename_i x m h1 h2;simp only[Af]at hc;subst hc;unfold Mm at h1;split at h1
   ·rename_i g y hg hy;split at h1
    ·rename_i hd;simp only[Af]at h1;subst h1;have hs':(match evG call e s o.dst g y with |some (e,s)=>reg call m e s |none=>none)=some (e',s'):=hs;split at hs'
     ·rename_i e1 s1 hs1;simp only[List.length_cons,List.range'_succ];rw[wpOps_cons];refine Q8 hty hib hcall hok hg hy hd he hr hf hs1 fun a1 w1 ρ1 k1 k2 k3 k4=> ?_;exact Mp hty hib hcall l (k+1) m hk' h2 e1 e' s1 s' ρ1 a1 w1 k1 k2 k4 hs' fun a2 w2 ρ2 j1 j2 j3 j4=>hQ a2 w2 ρ2 j1 j2 (k3.trans j3) j4
     ·simp at hs'
    ·simp at h1
   ·simp at h1
  ·simp at hc
end
section
variable (ty:TypeId→Option TyI) (ibs:FuncId→Bool) (nt:Nat) (cDraw:Array Oper→List HS→Option (List Stp))
def Ij:List Stp:=[.e2 0 (.k .o) (.k .o) 0 (.k .o) (.k .o)]
noncomputable def BN:Code→List (List HS)→Option (MC×List (List HS))
 | .skip,h=>some (.skip,h)
 | .region _ ops false,h=>match GJ ty ibs nt ops ops.toList with |some l=>some (.reg l,h) |none=>some (.reg Ij,h)
 | .region _ ops true,x::h=>match cDraw ops x with |some l=>some (.reg l,h) |none=>some (.reg Ij,h)
 | .seq a b,h=>match BN a h with
  |some (a,h)=>match BN b h with |some (b,h)=>some (.seq a b,h) |none=>none
  |none=>none
 | .cond c a b,h=>match cO c,BN a h with
  |some c,some (a,h)=>match BN b h with |some (b,h)=>some (.cond c a b,h) |none=>none
  |_,_=>none
 | .block id b,h=>match BN b h with |some (b,h)=>some (.blk id b,h) |none=>none
 | .loop b,h=>match BN b h with |some (b,h)=>some (.loop b,h) |none=>none
 | .exit id,h=>some (.exit id,h)
 | .ret,h=>some (.ret,h)
 |_,_=>none
end
def Post (nt:Nat) (s0:St) (ρ:Rho) (w:World) (Q:Exit→Act→World→Prop):Rs→Prop
 | .no e s=>∀a' w' ρ',ER ρ' e a'→Rel ρ' s w'→Go s0 ρ w s ρ' w'→FrOk nt a'→Q .normal a' w'
 | .ex id e s=>∀a' w' ρ',ER ρ' e a'→Rel ρ' s w'→Go s0 ρ w s ρ' w'→FrOk nt a'→Q (.exit id) a' w'
 | .rt e s=>∀a' w' ρ',ER ρ' e a'→Rel ρ' s w'→Go s0 ρ w s ρ' w'→FrOk nt a'→Q .ret a' w'
 | .bad=>False
def JH (P:Program) (call:Nat→List V→St→Option (V×St)) (nt:Nat) (cDraw:Array Oper→List HS→Option (List Stp)):Prop:=
 ∀ (id:Nat) (ops:Array Oper) (x:List HS) (l:List Stp),cDraw ops x=some l→ ∀ (e e':E) (s s':St) (ρ:Rho) (a:Act) (w:World) (Q:Exit→Act→World→Prop),ER ρ e a→Rel ρ s w→FrOk nt a→reg call l e s=some (e',s')→
  (∀a' w' ρ',ER ρ' e' a'→Rel ρ' s' w'→Go s ρ w s' ρ' w'→FrOk nt a'→Q .normal a' w')→(Code.region id ops true).wp P Q a w
theorem Post.trans {nt:Nat}{s0 s1:St}{ρ ρ':Rho}{w w':World}{Q:Exit→Act→World→Prop}{r:Rs}(hg:Go s0 ρ w s1 ρ' w') (h:Post nt s0 ρ w Q r):Post nt s1 ρ' w' Q r:=by
 cases r with
 |no e s=>exact fun a2 w2 ρ2 h1 h2 h3 h4=>h a2 w2 ρ2 h1 h2 (hg.trans h3) h4
 |ex id e s=>exact fun a2 w2 ρ2 h1 h2 h3 h4=>h a2 w2 ρ2 h1 h2 (hg.trans h3) h4
 |rt e s=>exact fun a2 w2 ρ2 h1 h2 h3 h4=>h a2 w2 ρ2 h1 h2 (hg.trans h3) h4
 |bad=>exact h
section
variable {P:Program}{ty:TypeId→Option TyI}{ibs:FuncId→Bool}{call:Nat→List V→St→Option (V×St)}{nt:Nat}{cDraw:Array Oper→List HS→Option (List Stp)}{N:Nat}
theorem Fx (hty:TyOk P ty) (hib:Du P ibs) (hcall:CT P call) (hdraw:JH P call nt cDraw):∀ (c:Code) (h h':List (List HS)) (m:MC),BN ty ibs nt cDraw c h=some (m,h')→
  ∀ (e:E) (s:St) (ρ:Rho) (a:Act) (w:World) (Q:Exit→Act→World→Prop),ER ρ e a→Rel ρ s w→FrOk nt a→Post nt s ρ w Q (ev call N m e s)→c.wp P Q a w
 | .skip,h,h',m,hc,e,s,ρ,a,w,Q,he,hr,hf,hp=>by
  simp only[BN,Af,Ax]at hc;obtain⟨rfl,_⟩:=hc;exact wp_skip (hp a w ρ he hr (Go.refl _ _ _) hf)
 | .exit id,h,h',m,hc,e,s,ρ,a,w,Q,he,hr,hf,hp=>by
  simp only[BN,Af,Ax]at hc;obtain⟨rfl,_⟩:=hc;exact wp_exit (hp a w ρ he hr (Go.refl _ _ _) hf)
 | .ret,h,h',m,hc,e,s,ρ,a,w,Q,he,hr,hf,hp=>by
  simp only[BN,Af,Ax]at hc;obtain⟨rfl,_⟩:=hc;exact wp_ret (hp a w ρ he hr (Go.refl _ _ _) hf)
 | .region id ops false,h,h',m,hc,e,s,ρ,a,w,Q,he,hr,hf,hp=>by
  simp only[BN]at hc;split at hc
  ·rename_i l hl;simp only[Af,Ax]at hc;obtain⟨rfl,_⟩:=hc;have hp':Post nt s ρ w Q (match reg call l e s with |some (e,s)=> .no e s |none=> .bad):=hp;split at hp'
   ·rename_i e' s' hs;refine wp_region ?_;have:=Mp (Q:=Q) hty hib hcall ops.toList 0 l (by simp) hl e e' s s' ρ a w he hr hf hs hp';rw[List.range_eq_range']
    simpa using this
   ·exact hp'.elim
  ·simp only[Af,Ax]at hc;obtain⟨rfl,_⟩:=hc;have hp':Post nt s ρ w Q (match reg call Ij e s with |some (e,s)=> .no e s |none=> .bad):=hp;exact hp'.elim
 | .region id ops true,h,h',m,hc,e,s,ρ,a,w,Q,he,hr,hf,hp=>by
  cases h with
  |nil=>simp[BN]at hc
  |cons x h=>
   simp only[BN]at hc;split at hc
   ·rename_i l hl;simp only[Af,Ax]at hc;obtain⟨rfl,_⟩:=hc;have hp':Post nt s ρ w Q (match reg call l e s with |some (e,s)=> .no e s |none=> .bad):=hp;split at hp'
    ·rename_i e' s' hs;exact hdraw id ops x l hl e e' s s' ρ a w Q he hr hf hs hp'
    ·exact hp'.elim
   ·simp only[Af,Ax]at hc;obtain⟨rfl,_⟩:=hc;have hp':Post nt s ρ w Q (match reg call Ij e s with |some (e,s)=> .no e s |none=> .bad):=hp;exact hp'.elim
 | .seq x y,h,h',m,hc,e,s,ρ,a,w,Q,he,hr,hf,hp=>by
  simp only[BN]at hc;split at hc
  ·rename_i x' h1 hx;split at hc
   ·rename_i y' h2 hy;simp only[Af,Ax]at hc;obtain⟨rfl,_⟩:=hc;have hp':Post nt s ρ w Q (match ev call N x' e s with | .no e s=>ev call N y' e s |r=>r):=hp;refine wp_seq (Fx hty hib hcall hdraw x h h1 x' hx e s ρ a w _ he hr hf ?_);cases hr1:ev call N x' e s with
    |no e1 s1=>
     rw[hr1]at hp';intro a1 w1 ρ1 k1 k2 k3 k4;exact Fx hty hib hcall hdraw y h1 h2 y' hy e1 s1 ρ1 a1 w1 Q k1 k2 k4 (Post.trans k3 hp')
    |ex id e1 s1=>rw[hr1]at hp';exact hp'
    |rt e1 s1=>rw[hr1]at hp';exact hp'
    |bad=>rw[hr1]at hp';exact hp'
   ·simp at hc
  ·simp at hc
 | .cond c x y,h,h',m,hc,e,s,ρ,a,w,Q,he,hr,hf,hp=>by
  simp only[BN]at hc;split at hc
  ·rename_i c' x' h1 hcc hx;split at hc
   ·rename_i y' h2 hy;simp only[Af,Ax]at hc;obtain⟨rfl,_⟩:=hc;have hp':Post nt s ρ w Q (match os e c' with | .b b=>Bool.rec (ev call N y' e s) (ev call N x' e s) b |_=> .bad):=hp;split at hp'
    ·rename_i b hb;have hb':a.eval c= .bool b:=he.at hcc hb;cases b with
     |true=>exact wp_cond_true hb' (Fx hty hib hcall hdraw x h h1 x' hx e s ρ a w Q he hr hf hp')
     |false=>exact wp_cond_false hb' (Fx hty hib hcall hdraw y h1 h2 y' hy e s ρ a w Q he hr hf hp')
    ·exact hp'.elim
   ·simp at hc
  ·simp at hc
 | .block id b,h,h',m,hc,e,s,ρ,a,w,Q,he,hr,hf,hp=>by
  simp only[BN]at hc;split at hc
  ·rename_i b' h1 hb;simp only[Af,Ax]at hc;obtain⟨rfl,_⟩:=hc;have hp':Post nt s ρ w Q (match ev call N b' e s with | .ex id' e s=>bif Nat.beq id' id then .no e s else .ex id' e s |r=>r):=hp;refine wp_block (Fx hty hib hcall hdraw b h h1 b' hb e s ρ a w _ he hr hf ?_);cases hr1:ev call N b' e s with
   |no e1 s1=>rw[hr1]at hp';exact hp'
   |ex id' e1 s1=>
    rw[hr1]at hp';simp only at hp';intro a1 w1 ρ1 k1 k2 k3 k4
    show if id'=id then Q .normal a1 w1 else Q (.exit id') a1 w1
    rw[Bf]at hp';by_cases hid:id'=id
    ·have:(id'==id)=true:=by simpa using hid
     rw[this,cond_true]at hp';rw[Ag hid];exact hp' a1 w1 ρ1 k1 k2 k3 k4
    ·have:(id'==id)=false:=by simpa using hid
     rw[this,cond_false]at hp';rw[Ab hid];exact hp' a1 w1 ρ1 k1 k2 k3 k4
   |rt e1 s1=>rw[hr1]at hp';exact hp'
   |bad=>rw[hr1]at hp';exact hp'
  ·simp at hc
 | .loop b,h,h',m,hc,e,s,ρ,a,w,Q,he,hr,hf,hp=>by
  simp only[BN]at hc;split at hc
  ·rename_i b' h1 hb;simp only[Af,Ax]at hc;obtain⟨rfl,_⟩:=hc;refine wp_loop_rounds N ?_;have key:∀ (n:Nat) (e:E) (s:St) (ρ:Rho) (a:Act) (w:World),ER ρ e a→Rel ρ s w→FrOk nt a→
     Post nt s ρ w Q (Nat.rec (motive:=fun _=>E→St→Rs) (fun _ _=> .bad) (fun _ ih e s=>match ev call N b' e s with | .no e s=>ih e s |r=>r) n e s)→Code.rounds P b Q n a w:=by
    intro n;induction n with
    |zero=>intro e s ρ a w _ _ _ hp;exact hp.elim
    |succ n ih=>
     intro e s ρ a w he hr hf hp;rw[rounds_succ];have hp':Post nt s ρ w Q (match ev call N b' e s with | .no e s=>(Nat.rec (motive:=fun _=>E→St→Rs) (fun _ _=> .bad) (fun _ ih e s=>match ev call N b' e s with | .no e s=>ih e s |r=>r) n e s) |r=>r):=hp;refine Fx hty hib hcall hdraw b h h1 b' hb e s ρ a w _ he hr hf ?_;cases hr1:ev call N b' e s with
     |no e1 s1=>
      rw[hr1]at hp';intro a1 w1 ρ1 k1 k2 k3 k4;exact ih e1 s1 ρ1 a1 w1 k1 k2 k4 (Post.trans k3 hp')
     |ex id e1 s1=>rw[hr1]at hp';exact hp'
     |rt e1 s1=>rw[hr1]at hp';exact hp'
     |bad=>rw[hr1]at hp';exact hp'
   exact key N e s ρ a w he hr hf hp
  ·simp at hc
 | .scope _,h,h',m,hc,_,_,_,_,_,_,_,_,_,_=>by simp[BN]at hc
 | .label _,h,h',m,hc,_,_,_,_,_,_,_,_,_,_=>by simp[BN]at hc
 | .goto _,h,h',m,hc,_,_,_,_,_,_,_,_,_,_=>by simp[BN]at hc
 | .refuse _,h,h',m,hc,_,_,_,_,_,_,_,_,_,_=>by simp[BN]at hc
 | .rangeFunc _ _ _ _,h,h',m,hc,_,_,_,_,_,_,_,_,_,_=>by simp[BN]at hc
end
section
variable (ty:TypeId→Option TyI) (ibs:FuncId→Bool) (cDraw:Nat→Array Oper→List HS→Option (List Stp))
def EU:List ResultVar→Option (List MRes)
 | []=>some []
 | .tmp t::l=>match EU l with |some m=>some (.t t::m) |none=>none
 | .cell a t::l=>match ty t,EU l with |some i,some m=>some (.c (if DL i.u then some i.sz else none) a::m) |_,_=>none
noncomputable def cFn (h:List (List HS)) (f:Func):Option MFn:=
 match f.body with
 |none=>none
 |some c=>match BN ty ibs f.ntmps (cDraw f.ntmps) c h,EU ty f.results.toList with
  | some (m, []), some r => if f.name == "runtime.NumGoroutine" then none else some ⟨m, r⟩
  |_,_=>none
end
theorem Mu:∀ (vs:List V) (k t:Nat),(F1 vs k).get t=if k≤t then vs[t - k]? else none
 | [],k,t=>by
  show(T.lf:T V).get t=_
  rw[T.get_lf];simp
 |v::vs,k,t=>by
  show(T.upd (some v) (F1 vs (Nat.succ k)) k).get t=_
  rw[T.get_upd,Mu vs];by_cases h:t=k
  ·subst h;simp
  ·rw[Ab h];by_cases h2:k≤t
   ·rw[Ag h2,Ag (by omega)];rw[show t - k= (t - Nat.succ k)+1 by omega];simp
   ·rw[Ab h2,Ab (by omega)]
theorem Rf {P:Program}{ty:TypeId→Option TyI}(hty:TyOk P ty) {t:TypeId}{i:TyI}(hi:ty t=some i) {ρ:Rho}{s:St}{w:World}(h:Rel ρ s w) {e:E}{a:Act}(he:ER ρ e a) {tm:Tmp}{v:V}
  (hv:ldv s (if DL i.u then some i.sz else none) (os e (.t tm))=some v):
  ∃cv,((do loadVar t (←asAddr (a.tmps.getD tm undef))):Sem Value).run P w= .ok cv w∧VR ρ v cv:=by
 have hu:os e (.t tm)≠ .un:=by intro hh;rw[hh]at hv;simp[ldv]at hv
 have hq:=he.os (x:= .tmp tm) (y:= .t tm) rfl rfl hu;obtain⟨cv,ad,h1,h2,h3⟩:=MD hty hi h hq hv;refine⟨cv,?_,h3⟩;have h1':a.tmps.getD tm undef= .pointer (some ad):=h1;simp only[h1',asAddr,Sem.run_bind,Sem.run_pure,Result.andThen_ok,h2]
theorem Rg {s:St}{n:Option Nat}{q:S}{v:V}(h:ldv s n q=some v):∀ (ρ:Rho) cv,VR ρ v cv→VR0 ρ v cv:=by
 intro ρ cv hv;unfold ldv at h;split at h
 ·split at h
  ·split at h
   ·split at h
    ·simp only[Af]at h;subst h;exact hv
    ·simp at h
   ·simp at h
  ·split at h
   ·simp only[Af]at h;subst h;exact hv
   ·simp at h
 ·simp at h
def Ik (tmps:Array Value):ResultVar→Sem Value
 | .tmp t=>pure (tmps.getD t undef)
 | .cell p t=>do loadVar t (←asAddr (tmps.getD p undef))
theorem Rh (f:Func) (tmps:Array Value):Go.results f tmps= (do let vs ←f.results.mapM (Ik tmps);pure (if h:vs.size=1 then vs[0]else .tuple vs)):=rfl
theorem JL {P:Program}{ty:TypeId→Option TyI}(hty:TyOk P ty) {ρ:Rho}{s:St}{w:World}(h:Rel ρ s w) {e:E}{a:Act}(he:ER ρ e a):
  ∀ {rs:List ResultVar} {ms:List MRes} {vs:List V},EU ty rs=some ms→F0 e s ms=some vs→
   ∃cs:List Value,(rs.mapM (Ik a.tmps)).run P w= .ok cs w∧LR (VR0 ρ) vs cs
 | [],ms,vs,hc,hv=>by
  simp only[EU,Af]at hc;subst hc;have:some []=some vs:=hv;simp only[Af]at this;subst this;exact⟨[],by simp,trivial⟩
 |r::rs,ms,vs,hc,hv=>by
  have step:∀ {m:MRes} {l:List MRes},F0 e s (m::l)=some vs→ ∃v vs',Ic e s m=some v∧F0 e s l=some vs'∧vs=v::vs':=by
   intro m l hh;have hh':(match Ic e s m,F0 e s l with |some v,some l=>some (v::l) |_,_=>none)=some vs:=hh;split at hh'
   ·rename_i v l' h1 h2;simp only[Af]at hh';exact⟨v,l',h1,h2,hh'.symm⟩
   ·simp at hh'
  cases r with
  |tmp t=>
   simp only[EU]at hc;split at hc
   ·rename_i l hl;simp only[Af]at hc;subst hc;obtain⟨v,vs',h1,h2,rfl⟩:=step hv;obtain⟨cs,h3,h4⟩:=JL hty h he hl h2;refine⟨a.tmps.getD t undef::cs,by simp only[List.mapM_cons,Ik,Sem.run_bind,Sem.run_pure,Result.andThen_ok,h3],?_,h4⟩;have h5:=he.ov (x:= .tmp t) (y:= .t t) rfl;simp only[Ic]at h1;cases hov:ov e (.t t)with
    |t q=>rw[hov]at h1;simp at h1
    |o=>rw[hov]at h1 h5;simp only[Af]at h1;subst h1;trivial
    |c q=>rw[hov]at h1 h5;simp only[Af]at h1;subst h1;exact h5
    |a q=>rw[hov]at h1 h5;simp only[Af]at h1;subst h1;exact h5
   ·simp at hc
  |cell p t=>
   simp only[EU]at hc;split at hc
   ·rename_i i l hi hl;simp only[Af]at hc;subst hc;obtain⟨v,vs',h1,h2,rfl⟩:=step hv;obtain⟨cs,h3,h4⟩:=JL hty h he hl h2;obtain⟨cv,h5,h6⟩:=Rf hty hi h he h1;refine⟨cv::cs,?_,Rg h1 _ _ h6,h4⟩;have h5':(Ik a.tmps (.cell p t)).run P w= .ok cv w:=h5;simp only[List.mapM_cons,Sem.run_bind,h5',Result.andThen_ok,h3,Sem.run_pure]
   ·simp at hc
theorem Ri {P:Program}{ty:TypeId→Option TyI}(hty:TyOk P ty) {ρ:Rho}{s s':St}{w:World}(h:Rel ρ s w) {e:E}{a:Act}(he:ER ρ e a) {f:Func}{ms:List MRes}(hc:EU ty f.results.toList=some ms) {v:V}(hv:Ev.results e s ms=some (v,s')):
  s'=s∧ ∃cv,(Go.results f a.tmps).run P w= .ok cv w∧VR ρ v cv:=by
 unfold Ev.results at hv;have run:∀ {vs:List V},F0 e s ms=some vs→ ∃cs:List Value,LR (VR0 ρ) vs cs∧(Go.results f a.tmps).run P w= .ok (if hh:cs.toArray.size=1 then cs.toArray[0]else .tuple cs.toArray) w:=by
  intro vs hvs;obtain⟨cs,h1,h2⟩:=JL hty h he hc hvs;refine⟨cs,h2,?_⟩;rw[Rh,Array.mapM_eq_mapM_toList];simp only[Sem.run_bind,Sem.run_map,h1,Result.andThen_ok];rfl
 split at hv
 ·rename_i v1 hl;simp only[Af,Ax]at hv;obtain⟨rfl,rfl⟩:=hv;obtain⟨cs,h1,h2⟩:=run hl
  match cs,h1,h2 with
  | [c],h1,h2=>exact⟨rfl,c,by simpa using h2,VR.of0 h1.1⟩
  | [],h1,_=>exact h1.elim
  |_::_::_,h1,_=>exact h1.2.elim
 ·rename_i l hne hl;simp only[Af,Ax]at hv;obtain⟨rfl,rfl⟩:=hv;obtain⟨cs,h1,h2⟩:=run hl;refine⟨rfl,.tuple cs.toArray,?_,cs.toArray,rfl,by simpa using h1⟩;rw[h2,dif_neg];intro hh;have hlen:=h1.length
  match l,hne,hlen with
  | [],_,hlen=>simp at hlen hh;omega
  | [v],hne,_=>exact hne v rfl
  |_::_::_,_,hlen=>simp at hlen hh;omega
 ·simp at hv
def Mv (P:Program) (ty:TypeId→Option TyI) (ibs:FuncId→Bool) (cDraw:Nat→Array Oper→List HS→Option (List Stp)) (tbl:T MFn):Prop:=
 ∀g f,tbl.get g=some f→ ∃fn h,P.funcs[g]?=some fn∧cFn ty ibs cDraw h fn=some f
theorem Mw {P:Program}{ty:TypeId→Option TyI}{ibs:FuncId→Bool}{cDraw:Nat→Array Oper→List HS→Option (List Stp)}(hty:TyOk P ty) (hib:Du P ibs) {tbl:T MFn}(htbl:Mv P ty ibs cDraw tbl) (N:Nat)
  (hdraw:∀call nt,CT P call→JH P call nt (cDraw nt)) {ext:Nat→List V→St→Option (V×St)} (hext:CT P ext):∀d,CT P (fn tbl N ext d)
 |0=>fun g vs s v s' h=>by
  have:none=some (v,s'):=h;simp at this
 |d+1=>fun g vs s v s' h ρ w cargs hl hr=>by
  have ih:=Mw hty hib htbl N hdraw hext d;have h':(match tbl.get g with
   |none=>ext g vs s
   |some f=>match ev (fn tbl N ext d) N f.body (F1 vs 0) s with
    | .no e s=>Ev.results e s f.res
    | .rt e s=>Ev.results e s f.res
    |_=>none)=some (v,s'):=h
  split at h'
  ·exact hext g vs s v s' h' ρ w cargs hl hr
  ·rename_i f hf;obtain⟨fnn,hints,h1,h2⟩:=htbl g f hf;unfold cFn at h2;split at h2
   ·simp at h2
   ·rename_i c hb;split at h2
    ·rename_i m r hm hres;split at h2
     ·simp at h2
     ·rename_i hname;simp only [Af] at h2; subst h2;have hname' : (fnn.name == "runtime.NumGoroutine") = false := by simpa using hname
      refine⟨?_,?_⟩
      ·unfold callFunc;simp only[Sem.run_bind,run_program,Result.andThen_ok,h1,hname',Dh,Di,hb,Option.isNone_some];rfl
      ·refine calls_of_wp h1 hb ?_;have hsz:cargs.toArray.size=vs.length:=by rw[hl.length];simp
       have her:ER ρ (F1 vs 0) {tmps:=cargs.toArray++Array.replicate (fnn.ntmps - cargs.toArray.size) undef,defers:=[]}:=by
        intro t u hu;rw[Mu]at hu;simp only[Av,DU,Nat.sub_zero]at hu;obtain⟨cv,k1,k2⟩:=hl.get hu;have hlt:t < cargs.length:=(Em.1 k1).1;have:(cargs.toArray++Array.replicate (fnn.ntmps - cargs.toArray.size) undef).getD t undef=cv:=by
         rw[Array.getD_eq_getD_getElem?,Ps (by simpa using hlt)];simp[k1]
        show VR ρ u ((cargs.toArray++Array.replicate (fnn.ntmps - cargs.toArray.size) undef).getD t undef)
        rw[this];exact k2
       have hfr:FrOk fnn.ntmps {tmps:=cargs.toArray++Array.replicate (fnn.ntmps - cargs.toArray.size) undef,defers:=[]}:=by
        refine⟨?_,rfl⟩;simp only[FL,Array.size_replicate];omega
       refine Fx (N:=N) hty hib ih (hdraw _ _ ih) c hints [] m hm (F1 vs 0) s ρ _ w _ her hr hfr ?_;have fin:∀ (e1:E) (s1:St),Ev.results e1 s1 r=some (v,s')→ ∀a' w' ρ',ER ρ' e1 a'→Rel ρ' s1 w'→Go s ρ w s1 ρ' w'→FrOk fnn.ntmps a'→
         a'.defers=[]∧ ∃v',(Go.results fnn a'.tmps).run P w'= .ok v' w'∧ ∃cv ρ',Ending.returned v'= .returned cv∧VR ρ' v cv∧Rel ρ' s' w'∧Go s ρ w s' ρ' w':=by
        intro e1 s1 hv a' w' ρ' k1 k2 k3 k4;obtain⟨rfl,cv,k5,k6⟩:=Ri hty k2 k1 hres hv;exact⟨k4.2,cv,k5,cv,ρ',rfl,k6,k2,k3⟩
       split at h'
       ·rename_i e1 s1 he1;rw[he1];exact fin e1 s1 h'
       ·rename_i e1 s1 he1;rw[he1];exact fin e1 s1 h'
       ·simp at h'
    ·simp at h2
def oT:O→List Nat
 | .t i=> [i]
 | .k _=> []
def oTs (l:List O):List Nat:=l.flatMap oT
def pTs (l:List (Nat×Nat×O)):List Nat:=l.flatMap fun p=>oT p.2.2
def oTo:Option O→List Nat
 |none=> []
 |some x=>oT x
def wT:W→List Nat
 | .mv x=>oT x
 | .pick c a b=>oT c++oT a++oT b
 | .nilc x=>oT x
 | .build _ ps=>pTs ps
 | .bin _ x y=>oT x++oT y
 | .eqb _ x y=>oT x++oT y
 | .eql _ x y=>oT x++oT y
 | .eqp _ x y=>oT x++oT y
 | .eqf _ x y=>oT x++oT y
 | .un _ x=>oT x
 | .cv _ x=>oT x
 | .cvs x=>oT x
 | .mkf _ cs=>oTs cs
 | .sls x lo hi=>oT x++oTo lo++oTo hi
 | .sll _ x lo hi mx=>oT x++oTo lo++oTo hi++oTo mx
 | .fad _ x=>oT x
 | .fld _ _ x=>oT x
 | .iad _ x ix=>oT x++oT ix
 | .ixs x ix=>oT x++oT ix
 | .ext _ x=>oT x
 | .lns x=>oT x
 | .lnl x=>oT x
 | .cpl x=>oT x
 | .mnx _ x y=>oT x++oT y
 | .ibs x y=>oT x++oT y
def rT:R→List Nat
 | .ld _ a=>oT a
 | .bts x=>oT x
def aT:A→List Nat
 | .al _=> []
 | .box x=>oT x
 | .bsl _ _ _ ps=>pTs ps
 | .mks _ _ _ n c=>oT n++oT c
def mT:M→List Nat
 | .st _ a v=>oT a++oT v
 | .app _ _ x y=>oT x++oT y
 | .call _ xs=>oTs xs
 | .cal x xs=>oT x++oTs xs
 | .clr _ _ x=>oT x
 | .apz _ _ _ x n=>oT x++oT n
def moT:MO→List Nat
 | .w x=>wT x
 | .r x=>rT x
 | .a x=>aT x
 | .m x=>mT x
def gT:Option (Nat×Bool)→List Nat
 |none=> []
 |some (t,_)=> [t]
def Like (l:List Nat) (e e':E):Prop:=∀t∈l,e.get t=e'.get t
theorem Like.left {l m:List Nat}{e e':E}(h:Like (l++m) e e'):Like l e e':=fun t ht=>h t (Cv _ ht)
theorem Like.right {l m:List Nat}{e e':E}(h:Like (l++m) e e'):Like m e e':=fun t ht=>h t (EJ _ ht)
theorem Like.symm {l:List Nat}{e e':E}(h:Like l e e'):Like l e' e:=fun t ht=>(h t ht).symm
theorem Ds {e e':E}{x:O}(h:Like (oT x) e e'):ov e x=ov e' x:=by
 cases x with
 |t i=>simp only[ov,h i (by simp[oT])]
 |k v=>rfl
theorem Ci {e e':E}{x:O}(h:Like (oT x) e e'):os e x=os e' x:=by simp only[os,Ds h]
theorem Jv {e e':E}{x:O}(h:Like (oT x) e e'):on e x=on e' x:=by simp only[on,Ci h]
theorem Ie {e e':E}{x:O}(h:Like (oT x) e e'):onj e x=onj e' x:=by simp only[onj,Ci h]
theorem GC {e e':E}{d:Nat}{x:Option O}(h:Like (oTo x) e e'):onD e d x=onD e' d x:=by
 cases x with
 |none=>rfl
 |some x=>simp only[onD,Ie (x:=x) h]
theorem Jw {e e':E}:∀ {l:List O},Like (oTs l) e e'→ovs e l=ovs e' l
 | [],_=>rfl
 |x::l,h=>by
  have h':Like (oT x++oTs l) e e':=h
  show ov e x::ovs e l=ov e' x::ovs e' l
  rw[Ds h'.left,Jw h'.right]
theorem Jx {e e':E}:∀ {l:List (Nat×Nat×O)}{z:List S},Like (pTs l) e e'→DI z e l=DI z e' l
 | [],_,_=>rfl
 |p::l,z,h=>by
  have h':Like (oT p.2.2++pTs l) e e':=h;have red:∀e:E,DI z e (p::l)= (match cellsOf (ov e p.2.2)with
   |none=>none
   |some l'=>bif Nat.beq (Bi l') p.2.1&& Nat.ble (Nat.add p.1 p.2.1) (Bi z)then DI (Bv z l' p.1) e l else none):=fun _=>rfl
  rw[red,red,Ds h'.left];cases cellsOf (ov e' p.2.2)with
  |none=>rfl
  |some l'=>simp only[Jx h'.right]
theorem L6 {e e':E}:∀ {l:List O},Like (oTs l) e e'→Fn e l=Fn e' l
 | [],_=>rfl
 |x::l,h=>by
  have h':Like (oT x++oTs l) e e':=h;have red:∀e:E,Fn e (x::l)= (match os e x,Fn e l with | .p a b,some l=>some ((a,b)::l) |_,_=>none):=fun _=>rfl;rw[red,red,Ci h'.left,L6 h'.right]
theorem QX {e e':E}{x:W}(h:Like (wT x) e e'):wv e x=wv e' x:=by
 cases x <;> simp only[wT]at h
 case mv=>simp only[wv,Ds h]
 case pick=>simp only[wv,Ci h.left.left,Ds h.left.right,Ds h.right]
 case build=>simp only[wv,Jx h]
 case mkf=>simp only[wv,L6 h]
 case sls=>simp only[wv,Ci h.left.left,GC h.left.right,GC h.right]
 case sll sz x lo hi mx=>
  simp only[wv,Ci h.left.left.left,GC h.left.left.right,GC h.left.right,GC h.right];cases mx with
  |none=>rfl
  |some m=>simp only[Ie (x:=m) h.right]
 case fld=>simp only[wv,Ds h]
 case iad=>simp only[wv,Ci h.left,Ie h.right]
 case ixs=>simp only[wv,Ci h.left,Ie h.right]
 case ext=>simp only[wv,Ds h]
 all_goals first
  | (simp only[wv,Ci h];done)
  | (simp only[wv,Ci h.left,Ci h.right];done)
theorem L7 {e e':E}{s:St}{x:R}(h:Like (rT x) e e'):rv e s x=rv e' s x:=by
 cases x <;> simp only[rT]at h <;> simp only[rv,Ci h]
theorem Jy {e e':E}{x:A}(h:Like (aT x) e e'):av e x=av e' x:=by
 cases x <;> simp only[aT]at h
 case al=>rfl
 case box=>simp only[av,Ds h]
 case bsl=>simp only[av,Jx h]
 case mks=>simp only[av,Jv h.left,Jv h.right]
theorem QY {call:Nat→List V→St→Option (V×St)}{e e':E}{s:St}{x:M}(h:Like (mT x) e e'):mv call e s x=mv call e' s x:=by
 cases x <;> simp only[mT]at h
 case st=>simp only[mv,Ci h.left,Ds h.right]
 case app=>simp only[mv,Ci h.left,Ci h.right]
 case call=>simp only[mv,Jw h]
 case cal=>simp only[mv,Ci h.left,Jw h.right]
 case clr=>simp only[mv,Ci h]
 case apz=>simp only[mv,Ci h.left,Jv h.right]
theorem QZ {call:Nat→List V→St→Option (V×St)}{e e':E}{s:St}{x:MO}(h:Like (moT x) e e'):mo call e s x=mo call e' s x:=by
 cases x <;> simp only[moT]at h
 case w=>simp only[mo,QX h]
 case r=>simp only[mo,L7 h]
 case a=>simp only[mo,Jy h]
 case m=>simp only[mo,QY h]
noncomputable def some_ (e:E) (l:List Nat):E:=l.foldr (fun t acc=>T.upd (e.get t) acc t) T.lf
theorem GD (e:E):∀ (l:List Nat) (t:Nat),(some_ e l).get t=if t∈l then e.get t else none
 | [],t=>by simp[some_,T.get_lf]
 |x::l,t=>by
  show(T.upd (e.get x) (some_ e l) x).get t=_
  rw[T.get_upd,GD e l];by_cases h:t=x
  ·subst h;simp
  ·rw[Ab h];simp[h]
theorem Jz (e:E) (l:List Nat):Like l (some_ e l) e:=fun t ht=>by rw[GD,Ag ht]
noncomputable def gEv (e:E):Option (Nat×Bool)→Option Bool
 |none=>some true
 |some (t,want)=>match ov e (.t t)with
  | .c (.b x)=>some (x==want)
  | .t []=>some false
  |_=>none
theorem L8 {e e':E}{g:Option (Nat×Bool)}(h:Like (gT g) e e'):gEv e g=gEv e' g:=by
 cases g with
 |none=>rfl
 |some q=>
  obtain⟨t,want⟩:=q;have:ov e (.t t)=ov e' (.t t):=Ds h;simp only[gEv,this]
theorem Q0 (call:Nat→List V→St→Option (V×St)) (e:E) (s:St) (dst:Option Nat) (g:Option (Nat×Bool)) (x:MO):
  evG call e s dst g x=match gEv e g with
   |some true=>match mo call e s x with |some (v,s)=>some (put e dst v,s) |none=>none
   |some false=>some (put e dst (.t []),s)
   |none=>none:=by
 cases g with
 |none=>rfl
 |some q=>
  obtain⟨t,want⟩:=q;simp only[evG,gEv];generalize ov e (.t t)=u;cases u with
  |c q=>
   cases q with
   |b x=>
    have hbw:(bif x then want else not want)= (x==want):=by cases x <;> cases want <;> rfl
    simp only[hbw];cases (x==want) <;> rfl
   |_=>rfl
  |t l=>cases l <;> rfl
  |_=>rfl
structure Inf where
 o:Oper
 x:MO
 g:Option (Nat×Bool)
def Inf.ts (a:Inf):List Nat:=gT a.g++moT a.x
def isM:MO→Bool
 | .m _=>true
 |_=>false
def CD:MO→Bool
 | .r _=>true
 | .a _=>true
 |_=>false
def F2 (d:Option Nat) (l:List Nat):Bool:=
 match d with
 |none=>false
 |some t=>l.contains t
def L9 (acc:List Nat) (es:List Edge):Nat:=es.foldl (fun s e=>if Region.binds .any e then s ||| (2^ e.on ||| acc.getD e.on 0)else s) 0
def Fq:List Oper→List Nat→List Nat
 | [],acc=>acc
 |o::l,acc=>Fq l (acc++ [L9 acc o.after.toList])
def bt (cls:List Nat) (i j:Nat):Bool:=(cls.getD i 0).testBit j
def Fr (infs:List Inf) (cls:List Nat) (prs:List (Nat×Nat)) (i j:Nat):Bool:=
 match infs[i]?,infs[j]? with
 |some a,some c=>
  !(Nat.beq i j)&& !(bt cls i j)&&
  (!(isM a.x) || (bt cls j i || prs.contains (i,j)))&&
  (match a.o.dst,c.o.dst with |some d,some d'=>d !=d' |_,_=>true)&&
  (!(F2 a.o.dst c.ts) || bt cls j i)&&
  (!(F2 c.o.dst a.ts) || (bt cls j i&& !(CD a.x)))
 |_,_=>false
def GE (infs:List Inf) (cls:List Nat) (i:Nat):Bool:=
 match infs[i]? with
 |some a=>!(bt cls i i)&& !(F2 a.o.dst a.ts)&& (!(CD a.x) || a.o.dst.isSome)
 |none=>false
def Ew (f:Nat→Nat→Bool):List Nat→Bool
 | []=>true
 |i::l=>l.all (f i)&& Ew f l
def GF (infs:List Inf):List Nat→List Nat→Bool
 |_,[]=>true
 |pre,i::l=>(match infs[i]? with
  |some a=>a.o.after.toList.all fun e=>!(Region.binds .any e) || pre.contains e.on
  |none=>false)&& GF infs (pre++ [i]) l
def AO:List HS→List Nat
 | []=> []
 | .ev i::l=>i::AO l
 | .e2 i j::l=>i::j::AO l
def GG:List HS→List (Nat×Nat)
 | []=> []
 | .ev _::l=>GG l
 | .e2 i j::l=>(i,j)::GG l
def Eb (infs:List Inf) (cls:List Nat) (m:Nat):List Nat→List (Nat×R)
 | []=> []
 |i::l=>match infs[i]? with
  |some a=>match a.x,a.o.dst with
   | .r y,some d=>if bt cls m i then Eb infs cls m l else(d,y)::Eb infs cls m l
   |_,_=>Eb infs cls m l
  |none=>Eb infs cls m l
def Ec (infs:List Inf) (cls:List Nat) (m:Nat):List Nat→List (Nat×A)
 | []=> []
 |i::l=>match infs[i]? with
  |some a=>match a.x,a.o.dst with
   | .a y,some d=>if bt cls m i then Ec infs cls m l else(d,y)::Ec infs cls m l
   |_,_=>Ec infs cls m l
  |none=>Ec infs cls m l
def JA (infs:List Inf) (cls:List Nat) (i j:Nat) (pre:List Nat):Bool:=
 pre.all fun k=>match infs[k]? with |some a=>!(CD a.x) || (bt cls i k&& bt cls j k) |none=>false
def Dm (infs:List Inf) (cls:List Nat):List Nat→List HS→Option (List Stp)
 |_,[]=>some []
 |pre,.ev i::l=>match infs[i]?,Dm infs cls (pre++ [i]) l with
  |some a,some st=>match a.x with
   | .m x=>if(AO l).all (fun q=>bt cls q i)then some (.mk a.o.dst a.g x (Eb infs cls i pre) (Ec infs cls i pre)::st)else none
   |x=>some (.ev a.o.dst a.g x::st)
  |_,_=>none
 |pre,.e2 i j::l=>match infs[i]?,infs[j]?,Dm infs cls (pre++ [i,j]) l with
  |some a,some c,some st=>match a.x,a.g,a.o.dst,c.x,c.g,c.o.dst with
   | .m (.st n₁ a₁ v₁),none,none,.m (.st n₂ a₂ v₂),none,none=>if JA infs cls i j pre&& (AO l).all (fun q=>bt cls q i&& bt cls q j)then some (.e2 n₁ a₁ v₁ n₂ a₂ v₂::st)else none
   |_,_,_,_,_,_=>none
  |_,_,_=>none
section
variable (ty:TypeId→Option TyI) (ibs:FuncId→Bool) (nt:Nat)
noncomputable def Ma (ops:Array Oper) (o:Oper):Option Inf:=
 match DN ops o.guard,cMO ty ibs o.op with
 |some g,some x=>if Fw nt o.dst then some ⟨o,x,g⟩else none
 |_,_=>none
noncomputable def F3 (ops:Array Oper):List Oper→Option (List Inf)
 | []=>some []
 |o::l=>match Ma ty ibs nt ops o,F3 ops l with
  |some a,some m=>some (a::m)
  |_,_=>none
def If (n:Nat) (l:List Nat):Bool:=l.all (fun i=>Nat.blt i n)&& (List.range n).all fun i=>l.contains i
noncomputable def cDraw (ops:Array Oper) (h:List HS):Option (List Stp):=
 match F3 ty ibs nt ops ops.toList with
 |none=>none
 |some infs=>
  let cls:=Fq ops.toList []
  if If ops.size (AO h)&& Ew (Fr infs cls (GG h)) (AO h)&& (AO h).all (GE infs cls)&& GF infs [] (AO h)then Dm infs cls [] h else none
end
inductive Dep (ops:Array Oper):Nat→Nat→Prop where
 |one {i j:Nat} {o:Oper} {e:Edge}:ops[i]?=some o→e∈o.after→Region.binds .any e=true→e.on=j→Dep ops i j
 |more {i k j:Nat} {o:Oper} {e:Edge}:ops[i]?=some o→e∈o.after→Region.binds .any e=true→e.on=k→Dep ops k j→Dep ops i j
theorem Mb {ops:Array Oper}{acc:List Nat}(hacc:∀i j,bt acc i j=true→Dep ops i j) {i:Nat}{o:Oper}(hi:ops[i]?=some o):
  ∀ (es:List Edge) (s:Nat),(∀e∈es,e∈o.after)→(∀j,s.testBit j=true→Dep ops i j)→ ∀j,(es.foldl (fun s e=>if Region.binds .any e then s ||| (2^ e.on ||| acc.getD e.on 0)else s) s).testBit j=true→Dep ops i j
 | [],s,_,hs,j,h=>hs j h
 |e::es,s,he,hs,j,h=>by
  simp only[List.foldl_cons]at h;refine Mb hacc hi es _ (fun e' h'=>he e' (List.mem_cons_of_mem _ h')) ?_ j h;intro k hk;split at hk
  ·rename_i hb;rw[Nat.testBit_or,Nat.testBit_or,EK,EK]at hk;rcases hk with hk |hk |hk
   ·exact hs k hk
   ·rw[Nat.testBit_two_pow]at hk;exact .one hi (he e (List.mem_cons_self ..)) hb (by simpa using hk)
   ·exact .more hi (he e (List.mem_cons_self ..)) hb rfl (hacc _ _ hk)
  ·exact hs k hk
theorem Mc {ops:Array Oper}:∀ (l:List Oper) (acc:List Nat),ops.toList.drop acc.length=l→(∀i j,bt acc i j=true→Dep ops i j)→ ∀i j,bt (Fq l acc) i j=true→Dep ops i j
 | [],acc,_,hacc,i,j,h=>hacc i j h
 |o::l,acc,hl,hacc,i,j,h=>by
  have hi:ops[acc.length]?=some o:=by
   have h1:(ops.toList.drop acc.length)[0]?=some o:=by rw[hl];rfl
   rw[Hh]at h1
   simpa using h1
  refine Mc l (acc++ [L9 acc o.after.toList]) ?_ ?_ i j h
  ·rw[AV,List.length_singleton,←List.drop_drop,hl];rfl
  ·intro i j h;unfold bt at h;by_cases hlt:i < acc.length
   ·refine hacc i j ?_;unfold bt
    rwa [List.getD_eq_getElem?_getD,BV hlt,←List.getD_eq_getElem?_getD]at h
   ·by_cases he:i=acc.length
    ·subst he;rw[List.getD_eq_getElem?_getD,Cp (Ad _)]at h;simp only[EI,List.getElem?_cons_zero,Option.getD_some]at h;exact Mb hacc hi o.after.toList 0 (fun e he=>by simpa using he) (fun j hj=>by simp at hj) j h
    ·rw[List.getD_eq_getElem?_getD,Hc (by simp;omega)]at h;simp at h
theorem Q1 {ops:Array Oper}{i j:Nat}(h:bt (Fq ops.toList []) i j=true):Dep ops i j:=
 Mc ops.toList [] (by simp) (fun i j h=>by simp[bt]at h) i j h
theorem Md {ty:TypeId→Option TyI}{ibs:FuncId→Bool}{nt:Nat}{ops:Array Oper}:∀ {l:List Oper}{m:List Inf},F3 ty ibs nt ops l=some m→ ∀ (i:Nat) (a:Inf),m[i]?=some a→
  l[i]?=some a.o∧DN ops a.o.guard=some a.g∧cMO ty ibs a.o.op=some a.x∧Fw nt a.o.dst=true
 | [],m,h,i,a,ha=>by
  simp only[F3,Af]at h;subst h;simp at ha
 |o::l,m,h,i,a,ha=>by
  unfold F3 at h;split at h
  ·rename_i b m' h1 h2;simp only[Af]at h;subst h;cases i with
   |zero=>
    simp only[List.getElem?_cons_zero,Af]at ha;subst ha;unfold Ma at h1;split at h1
    ·rename_i g x hg hx;split at h1
     ·rename_i hd;simp only[Af]at h1;subst h1;exact⟨rfl,hg,hx,hd⟩
     ·simp at h1
    ·simp at h1
   |succ i=>
    simp only[List.getElem?_cons_succ]at ha ⊢;exact Md h2 i a ha
  ·simp at h
theorem Me {f:Nat→Nat→Bool}:∀ {l:List Nat},Ew f l=true→ ∀ {pre rest:List Nat},l=pre++rest→ ∀i∈pre,∀j∈rest,f i j=true
 | [],_,pre,rest,h,i,hi,j,hj=>by
  cases pre with
  |nil=>simp at hi
  |cons y pre=>simp at h
 |x::l,hp,pre,rest,h,i,hi,j,hj=>by
  simp only[Ew,AH,Be]at hp;cases pre with
  |nil=>simp at hi
  |cons y pre=>
   simp only[List.cons_append,List.cons.injEq]at h;obtain⟨rfl,rfl⟩:=h;rcases List.mem_cons.1 hi with rfl |hi
   ·exact hp.1 j (EJ _ hj)
   ·exact Me hp.2 rfl i hi j hj
theorem Mf {f:Nat→Nat→Bool}:∀ {l:List Nat},Ew f l=true→ ∀i∈l,∀j∈l,i≠j→f i j=true∨f j i=true
 | [],_,i,hi,_,_,_=>by simp at hi
 |x::l,hp,i,hi,j,hj,hne=>by
  simp only[Ew,AH,Be]at hp;rcases List.mem_cons.1 hi with e1 |hi'
  ·rcases List.mem_cons.1 hj with e2 |hj'
   ·exact absurd (e1.trans e2.symm) hne
   ·exact .inl (e1▸hp.1 j hj')
  ·rcases List.mem_cons.1 hj with e2 |hj'
   ·exact .inr (e2▸hp.1 i hi')
   ·exact Mf hp.2 i hi' j hj' hne
theorem Q2 {n:Nat}{l:List Nat}(h:If n l=true):(∀i,i < n→i∈l)∧(∀i∈l,i < n):=by
 unfold If at h;simp only[AH,Be,Hg,KT]at h;exact⟨h.2,fun i hi=>by have:Nat.ble (i+1) n=true:=h.1 i hi;exact Ce this⟩
theorem Mg {f:Nat→Nat→Bool}(hf:∀i j,f i j=true→i≠j):∀ {l:List Nat},Ew f l=true→l.Nodup
 | [],_=>List.nodup_nil
 |x::l,hp=>by
  simp only[Ew,AH,Be]at hp;exact List.nodup_cons.2 ⟨fun hx=>hf x x (hp.1 x hx) rfl,Mg hf hp.2⟩
theorem ET {infs:List Inf}{cls:List Nat}{prs:List (Nat×Nat)}{i j:Nat}(h:Fr infs cls prs i j=true):
  ∃a c,infs[i]?=some a∧infs[j]?=some c∧i≠j∧bt cls i j=false∧(isM a.x=true→bt cls j i=true∨(i,j)∈prs)∧(∀d,a.o.dst=some d→c.o.dst≠some d)∧
   (∀d,a.o.dst=some d→d∈c.ts→bt cls j i=true)∧(∀d,c.o.dst=some d→d∈a.ts→bt cls j i=true∧CD a.x=false):=by
 unfold Fr at h;split at h
 ·rename_i a c ha hc;simp only[AH,I2,EK,Bf,beq_eq_false_iff_ne,KT]at h;obtain⟨⟨⟨⟨⟨h1,h2⟩,h3⟩,h4⟩,h5⟩,h6⟩:=h;refine⟨a,c,ha,hc,h1,h2,fun hm=> ?_,fun d hd hd'=> ?_,fun d hd hm=> ?_,fun d hd hm=> ?_⟩
  ·rcases h3 with h3 |h3
   ·rw[hm]at h3;simp at h3
   ·exact h3
  ·rw[hd,hd']at h4;simp at h4
  ·rcases h5 with h5 |h5
   ·simp only[F2,hd]at h5;rw[List.contains_eq_mem]at h5;simp only[KU]at h5;exact absurd hm h5
   ·exact h5
  ·rcases h6 with h6 |h6
   ·simp only[F2,hd]at h6;rw[List.contains_eq_mem]at h6;simp only[KU]at h6;exact absurd hm h6
   ·exact h6
 ·simp at h
theorem Mh {infs:List Inf}:∀ {l pre0:List Nat},GF infs pre0 l=true→ ∀ {pre rest:List Nat}{i:Nat},l=pre++i::rest→ ∀a,infs[i]?=some a→ ∀e∈a.o.after,Region.binds .any e=true→e.on∈pre0++pre
 | [],pre0,_,pre,rest,i,h,_,_,_,_,_=>by simp at h
 |x::l,pre0,ht,pre,rest,i,h,a,ha,e,he,hb=>by
  simp only[GF,AH]at ht;cases pre with
  |nil=>
   simp only[List.nil_append,List.cons.injEq]at h;obtain⟨rfl,rfl⟩:=h;have h1:=ht.1;rw[ha]at h1;simp only[Be,EK,I2,KT]at h1;rcases h1 e (by simpa using he)with h2 |h2
   ·rw[hb]at h2;cases h2
   ·rw[List.append_nil];exact h2
  |cons y pre=>
   simp only[List.cons_append,List.cons.injEq]at h;obtain⟨rfl,rfl⟩:=h;have:=Mh ht.2 rfl a ha e he hb
   simpa using this
theorem JB {infs:List Inf}{cls:List Nat}{i:Nat}(h:GE infs cls i=true):
  ∃a,infs[i]?=some a∧bt cls i i=false∧(∀d,a.o.dst=some d→d∉a.ts)∧(CD a.x=true→ ∃d,a.o.dst=some d):=by
 unfold GE at h;split at h
 ·rename_i a ha;simp only[AH,I2,EK]at h;obtain⟨⟨h1,h2⟩,h3⟩:=h;refine⟨a,ha,h1,fun d hd hm=> ?_,fun hr=> ?_⟩
  ·simp only[F2,hd]at h2;rw[List.contains_eq_mem]at h2;simp only[KU]at h2;exact h2 hm
  ·rcases h3 with h3 |h3
   ·rw[hr]at h3;simp at h3
   ·exact KV.1 h3
 ·simp at h
end Go.Ev
