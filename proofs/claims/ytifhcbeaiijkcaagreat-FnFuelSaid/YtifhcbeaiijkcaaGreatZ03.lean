/- Parts of the proof of FnFuel. -/
import Derived.Test.YtifhcbeaiijkcaaGreatZ02
set_option linter.unusedVariables false
set_option linter.unusedSimpArgs false
set_option maxRecDepth 1000000
set_option maxHeartbeats 16000000
namespace Go.Ev
open Go
section
variable {P:Program}{ty:TypeId→Option TyI}{ibs:FuncId→Bool}{call:Nat→List V→St→Option (V×St)}{nt:Nat}
theorem Mi {a:Act}{dst:Option Tmp}{cv:Value}(hd:Fw nt dst=true) (hf:FrOk nt a) (t:Nat):(a.put dst cv).tmps.getD t undef=if dst=some t then cv else a.tmps.getD t undef:=by
 cases dst with
 |none=>simp[Act.put]
 |some d=>
  have h1:d < nt:=by
   have:Nat.ble (d+1) nt=true:=hd;exact Ce this
  rw[Mn (Aj h1 hf.1)];by_cases h:t=d
  ·subst h;simp
  ·rw[Ab h,Ab (fun e=>h (Ah e).symm)]
def Comes (call:Nat→List V→St→Option (V×St)) (e:E) (s:St) (g:Option (Nat×Bool)) (x:MO) (v:V) (s':St):Prop:=
 (gEv e g=some true∧mo call e s x=some (v,s'))∨(gEv e g=some false∧v= .t []∧s'=s)
theorem Mj {e e':E}{s s':St}{dst:Option Nat}{g:Option (Nat×Bool)}{x:MO}(h:evG call e s dst g x=some (e',s')):∃v,Comes call e s g x v s'∧e'=put e dst v:=by
 rw[Q0]at h;split at h
 ·rename_i hg;split at h
  ·rename_i v s1 hm;simp only[Af,Ax]at h;exact⟨v,.inl ⟨hg,h.2▸hm⟩,h.1.symm⟩
  ·simp at h
 ·rename_i hg;simp only[Af,Ax]at h;exact⟨.t [],.inr ⟨hg,rfl,h.2.symm⟩,h.1.symm⟩
 ·simp at h
theorem Comes.like {e e':E}{s s':St}{g:Option (Nat×Bool)}{x:MO}{v:V}(h:Like (gT g++moT x) e e') (hc:Comes call e' s g x v s'):Comes call e s g x v s':=by
 unfold Comes;rw[L8 h.left,QZ h.right];exact hc
theorem JC {ops:Array Oper}{i:Nat}{o:Oper}(hi:ops[i]?=some o) {g:Option (Nat×Bool)}(hg:DN ops o.guard=some g) {ρ:Rho}{e:E}{a:Act}(he:ER ρ e a) {w:World}{K:Act→World→Prop}{Q:Exit→Act→World→Prop}:
  (gEv e g=some true→o.wp P a w K Q→wpOp P ops Q i K a w)∧(gEv e g=some false→K (a.put o.dst undef) w→wpOp P ops Q i K a w):=by
 have hw:∀b,gEv e g=some b→Region.wanted o (yielded ops a.tmps)=b:=by
  intro b hb;cases hog:o.guard with
  |none=>
   rw[hog]at hg;simp only[DN,Af]at hg;subst hg;simp only[gEv,Af]at hb;subst hb;simp[Region.wanted,hog]
  |some q=>
   obtain⟨j,want⟩:=q;rw[hog]at hg;simp only[DN]at hg;split at hg
   ·rename_i d hj;simp only[Af]at hg;subst hg;obtain⟨w1,w2⟩:=Mo he hog hj;simp only[gEv]at hb;split at hb
    ·rename_i x hx;simp only[Af]at hb;rw[w1 x hx,hb]
    ·rename_i hx;simp only[Af]at hb;rw[w2 hx,hb]
    ·simp at hb
   ·simp at hg
 constructor
 ·intro h1 h2;unfold wpOp;simp only[hi,hw true h1,DU];exact .inl h2
 ·intro h1 h2;unfold wpOp;simp only[hi,hw false h1,Dh,Di];exact h2
theorem Mk (hty:TyOk P ty) (hib:Du P ibs) (hcall:CT P call) {ops:Array Oper}{i:Nat}{o:Oper}(hi:ops[i]?=some o) {g:Option (Nat×Bool)}(hg:DN ops o.guard=some g) {x:MO}(hx:cMO ty ibs o.op=some x)
  {ρ:Rho} {e:E} {a:Act} (he:∀t∈gT g++moT x,∀v,e.get t=some v→VR ρ v (a.tmps.getD t undef)) {s s':St} {w:World} (hr:Rel ρ s w) {v:V} (hc:Comes call e s g x v s')
  {K:Act→World→Prop} {Q:Exit→Act→World→Prop} (hK:∀cv w' ρ',VR ρ' v cv→Rel ρ' s' w'→Go s ρ w s' ρ' w'→K (a.put o.dst cv) w'):wpOp P ops Q i K a w:=by
 have her:ER ρ (some_ e (gT g++moT x)) a:=by
  intro t u hu;rw[GD]at hu;split at hu
  ·rename_i ht;exact he t ht u hu
  ·simp at hu
 have hc':=hc.like (Jz e (gT g++moT x));obtain⟨k1,k2⟩:=JC (P:=P) (w:=w) (K:=K) (Q:=Q) hi hg her;rcases hc' with ⟨h1,h2⟩ |⟨h1,rfl,rfl⟩
 ·exact k1 h1 (MS hty hib hcall hx her hr h2 hK)
 ·exact k2 h1 (hK _ w ρ ⟨#[],rfl,trivial⟩ hr (Go.refl _ _ _))
structure Pd where
 i:Nat
 a:Inf
 e:E
 v:V
 nid:Nat
def GH (s0 s:St) (ρ:Rho) (p:Pd):Prop:=
 (gEv p.e p.a.g=some false∧p.v= .t [])∨
 (gEv p.e p.a.g=some true∧match p.a.x with
  | .w x=>wv p.e x=some p.v
  | .r x=>rv p.e s x=some p.v
  | .a x=>∃l f,av p.e x=some (l,f)∧p.v=f p.nid∧s.h.get p.nid=some ⟨l,0,0⟩ ∧ρ p.nid=none∧s0.nb≤p.nid
  | .m _=>False)
structure Hf where
 i:Nat
 a:Inf
 e:E
 n:Nat
 oa:O
 ob:O
 x:Nat
 o:Nat
 l:List S
 mid:St
def Same (s s':St):Prop:=s'.nb=s.nb∧s'.nf=s.nf∧(∀x,s'.h.get x=s.h.get x)∧(∀f,s'.fm.get f=s.fm.get f)
theorem Rel.same {ρ:Rho}{s s':St}{w:World}(h:Rel ρ s w) (hs:Same s s'):Rel ρ s' w:=by
 obtain⟨h1,h2,h3,h4⟩:=hs;refine⟨fun x y e=>by rw[h1];exact h.dom x y e,h.blk,fun x cb sh z b e e'=>h.con x cb sh z b e (by rw[←h3];exact e'),
  fun x y cb sh sh' z z' bx b' hne e1 e2 e3 e4=>h.inj x y cb sh sh' z z' bx b' hne e1 e2 (by rw[←h3];exact e3) (by rw[←h3];exact e4),
  fun x b f e e'=> ?_,fun x b e=>by rw[h2];exact h.nfl x b (by rw[←h3];exact e),fun x b e=>by rw[h1];exact h.lt x b (by rw[←h3];exact e)⟩
 rw[h4];exact h.fam x b f (by rw[←h3];exact e) e'
def Q3 (cls:List Nat) (s:St) (ρ:Rho) (act:Act) (pend:List Pd) (h:Hf):Prop:=
 h.a.x= .m (.st h.n h.oa h.ob)∧h.a.g=none∧h.a.o.dst=none∧os h.e h.oa= .p h.x h.o∧cellsOf (ov h.e h.ob)=some h.l∧h.l.length=h.n∧NO h.mid h.x h.o h.l.length∧
 (∀b,h.mid.h.get h.x=some b→h.o+h.l.length≤b.c.length)∧(∃s2,setc h.mid h.x h.o h.l=some s2∧Same s2 s)∧
 (∀t∈h.a.ts,(∃q∈pend,q.a.o.dst=some t∧bt cls h.i q.i=true∧h.e.get t=some q.v)∨((∀q∈pend,q.a.o.dst=some t→bt cls h.i q.i=false)∧ ∀v,h.e.get t=some v→VR ρ v (act.tmps.getD t undef)))∧(∀p∈pend,CD p.a.x=false)
structure Ctx (P:Program) (ty:TypeId→Option TyI) (ibs:FuncId→Bool) (call:Nat→List V→St→Option (V×St)) (nt:Nat) (ops:Array Oper) (infs:List Inf) (cls:List Nat) (prs:List (Nat×Nat)) (order:List Nat):Prop where
 hty:TyOk P ty
 hib:Du P ibs
 hcall:CT P call
 inf:∀ (i:Nat) (a:Inf),infs[i]?=some a→ops[i]?=some a.o∧DN ops a.o.guard=some a.g∧cMO ty ibs a.o.op=some a.x∧Fw nt a.o.dst=true
 mem:∀i,i < ops.size→i∈order
 lt:∀i∈order,i < ops.size
 nodup:order.Nodup
 any:∀i∈order,∀j∈order,i≠j→Fr infs cls prs i j=true∨Fr infs cls prs j i=true
 split:∀pre rest,order=pre++rest→ ∀i∈pre,∀j∈rest,Fr infs cls prs i j=true
 self:∀i∈order,GE infs cls i=true
 dep:∀i j,bt cls i j=true→Dep ops i j
 topo:∀pre i rest,order=pre++i::rest→ ∀a,infs[i]?=some a→ ∀e∈a.o.after,Region.binds .any e=true→e.on∈pre
 all:∀i∈order,∃a,infs[i]?=some a
structure Inv (nt:Nat) (ops:Array Oper) (infs:List Inf) (cls:List Nat) (order:List Nat) (s0:St) (ρ0:Rho) (w0:World)
  (pre:List Nat) (rest:List HS) (e:E) (s:St) (pend:List Pd) (half:Option Hf) (listed:Array Bool) (ρ:Rho) (act:Act) (w:World):Prop where
 rel:match half with |none=>Rel ρ s w |some h=>Rel ρ h.mid w
 go:Go s0 ρ0 w0 s ρ w
 fr:FrOk nt act
 sz:listed.size=ops.size
 lst:∀i,i < ops.size→(listed.getD i true=false↔ (∃p∈pend,p.i=i)∨(∃h,half=some h∧h.i=i)∨i∈AO rest)
 dc:∀i o (ed:Edge),listed.getD i false=true→ops[i]?=some o→ed∈o.after→Region.binds .any ed=true→listed.getD ed.on false=true
 ord:order=pre++AO rest
 pin:∀p∈pend,p.i∈pre
 hin:∀h,half=some h→h.i∈pre∧infs[h.i]?=some h.a
 nd:(pend.map (·.i)).Nodup
 inf:∀p∈pend,infs[p.i]?=some p.a
 i1:∀t v,e.get t=some v→(∀p∈pend,p.a.o.dst≠some t)→VR ρ v (act.tmps.getD t undef)
 i2:∀p∈pend,∀t∈p.a.ts,(∃q∈pend,q.a.o.dst=some t∧bt cls p.i q.i=true∧p.e.get t=some q.v)∨((∀q∈pend,q.a.o.dst=some t→bt cls p.i q.i=false)∧ ∀v,p.e.get t=some v→VR ρ v (act.tmps.getD t undef))
 i3:∀p∈pend,GH s0 s ρ p
 i4:∀p∈pend,∀d,p.a.o.dst=some d→e.get d=some p.v
 i6:∀p∈pend,CD p.a.x=true→Like p.a.ts p.e e
 nids:∀p∈pend,∀q∈pend,p.i≠q.i→(∃x,p.a.x= .a x)→(∃x,q.a.x= .a x)→p.v≠ .t []→q.v≠ .t []→p.nid≠q.nid
 hf:∀h,half=some h→Q3 cls s ρ act pend h
 hp:∀h,half=some h→ ∀j∈AO rest,bt cls j h.i=true
theorem DK {listed:Array Bool}{n j:Nat}(hn:listed.size=n) (hj:j < n):listed.getD j true=listed.getD j false:=by
 have:j < listed.size:=by omega
 simp[Array.getD_eq_getD_getElem?,this]
theorem Ex {ops:Array Oper}{listed:Array Bool}(dc:∀i o (ed:Edge),listed.getD i false=true→ops[i]?=some o→ed∈o.after→Region.binds .any ed=true→listed.getD ed.on false=true)
  {i j:Nat} (hd:Dep ops i j) (hr:∀o,ops[i]?=some o→ ∀ed∈o.after,Region.binds .any ed=true→listed.getD ed.on false=true):listed.getD j false=true:=by
 have all:∀ {i j},Dep ops i j→listed.getD i false=true→listed.getD j false=true:=by
  intro i j h;induction h with
  |one h1 h2 h3 h4=>intro hl;subst h4;exact dc _ _ _ hl h1 h2 h3
  |more h1 h2 h3 h4 _ ih=>intro hl;subst h4;exact ih (dc _ _ _ hl h1 h2 h3)
 cases hd with
 |one h1 h2 h3 h4=>subst h4;exact hr _ h1 _ h2 h3
 |more h1 h2 h3 h4 h5=>subst h4;exact all h5 (hr _ h1 _ h2 h3)
section
variable {ops:Array Oper}{infs:List Inf}{cls:List Nat}{prs:List (Nat×Nat)}{order:List Nat}{s0:St}{ρ0:Rho}{w0:World}{pre:List Nat}{rest:List HS}{e:E}{s:St}{half:Option Hf}{listed:Array Bool}{ρ:Rho}{act:Act}{w:World}
def now (s:St):Option Hf→St
 |none=>s
 |some h=>h.mid
theorem Inv.reln {pend:List Pd}(h:Inv nt ops infs cls order s0 ρ0 w0 pre rest e s pend half listed ρ act w):Rel ρ (now s half) w:=by
 have:=h.rel;cases half <;> exact this
theorem Ig {s s':St}{x o:Nat}{l:List S}(h:setc s x o l=some s'):s'.nb=s.nb:=by
 unfold setc at h;split at h
 ·simp at h
 ·simp only[Af]at h;rw[←h]
theorem Inv.nown {pend:List Pd}(h:Inv nt ops infs cls order s0 ρ0 w0 pre rest e s pend half listed ρ act w):(now s half).nb=s.nb:=by
 cases half with
 |none=>rfl
 |some hh=>
  obtain⟨_,_,_,_,_,_,_,_,⟨s2,h1,h2⟩,_,_⟩:=h.hf hh rfl
  show hh.mid.nb=s.nb
  rw[h2.1,Ig h1]
theorem GI {n i:Nat}{listed:Array Bool}(hn:listed.size=n) (hi:i < n) (j:Nat) (d:Bool):(listed.setIfInBounds i true).getD j d=if j=i then true else listed.getD j d:=by
 simp only[Array.getD_eq_getD_getElem?,Array.getElem?_setIfInBounds];by_cases h:i=j
 ·subst h;simp[hn,hi]
 ·rw[Ab h,Ab (fun e=>h e.symm)]
theorem Ih {n i:Nat}(hn:listed.size=n) (hi:i < n) (dc:∀i o (ed:Edge),listed.getD i false=true→ops[i]?=some o→ed∈o.after→Region.binds .any ed=true→listed.getD ed.on false=true)
  (hr:∀o,ops[i]?=some o→ ∀ed∈o.after,Region.binds .any ed=true→listed.getD ed.on false=true):
  ∀k o (ed:Edge),(listed.setIfInBounds i true).getD k false=true→ops[k]?=some o→ed∈o.after→Region.binds .any ed=true→(listed.setIfInBounds i true).getD ed.on false=true:=by
 intro k o ed h1 h2 h3 h4;rw[GI hn hi]at h1 ⊢;split
 ·rfl
 ·split at h1
  ·rename_i hk;subst hk;exact hr o h2 ed h3 h4
  ·exact dc k o ed h1 h2 h3 h4
theorem JD {e:E}{x:A}{l:List S}{f:Nat→V}(h:av e x=some (l,f)) (n:Nat):f n≠ .t []:=by
 unfold av at h;split at h
 ·simp only[Af,Ax]at h;rw[←h.2];simp
 ·split at h
  ·simp only[Af,Ax]at h;rw[←h.2];simp
  ·simp at h
 ·split at h
  ·simp only[Af,Ax]at h;rw[←h.2];simp
  ·simp at h
 ·split at h
  ·obtain⟨_,h⟩:=Bh h;simp only[Af,Ax]at h;rw[←h.2];simp
  ·simp at h
theorem Inv.done (C:Ctx P ty ibs call nt ops infs cls prs order) {l1 l2:List Pd}{p:Pd}(h:Inv nt ops infs cls order s0 ρ0 w0 pre rest e s (l1++p::l2) half listed ρ act w)
  (hr:∀o,ops[p.i]?=some o→ ∀ed∈o.after,Region.binds .any ed=true→listed.getD ed.on false=true)
  {cv:Value} {w':World} {ρ':Rho} (hv:VR ρ' p.v cv) (hrel:Rel ρ' (now s half) w') (hle:ρ.le ρ') (hgo:Go s0 ρ0 w0 s ρ' w')
  (hnid:∀q∈l1++l2,(∃x,q.a.x= .a x)→q.v≠ .t []→ρ' q.nid=none):
  Inv nt ops infs cls order s0 ρ0 w0 pre rest e s (l1++l2) half (listed.setIfInBounds p.i true) ρ' (act.put p.a.o.dst cv) w':=by
 have hpin:p∈l1++p::l2:=by simp
 have hsub:∀q∈l1++l2,q∈l1++p::l2:=fun q hq=>by
  rcases Ek.1 hq with h1 |h1
  ·exact Cv _ h1
  ·exact EJ _ (List.mem_cons_of_mem _ h1)
 have hcase:∀q∈l1++p::l2,q=p∨q∈l1++l2:=fun q hq=>by
  rcases Ek.1 hq with h1 |h1
  ·exact .inr (Cv _ h1)
  ·rcases List.mem_cons.1 h1 with h1 |h1
   ·exact .inl h1
   ·exact .inr (EJ _ h1)
 have hnd:=h.nd;rw[List.map_append,List.map_cons]at hnd;have hne:∀q∈l1++l2,q.i≠p.i:=fun q hq e=>by
  obtain⟨n1,n2,n3⟩:=EM.1 hnd;obtain⟨n4,n5⟩:=List.nodup_cons.1 n2;rcases Ek.1 hq with h1 |h1
  ·exact n3 q.i (Hi.2 ⟨q,h1,rfl⟩) p.i (List.mem_cons_self ..) e
  ·exact n4 (e▸Hi.2 ⟨q,h1,rfl⟩)
 have hlt:∀q∈l1++p::l2,q.i∈order:=fun q hq=>by rw[h.ord];exact Cv _ (h.pin q hq)
 have hpi:p.i < ops.size:=C.lt _ (hlt p hpin);obtain⟨c1,c2,c3,c4⟩:=C.inf p.i p.a (h.inf p hpin);have htm:=fun t=>Mi (a:=act) (cv:=cv) c4 h.fr t;have unl:∀q∈l1++p::l2,listed.getD q.i false=false:=fun q hq=>by
  have:=(h.lst q.i (C.lt _ (hlt q hq))).2 (.inl ⟨q,hq,rfl⟩);rw[←DK h.sz (C.lt _ (hlt q hq))];exact this
 have notp:∀j,bt cls p.i j=true→ ∀q∈l1++p::l2,q.i≠j:=fun j hj q hq e=>by
  have:=Ex h.dc (C.dep _ _ hj) hr;rw[←e,unl q hq]at this;cases this
 have reads:∀ (i:Nat) (b:Inf),i∈order→infs[i]?=some b→i≠p.i→(listed.getD i false=false)→ ∀t,p.a.o.dst=some t→t∈b.ts→bt cls i p.i=true:=by
  intro i b hi hb hine hun t hd ht;rcases C.any p.i (hlt p hpin) i hi (fun e=>hine e.symm)with hp |hp
  ·obtain⟨a',c',g1,g2,g3,g4,g5,g6,g7,g8⟩:=ET hp;rw[h.inf p hpin]at g1;rw[hb]at g2;simp only[Af]at g1 g2;subst g1 g2;exact g7 t hd ht
  ·obtain⟨a',c',g1,g2,g3,g4,g5,g6,g7,g8⟩:=ET hp;rw[hb]at g1;rw[h.inf p hpin]at g2;simp only[Af]at g1 g2;subst g1 g2;have:=(g8 t hd ht).1;have:=Ex h.dc (C.dep _ _ this) hr;rw[hun]at this;cases this
 have uniq:∀q∈l1++l2,∀t,p.a.o.dst=some t→q.a.o.dst≠some t:=by
  intro q hq t hd hd';rcases C.any p.i (hlt p hpin) q.i (hlt q (hsub q hq)) (fun e=>hne q hq e.symm)with hp |hp
  ·obtain⟨a',c',g1,g2,g3,g4,g5,g6,g7,g8⟩:=ET hp;rw[h.inf p hpin]at g1;rw[h.inf q (hsub q hq)]at g2;simp only[Af]at g1 g2;subst g1 g2;exact g6 t hd hd'
  ·obtain⟨a',c',g1,g2,g3,g4,g5,g6,g7,g8⟩:=ET hp;rw[h.inf q (hsub q hq)]at g1;rw[h.inf p hpin]at g2;simp only[Af]at g1 g2;subst g1 g2;exact g6 t hd' hd
 refine⟨?_,hgo,h.fr.put _ _,by simpa using h.sz,?_,Ih h.sz hpi h.dc hr,h.ord,fun q hq=>h.pin q (hsub q hq),h.hin,?_,fun q hq=>h.inf q (hsub q hq),?_,?_,?_,fun q hq=>h.i4 q (hsub q hq),fun q hq=>h.i6 q (hsub q hq),?_,?_,h.hp⟩
 ·cases half <;> exact hrel
 ·intro i hi;rw[GI h.sz hpi];by_cases hip:i=p.i
  ·rw[Ag hip];simp only[KW,false_iff,not_or,not_exists,not_and];refine⟨fun q hq e=>hne q hq (e.trans hip),fun hh hhe e=> ?_,fun hin=> ?_⟩
   ·
    have:=(h.hin hh hhe);have hx:hh.a.x= .m (.st hh.n hh.oa hh.ob):=(h.hf hh hhe).1;have:infs[p.i]?=some hh.a:=by rw[←hip,←e];exact(h.hin hh hhe).2
    rw[h.inf p hpin]at this;simp only[Af]at this;have hpk:=h.i3 p hpin;rcases hpk with ⟨g1,_⟩ |⟨_,hpk⟩
    ·rw[this,(h.hf hh hhe).2.1]at g1;simp[gEv]at g1
    ·rw[this,hx]at hpk;exact hpk
   ·have hn:=C.nodup;rw[h.ord]at hn;obtain⟨_,_,n3⟩:=EM.1 hn;exact n3 p.i (h.pin p hpin) i hin hip.symm
  ·rw[Ab hip,h.lst i hi];constructor
   ·rintro(⟨q,hq,e⟩ |hh |hh)
    ·rcases hcase q hq with rfl |hq
     ·exact absurd e.symm hip
     ·exact .inl ⟨q,hq,e⟩
    ·exact .inr (.inl hh)
    ·exact .inr (.inr hh)
   ·rintro(⟨q,hq,e⟩ |hh |hh)
    ·exact .inl ⟨q,hsub q hq,e⟩
    ·exact .inr (.inl hh)
    ·exact .inr (.inr hh)
 ·rw[List.map_append];obtain⟨n1,n2,n3⟩:=EM.1 hnd;exact EM.2 ⟨n1,(List.nodup_cons.1 n2).2,fun a ha b hb=>n3 a ha b (List.mem_cons_of_mem _ hb)⟩
 ·intro t v ht hq;rw[htm];by_cases hd:p.a.o.dst=some t
  ·rw[Ag hd];have:=h.i4 p hpin t hd;rw[ht]at this;simp only[Af]at this;rw[this];exact hv
  ·rw[Ab hd];refine(h.i1 t v ht fun q hq'=> ?_).mono hle;rcases hcase q hq' with rfl |hq'
   ·exact hd
   ·exact hq q hq'
 ·intro q hq t ht;rcases h.i2 q (hsub q hq) t ht with ⟨r,hr1,hr2,hr3,hr4⟩ |hh
  ·rcases hcase r hr1 with rfl |hr1
   ·refine .inr ⟨fun q' hq' hd'=>absurd hd' (uniq q' hq' t hr2),fun v hv'=> ?_⟩;rw[htm,Ag hr2];rw[hr4]at hv';simp only[Af]at hv';rw[←hv'];exact hv
   ·exact .inl ⟨r,hr1,hr2,hr3,hr4⟩
  ·by_cases hd:p.a.o.dst=some t
   ·have hb:=reads q.i q.a (hlt q (hsub q hq)) (h.inf q (hsub q hq)) (hne q hq) (unl q (hsub q hq)) t hd ht;rw[hh.1 p hpin hd]at hb;cases hb
   ·refine .inr ⟨fun q' hq'=>hh.1 q' (hsub q' hq'),fun v hv'=> ?_⟩;rw[htm,Ab hd];exact(hh.2 v hv').mono hle
 ·intro q hq;rcases h.i3 q (hsub q hq)with hh |⟨h1,h2⟩
  ·exact .inl hh
  ·refine .inr ⟨h1,?_⟩;cases hx:q.a.x with
   |w x=>rw[hx]at h2;exact h2
   |r x=>rw[hx]at h2;exact h2
   |a x=>
    rw[hx]at h2;obtain⟨l,f,k1,k2,k3,k4,k5⟩:=h2;exact⟨l,f,k1,k2,k3,hnid q hq ⟨x,hx⟩ (by rw[k2];exact JD k1 _),k5⟩
   |m x=>rw[hx]at h2;exact h2
 ·intro q hq r hr' hne' hx hy hz hz';exact h.nids q (hsub q hq) r (hsub r hr') hne' hx hy hz hz'
 ·intro hh hhe;obtain⟨k1,k2,k3,k4,k5,k6,k7,k8,k9,k10,k11⟩:=h.hf hh hhe;refine⟨k1,k2,k3,k4,k5,k6,k7,k8,k9,fun t ht=> ?_,fun q hq=>k11 q (hsub q hq)⟩;have hho:hh.i∈order:=by rw[h.ord];exact Cv _ (h.hin hh hhe).1
  have hun:listed.getD hh.i false=false:=by
   rw[←DK h.sz (C.lt _ hho)];exact(h.lst hh.i (C.lt _ hho)).2 (.inr (.inl ⟨hh,hhe,rfl⟩))
  have hhp:hh.i≠p.i:=fun e=>by
   have:infs[p.i]?=some hh.a:=by rw[←e];exact(h.hin hh hhe).2
   rw[h.inf p hpin]at this;simp only[Af]at this;rcases h.i3 p hpin with ⟨g1,_⟩ |⟨_,hpk⟩
   ·rw[this,k2]at g1;simp[gEv]at g1
   ·rw[this,k1]at hpk;exact hpk
  rcases k10 t ht with ⟨r,hr1,hr2,hr3,hr4⟩ |hh2
  ·rcases hcase r hr1 with rfl |hr1
   ·refine .inr ⟨fun q' hq' hd'=>absurd hd' (uniq q' hq' t hr2),fun v hv'=> ?_⟩;rw[htm,Ag hr2];rw[hr4]at hv';simp only[Af]at hv';rw[←hv'];exact hv
   ·exact .inl ⟨r,hr1,hr2,hr3,hr4⟩
  ·by_cases hd:p.a.o.dst=some t
   ·have hb:=reads hh.i hh.a hho (h.hin hh hhe).2 hhp hun t hd ht;rw[hh2.1 p hpin hd]at hb;cases hb
   ·refine .inr ⟨fun q' hq'=>hh2.1 q' (hsub q' hq'),fun v hv'=> ?_⟩;rw[htm,Ab hd];exact(hh2.2 v hv').mono hle
theorem Rel.late {ρ:Rho}{s:St}{w:World}(h:Rel ρ s w) {nid:Nat}{l:List S}(hn:s.h.get nid=some ⟨l,0,0⟩) (hρ:ρ nid=Option.none) {cells:Array Value}(hl:LR (SR ρ) l cells.toList) (el:TypeId):
  Rel (ρ.with nid (w.heap.size,0,cells.size)) s (w.alloc (.cells cells el)):=by
 have hle:ρ.le (ρ.with nid (w.heap.size,0,cells.size)):=Rho.with_le hρ;have hcase:∀x cb sh z,ρ.with nid (w.heap.size,0,cells.size) x=some (cb,sh,z)→(x=nid∧cb=w.heap.size∧sh=0∧z=cells.size)∨(x≠nid∧ρ x=some (cb,sh,z)):=by
  intro x cb sh z hx;by_cases hk:x=nid
  ·subst hk;rw[Rho.with_at]at hx;simp only[Af,Ax]at hx;exact .inl ⟨rfl,hx.1.symm,hx.2.1.symm,hx.2.2.symm⟩
  ·exact .inr ⟨hk,by rw[Rho.with_ne hk]at hx;exact hx⟩
 have hlen:l.length=cells.size:=by rw[hl.length];simp
 refine⟨?_,?_,?_,?_,h.fam,h.nfl,h.lt⟩
 ·intro x ⟨cb,sh,z⟩ hx;rcases hcase x cb sh z hx with ⟨rfl,_⟩ |⟨_,hx⟩
  ·exact h.lt _ _ hn
  ·exact h.dom _ _ hx
 ·intro x cb sh z hx;rcases hcase x cb sh z hx with ⟨rfl,rfl,rfl,rfl⟩ |⟨_,hx⟩
  ·exact⟨cells,el,heap_alloc_new w _,rfl⟩
  ·obtain⟨cs,e,h1,h2⟩:=h.blk x cb sh z hx;exact⟨cs,e,by rw[heap_alloc_old w _ _ (h.block_lt hx)];exact h1,h2⟩
 ·intro x cb sh z b hx hb;rcases hcase x cb sh z hx with ⟨rfl,rfl,rfl,rfl⟩ |⟨hne,hx⟩
  ·rw[hn]at hb;simp only[Af]at hb;subst hb;refine⟨by show 0+l.length≤_;omega,fun i sv hi=> ?_⟩;obtain⟨cv,h1,h2⟩:=hl.get hi;exact⟨cv,by rw[BU,World.cell?_alloc_new];simpa using h1,h2.mono hle⟩
  ·obtain⟨h1,h2⟩:=h.con x cb sh z b hx hb;refine⟨h1,fun i sv hi=> ?_⟩;obtain⟨cv,h3,h4⟩:=h2 i sv hi;exact⟨cv,by rw[World.cell?_alloc_lt w _ _ (h.block_lt hx)];exact h3,h4.mono hle⟩
 ·intro x y cb sh sh' z z' bx b' hne hx hy hbx hby;rcases hcase x cb sh z hx with ⟨e1,e2,_,_⟩ |⟨hnx,hx2⟩
  ·rcases hcase y _ sh' z' hy with ⟨e3,_⟩ |⟨hny,hy2⟩
   ·exact absurd (e1.trans e3.symm) hne
   ·have:=h.block_lt hy2;omega
  ·rcases hcase y _ sh' z' hy with ⟨e3,e4,_⟩ |⟨hny,hy2⟩
   ·have:=h.block_lt hx2;omega
   ·exact h.inj x y cb sh sh' z z' bx b' hne hx2 hy2 hbx hby
theorem Q4 (C:Ctx P ty ibs call nt ops infs cls prs order) {l1 l2:List Pd}{p:Pd}(h:Inv nt ops infs cls order s0 ρ0 w0 pre rest e s (l1++p::l2) half listed ρ act w)
  (hr:∀o,ops[p.i]?=some o→ ∀ed∈o.after,Region.binds .any ed=true→listed.getD ed.on false=true) {K:Act→World→Prop} {Q:Exit→Act→World→Prop}
  (hK:∀act' w' ρ',Inv nt ops infs cls order s0 ρ0 w0 pre rest e s (l1++l2) half (listed.setIfInBounds p.i true) ρ' act' w'→K act' w'):wpOp P ops Q p.i K act w:=by
 have hpin:p∈l1++p::l2:=by simp
 have hsub:∀q∈l1++l2,q∈l1++p::l2:=fun q hq=>by
  rcases Ek.1 hq with h1 |h1
  ·exact Cv _ h1
  ·exact EJ _ (List.mem_cons_of_mem _ h1)
 have hlt:∀q∈l1++p::l2,q.i∈order:=fun q hq=>by rw[h.ord];exact Cv _ (h.pin q hq)
 obtain⟨c1,c2,c3,c4⟩:=C.inf p.i p.a (h.inf p hpin);have unl:∀q∈l1++p::l2,listed.getD q.i false=false:=fun q hq=>by
  have:=(h.lst q.i (C.lt _ (hlt q hq))).2 (.inl ⟨q,hq,rfl⟩);rw[←DK h.sz (C.lt _ (hlt q hq))];exact this
 have htemps:∀t∈gT p.a.g++moT p.a.x,∀v,p.e.get t=some v→VR ρ v (act.tmps.getD t undef):=by
  intro t ht v hv;rcases h.i2 p hpin t ht with ⟨r,hr1,_,hr3,_⟩ |hh
  ·have:=Ex h.dc (C.dep _ _ hr3) hr;rw[unl r hr1]at this;cases this
  ·exact hh.2 v hv
 have hnone:∀q∈l1++p::l2,CD q.a.x=true→half=none:=by
  intro q hq hra;cases hh:half with
  |none=>rfl
  |some hf=>
   have:=(h.hf hf hh).2.2.2.2.2.2.2.2.2.2 q hq;rw[hra]at this;cases this
 have hnids:∀ (ρ':Rho) (w':World),Go (now s half) ρ w (now s half) ρ' w'→ ∀q∈l1++l2,(∃x,q.a.x= .a x)→q.v≠ .t []→ρ' q.nid=none:=by
  intro ρ' w' hg q hq ⟨x,hx⟩ hz;have hn:=hnone q (hsub q hq) (by rw[hx];rfl);rcases h.i3 q (hsub q hq)with ⟨_,g2⟩ |⟨_,g2⟩
  ·exact absurd g2 hz
  ·rw[hx]at g2;obtain⟨l,f,k1,k2,k3,k4,k5⟩:=g2;cases hρ:ρ' q.nid with
   |none=>rfl
   |some y=>
    rcases hg.fresh _ _ hρ with h1 |h1
    ·rw[k4]at h1;cases h1
    ·have hrel:=h.reln;rw[hn]at hrel h1;have:=hrel.lt _ _ k3;exact absurd h1 (Nat.not_le.2 this)
 have plain:∀ {x:MO},p.a.x=x→Comes call p.e (now s half) p.a.g x p.v (now s half)→wpOp P ops Q p.i K act w:=by
  intro x hx hc;refine Mk C.hty C.hib C.hcall c1 c2 (by rw[←hx];exact c3) (by rw[←hx];exact htemps) h.reln hc fun cv w' ρ' k1 k2 k3=> ?_;refine hK _ _ ρ' (h.done C hr k1 k2 k3.le (h.go.trans (k3.states h.nown.symm h.nown.symm)) (hnids ρ' w' k3))
 rcases h.i3 p hpin with ⟨g1,g2⟩ |⟨g1,g2⟩
 ·exact plain rfl (.inr ⟨g1,g2,rfl⟩)
 ·cases hx:p.a.x with
  |w x=>
   rw[hx]at g2;exact plain hx (.inl ⟨g1,by simp only[mo,g2]⟩)
  |r x=>
   rw[hx]at g2;have hn:=hnone p hpin (by rw[hx];rfl);refine plain hx (.inl ⟨g1,?_⟩);subst hn;simp only[mo,now];have g2':rv p.e s x=some p.v:=g2;rw[g2']
  |a x=>
   rw[hx]at g2;obtain⟨l,f,k1,k2,k3,k4,k5⟩:=g2;have hn:=hnone p hpin (by rw[hx];rfl);subst hn;have hts:p.a.ts=gT p.a.g++aT x:=by unfold Inf.ts;rw[hx];rfl
   have her:ER ρ (some_ p.e p.a.ts) act:=by
    intro t u hu;rw[GD]at hu;split at hu
    ·rename_i ht;exact htemps t ht u hu
    ·simp at hu
   have hlk:Like (gT p.a.g++aT x) (some_ p.e p.a.ts) p.e:=by rw[←hts];exact Jz _ _
   refine(JC (P:=P) c1 c2 her).1 (by rw[L8 hlk.left];exact g1) ?_;have hav:av (some_ p.e p.a.ts) x=some (l,f):=by rw[Jy hlk.right];exact k1
   obtain⟨cv,cells,el,j1,j2,j3⟩:=MI C.hty (op:=p.a.o.op) (by rw[hx]at c3;exact c3) her hav p.a.o.dst p.a.o.type p.a.o.pos p.a.o.after p.a.o.guard w;have hrel:Rel ρ s w:=h.rel;have hlate:=hrel.late k3 k4 j2 el;refine Oper.wp_value (o:=p.a.o) j1 ?_;have hdone:=h.done C hr (cv:=cv) (ρ':=ρ.with p.nid (w.heap.size,0,cells.size)) (by rw[k2];exact j3 _ _ (Rho.with_at _ _ _)) hlate (Rho.with_le k4) ?_ ?_
   ·exact hK _ _ _ hdone
   ·refine⟨Rho.le_trans h.go.le (Rho.with_le k4),h.go.os,h.go.tape,h.go.output,Ar h.go.size (by simp),?_,?_,h.go.nbs,?_⟩
    ·intro c hc hno;rw[heap_alloc_old w _ _ (Aj hc h.go.size)];exact h.go.block c hc hno
    ·intro y cb sh z hy;by_cases hyn:y=p.nid
     ·subst hyn;rw[Rho.with_at]at hy;simp only[Af,Ax]at hy;exact .inr (by rw[←hy.1];exact h.go.size)
     ·rw[Rho.with_ne hyn]at hy;exact h.go.new _ _ _ _ hy
    ·intro y q hy;by_cases hyn:y=p.nid
     ·subst hyn;exact .inr k5
     ·rw[Rho.with_ne hyn]at hy;exact h.go.fresh _ _ hy
   ·intro q hq ⟨x',hx'⟩ hz;have hqi:p.i≠q.i:=by
     have hnd:=h.nd;rw[List.map_append,List.map_cons]at hnd;obtain⟨n1,n2,n3⟩:=EM.1 hnd;obtain⟨n4,n5⟩:=List.nodup_cons.1 n2;intro e;rcases Ek.1 hq with h1 |h1
     ·exact n3 q.i (Hi.2 ⟨q,h1,rfl⟩) p.i (List.mem_cons_self ..) e.symm
     ·exact n4 (e▸Hi.2 ⟨q,h1,rfl⟩)
    have hne:=h.nids p hpin q (hsub q hq) hqi ⟨x,hx⟩ ⟨x',hx'⟩ (by rw[k2];exact JD k1 _) hz;rw[Rho.with_ne (fun e=>hne e.symm)];rcases h.i3 q (hsub q hq)with ⟨_,g3⟩ |⟨_,g3⟩
    ·exact absurd g3 hz
    ·rw[hx']at g3;obtain⟨_,_,_,_,_,m4,_⟩:=g3;exact m4
  |m x=>rw[hx]at g2;exact g2.elim
end
end
theorem Mq:∀ {l m:List (Nat×Nat)},Ju l m=true→l=m
 | [],[],_=>rfl
 | [],_::_,h=>by cases h
 |_::_,[],h=>by cases h
 |x::l,y::m,h=>by
  have h':Bool.rec (motive:=fun _=>Bool) false (Ju l m) (Nat.beq x.1 y.1&& Nat.beq x.2 y.2)=true:=h;cases hb:(Nat.beq x.1 y.1&& Nat.beq x.2 y.2)with
  |false=>rw[hb]at h';cases h'
  |true=>
   rw[hb]at h';simp only[AH,Bf,BQ]at hb;rw[Mq (l:=l) (m:=m) h']
   congr 1
   exact Prod.ext hb.1 hb.2
theorem Mr {a b:S}(h:sEq a b=true):a=b:=by
 cases a <;> cases b <;> simp only[sEq,Dh]at h <;> try(first |rfl |cases h)
 case b.b x y=>cases x <;> cases y <;> first |rfl |cases h
 case i.i x y=>rw[F8]at h;simp only[BQ]at h;rw[h]
 case j.j k x k' y=>
  rw[F8,AH]at h;rw[M0 h.1,BQ.1 h.2]
 case s.s x y=>rw[seq_eq]at h;simp only[BQ]at h;rw[h]
 case p.p x y x' y'=>
  simp only[AH,Bf,BQ]at h;rw[h.1,h.2]
 case l.l a1 a2 a3 a4 a5 b1 b2 b3 b4 b5=>
  simp only[AH,Bf,BQ]at h;obtain⟨⟨⟨⟨h1,h2⟩,h3⟩,h4⟩,h5⟩:=h;subst h1 h2 h3 h4;cases a5 <;> cases b5 <;> first |rfl |cases h5
 case f.f g l g' l'=>
  simp only[AH,Bf,BQ]at h;rw[h.1,Mq h.2]
theorem JI:∀ {l m:List S},lEq l m=true→l=m
 | [],[],_=>rfl
 | [],_::_,h=>by cases h
 |_::_,[],h=>by cases h
 |x::l,y::m,h=>by
  have h':Bool.rec (motive:=fun _=>Bool) false (lEq l m) (sEq x y)=true:=h;cases hb:sEq x y with
  |false=>rw[hb]at h';cases h'
  |true=>
   rw[hb]at h';rw[JI (l:=l) (m:=m) h',Mr hb]
theorem Q9 {a b:V}(h:vEq a b=true):a=b:=by
 cases a <;> cases b <;> simp only[vEq,Dh]at h
 ·rw[Mr h]
 ·rw[JI h]
theorem JJ {e:E}{s:St}:∀ {l:List (Nat×R)},Fo e s l=true→ ∀p∈l,ov e (.t p.1)= .t []∨rv e s p.2=some (ov e (.t p.1))
 | [],_,p,hp=>by simp at hp
 |q::l,h,p,hp=>by
  have h':(match ov e (.t q.1)with
   | .t []=>Fo e s l
   |v=>match rv e s q.2 with |some u=>vEq v u&& Fo e s l |none=>false)=true:=h
  split at h'
  ·rename_i hv;rcases List.mem_cons.1 hp with rfl |hp
   ·exact .inl hv
   ·exact JJ h' p hp
  ·rename_i hv;split at h'
   ·rename_i u hu;simp only[AH]at h';rcases List.mem_cons.1 hp with rfl |hp
    ·exact .inr (by rw[hu,Q9 h'.1])
    ·exact JJ h'.2 p hp
   ·cases h'
theorem JK {e:E}{s:St}:∀ {l:List (Nat×A)},Fp e s l=true→ ∀p∈l,ov e (.t p.1)= .t []∨ ∃m f x,av e p.2=some (m,f)∧GB (ov e (.t p.1))=some x∧s.h.get x=some ⟨m,0,0⟩
 | [],_,p,hp=>by simp at hp
 |q::l,h,p,hp=>by
  have h':(match ov e (.t q.1)with
   | .t []=>Fp e s l
   |v=>match av e q.2,GB v with
    |some (m,_),some x=>match s.h.get x with
     |some b=>lEq b.c m&& Nat.beq b.fam 0&& Nat.beq b.d 0&& Fp e s l
     |none=>false
    |_,_=>false)=true:=h
  split at h'
  ·rename_i hv;rcases List.mem_cons.1 hp with rfl |hp
   ·exact .inl hv
   ·exact JK h' p hp
  ·rename_i hv;split at h'
   ·rename_i m f x h1 h2;split at h'
    ·rename_i b hb;simp only[AH,Bf,BQ]at h';obtain⟨⟨⟨g1,g2⟩,g3⟩,g4⟩:=h';rcases List.mem_cons.1 hp with rfl |hp
     ·refine .inr ⟨m,f,x,h1,h2,?_⟩;rw[hb];obtain⟨bc,bf,bd⟩:=b;simp only at g1 g2 g3;rw[JI g1,g2,g3]
     ·exact JK g4 p hp
    ·cases h'
   ·cases h'
theorem Ra {e:E}{x:A}{l:List S}{f:Nat→V}(h:av e x=some (l,f)) (n:Nat):GB (f n)=some n:=by
 unfold av at h;split at h
 ·simp only[Af,Ax]at h;rw[←h.2];rfl
 ·split at h
  ·simp only[Af,Ax]at h;rw[←h.2];rfl
  ·simp at h
 ·split at h
  ·simp only[Af,Ax]at h;rw[←h.2];rfl
  ·simp at h
 ·split at h
  ·obtain⟨_,h⟩:=Bh h;simp only[Af,Ax]at h;rw[←h.2];rfl
  ·simp at h
theorem Rb {e:E}{s:St}{x:R}{v:V}(h:rv e s x=some v):v≠ .t []:=by
 unfold rv at h;split at h
 ·unfold ldv at h;split at h
  ·split at h
   ·split at h
    ·split at h
     ·simp only[Af]at h;rw[←h];simp
     ·simp at h
    ·simp at h
   ·split at h
    ·simp only[Af]at h;rw[←h];simp
    ·simp at h
  ·simp at h
 ·split at h
  ·simp only[Af]at h;rw[←h];simp
  ·replace h:=Bh h;obtain⟨_,h⟩:=h;split at h
   ·split at h
    ·simp only[Af]at h;rw[←h];simp
    ·simp at h
   ·simp at h
  ·simp at h
theorem Ms {infs:List Inf}{cls:List Nat}{m:Nat}:∀ {l:List Nat}{i:Nat}{a:Inf}{y:R}{d:Nat},i∈l→infs[i]?=some a→a.x= .r y→a.o.dst=some d→bt cls m i=false→(d,y)∈Eb infs cls m l
 | [],_,_,_,_,h,_,_,_,_=>by simp at h
 |k::l,i,a,y,d,h,ha,hx,hd,hb=>by
  unfold Eb;rcases List.mem_cons.1 h with e |h'
  ·subst e;simp only[ha,hx,hd,hb,Dh,Di];exact List.mem_cons_self ..
  ·have ih:=Ms h' ha hx hd hb;split
   ·split
    ·split
     ·exact ih
     ·exact List.mem_cons_of_mem _ ih
    ·exact ih
   ·exact ih
theorem Mt {infs:List Inf}{cls:List Nat}{m:Nat}:∀ {l:List Nat}{i:Nat}{a:Inf}{y:A}{d:Nat},i∈l→infs[i]?=some a→a.x= .a y→a.o.dst=some d→bt cls m i=false→(d,y)∈Ec infs cls m l
 | [],_,_,_,_,h,_,_,_,_=>by simp at h
 |k::l,i,a,y,d,h,ha,hx,hd,hb=>by
  unfold Ec;rcases List.mem_cons.1 h with e |h'
  ·subst e;simp only[ha,hx,hd,hb,Dh,Di];exact List.mem_cons_self ..
  ·have ih:=Mt h' ha hx hd hb;split
   ·split
    ·split
     ·exact ih
     ·exact List.mem_cons_of_mem _ ih
    ·exact ih
   ·exact ih
theorem F4 {e:E}{dst:Option Nat}{v:V}(t:Nat):(put e dst v).get t=if dst=some t then some v else e.get t:=by
 cases dst with
 |none=>simp[put]
 |some d=>
  show(T.upd (some v) e d).get t=_
  rw[T.get_upd];by_cases h:t=d
  ·subst h;simp
  ·rw[Ab h,Ab (fun e=>h (Ah e).symm)]
section
variable {P:Program}{ty:TypeId→Option TyI}{ibs:FuncId→Bool}{call:Nat→List V→St→Option (V×St)}{nt:Nat}
variable {ops:Array Oper}{infs:List Inf}{cls:List Nat}{prs:List (Nat×Nat)}{order:List Nat}{s0:St}{ρ0:Rho}{w0:World}{pre:List Nat}{rest:List HS}{e:E}{s:St}{listed:Array Bool}{ρ:Rho}{act:Act}{w:World}
theorem Rc {e1:E}{s1:St}{ρ':Rho}{m:Nat}{pend:List Pd}{p:Pd}(hp:GH s0 s ρ p) (hpre:p.i∈pre) (hinf:infs[p.i]?=some p.a) (hb:bt cls m p.i=false) (hR:Fo e1 s1 (Eb infs cls m pre)=true) (hA:Fp e1 s1 (Ec infs cls m pre)=true)
  (hra:CD p.a.x=true→ ∃d,p.a.o.dst=some d) (h4:∀d,p.a.o.dst=some d→e1.get d=some p.v) (h6:CD p.a.x=true→Like p.a.ts p.e e1) (hρ:∀nid,ρ nid=none→(∃b,s.h.get nid=some b)→ρ' nid=none):GH s0 s1 ρ' p:=by
 rcases hp with hp |⟨g1,g2⟩
 ·exact .inl hp
 ·refine .inr ⟨g1,?_⟩;cases hx:p.a.x with
  |w x=>rw[hx]at g2;exact g2
  |m x=>rw[hx]at g2;exact g2
  |r x=>
   rw[hx]at g2;have g2':rv p.e s x=some p.v:=g2;have hra':CD p.a.x=true:=by rw[hx];rfl
   obtain⟨d,hd⟩:=hra hra';have hov:ov e1 (.t d)=p.v:=by simp only[ov,h4 d hd]
   have hts:Like (gT p.a.g++rT x) p.e e1:=by
    have:=h6 hra';unfold Inf.ts at this;rw[hx]at this;exact this
   rcases JJ hR _ (Ms hpre hinf hx hd hb)with h |h
   ·rw[hov]at h;exact absurd h (Rb g2')
   ·show rv p.e s1 x=some p.v
    rw[L7 hts.right,h,hov]
  |a x=>
   rw[hx]at g2;obtain⟨l,f,k1,k2,k3,k4,k5⟩:=g2;have hra':CD p.a.x=true:=by rw[hx];rfl
   obtain⟨d,hd⟩:=hra hra';have hov:ov e1 (.t d)=p.v:=by simp only[ov,h4 d hd]
   have hts:Like (gT p.a.g++aT x) p.e e1:=by
    have:=h6 hra';unfold Inf.ts at this;rw[hx]at this;exact this
   rcases JK hA _ (Mt hpre hinf hx hd hb)with h |⟨mm,f',xx,h1,h2,h3⟩
   ·rw[hov,k2]at h;exact absurd h (JD k1 _)
   ·have h1':av e1 x=some (mm,f'):=h1;rw[←Jy hts.right,k1]at h1';simp only[Af,Ax]at h1';obtain⟨rfl,rfl⟩:=h1';have h2':GB (ov e1 (.t d))=some xx:=h2;rw[hov,k2,Ra k1]at h2';simp only[Af]at h2';subst h2';exact⟨l,f,k1,k2,h3,hρ _ k4 ⟨_,k3⟩,k5⟩
theorem Re (C:Ctx P ty ibs call nt ops infs cls prs order) {m:Nat}{l:List HS}{pend:List Pd}(h:Inv nt ops infs cls order s0 ρ0 w0 pre (.ev m::l) e s pend none listed ρ act w) {a:Inf}(ha:infs[m]?=some a) {x:M}(hx:a.x= .m x)
  (hr:∀o,ops[m]?=some o→ ∀ed∈o.after,Region.binds .any ed=true→listed.getD ed.on false=true) {e1:E} {s1:St} (hev:evG call e s a.o.dst a.g (.m x)=some (e1,s1)) (hR:Fo e1 s1 (Eb infs cls m pre)=true) (hA:Fp e1 s1 (Ec infs cls m pre)=true)
  {K:Act→World→Prop} {Q:Exit→Act→World→Prop} (hK:∀act' w' ρ',Inv nt ops infs cls order s0 ρ0 w0 (pre++ [m]) l e1 s1 pend none (listed.setIfInBounds m true) ρ' act' w'→K act' w'):wpOp P ops Q m K act w:=by
 have hord:order=pre++m::AO l:=h.ord;have hmo:m∈order:=by rw[hord];simp
 have hmn:m < ops.size:=C.lt _ hmo;obtain⟨c1,c2,c3,c4⟩:=C.inf m a ha;have hlt:∀q∈pend,q.i∈order:=fun q hq=>by rw[h.ord];exact Cv _ (h.pin q hq)
 have unl:∀q∈pend,listed.getD q.i false=false:=fun q hq=>by
  have:=(h.lst q.i (C.lt _ (hlt q hq))).2 (.inl ⟨q,hq,rfl⟩);rw[←DK h.sz (C.lt _ (hlt q hq))];exact this
 have notcl:∀q∈pend,bt cls m q.i=false:=fun q hq=>by
  cases hb:bt cls m q.i with
  |false=>rfl
  |true=>
   have:=Ex h.dc (C.dep _ _ hb) hr;rw[unl q hq]at this;cases this
 have facts:∀q∈pend,(∀d,q.a.o.dst=some d→a.o.dst≠some d)∧(∀d,q.a.o.dst=some d→d∉a.ts)∧(∀d,a.o.dst=some d→d∉q.a.ts):=by
  intro q hq;obtain⟨a',c',g1,g2,g3,g4,g5,g6,g7,g8⟩:=ET (C.split pre (m::AO l) hord q.i (h.pin q hq) m (List.mem_cons_self ..));rw[h.inf q hq]at g1;rw[ha]at g2;simp only[Af]at g1 g2;subst g1 g2;refine⟨g6,fun d hd hm=> ?_,fun d hd hm=> ?_⟩
  ·have:=g7 d hd hm;rw[notcl q hq]at this;cases this
  ·have:=(g8 d hd hm).1;rw[notcl q hq]at this;cases this
 have htemps:∀t∈gT a.g++moT a.x,∀v,e.get t=some v→VR ρ v (act.tmps.getD t undef):=fun t ht v hv=>
  h.i1 t v hv fun q hq hd=>(facts q hq).2.1 t hd ht
 obtain⟨v,hc,rfl⟩:=Mj hev;have hrel:Rel ρ s w:=h.rel;refine Mk C.hty C.hib C.hcall c1 c2 (by rw[←hx];exact c3) (by rw[←hx];exact htemps) hrel hc fun cv w' ρ' k1 k2 k3=>hK _ _ ρ' ?_;have htm:=fun t=>Mi (a:=act) (cv:=cv) c4 h.fr t;have hnodup:(pre++m::AO l).Nodup:=by rw[←hord];exact C.nodup
 obtain⟨n1,n2,n3⟩:=EM.1 hnodup;obtain⟨n4,n5⟩:=List.nodup_cons.1 n2;have h4:∀q∈pend,∀d,q.a.o.dst=some d→(put e a.o.dst v).get d=some q.v:=by
  intro q hq d hd;rw[F4,Ab ((facts q hq).1 d hd)];exact h.i4 q hq d hd
 have h6:∀q∈pend,CD q.a.x=true→Like q.a.ts q.e (put e a.o.dst v):=by
  intro q hq hra t ht;rw[F4,Ab (fun hd=>(facts q hq).2.2 t hd ht)];exact h.i6 q hq hra t ht
 refine⟨k2,h.go.trans k3,h.fr.put _ _,by simpa using h.sz,?_,Ih h.sz hmn h.dc hr,by rw[hord];simp,fun q hq=>Cv _ (h.pin q hq),(fun hh hhe=>by cases hhe),h.nd,h.inf,?_,?_,?_,h4,h6,h.nids,(fun hh hhe=>by cases hhe),(fun hh hhe=>by cases hhe)⟩
 ·intro i hi;rw[GI h.sz hmn];by_cases him:i=m
  ·rw[Ag him];simp only[KW,false_iff,not_or,not_exists,not_and];refine⟨fun q hq e=>n3 q.i (h.pin q hq) m (List.mem_cons_self ..) (e.trans him),(fun hh hhe=>by cases hhe),fun hin=>n4 (him▸hin)⟩
  ·rw[Ab him,h.lst i hi];constructor
   ·rintro(hh |hh |hh)
    ·exact .inl hh
    ·exact .inr (.inl hh)
    ·rcases List.mem_cons.1 hh with e' |hh
     ·exact absurd e' him
     ·exact .inr (.inr hh)
   ·rintro(hh |hh |hh)
    ·exact .inl hh
    ·exact .inr (.inl hh)
    ·exact .inr (.inr (List.mem_cons_of_mem _ hh))
 ·intro t u hu hq;rw[htm];rw[F4]at hu;split at hu
  ·rename_i hd;rw[Ag hd];simp only[Af]at hu;subst hu;exact k1
  ·rename_i hd;rw[Ab hd];exact(h.i1 t u hu hq).mono k3.le
 ·intro q hq t ht;rcases h.i2 q hq t ht with hh |⟨hh1,hh2⟩
  ·exact .inl hh
  ·refine .inr ⟨hh1,fun u hu=> ?_⟩;rw[htm,Ab (fun hd=>(facts q hq).2.2 t hd ht)];exact(hh2 u hu).mono k3.le
 ·intro q hq;obtain⟨a',g1,g2,g3,g4⟩:=JB (C.self q.i (hlt q hq));rw[h.inf q hq]at g1;simp only[Af]at g1;subst g1;refine Rc (pend:=pend) (h.i3 q hq) (h.pin q hq) (h.inf q hq) (notcl q hq) hR hA g4 (h4 q hq) (h6 q hq) ?_;rintro nid hn ⟨b,hb⟩;cases hρ:ρ' nid with
  |none=>rfl
  |some y=>
   rcases k3.fresh _ _ hρ with h1 |h1
   ·rw[hn]at h1;cases h1
   ·exact absurd h1 (Nat.not_le.2 (hrel.lt _ _ hb))
end
theorem Rel.known {ρ:Rho}{s:St}{w:World}(h:Rel ρ s w) (l:List S):Rel ρ (Ev.alloc s l) w:=by
 have hne:∀x q,ρ x=some q→x≠s.nb:=fun x q hx e=>by rw[e,h.none]at hx;cases hx
 refine⟨?_,h.blk,?_,?_,?_,?_,?_⟩
 ·intro x q hx
  show x < s.nb+1
  have:=h.dom x q hx;omega
 ·intro x cb sh z b hx hb;rw[Cw,Ab (hne x _ hx)]at hb;exact h.con x cb sh z b hx hb
 ·intro x y cb sh sh' z z' bx b' hn hx hy h1 h2;rw[Cw,Ab (hne x _ hx)]at h1;rw[Cw,Ab (hne y _ hy)]at h2;exact h.inj x y cb sh sh' z z' bx b' hn hx hy h1 h2
 ·intro x b f hb hf;rw[Cw]at hb;split at hb
  ·simp only[Af]at hb;subst hb;simp at hf
  ·exact h.fam x b f hb hf
 ·intro x b hb;rw[Cw]at hb;split at hb
  ·simp only[Af]at hb;subst hb;exact Av _
  ·exact h.nfl x b hb
 ·intro x b hb
  show x < s.nb+1
  rw[Cw]at hb;split at hb
  ·omega
  ·have:=h.lt x b hb;omega
theorem Go.later {s s1 s2:St}{ρ ρ':Rho}{w w':World}(h:Go s ρ w s1 ρ' w') (hle:s1.nb≤s2.nb):Go s ρ w s2 ρ' w':=
 ⟨h.le,h.os,h.tape,h.output,h.size,h.block,h.new,Ar h.nbs hle,h.fresh⟩
theorem Mx {ρ:Rho}{s:St}{w:World}(h:Rel ρ s w) (l:List S) {x o n:Nat}{m:List S}(hc:cellsAt s x o n=some m):cellsAt (alloc s l) x o n=some m:=by
 unfold cellsAt at hc ⊢;cases hb:s.h.get x with
 |none=>rw[hb]at hc;simp at hc
 |some b=>
  have hne:x≠s.nb:=fun e=>by have:=h.lt x b hb;omega
  rw[Cw,Ab hne,hb];rw[hb]at hc;exact hc
theorem Rj {ρ:Rho}{s:St}{w:World}(h:Rel ρ s w) (l:List S) {e:E}{x:R}{v:V}(hv:rv e s x=some v):rv e (alloc s l) x=some v:=by
 unfold rv at hv ⊢;cases x with
 |ld n a=>
  simp only at hv ⊢;unfold ldv at hv ⊢;split at hv
  ·rename_i x o hx;cases n with
   |none=>
    simp only at hv ⊢;cases hb:s.h.get x with
    |none=>rw[hb]at hv;simp at hv
    |some b=>
     have hne:x≠s.nb:=fun e=>by have:=h.lt x b hb;omega
     rw[Cw,Ab hne,hb];rw[hb]at hv;exact hv
   |some n=>
    simp only at hv ⊢;split at hv
    ·rename_i m hm;rw[Mx h l hm];exact hv
    ·simp at hv
  ·simp at hv
 |bts a=>
  simp only at hv ⊢;split at hv
  ·exact hv
  ·rename_i x o n sz full hx;replace hv:=Bh hv;obtain⟨h1,hv⟩:=hv;rw[h1,cond_true];split at hv
   ·rename_i m hm;rw[Mx h l hm];exact hv
   ·simp at hv
  ·simp at hv
theorem F5 (i:Nat) (l:List HS):AO (.ev i::l)=i::AO l:=rfl
theorem GK (i j:Nat) (l:List HS):AO (.e2 i j::l)=i::j::AO l:=rfl
section
variable {P:Program}{ty:TypeId→Option TyI}{ibs:FuncId→Bool}{call:Nat→List V→St→Option (V×St)}{nt:Nat}
variable {ops:Array Oper}{infs:List Inf}{cls:List Nat}{prs:List (Nat×Nat)}{order:List Nat}{s0:St}{ρ0:Rho}{w0:World}{pre:List Nat}{rest:List HS}{e:E}{s:St}{listed:Array Bool}{ρ:Rho}{act:Act}{w:World}
theorem Rk (C:Ctx P ty ibs call nt ops infs cls prs order) {i:Nat}{l:List HS}{pend:List Pd}(h:Inv nt ops infs cls order s0 ρ0 w0 pre (.ev i::l) e s pend none listed ρ act w) {a:Inf}(ha:infs[i]?=some a) (hm:isM a.x=false)
  {e1:E} {s1:St} (hev:evG call e s a.o.dst a.g a.x=some (e1,s1)):∃p:Pd,Inv nt ops infs cls order s0 ρ0 w0 (pre++ [i]) l e1 s1 (pend++ [p]) none listed ρ act w:=by
 obtain⟨v,hc,rfl⟩:=Mj hev;have hord:order=pre++i::AO l:=h.ord;have hio:i∈order:=by rw[hord];simp
 have hrel:Rel ρ s w:=h.rel;obtain⟨c1,c2,c3,c4⟩:=C.inf i a ha;have hlt:∀q∈pend,q.i∈order:=fun q hq=>by rw[h.ord];exact Cv _ (h.pin q hq)
 have facts:∀q∈pend,q.i≠i∧bt cls q.i i=false∧(∀d,q.a.o.dst=some d→a.o.dst≠some d)∧(∀d,q.a.o.dst=some d→d∈a.ts→bt cls i q.i=true)∧(∀d,a.o.dst=some d→d∈q.a.ts→CD q.a.x=false):=by
  intro q hq;obtain⟨a',c',g1,g2,g3,g4,g5,g6,g7,g8⟩:=ET (C.split pre (i::AO l) hord q.i (h.pin q hq) i (List.mem_cons_self ..));rw[h.inf q hq]at g1;rw[ha]at g2;simp only[Af]at g1 g2;subst g1 g2;exact⟨g3,g4,g6,g7,fun d hd ht=>(g8 d hd ht).2⟩
 obtain⟨a',g1,g2,g3,g4⟩:=JB (C.self i hio);rw[ha]at g1;simp only[Af]at g1;subst g1;have hnodup:(pre++i::AO l).Nodup:=by rw[←hord];exact C.nodup
 obtain⟨n1,n2,n3⟩:=EM.1 hnodup;obtain⟨n4,n5⟩:=List.nodup_cons.1 n2;have st:(s1=s)∨ ∃m,s1=alloc s m:=by
  rcases hc with ⟨_,hc⟩ |⟨_,_,hc⟩
  ·cases hx:a.x with
   |w x=>
    rw[hx]at hc;simp only[mo]at hc;split at hc
    ·simp only[Af,Ax]at hc;exact .inl hc.2.symm
    ·simp at hc
   |r x=>
    rw[hx]at hc;simp only[mo]at hc;split at hc
    ·simp only[Af,Ax]at hc;exact .inl hc.2.symm
    ·simp at hc
   |a x=>
    rw[hx]at hc;simp only[mo]at hc;split at hc
    ·simp only[Af,Ax]at hc;exact .inr ⟨_,hc.2.symm⟩
    ·simp at hc
   |m x=>rw[hx]at hm;cases hm
  ·exact .inl hc
 have hrel1:Rel ρ s1 w:=by
  rcases st with rfl |⟨m,rfl⟩
  ·exact hrel
  ·exact hrel.known m
 have hnb:s.nb≤s1.nb:=by
  rcases st with rfl |⟨m,rfl⟩
  ·exact Ad _
  ·exact AQ _
 have old3:∀q∈pend,GH s0 s1 ρ q:=by
  intro q hq;rcases h.i3 q hq with k |⟨k1,k2⟩
  ·exact .inl k
  ·refine .inr ⟨k1,?_⟩;rcases st with rfl |⟨m,rfl⟩
   ·exact k2
   ·cases hx:q.a.x with
    |w x=>rw[hx]at k2;exact k2
    |m x=>rw[hx]at k2;exact k2
    |r x=>rw[hx]at k2;exact Rj hrel m k2
    |a x=>
     rw[hx]at k2;obtain⟨l',f,m1,m2,m3,m4,m5⟩:=k2;have hne:q.nid≠s.nb:=fun e=>by have:=hrel.lt _ _ m3;omega
     exact⟨l',f,m1,m2,by rw[Cw,Ab hne];exact m3,m4,m5⟩
 have new3:GH s0 s1 ρ ⟨i,a,e,v,s.nb⟩:=by
  rcases hc with ⟨k1,hc⟩ |⟨k1,k2,_⟩
  ·refine .inr ⟨k1,?_⟩
   show match a.x with
    | .w x=>wv e x=some v
    | .r x=>rv e s1 x=some v
    | .a x=>∃l f,av e x=some (l,f)∧v=f s.nb∧s1.h.get s.nb=some ⟨l,0,0⟩ ∧ρ s.nb=none∧s0.nb≤s.nb
    | .m _=>False
   cases hx:a.x with
   |w x=>
    rw[hx]at hc;simp only[mo]at hc;split at hc
    ·rename_i v' hv';simp only[Af,Ax]at hc
     show wv e x=some v
     rw[hv',hc.1]
    ·simp at hc
   |r x=>
    rw[hx]at hc;simp only[mo]at hc;split at hc
    ·rename_i v' hv';simp only[Af,Ax]at hc
     show rv e s1 x=some v
     rw[←hc.2,hv',hc.1]
    ·simp at hc
   |a x=>
    rw[hx]at hc;simp only[mo]at hc;split at hc
    ·rename_i l' f hv';simp only[Af,Ax]at hc;exact⟨l',f,hv',hc.1.symm,by rw[←hc.2,Cw,Ag rfl],hrel.none,h.go.nbs⟩
    ·simp at hc
   |m x=>rw[hx]at hm;cases hm
  ·exact .inl ⟨k1,k2⟩
 have hmem:∀q,q∈pend++ [(⟨i,a,e,v,s.nb⟩:Pd)]→q∈pend∨q=⟨i,a,e,v,s.nb⟩:=fun q hq=>by
  rcases Ek.1 hq with hq |hq
  ·exact .inl hq
  ·exact .inr (List.mem_singleton.1 hq)
 have hold:∀q∈pend,q∈pend++ [(⟨i,a,e,v,s.nb⟩:Pd)]:=fun q hq=>Cv _ hq;have hnew:(⟨i,a,e,v,s.nb⟩:Pd)∈pend++ [(⟨i,a,e,v,s.nb⟩:Pd)]:=EJ _ (List.mem_singleton.2 rfl);refine⟨⟨i,a,e,v,s.nb⟩,hrel1,h.go.later hnb,h.fr,h.sz,?_,h.dc,by rw[hord];simp,?_,(fun hh hhe=>by cases hhe),?_,?_,?_,?_,?_,?_,?_,?_,(fun hh hhe=>by cases hhe),(fun hh hhe=>by cases hhe)⟩
 ·intro k hk;rw[h.lst k hk,F5];constructor
  ·rintro(⟨q,hq,e'⟩ |hh |hh)
   ·exact .inl ⟨q,hold q hq,e'⟩
   ·exact .inr (.inl hh)
   ·rcases List.mem_cons.1 hh with e' |hh
    ·exact .inl ⟨_,hnew,e'.symm⟩
    ·exact .inr (.inr hh)
  ·rintro(⟨q,hq,e'⟩ |hh |hh)
   ·rcases hmem q hq with hq |rfl
    ·exact .inl ⟨q,hq,e'⟩
    ·exact .inr (.inr (by rw[←e'];exact List.mem_cons_self ..))
   ·exact .inr (.inl hh)
   ·exact .inr (.inr (List.mem_cons_of_mem _ hh))
 ·intro q hq;rcases hmem q hq with hq |rfl
  ·exact Cv _ (h.pin q hq)
  ·exact EJ _ (List.mem_singleton.2 rfl)
 ·rw[List.map_append,List.map_singleton];refine EM.2 ⟨h.nd,by simp,fun x hx y hy=> ?_⟩;obtain⟨q,hq,rfl⟩:=Hi.1 hx;rw[List.mem_singleton.1 hy];exact(facts q hq).1
 ·intro q hq;rcases hmem q hq with hq |rfl
  ·exact h.inf q hq
  ·exact ha
 ·intro t u hu hq;rw[F4]at hu;rw[Ab (hq _ hnew)]at hu;exact h.i1 t u hu fun q hq'=>hq q (hold q hq')
 ·intro q hq t ht;rcases hmem q hq with hq |rfl
  ·rcases h.i2 q hq t ht with ⟨r,r1,r2,r3,r4⟩ |⟨k1,k2⟩
   ·exact .inl ⟨r,hold r r1,r2,r3,r4⟩
   ·refine .inr ⟨fun r hr hd=> ?_,k2⟩;rcases hmem r hr with hr |rfl
    ·exact k1 r hr hd
    ·exact(facts q hq).2.1
  ·by_cases hex:∃r∈pend,r.a.o.dst=some t
   ·obtain⟨r,hr,hd⟩:=hex;exact .inl ⟨r,hold r hr,hd,(facts r hr).2.2.2.1 t hd ht,h.i4 r hr t hd⟩
   ·refine .inr ⟨fun r hr hd=> ?_,fun u hu=>h.i1 t u hu fun r hr hd=>hex ⟨r,hr,hd⟩⟩;rcases hmem r hr with hr |rfl
    ·exact absurd ⟨r,hr,hd⟩ hex
    ·exact absurd ht (g3 t hd)
 ·intro q hq;rcases hmem q hq with hq |rfl
  ·exact old3 q hq
  ·exact new3
 ·intro q hq d hd;rw[F4];rcases hmem q hq with hq |rfl
  ·rw[Ab ((facts q hq).2.2.1 d hd)];exact h.i4 q hq d hd
  ·rw[Ag hd]
 ·intro q hq hra t ht;rw[F4];rcases hmem q hq with hq |rfl
  ·rw[Ab (fun hd=>by have:=(facts q hq).2.2.2.2 t hd ht;rw[hra]at this;cases this)];exact h.i6 q hq hra t ht
  ·rw[Ab (fun hd=>g3 t hd ht)]
 ·have lt:∀q∈pend,(∃x,q.a.x= .a x)→q.v≠ .t []→q.nid < s.nb:=by
   rintro q hq ⟨x,hx⟩ hz;rcases h.i3 q hq with ⟨_,k⟩ |⟨_,k⟩
   ·exact absurd k hz
   ·rw[hx]at k;obtain⟨_,_,_,_,m3,_,_⟩:=k;exact hrel.lt _ _ m3
  intro q hq r hr hne hx hy hz hz';rcases hmem q hq with hq |rfl
  ·rcases hmem r hr with hr |rfl
   ·exact h.nids q hq r hr hne hx hy hz hz'
   ·have:=lt q hq hx hz
    show q.nid≠s.nb
    omega
  ·rcases hmem r hr with hr |rfl
   ·have:=lt r hr hy hz'
    show s.nb≠r.nid
    omega
   ·exact absurd rfl hne
end
theorem Il {c l:List S}{o:Nat}(hf:o+l.length≤c.length) (i:Nat):(Bv c l o)[i]?=if o≤i∧i < o+l.length then l[i - o]? else c[i]?:=by
 rw[F7];have hk:(c.take o).length=o:=by simp;omega
 by_cases h1:i < o
 ·rw[BV (by omega),Ab (by omega),Ej,Ag h1]
 ·rw[Cp (by omega),hk];by_cases h2:i < o+l.length
  ·rw[BV (by omega),Ag ⟨by omega,h2⟩]
  ·rw[Cp (by omega),Ab (by omega),Hh];rw[show o+l.length+ (i - o - l.length)=i by omega]
theorem Im {c l:List S}{o:Nat}(hf:o+l.length≤c.length):(Bv c l o).length=c.length:=by rw[F7];simp;omega
theorem Rl {c l m:List S}{o p:Nat}(h1:o+l.length≤c.length) (h2:p+m.length≤c.length) (hd:o+l.length≤p∨p+m.length≤o):Bv (Bv c l o) m p=Bv (Bv c m p) l o:=by
 apply List.ext_getElem?;intro i;have e1:=Il (c:=Bv c l o) (l:=m) (o:=p) (by rw[Im h1];exact h2) i;have e2:=Il (c:=Bv c m p) (l:=l) (o:=o) (by rw[Im h2];exact h1) i;have e3:=Il h1 i;have e4:=Il h2 i;rw[e1,e2,e3,e4];by_cases k1:p≤i∧i < p+m.length
 ·rw[Ag k1,Ab (by omega),Ag k1]
 ·rw[Ab k1];by_cases k2:o≤i∧i < o+l.length
  ·rw[Ag k2,Ag k2]
  ·rw[Ab k2,Ab k2,Ab k1]
theorem EV {s s':St}{x o:Nat}{l:List S}(h:setc s x o l=some s'):∃b,s.h.get x=some b∧s'.nb=s.nb∧s'.nf=s.nf∧s'.fm=s.fm∧ ∀y,s'.h.get y=if y=x then some ⟨Bv b.c l o,b.fam,b.d⟩else s.h.get y:=by
 unfold setc at h;cases hb:s.h.get x with
 |none=>rw[hb]at h;simp at h
 |some b=>
  rw[hb]at h;simp only[Af]at h;refine⟨b,rfl,by rw[←h],by rw[←h],by rw[←h],fun y=> ?_⟩;rw[←h];exact T.get_upd (some (⟨Bv b.c l o,b.fam,b.d⟩:Bk)) s.h x y
theorem In {s:St}{x o:Nat}{l:List S}{b:Bk}(h:s.h.get x=some b):∃s',setc s x o l=some s':=by
 unfold setc;rw[h];exact⟨_,rfl⟩
theorem Rm {s sa sb:St}{x₁ o₁ x₂ o₂:Nat}{l₁ l₂:List S}(h1:setc s x₁ o₁ l₁=some sa) (h2:setc sa x₂ o₂ l₂=some sb) (f1:∀b,s.h.get x₁=some b→o₁+l₁.length≤b.c.length) (f2:∀b,s.h.get x₂=some b→o₂+l₂.length≤b.c.length)
  (hd:x₁≠x₂∨o₁+l₁.length≤o₂∨o₂+l₂.length≤o₁):∃sc sd,setc s x₂ o₂ l₂=some sc∧setc sc x₁ o₁ l₁=some sd∧Same sd sb:=by
 obtain⟨b1,g1,n1,m1,k1,q1⟩:=EV h1;obtain⟨b2,g2,n2,m2,k2,q2⟩:=EV h2;by_cases hx:x₁=x₂
 ·subst hx;obtain⟨sc,h3⟩:=In (o:=o₂) (l:=l₂) g1;obtain⟨b3,g3,n3,m3,k3,q3⟩:=EV h3;rw[g1]at g3;simp only[Af]at g3;subst g3;have g4:sc.h.get x₁=some ⟨Bv b1.c l₂ o₂,b1.fam,b1.d⟩:=by rw[q3,Ag rfl]
  obtain⟨sd,h4⟩:=In (o:=o₁) (l:=l₁) g4;obtain⟨b4,g5,n4,m4,k4,q4⟩:=EV h4;rw[g4]at g5;simp only[Af]at g5;subst g5;refine⟨sc,sd,h3,h4,by rw[n2,n1,n4,n3],by rw[m2,m1,m4,m3],fun y=> ?_,fun f=>by rw[k2,k1,k4,k3]⟩;rw[q2,q4];split
  ·rw[q1,Ag rfl]at g2;simp only[Af]at g2;subst g2
   show some (⟨Bv (Bv b1.c l₁ o₁) l₂ o₂,_,_⟩:Bk)=some ⟨Bv (Bv b1.c l₂ o₂) l₁ o₁,_,_⟩
   rw[Rl (f1 b1 g1) (f2 b1 g1) (hd.resolve_left (fun h=>h rfl))]
  ·rename_i hne;rw[q1,q3,Ab hne,Ab hne]
 ·have g2':s.h.get x₂=some b2:=by rw[q1,Ab (fun e=>hx e.symm)]at g2;exact g2
  obtain⟨sc,h3⟩:=In (o:=o₂) (l:=l₂) g2';obtain⟨b3,g3,n3,m3,k3,q3⟩:=EV h3;rw[g2']at g3;simp only[Af]at g3;subst g3;have g4:sc.h.get x₁=some b1:=by rw[q3,Ab hx];exact g1
  obtain⟨sd,h4⟩:=In (o:=o₁) (l:=l₁) g4;obtain⟨b4,g5,n4,m4,k4,q4⟩:=EV h4;rw[g4]at g5;simp only[Af]at g5;subst g5;refine⟨sc,sd,h3,h4,by rw[n2,n1,n4,n3],by rw[m2,m1,m4,m3],fun y=> ?_,fun f=>by rw[k2,k1,k4,k3]⟩;rw[q2,q4,q1,q3];by_cases e1:y=x₁
  ·have e2:y≠x₂:=fun e=>hx (e1.symm.trans e);rw[Ab e2,Ag e1,Ag e1]
  ·by_cases e2:y=x₂
   ·rw[Ag e2,Ab e1,Ag e2]
   ·rw[Ab e2,Ab e1,Ab e1,Ab e2]
theorem NO.mono {s s':St}{x o n:Nat}(h:NO s x o n) (hh:∀y b,s'.h.get y=some b→s.h.get y=some b):NO s' x o n:=
 fun y b bx h1 h2 h3 h4 h5=>h y b bx h1 (hh _ _ h2) (hh _ _ h3) h4 h5
theorem NO.setc {s s':St}{x o n y p:Nat}{l:List S}(h:NO s x o n) (hs:Ev.setc s y p l=some s') (hf:∀b,s.h.get y=some b→p+l.length≤b.c.length):NO s' x o n:=by
 obtain⟨b0,g,_,_,_,q⟩:=EV hs;intro z b bx h1 h2 h3 h4 h5;rw[q]at h2 h3;have k2:∃bx',s.h.get x=some bx'∧bx'.fam=bx.fam∧bx'.d=bx.d:=by
  split at h2
  ·rename_i e;subst e;simp only[Af]at h2;subst h2;exact⟨b0,g,rfl,rfl⟩
  ·exact⟨bx,h2,rfl,rfl⟩
 have k3:∃b',s.h.get z=some b'∧b'.fam=b.fam∧b'.d=b.d∧b'.c.length=b.c.length:=by
  split at h3
  ·rename_i e;subst e;simp only[Af]at h3;subst h3;exact⟨b0,g,rfl,rfl,(Im (hf b0 g)).symm⟩
  ·exact⟨b,h3,rfl,rfl,rfl⟩
 obtain⟨bx',m1,m2,m3⟩:=k2;obtain⟨b',m4,m5,m6,m7⟩:=k3;have:=h z b' bx' h1 m1 m4 (by rw[m5,m2];exact h4) (by rw[m2];exact h5);rw[m6,m7,m3]at this;exact this
section
variable {P:Program}{ty:TypeId→Option TyI}{ibs:FuncId→Bool}{call:Nat→List V→St→Option (V×St)}{nt:Nat}
variable {ops:Array Oper}{infs:List Inf}{cls:List Nat}{prs:List (Nat×Nat)}{order:List Nat}{s0:St}{ρ0:Rho}{w0:World}{pre:List Nat}{rest:List HS}{e:E}{s:St}{listed:Array Bool}{ρ:Rho}{act:Act}{w:World}
theorem Rn {op:Op}{n:Nat}{a v:O}(h:cMO ty ibs op=some (.m (.st n a v))):∃t y z i,op= .store t y z∧ty t=some i∧n=i.sz∧cO y=some a∧cO z=some v:=by
 cases op
 case store t y z=>
  simp only[cMO]at h;split at h <;> simp only[Af,reduceCtorEq,MO.m.injEq,M.st.injEq]at h
  rename_i i y' z' hi hy hz;obtain⟨rfl,rfl,rfl⟩:=h;exact⟨t,y,z,i,rfl,hi,rfl,hy,hz⟩
 case makeFunc fn first caps=>
  cases fn <;> simp only[cMO,reduceCtorEq]at h
  split at h <;> simp at h
 case call c=>
  simp only[cMO]at h;split at h
  ·split at h
   ·exact absurd h (by
     intro hh;unfold Fv at hh
     (repeat' split at hh) <;> simp at hh)
   ·(repeat' split at h) <;> simp at h
   ·simp at h
   ·simp at h
  ·simp at h
 all_goals
  first
   | (simp only[cMO,reduceCtorEq]at h;done)
   | (simp only[cMO,Option.map_eq_some_iff,reduceCtorEq,and_false,Hj]at h;done)
   | (simp only[cMO]at h;(repeat' split at h) <;> simp at h;done)
theorem My (C:Ctx P ty ibs call nt ops infs cls prs order) {i:Nat}{a:Inf}(ha:infs[i]?=some a) {n:Nat}{oa ob:O}(hx:a.x= .m (.st n oa ob)) (hg:a.g=none) (hdst:a.o.dst=none)
  (htemps:∀t∈a.ts,∀v,e.get t=some v→VR ρ v (act.tmps.getD t undef)) {x o:Nat} {l:List S} (h1:os e oa= .p x o) (h2:cellsOf (ov e ob)=some l) (hn:l.length=n) {σ σ':St} (hr:Rel ρ σ w) (hno:NO σ x o l.length)
  (hfit:∀b,σ.h.get x=some b→o+l.length≤b.c.length) (hs:setc σ x o l=some σ') {K:Act→World→Prop} {Q:Exit→Act→World→Prop} (hK:∀w',Rel ρ σ' w'→Go σ ρ w σ' ρ w'→K act w'):wpOp P ops Q i K act w:=by
 obtain⟨c1,c2,c3,c4⟩:=C.inf i a ha;have her:ER ρ (some_ e a.ts) act:=by
  intro t u hu;rw[GD]at hu;split at hu
  ·rename_i ht;exact htemps t ht u hu
  ·simp at hu
 have hts:a.ts=gT a.g++ (oT oa++oT ob):=by unfold Inf.ts;rw[hx];rfl
 have hlk:Like (gT a.g++ (oT oa++oT ob)) (some_ e a.ts) e:=by rw[←hts];exact Jz _ _
 rw[hx]at c3;obtain⟨t,y,z,j,hop,hj,hnj,hy,hz⟩:=Rn c3;obtain⟨inf,zv,hi1,hi2,hi3,hi4,hi5⟩:=C.hty.info hj;obtain⟨cb,sh,zz,r1,r2⟩:=her.at hy (s:= .p x o) (by rw[Ci hlk.right.left];exact h1);have hl:=VR.cells (her.ov hz) (l:=l) (by rw[Ds hlk.right.right];exact h2);obtain⟨cur,el,k1,k2,k3,k4⟩:=MB hr hs r1 hno hfit hl;have hrun:=run_storeCells_at P cb (sh+o) el (act.eval z).cells.toList 0 cur w k1 (by simpa using k2) hl.one;simp only[Nat.add_zero]at hrun;refine(JC (P:=P) c1 c2 her).1 (by rw[hg];rfl) ?_;have:(Instr.storeAt t (act.eval y) (act.eval z)).run P w= .ok () (w.setRow cb (cur.toList.take (sh+o)++ (act.eval z).cells.toList++cur.toList.drop (sh+o+ (act.eval z).cells.toList.length)).toArray):=by
  unfold Instr.storeAt storeVar;simp only[r2,Instr.sureAddr,Sem.run_bind,Sem.run_pure,Result.andThen_ok,DQ hi1];have hll:=hl.length;rw[Ab (by rw[hi2,←hnj,←hn,hll];simp)];exact hrun
 refine Oper.wp_skip (o:=a.o) (w':=w.setRow cb (cur.toList.take (sh+o)++ (act.eval z).cells.toList++cur.toList.drop (sh+o+ (act.eval z).cells.toList.length)).toArray) ?_ ?_
 ·unfold execOp;rw[hop];simp only[Sem.run_bind,this,Result.andThen_ok];rfl
 ·rw[hdst];exact hK _ k3 k4
end
section
variable {P:Program}{ty:TypeId→Option TyI}{ibs:FuncId→Bool}{call:Nat→List V→St→Option (V×St)}{nt:Nat}
variable {ops:Array Oper}{infs:List Inf}{cls:List Nat}{prs:List (Nat×Nat)}{order:List Nat}{s0:St}{ρ0:Rho}{w0:World}{pre:List Nat}{rest:List HS}{e:E}{s:St}{listed:Array Bool}{ρ:Rho}{act:Act}{w:World}
theorem Ro (C:Ctx P ty ibs call nt ops infs cls prs order) {pend:List Pd}{hh:Hf}(h:Inv nt ops infs cls order s0 ρ0 w0 pre rest e s pend (some hh) listed ρ act w)
  (hr:∀o,ops[hh.i]?=some o→ ∀ed∈o.after,Region.binds .any ed=true→listed.getD ed.on false=true) {K:Act→World→Prop} {Q:Exit→Act→World→Prop}
  (hK:∀act' w' ρ',Inv nt ops infs cls order s0 ρ0 w0 pre rest e s pend none (listed.setIfInBounds hh.i true) ρ' act' w'→K act' w'):wpOp P ops Q hh.i K act w:=by
 obtain⟨k1,k2,k3,k4,k5,k6,k7,k8,⟨s2,k9,k9'⟩,k10,k11⟩:=h.hf hh rfl;obtain⟨hpre,hinf⟩:=h.hin hh rfl;have hho:hh.i∈order:=by rw[h.ord];exact Cv _ hpre
 have hlt:∀q∈pend,q.i∈order:=fun q hq=>by rw[h.ord];exact Cv _ (h.pin q hq)
 have unl:∀q∈pend,listed.getD q.i false=false:=fun q hq=>by
  have:=(h.lst q.i (C.lt _ (hlt q hq))).2 (.inl ⟨q,hq,rfl⟩);rw[←DK h.sz (C.lt _ (hlt q hq))];exact this
 have htemps:∀t∈hh.a.ts,∀v,hh.e.get t=some v→VR ρ v (act.tmps.getD t undef):=by
  intro t ht v hv;rcases k10 t ht with ⟨r,hr1,_,hr3,_⟩ |hh2
  ·have:=Ex h.dc (C.dep _ _ hr3) hr;rw[unl r hr1]at this;cases this
  ·exact hh2.2 v hv
 have hrel:Rel ρ hh.mid w:=h.rel;have hnown:hh.mid.nb=s.nb:=h.nown;refine My C hinf k1 k2 k3 htemps k4 k5 k6 hrel k7 k8 k9 fun w' j1 j2=>hK act w' ρ ?_;have hnp:∀p∈pend,p.i≠hh.i:=by
  intro p hp e';have:infs[p.i]?=some hh.a:=by rw[e'];exact hinf
  rw[h.inf p hp]at this;simp only[Af]at this;rcases h.i3 p hp with ⟨g1,_⟩ |⟨_,g⟩
  ·rw[this,k2]at g1;simp[gEv]at g1
  ·rw[this,k1]at g;exact g
 have hnodup:(pre++AO rest).Nodup:=by rw[←h.ord];exact C.nodup
 obtain⟨n1,n2,n3⟩:=EM.1 hnodup;refine⟨j1.same k9',h.go.trans (j2.states hnown.symm (by rw[k9'.1])),h.fr,by simpa using h.sz,?_,Ih h.sz (C.lt _ hho) h.dc hr,h.ord,h.pin,(fun hh hhe=>by cases hhe),h.nd,h.inf,h.i1,h.i2,h.i3,h.i4,h.i6,h.nids,(fun hh hhe=>by cases hhe),(fun hh hhe=>by cases hhe)⟩;intro i hi;rw[GI h.sz (C.lt _ hho)];by_cases him:i=hh.i
 ·rw[Ag him];simp only[KW,false_iff,not_or,not_exists,not_and];exact⟨fun q hq e'=>hnp q hq (e'.trans him),(fun hh hhe=>by cases hhe),fun hin=>n3 hh.i hpre i hin him.symm⟩
 ·rw[Ab him,h.lst i hi];constructor
  ·rintro(k |⟨h2,k,k'⟩ |k)
   ·exact .inl k
   ·simp only[Af]at k;subst k;exact absurd k'.symm him
   ·exact .inr (.inr k)
  ·rintro(k |⟨h2,k,k'⟩ |k)
   ·exact .inl k
   ·cases k
   ·exact .inr (.inr k)
theorem Mz (C:Ctx P ty ibs call nt ops infs cls prs order) {i j k k':Nat}(hkk:(k=i∧k'=j)∨(k=j∧k'=i)) {l:List HS}{pend:List Pd}(h:Inv nt ops infs cls order s0 ρ0 w0 pre (.e2 i j::l) e s pend none listed ρ act w)
  (hra:JA infs cls i j pre=true) (haft:∀q∈AO l,bt cls q i=true∧bt cls q j=true) {a a':Inf} (ha:infs[k]?=some a) (ha':infs[k']?=some a') {n n':Nat} {oa ob oa' ob':O} (hx:a.x= .m (.st n oa ob)) (hg:a.g=none) (hdst:a.o.dst=none)
  (hx':a'.x= .m (.st n' oa' ob')) (hg':a'.g=none) (hdst':a'.o.dst=none) {x o x' o':Nat} {m m':List S} (h1:os e oa= .p x o) (h2:cellsOf (ov e ob)=some m) (hn:m.length=n) (h1':os e oa'= .p x' o') (h2':cellsOf (ov e ob')=some m') (hn':m'.length=n')
  {σ σ1 s2 s':St} (hσ:Rel ρ σ w) (hnb:σ.nb=s.nb) (hno:NO σ x o m.length) (hno':NO σ x' o' m'.length) (hfit:∀b,σ.h.get x=some b→o+m.length≤b.c.length) (hfit':∀b,σ.h.get x'=some b→o'+m'.length≤b.c.length)
  (hs1:setc σ x o m=some σ1) (hs2:setc σ1 x' o' m'=some s2) (hsame:Same s2 s')
  (hr:∀o,ops[k]?=some o→ ∀ed∈o.after,Region.binds .any ed=true→listed.getD ed.on false=true) {K:Act→World→Prop} {Q:Exit→Act→World→Prop}
  (hK:∀act' w' ρ' hh,Inv nt ops infs cls order s0 ρ0 w0 (pre++ [i,j]) l e s' pend (some hh) (listed.setIfInBounds k true) ρ' act' w'→K act' w'):wpOp P ops Q k K act w:=by
 have hord:order=pre++ (i::j::AO l):=h.ord;have hkin:k∈i::j::AO l∧k'∈i::j::AO l:=by
  rcases hkk with ⟨rfl,rfl⟩ |⟨rfl,rfl⟩ <;> exact⟨by simp,by simp⟩
 have hko:k∈order:=by rw[hord];exact EJ _ hkin.1
 have hko':k'∈order:=by rw[hord];exact EJ _ hkin.2
 have hlt:∀q∈pend,q.i∈order:=fun q hq=>by rw[h.ord];exact Cv _ (h.pin q hq)
 have unl:∀q∈pend,listed.getD q.i false=false:=fun q hq=>by
  have:=(h.lst q.i (C.lt _ (hlt q hq))).2 (.inl ⟨q,hq,rfl⟩);rw[←DK h.sz (C.lt _ (hlt q hq))];exact this
 have notcl:∀q∈pend,bt cls k q.i=false:=fun q hq=>by
  cases hb:bt cls k q.i with
  |false=>rfl
  |true=>
   have:=Ex h.dc (C.dep _ _ hb) hr;rw[unl q hq]at this;cases this
 have reads:∀q∈pend,∀ (y:Nat) (b:Inf),y∈i::j::AO l→infs[y]?=some b→ ∀d,q.a.o.dst=some d→d∈b.ts→bt cls y q.i=true:=by
  intro q hq y b hy hb d hd ht;obtain⟨a1,c1,g1,g2,g3,g4,g5,g6,g7,g8⟩:=ET (C.split pre (i::j::AO l) hord q.i (h.pin q hq) y hy);rw[h.inf q hq]at g1;rw[hb]at g2;simp only[Af]at g1 g2;subst g1 g2;exact g7 d hd ht
 have htemps:∀t∈a.ts,∀v,e.get t=some v→VR ρ v (act.tmps.getD t undef):=fun t ht v hv=>
  h.i1 t v hv fun q hq hd=>by
   have:=reads q hq k a hkin.1 ha t hd ht;rw[notcl q hq]at this;cases this
 have hnora:∀q∈pend,CD q.a.x=false:=by
  intro q hq;cases hb:CD q.a.x with
  |false=>rfl
  |true=>
   unfold JA at hra;have:=Be.1 hra q.i (h.pin q hq);rw[h.inf q hq]at this;simp only[hb,Bool.not_true,Bool.false_or,AH]at this;have hk:bt cls k q.i=true:=by rcases hkk with ⟨rfl,_⟩ |⟨rfl,_⟩;exact this.1;exact this.2
   rw[notcl q hq]at hk;cases hk
 obtain⟨b1,g1,g2,g3,g4,g5⟩:=EV hs1;have hfit1:∀b,σ1.h.get x'=some b→o'+m'.length≤b.c.length:=by
  intro b hb;rw[g5]at hb;split at hb
  ·rename_i e';simp only[Af]at hb;subst hb
   show o'+m'.length≤ (Bv b1.c m o).length
   rw[Im (hfit b1 g1)];exact hfit' b1 (by rw[e'];exact g1)
  ·exact hfit' b hb
 have hs'nb:s'.nb=s.nb:=by rw[hsame.1,Ig hs2,Ig hs1,hnb]
 have hnodup:(pre++ (i::j::AO l)).Nodup:=by rw[←hord];exact C.nodup
 obtain⟨n1,n2,n3⟩:=EM.1 hnodup;obtain⟨n4,n5⟩:=List.nodup_cons.1 n2;obtain⟨n6,n7⟩:=List.nodup_cons.1 n5;have hij:i≠j:=fun e'=>n4 (by rw[e'];exact List.mem_cons_self ..);have hkk':k≠k':=by rcases hkk with ⟨rfl,rfl⟩ |⟨rfl,rfl⟩;exact hij;exact fun e'=>hij e'.symm
 have hkl:k∉AO l:=by
  rcases hkk with ⟨rfl,rfl⟩ |⟨rfl,rfl⟩
  ·exact fun hk=>n4 (List.mem_cons_of_mem _ hk)
  ·exact n6
 refine My C ha hx hg hdst htemps h1 h2 hn hσ hno hfit hs1 fun w' j1 j2=>hK act w' ρ ⟨k',a',e,n',oa',ob',x',o',m',σ1⟩ ?_;refine⟨j1,?_,h.fr,by simpa using h.sz,?_,Ih h.sz (C.lt _ hko) h.dc hr,by rw[hord];simp,fun q hq=>Cv _ (h.pin q hq),?_,h.nd,h.inf,h.i1,h.i2,?_,h.i4,h.i6,h.nids,?_,?_⟩
 ·exact h.go.trans (j2.states hnb.symm (by rw[hs'nb,Ig hs1,hnb]))
 ·intro y hy;rw[GI h.sz (C.lt _ hko)];by_cases hyk:y=k
  ·rw[Ag hyk];simp only[KW,false_iff,not_or,not_exists,not_and];refine⟨fun q hq e'=>n3 q.i (h.pin q hq) k hkin.1 (e'.trans hyk),fun hh hhe e'=> ?_,fun hin=>hkl (hyk▸hin)⟩;simp only[Af]at hhe;subst hhe;exact hkk' (hyk.symm.trans e'.symm)
  ·rw[Ab hyk,h.lst y hy,GK];constructor
   ·rintro(q |⟨hh,q,_⟩ |q)
    ·exact .inl q
    ·cases q
    ·have:y=k'∨y∈AO l:=by
      rcases hkk with ⟨rfl,rfl⟩ |⟨rfl,rfl⟩
      ·rcases List.mem_cons.1 q with e' |q
       ·exact absurd e' hyk
       ·exact List.mem_cons.1 q
      ·rcases List.mem_cons.1 q with e' |q
       ·exact .inl e'
       ·rcases List.mem_cons.1 q with e' |q
        ·exact absurd e' hyk
        ·exact .inr q
     rcases this with e' |q
     ·exact .inr (.inl ⟨_,rfl,e'.symm⟩)
     ·exact .inr (.inr q)
   ·rintro(q |⟨hh,q,e'⟩ |q)
    ·exact .inl q
    ·simp only[Af]at q;subst q;refine .inr (.inr ?_);rw[←e'];exact hkin.2
    ·exact .inr (.inr (List.mem_cons_of_mem _ (List.mem_cons_of_mem _ q)))
 ·intro hh hhe;simp only[Af]at hhe;subst hhe;refine⟨EJ _ ?_,ha'⟩;rcases hkk with ⟨_,rfl⟩ |⟨_,rfl⟩ <;> simp
 ·intro q hq;rcases h.i3 q hq with c |⟨c1,c2⟩
  ·exact .inl c
  ·refine .inr ⟨c1,?_⟩;have hq':=hnora q hq;cases hqx:q.a.x with
   |w y=>rw[hqx]at c2;exact c2
   |m y=>rw[hqx]at c2;exact c2
   |r y=>rw[hqx]at hq';cases hq'
   |a y=>rw[hqx]at hq';cases hq'
 ·intro hh hhe;simp only[Af]at hhe;subst hhe;refine⟨hx',hg',hdst',h1',h2',hn',hno'.setc hs1 hfit,hfit1,⟨s2,hs2,hsame⟩,fun t ht=> ?_,hnora⟩;by_cases hex:∃q∈pend,q.a.o.dst=some t
  ·obtain⟨q,hq,hd⟩:=hex;exact .inl ⟨q,hq,hd,reads q hq k' a' hkin.2 ha' t hd ht,h.i4 q hq t hd⟩
  ·exact .inr ⟨fun q hq hd=>absurd ⟨q,hq,hd⟩ hex,fun v hv=>h.i1 t v hv fun q hq hd=>hex ⟨q,hq,hd⟩⟩
 ·intro hh hhe y hy;simp only[Af]at hhe;subst hhe;rcases hkk with ⟨_,rfl⟩ |⟨_,rfl⟩
  ·exact(haft y hy).2
  ·exact(haft y hy).1
end
theorem MJ:∀ {l:List Nat},l.Nodup→ ∀ {m:List Nat},(∀i∈l,i∈m)→l.length≤m.length
 | [],_,m,_=>Av _
 |x::l,hn,m,h=>by
  obtain⟨h1,h2⟩:=List.nodup_cons.1 hn;have hx:x∈m:=h x (List.mem_cons_self ..);have h3:l.length≤ (m.erase x).length:=MJ h2 fun i hi=>by
   have hne:i≠x:=fun e=>h1 (e▸hi);exact(List.mem_erase_of_ne hne).2 (h i (List.mem_cons_of_mem _ hi))
  rw[List.length_erase_of_mem hx]at h3;have:0 < m.length:=List.length_pos_of_mem hx;simp only[List.length_cons];omega
theorem MK {listed:Array Bool}:∀ (l:List Nat),(∃i∈l,listed.getD i false=false)→ ∃l1 i l2,l=l1++i::l2∧(∀j∈l1,listed.getD j false=true)∧listed.getD i false=false
 | [],h=>by obtain⟨i,hi,_⟩:=h;simp at hi
 |x::l,h=>by
  cases hx:listed.getD x false with
  |false=>exact⟨[],x,l,rfl,fun j hj=>by simp at hj,hx⟩
  |true=>
   obtain⟨i,hi,hu⟩:=h;rcases List.mem_cons.1 hi with e |hi
   ·rw[e,hx]at hu;cases hu
   ·obtain⟨l1,k,l2,h1,h2,h3⟩:=MK l ⟨i,hi,hu⟩;exact⟨x::l1,k,l2,by rw[h1];rfl,fun j hj=>by rcases List.mem_cons.1 hj with e |hj;rw[e];exact hx;exact h2 j hj,h3⟩
section
variable {P:Program}{ty:TypeId→Option TyI}{ibs:FuncId→Bool}{call:Nat→List V→St→Option (V×St)}{nt:Nat}
variable {ops:Array Oper}{infs:List Inf}{cls:List Nat}{prs:List (Nat×Nat)}{order:List Nat}{s0:St}{ρ0:Rho}{w0:World}
def Rt (infs:List Inf):List HS→Prop
 | []=>True
 | .ev i::_=>∃a x,infs[i]?=some a∧a.x= .m x
 | .e2 _ _::_=>True
theorem ML (C:Ctx P ty ibs call nt ops infs cls prs order):∀ (rest:List HS) {pre:List Nat}{st:List Stp}{e ef:E}{s sf:St}{pend:List Pd}{listed:Array Bool}{ρ:Rho}{act:Act}{w:World},
  Inv nt ops infs cls order s0 ρ0 w0 pre rest e s pend none listed ρ act w→Dm infs cls pre rest=some st→reg call st e s=some (ef,sf)→
  ∃rest' pre' st' e' s' pend',Inv nt ops infs cls order s0 ρ0 w0 pre' rest' e' s' pend' none listed ρ act w∧Dm infs cls pre' rest'=some st'∧reg call st' e' s'=some (ef,sf)∧pend'.length+ (AO rest').length=pend.length+ (AO rest).length∧Rt infs rest'
 | [],pre,st,e,ef,s,sf,pend,listed,ρ,act,w,h,hst,hreg=>⟨[],pre,st,e,s,pend,h,hst,hreg,rfl,trivial⟩
 | .e2 i j::l,pre,st,e,ef,s,sf,pend,listed,ρ,act,w,h,hst,hreg=>⟨_,pre,st,e,s,pend,h,hst,hreg,rfl,trivial⟩
 | .ev i::l,pre,st,e,ef,s,sf,pend,listed,ρ,act,w,h,hst,hreg=>by
  have hst':=hst;unfold Dm at hst;split at hst
  ·rename_i a st1 ha hst1;split at hst
   ·rename_i x hx;exact⟨.ev i::l,pre,st,e,s,pend,h,hst',hreg,rfl,⟨a,x,ha,hx⟩⟩
   ·rename_i x hnm;simp only[Af]at hst;subst hst;have hm:isM a.x=false:=by
     cases hx:a.x with
     |m y=>exact absurd hx (hnm y)
     |_=>rfl
    have hreg':(match evG call e s a.o.dst a.g a.x with |some (e,s)=>reg call st1 e s |none=>none)=some (ef,sf):=hreg;split at hreg'
    ·rename_i e1 s1 hev;obtain⟨p,hp⟩:=Rk C h ha hm hev;obtain⟨rest',pre',st',e',s',pend',k1,k2,k3,k4,k5⟩:=ML C l hp hst1 hreg';refine⟨rest',pre',st',e',s',pend',k1,k2,k3,?_,k5⟩;rw[k4,F5];simp;omega
    ·simp at hreg'
  ·simp at hst
theorem Ru {st:List Stp}{e ef:E}{s sf:St}{listed:Array Bool}{ρ:Rho}{act:Act}{w:World}{pre:List Nat}(h:Inv nt ops infs cls order s0 ρ0 w0 pre [] e s [] none listed ρ act w) (hst:Dm infs cls pre []=some st) (hreg:reg call st e s=some (ef,sf))
  {Q:Exit→Act→World→Prop} (hQ:∀a' w' ρ',ER ρ' ef a'→Rel ρ' sf w'→Go s0 ρ0 w0 sf ρ' w'→FrOk nt a'→Q .normal a' w'):Q .normal act w:=by
 simp only[Dm,Af]at hst;subst hst;have:some (e,s)=some (ef,sf):=hreg;simp only[Af,Ax]at this;obtain⟨rfl,rfl⟩:=this;exact hQ act w ρ (fun t v hv=>h.i1 t v hv fun p hp=>by simp at hp) h.rel h.go h.fr
theorem Rv (C:Ctx P ty ibs call nt ops infs cls prs order) {rest:List HS}{pre:List Nat}{e:E}{s:St}{pend:List Pd}{half:Option Hf}{listed:Array Bool}{ρ:Rho}{act:Act}{w:World}(h:Inv nt ops infs cls order s0 ρ0 w0 pre rest e s pend half listed ρ act w)
  (hready:Region.ready .any ops listed=[]):pend=[]∧half=none∧AO rest=[]:=by
 have hall:¬ ∃i∈order,listed.getD i false=false:=by
  intro hex;obtain⟨l1,i,l2,h1,h2,h3⟩:=MK order hex;have hio:i∈order:=by rw[h1];simp
  have hin:i < ops.size:=C.lt i hio;obtain⟨a,ha⟩:=C.all i hio;have hop:=(C.inf i a ha).1;have:i∈Region.ready .any ops listed:=by
   rw[En];refine⟨by rw[DK h.sz hin];exact h3,a.o,hop,fun ed hed hb=> ?_⟩;exact h2 _ (C.topo l1 i l2 h1 a ha ed hed hb)
  rw[hready]at this;simp at this
 have hun:∀i∈order,listed.getD i false=false→False:=fun i hi hu=>hall ⟨i,hi,hu⟩;have key:∀i∈order,((∃p∈pend,p.i=i)∨(∃hh,half=some hh∧hh.i=i)∨i∈AO rest)→False:=fun i hi hh=>by
  have:=(h.lst i (C.lt i hi)).2 hh;rw[DK h.sz (C.lt i hi)]at this;exact hun i hi this
 refine⟨?_,?_,?_⟩
 ·cases pend with
  |nil=>rfl
  |cons p l=>exact(key p.i (by rw[h.ord];exact Cv _ (h.pin p (List.mem_cons_self ..))) (.inl ⟨p,List.mem_cons_self ..,rfl⟩)).elim
 ·cases half with
  |none=>rfl
  |some hh=>exact(key hh.i (by rw[h.ord];exact Cv _ (h.hin hh rfl).1) (.inr (.inl ⟨hh,rfl,rfl⟩))).elim
 ·cases hr:AO rest with
  |nil=>rfl
  |cons i l=>exact(key i (by rw[h.ord,hr];simp) (.inr (.inr (by rw[hr];exact List.mem_cons_self ..)))).elim
theorem Rw {infs:List Inf}{rest:List HS}(h:AO rest=[]):rest=[]:=by
 cases rest with
 |nil=>rfl
 |cons x l=>cases x <;> simp[AO]at h
theorem Rx (C:Ctx P ty ibs call nt ops infs cls prs order) {ef:E}{sf:St}{Q:Exit→Act→World→Prop}(hQ:∀a' w' ρ',ER ρ' ef a'→Rel ρ' sf w'→Go s0 ρ0 w0 sf ρ' w'→FrOk nt a'→Q .normal a' w'):
  ∀ (fuel:Nat) (rest:List HS) (pre:List Nat) (st:List Stp) (e:E) (s:St) (pend:List Pd) (half:Option Hf) (listed:Array Bool) (ρ:Rho) (act:Act) (w:World),
  Inv nt ops infs cls order s0 ρ0 w0 pre rest e s pend half listed ρ act w→Dm infs cls pre rest=some st→reg call st e s=some (ef,sf)→pend.length+ (AO rest).length+ (if half.isSome then 1 else 0)≤fuel→
  wpAny P .any ops Q fuel listed act w:=by
 have done:∀ (rest:List HS) (pre:List Nat) (st:List Stp) (e:E) (s:St) (pend:List Pd) (half:Option Hf) (listed:Array Bool) (ρ:Rho) (act:Act) (w:World),
   Inv nt ops infs cls order s0 ρ0 w0 pre rest e s pend half listed ρ act w→Dm infs cls pre rest=some st→reg call st e s=some (ef,sf)→pend=[]∧half=none∧AO rest=[]→Q .normal act w:=by
  rintro rest pre st e s pend half listed ρ act w h hst hreg ⟨rfl,rfl,hr⟩;have:=Rw (infs:=infs) hr;subst this;exact Ru h hst hreg hQ
 intro fuel;induction fuel with
 |zero=>
  intro rest pre st e s pend half listed ρ act w h hst hreg hle;have h1:pend=[]:=List.eq_nil_of_length_eq_zero (by omega);have h2:half=none:=by cases half with |none=>rfl |some _=>simp at hle
  have h3:AO rest=[]:=List.eq_nil_of_length_eq_zero (by omega);refine⟨?_,done rest pre st e s pend half listed ρ act w h hst hreg ⟨h1,h2,h3⟩⟩;cases hr:Region.ready .any ops listed with
  |nil=>rfl
  |cons i l=>
   have hi:i∈Region.ready .any ops listed:=by rw[hr];exact List.mem_cons_self ..
   rw[En]at hi;obtain⟨hu,o,ho,_⟩:=hi;have hin:i < ops.size:=(Gq.1 ho).1;rcases(h.lst i hin).1 hu with ⟨p,hp,_⟩ |⟨hh,hp,_⟩ |hp
   ·rw[h1]at hp;simp at hp
   ·rw[h2]at hp;cases hp
   ·rw[h3]at hp;simp at hp
 |succ fuel ih=>
  intro rest pre st e s pend half listed ρ act w h hst hreg hle;refine⟨fun hr=>done rest pre st e s pend half listed ρ act w h hst hreg (Rv C h hr),fun i hi=> ?_⟩;rw[En]at hi;obtain⟨hu,o,ho,hrd⟩:=hi;have hin:i < ops.size:=(Gq.1 ho).1;have hr:∀o,ops[i]?=some o→ ∀ed∈o.after,Region.binds .any ed=true→listed.getD ed.on false=true:=by
   intro o' ho';rw[ho]at ho';simp only[Af]at ho';subst ho';exact hrd
  have exP:∀ {rest:List HS} {pre:List Nat} {st:List Stp} {e:E} {s:St} {pend:List Pd} {half:Option Hf},Inv nt ops infs cls order s0 ρ0 w0 pre rest e s pend half listed ρ act w→Dm infs cls pre rest=some st→reg call st e s=some (ef,sf)→
    pend.length+ (AO rest).length+ (if half.isSome then 1 else 0)≤fuel+1→(∃p∈pend,p.i=i)→wpOp P ops Q i (wpAny P .any ops Q fuel (listed.setIfInBounds i true)) act w:=by
   rintro rest pre st e s pend half h hst hreg hle ⟨p,hp,rfl⟩;obtain⟨l1,l2,rfl⟩:=List.append_of_mem hp;refine Q4 C h hr fun act' w' ρ' h'=>ih rest pre st e s (l1++l2) half _ ρ' act' w' h' hst hreg ?_;simp only[AV,List.length_cons]at hle ⊢;omega
  cases half with
  |some hh=>
   rcases(h.lst i hin).1 hu with hp |⟨hh',hp,rfl⟩ |hp
   ·exact exP h hst hreg hle hp
   ·simp only[Af]at hp;subst hp;refine Ro C h hr fun act' w' ρ' h'=>ih rest pre st e s pend none _ ρ' act' w' h' hst hreg ?_;simp at hle ⊢;omega
   ·have hb:=h.hp hh rfl i hp;have:=Ex h.dc (C.dep _ _ hb) hr;have hho:hh.i∈order:=by rw[h.ord];exact Cv _ (h.hin hh rfl).1
    have hun:=(h.lst hh.i (C.lt _ hho)).2 (.inr (.inl ⟨hh,rfl,rfl⟩));rw[DK h.sz (C.lt _ hho),this]at hun;cases hun
  |none=>
   obtain⟨rest,pre,st,e,s,pend,h,hst,hreg,hlen,hhead⟩:=ML C rest h hst hreg;have hle:pend.length+ (AO rest).length+0≤fuel+1:=by rw[hlen];simpa using hle
   rcases(h.lst i hin).1 hu with hp |⟨hh',hp,_⟩ |hp
   ·exact exP h hst hreg (by simpa using hle) hp
   ·cases hp
   ·cases rest with
    |nil=>simp[AO]at hp
    |cons x l=>
     cases x with
     |ev m=>
      obtain⟨a,x,ha,hx⟩:=hhead;unfold Dm at hst;split at hst
      ·rename_i a1 st1 ha1 hst1;rw[ha]at ha1;simp only[Af]at ha1;subst ha1;rw[hx]at hst;simp only at hst;split at hst
       ·rename_i haft;simp only[Af]at hst;subst hst;have hmo:m∈order:=by rw[h.ord,F5];simp
        have him:i=m:=by
         rw[F5]at hp;rcases List.mem_cons.1 hp with e' |hp
         ·exact e'
         ·have hb:=Be.1 haft i hp;have:=Ex h.dc (C.dep _ _ hb) hr;have hun:=(h.lst m (C.lt _ hmo)).2 (.inr (.inr (by rw[F5];exact List.mem_cons_self ..)));rw[DK h.sz (C.lt _ hmo),this]at hun;cases hun
        subst him;have hreg':(match (match evG call e s a.o.dst a.g (.m x)with
          |some (e,s)=>bif Fo e s (Eb infs cls i pre)&& Fp e s (Ec infs cls i pre)then some (e,s)else none
          |none=>none)with |some (e,s)=>reg call st1 e s |none=>none)=some (ef,sf):=hreg
        split at hreg'
        ·rename_i e1 s1 hst2;split at hst2
         ·rename_i e2 s2 hev;obtain⟨hchk,hst2⟩:=Bh hst2;simp only[Af,Ax]at hst2;obtain⟨rfl,rfl⟩:=hst2;obtain⟨hR,hA⟩:=(AH _ _).mp hchk;refine Re C h ha hx hr hev hR hA fun act' w' ρ' h'=>ih l (pre++ [i]) st1 _ _ pend none _ ρ' act' w' h' hst1 hreg' ?_;rw[F5]at hle;simp at hle ⊢;omega
         ·simp at hst2
        ·simp at hreg'
       ·simp at hst
      ·simp at hst
     |e2 k1 k2=>
      unfold Dm at hst;split at hst
      ·rename_i a c st1 ha hc hst1;split at hst
       ·rename_i n₁ a₁ v₁ n₂ a₂ v₂ hax hag had hcx hcg hcd;split at hst
        ·rename_i hcond;simp only[Af]at hst;subst hst;obtain⟨hra,haft'⟩:=(AH _ _).mp hcond;have haft:∀q∈AO l,bt cls q k1=true∧bt cls q k2=true:=fun q hq=>by
          have:=Be.1 haft' q hq;exact(AH _ _).mp this
         have hk1o:k1∈order:=by rw[h.ord,GK];simp
         have hi12:i=k1∨i=k2:=by
          rw[GK]at hp;rcases List.mem_cons.1 hp with e' |hp
          ·exact .inl e'
          ·rcases List.mem_cons.1 hp with e' |hp
           ·exact .inr e'
           ·have hb:=(haft i hp).1;have:=Ex h.dc (C.dep _ _ hb) hr;have hun:=(h.lst k1 (C.lt _ hk1o)).2 (.inr (.inr (by rw[GK];exact List.mem_cons_self ..)));rw[DK h.sz (C.lt _ hk1o),this]at hun;cases hun
         have hreg':(match stp call e s (.e2 n₁ a₁ v₁ n₂ a₂ v₂)with |some (e,s)=>reg call st1 e s |none=>none)=some (ef,sf):=hreg;split at hreg'
         ·rename_i e' s' hst2;simp only[stp]at hst2;split at hst2
          ·rename_i x₁ o₁ l₁ x₂ o₂ l₂ g1 g2 g3 g4;obtain⟨hchk,hst2⟩:=Bh hst2;obtain⟨hchk,hl2⟩:=(AH _ _).mp hchk;obtain⟨hdis,hl1⟩:=(AH _ _).mp hchk;have hl1:l₁.length=n₁:=by have:=I3 hl1;rw[Cq]at this;exact this
           have hl2:l₂.length=n₂:=by have:=I3 hl2;rw[Cq]at this;exact this
           have hdis:x₁≠x₂∨o₁+l₁.length≤o₂∨o₂+l₂.length≤o₁:=by
            rw[hl1,hl2];rcases(EK _ _).mp hdis with hd |hd
            ·rcases(EK _ _).mp hd with hd |hd
             ·left;intro e';rw[e']at hd;simp at hd
             ·exact .inr (.inl (Ce hd))
            ·exact .inr (.inr (Ce hd))
           split at hst2
           ·simp at hst2
           ·rename_i sp1 hsp1;split at hst2
            ·simp at hst2
            ·rename_i sp2 hsp2;split at hst2
             ·simp at hst2
             ·rename_i sq1 hsq1;split at hst2
              ·simp at hst2
              ·rename_i sq2 hsq2;simp only[Af,Ax]at hst2;obtain⟨rfl,rfl⟩:=hst2;have hrel:Rel ρ s w:=h.rel;rw[←hl1]at hsp1;rw[←hl2]at hsp2;obtain⟨p1,p2,p3,p4,⟨b1,p5,p6,p7⟩,p8⟩:=JN hrel hsp1;obtain⟨q1,q2,q3,q4,⟨b2,q5,q6,q7⟩,q8⟩:=JN p1 hsp2;have hnb:sp2.nb=s.nb:=q3.trans p3;have hno1:NO sp2 x₁ o₁ l₁.length:=p2.mono q8;have hf1:∀b,sp2.h.get x₁=some b→o₁+l₁.length≤b.c.length:=fun b hb=>by
                have:=q8 _ _ hb;rw[p5]at this;simp only[Af]at this;subst this;exact p7
               have hf2:∀b,sp2.h.get x₂=some b→o₂+l₂.length≤b.c.length:=fun b hb=>by
                rw[q5]at hb;simp only[Af]at hb;subst hb;exact q7
               have hlen':pend.length+ (AO l).length+1≤fuel:=by
                rw[GK]at hle;simp only[List.length_cons]at hle;omega
               rcases hi12 with rfl |rfl
               ·exact Mz C (.inl ⟨rfl,rfl⟩) h hra haft ha hc hax hag had hcx hcg hcd g1 g2 hl1 g3 g4 hl2 q1 hnb hno1 q2 hf1 hf2 hsq1 hsq2 ⟨rfl,rfl,fun _=>rfl,fun _=>rfl⟩ hr
                 fun act' w' ρ' hh h'=>ih l _ st1 _ _ pend (some hh) _ ρ' act' w' h' hst1 hreg' (by simpa using hlen')
               ·obtain⟨sc,sd,r1,r2,r3⟩:=Rm hsq1 hsq2 hf1 hf2 hdis;exact Mz C (.inr ⟨rfl,rfl⟩) h hra haft hc ha hcx hcg hcd hax hag had g3 g4 hl2 g1 g2 hl1 q1 hnb q2 hno1 hf2 hf1 r1 r2 r3 hr
                 fun act' w' ρ' hh h'=>ih l _ st1 _ _ pend (some hh) _ ρ' act' w' h' hst1 hreg' (by simpa using hlen')
          ·simp at hst2
         ·simp at hreg'
        ·simp at hst
       ·simp at hst
      ·simp at hst
theorem Ry (hty:TyOk P ty) (hib:Du P ibs) (hcall:CT P call) {h:List HS}(hi:F3 ty ibs nt ops ops.toList=some infs)
  (hc:(If ops.size (AO h)&& Ew (Fr infs (Fq ops.toList []) (GG h)) (AO h)&& (AO h).all (GE infs (Fq ops.toList []))&& GF infs [] (AO h))=true):
  Ctx P ty ibs call nt ops infs (Fq ops.toList []) (GG h) (AO h):=by
 obtain⟨hc,h4⟩:=(AH _ _).mp hc;obtain⟨hc,h3⟩:=(AH _ _).mp hc;obtain⟨h1,h2⟩:=(AH _ _).mp hc;obtain⟨m1,m2⟩:=Q2 h1;refine⟨hty,hib,hcall,fun i a ha=> ?_,m1,m2,Mg (fun i j hp=> ?_) h2,fun i hi j hj hne=>Mf h2 i hi j hj hne,fun pre rest e i hi j hj=>Me h2 e i hi j hj,fun i hi=>Be.1 h3 i hi,fun i j hb=>Q1 hb,fun pre i rest e a ha ed hed hb=> ?_,fun i hi=> ?_⟩
 ·obtain⟨k1,k2,k3,k4⟩:=Md hi i a ha;exact⟨by simpa using k1,k2,k3,k4⟩
 ·obtain⟨_,_,_,_,hne,_⟩:=ET hp;exact hne
 ·simpa using Mh h4 e a ha ed hed hb
 ·obtain⟨a,ha,_⟩:=JB (Be.1 h3 i hi);exact⟨a,ha⟩
theorem Rz (hm:P.follows .mixedOrders=true) (hty:TyOk P ty) (hib:Du P ibs) (hcall:CT P call):JH P call nt (cDraw ty ibs nt):=by
 intro id ops x l hl e e' s s' ρ a w Q he hr hf hreg hQ;unfold cDraw at hl;split at hl
 ·simp at hl
 ·rename_i infs hi;simp only at hl;split at hl
  ·rename_i hc;have C:=Ry hty hib hcall hi hc;have hd:Rel ρ s {w with drawn:=w.drawn+1}:=hr.drew;have hg:Go s ρ w s ρ {w with drawn:=w.drawn+1}:=(Go.refl s ρ w).drew;refine wp_region_any hm ?_;refine Rx (s0:=s) (ρ0:=ρ) (w0:=w) C hQ ops.size x [] l e s [] none _ ρ a _ ⟨hd,hg,hf,by simp,?_,?_,rfl,?_,?_,?_,?_,?_,?_,?_,?_,?_,?_,?_,?_⟩ hl hreg ?_
   ·intro i hi';simp only[Array.getD_eq_getD_getElem?,Array.getElem?_replicate,hi',DU,Option.getD_some,true_iff];exact .inr (.inr (C.mem i hi'))
   ·intro i o ed h1;simp only[Array.getD_eq_getD_getElem?,Array.getElem?_replicate]at h1;split at h1 <;> simp at h1
   ·intro p hp;simp at hp
   ·intro hh hhe;cases hhe
   ·simp
   ·intro p hp;simp at hp
   ·intro t v hv _;exact he t v hv
   ·intro p hp;simp at hp
   ·intro p hp;simp at hp
   ·intro p hp;simp at hp
   ·intro p hp;simp at hp
   ·intro p hp;simp at hp
   ·intro hh hhe;cases hhe
   ·intro hh hhe;cases hhe
   ·have:(AO x).length≤ops.size:=by
     have:=MJ C.nodup (m:=List.range ops.size) fun i hi=>Hg.2 (C.lt i hi)
     simpa using this
    simpa using this
  ·simp at hl
end
end Go.Ev
