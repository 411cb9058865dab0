/- Parts of the proof of FnDepthsHold, FnEnds, FnMeant, FnMovedWhenever, FnSizes. -/
import Derived.Test.YtfmebaafpfkeiaaGreatY16
import Derived.Test.YtfmebaafpfkeiaaGreatY12
import Derived.Test.YtfmebaafpfkeiaaGreatY15
import Derived.Test.YtfmebaafpfkeiaaGreatY11
import Derived.Test.YtfmebaafpfkeiaaGreatY13
import Derived.StillTail
set_option linter.unusedVariables false
set_option linter.unusedSimpArgs false
set_option maxRecDepth 1000000
set_option maxHeartbeats 16000000
section
namespace Go.Proofs.YtfmebaafpfkeiaaGreat
open Go.RowKit
theorem Z0 {Q:Nat→Prop}{o:List Nat}{x:Int}(ho:∀p∈o,Q p) (hx:x%2=0→Q (x/2).toNat):∀p∈seeW o x,Q p:=by
 unfold seeW;split
 ·rename_i he;split
  ·exact ho
  ·intro p hp;rcases List.mem_append.1 hp with hp |hp
   ·exact ho p hp
   ·rw[List.mem_singleton]at hp;subst hp;exact hx he
 ·exact ho
theorem PM {Q:Nat→Prop}:∀ {xs:List Int}{o:List Nat},(∀p∈o,Q p)→(∀x∈xs,x%2=0→Q (x/2).toNat)→ ∀p∈seeL o xs,Q p:=by
 intro xs;induction xs with
 |nil=>intro o ho _;exact ho
 |cons x xs ih=>
  intro o ho hx;exact ih (o:=seeW o x) (Z0 ho (hx x (List.mem_cons_self ..))) (fun y hy=>hx y (List.mem_cons_of_mem _ hy))
theorem Z1 {ws:List Int}{Q:Nat→Prop}(hk:∀p,Q p→ ∀x∈Ae ws p,x%2=0→Q (x/2).toNat):∀ (f i:Nat) (o:List Nat),(∀p∈o,Q p)→ ∀p∈bfs ws f i o,Q p:=by
 intro f;induction f with
 |zero=>intro i o ho;exact ho
 |succ f ih=>
  intro i o ho;by_cases hi:i < o.length
  ·rw[Fl hi];exact ih _ _ (PM ho (hk _ (ho _ (FL hi))))
  ·rw[Fm hi];exact ho
theorem PN {ws rs:List Int}{Q:Nat→Prop}(hr:∀x∈rs,x%2=0→Q (x/2).toNat) (hk:∀p,Q p→ ∀x∈Ae ws p,x%2=0→Q (x/2).toNat):∀p∈Ao ws rs,Q p:=
 Z1 hk _ _ _ (PM (by simp) hr)
theorem Z2 {α:Type} [DecidableEq α] (s:α→Nat):∀ {o:List α}{a:α},a∈o→(o.map s).sum=s a+ ((o.erase a).map s).sum:=by
 intro o;induction o with
 |nil=>intro a h;cases h
 |cons x o ih=>
  intro a h;by_cases e:x=a
  ·subst e;simp
  ·rcases List.mem_cons.1 h with h |h
   ·exact absurd h.symm e
   ·rw[List.erase_cons_tail (by simpa using e),List.map_cons,List.sum_cons,List.map_cons,List.sum_cons,ih h];omega
theorem PO {α β:Type} [DecidableEq β] (s:α→Nat) (t:β→Nat) (T:α→β→Prop) (hinj:∀a a' y,T a y→T a' y→a=a') (hs:∀a y,T a y→s a=t y):
  ∀ (o:List α) (q:List β),o.Nodup→(∀a∈o,∃y∈q,T a y)→(o.map s).sum≤ (q.map t).sum:=by
 intro o;induction o with
 |nil=>intro q _ _;simp
 |cons a o ih=>
  intro q hn hq;obtain⟨ha,hn⟩:=List.nodup_cons.1 hn;obtain⟨y,hy,hT⟩:=hq a (List.mem_cons_self ..);have:=ih (q.erase y) hn (fun a' ha'=>by
   obtain⟨z,hz,hT'⟩:=hq a' (List.mem_cons_of_mem _ ha');refine⟨z,(List.mem_erase_of_ne ?_).2 hz,hT'⟩;intro e;subst e;exact ha (hinj _ _ _ hT hT'▸ha'))
  rw[List.map_cons,List.sum_cons,Z2 t hy,hs a y hT];omega
theorem La (ws:List Int):∀o:List Nat,(raw ws o).length= (o.map fun p=>1+ (Ae ws p).length).sum:=by
 intro o;induction o with
 |nil=>rfl
 |cons p o ih=>
  unfold raw at ih ⊢;rw[List.flatMap_cons,List.length_append,ih,List.map_cons,List.sum_cons];simp only[blk,List.length_cons];omega
theorem Hc {xs:List Int}{x:Int}(h:x∈xs):∃j,j < xs.length∧xs.getD j 0=x:=by
 obtain⟨j,hj,rfl⟩:=List.mem_iff_getElem.1 h;exact⟨j,hj,by rw[List.getD_eq_getElem?_getD,List.getElem?_eq_getElem hj];rfl⟩
theorem Lb {xs:List Int}{j:Nat}(h:j < xs.length):xs.getD j 0∈xs:=by
 rw[List.getD_eq_getElem?_getD,List.getElem?_eq_getElem h];exact List.getElem_mem h
section
variable {E:Nat→Nat→Prop}{fs:List F2}{L:VmL}{A:AbS}{h b n:Nat}{ps:List Nat}
def EW (A:AbS):Bool:=A.ss.all (fun y=>decide (y%2=0) || A4 (y/2))
theorem Sim.words (S:Sim E fs L A h b n ps) (hw:EW A=true):L.ss.all (Ai ps)=true:=by
 unfold EW at hw;rw[List.all_eq_true]at hw ⊢;intro x hx;obtain⟨j,hj,rfl⟩:=Hc hx;have hy:=hw _ (Lb (xs:=A.ss) (j:=j) (by rw[←S.ss.1];exact hj));unfold Ai;rcases S.ss.2 j hj with ⟨h1,h2⟩ |⟨h1,h2,h3,h4⟩
 ·rw[if_neg (by omega),h2];rw[←h2]at hy ⊢;simp only[Bool.or_eq_true,decide_eq_true_eq]at hy;rcases hy with e |e
  ·omega
  ·exact e
 ·rw[if_pos h1,decide_eq_true_eq];exact⟨_,(S.mem _ _ h4).1,by omega⟩
theorem Sim.reach (S:Sim E fs L A h b n ps):∀p∈Ao L.zs L.ss,∃i,E p i:=by
 refine PN (fun x hx he=> ?_) (fun p hp x hx he=> ?_)
 ·obtain⟨j,hj,rfl⟩:=Hc hx;rcases S.ss.2 j hj with ⟨h1,h2⟩ |⟨h1,h2,h3,h4⟩
  ·omega
  ·exact⟨_,h4⟩
 ·obtain⟨i,hi⟩:=hp;have K:=S.kids _ _ hi;obtain⟨j,hj,rfl⟩:=Hc hx;rcases K.2 j hj with ⟨h1,h2⟩ |⟨h1,h2,h3,h4⟩
  ·omega
  ·exact⟨_,h4⟩
def Hd (st:List (Int×List Int)):Nat:=(st.map fun x=>1+x.2.length).sum
theorem Z3 (st:List (Int×List Int)):Hd st= ((List.range st.length).map fun i=>1+ (st.getD i b0).2.length).sum:=by
 unfold Hd
 congr 1
 refine List.ext_getElem (by simp) fun i h1 h2=> ?_;rw[List.length_map]at h1;simp only[List.getElem_map,List.getElem_range];rw[List.getD_eq_getElem?_getD,List.getElem?_eq_getElem h1];rfl
theorem Sim.live_tot (S:Sim E fs L A h b n ps) (hw:EW A=true):BC L≤Hd A.st:=by
 unfold BC;rw[La,Z3];refine PO _ _ E S.inj (fun p i he=>by rw[(S.kids _ _ he).1]) _ _ (EU S.right (S.words hw)).1 (fun p hp=> ?_);obtain⟨i,hi⟩:=S.reach p hp;exact⟨i,List.mem_range.2 (S.mem _ _ hi).2,hi⟩
theorem Sim.live_le {E2:Nat→Nat→Prop}{L2:VmL}{h2 b2 n2:Nat}{ps2:List Nat}(S:Sim E fs L A h b n ps) (S2:Sim E2 fs L2 A h2 b2 n2 ps2) (hw:EW A=true):BC L2≤BC L:=by
 unfold BC;rw[La,La];refine PO _ _ (fun p q=>∃i,E2 p i∧E q i) ?_ ?_ _ _ (EU S2.right (S2.words hw)).1 ?_
 ·rintro a a' y ⟨i,h1,h2⟩ ⟨j,h3,h4⟩;have:=S.fn _ _ _ h2 h4;subst this;exact S2.inj _ _ _ h1 h3
 ·rintro a y ⟨i,h1,h2⟩;rw[(S.kids _ _ h2).1,(S2.kids _ _ h1).1]
 ·refine PN (fun x hx he=> ?_) (fun p hp x hx he=> ?_)
  ·obtain⟨j,hj,rfl⟩:=Hc hx;have hj':j < L.ss.length:=by rw[S.ss.1,←S2.ss.1];exact hj
   rcases S2.ss.2 j hj with ⟨h1,h2⟩ |⟨h1,h2,h3,h4⟩
   ·omega
   ·rcases S.ss.2 j hj' with ⟨k1,k2⟩ |⟨k1,k2,k3,k4⟩
    ·rw[k2]at k1;omega
    ·exact⟨_,KQ _ _ _ (Lb hj') k1,_,h4,k4⟩
  ·obtain⟨q,hq,i,e2,e1⟩:=hp;have K2:=S2.kids _ _ e2;have K1:=S.kids _ _ e1;obtain⟨j,hj,rfl⟩:=Hc hx;have hj':j < (Ae L.zs q).length:=by rw[K1.1,←K2.1];exact hj
   rcases K2.2 j hj with ⟨h1,h2⟩ |⟨h1,h2,h3,h4⟩
   ·omega
   ·rcases K1.2 j hj' with ⟨k1,k2⟩ |⟨k1,k2,k3,k4⟩
    ·rw[k2]at k1;omega
    ·exact⟨_,KR S.right (S.words hw) hq _ (Lb hj') k1,_,h4,k4⟩
theorem Sim.live_room (S:Sim E fs L A h b n ps) (hw:EW A=true):BC L≤n - b:=by
 have ho:=EU S.right (S.words hw);have F:=S.right.frame;have h1:=LB (ws:=L.zs) _ ps ho.1 ho.2;have h2:=LA (S.right.n_le.1) _ _ _ (show places L.zs n (n - b) b=some ps from S.right.some) F.n0;unfold BC;omega
def okA (fs:List F2) (A:AbS):Bool:=(decide (A.ss.length≤600)&& BY fs A.ss.length A.cs A.code)&& (A.os.all A4&& EW A)
def FX (fs:List F2) (A:AbS):Prop:=(opA fs (Ah A)).c=5∨(opA fs (Ah A)).c=8
def mkA (fs:List F2) (A:AbS):Nat:=(opA fs (Ah A)).m.toNat
def FY (o:O3) (len:Int):Bool:=
 (decide (1≤o.c∧o.c≤21)&& decide (-2147483648≤o.n∧o.n≤2147483648))&& (decide (0≤o.m∧o.m≤3000)&& (decide ((o.c=2∨o.c=3∨o.c=5∨o.c=8∨o.c=9)→0≤o.n∧o.n≤3000)&& decide ((o.c=5∨o.c=8)→o.m≤20∧len - o.m+1≤600)))
def goA (fs:List F2) (A:AbS):Bool:=(decide (A.code=0)&& FY (opA fs (Ah A)) A.ss.length)&& (decide ((Cg fs A).1=0) || decide ((Cg fs A).1=1))
theorem Lc {o:O3}{len:Int}(h:FY o len=true):(1≤o.c∧o.c≤21)∧(-2147483648≤o.n∧o.n≤2147483648)∧(0≤o.m∧o.m≤3000)∧((o.c=2∨o.c=3∨o.c=5∨o.c=8∨o.c=9)→0≤o.n∧o.n≤3000)∧((o.c=5∨o.c=8)→o.m≤20∧len - o.m+1≤600):=by
 simp only[FY,Bool.and_eq_true,decide_eq_true_eq]at h;exact⟨h.1.1,h.1.2,h.2.1,h.2.2.1,h.2.2.2⟩
theorem Z4 {o:O3}{len:Int}(h:FY o len=true):(1≤o.c∧o.c≤21)∧((o.c=3∨o.c=9)→0≤o.n)∧((o.c=5∨o.c=8)→(0≤o.n∧o.n≤3000)∧(0≤o.m∧o.m≤20)∧len - o.m+1≤600):=by
 obtain⟨h1,h2,h3,h4,h5⟩:=Lc h;exact⟨h1,fun e=>(h4 (by omega)).1,fun e=>⟨h4 (by omega),⟨h3.1,(h5 e).1⟩,(h5 e).2⟩⟩
theorem DW (h:okA fs A=true):EW A=true:=by
 simp only[okA,Bool.and_eq_true]at h;exact h.2.2
theorem Z5 (h:okA fs A=true) (hc:A.code=0):1≤ (Ah A).m:=by
 simp only[okA,BY,En,Bool.and_eq_true,Bool.or_eq_true,decide_eq_true_eq,List.all_eq_true,List.mem_range]at h;obtain⟨⟨_,h1,_,h2⟩,_⟩:=h;have h3:0 < A.cs.length:=by
  rcases h2 with e |e
  ·rw[hc]at e;cases e
  ·exact e
 have h4:=h1 (A.cs.length - 1) (by omega);simp only[CI,Bool.and_eq_true]at h4;exact(Aw.1 h4.2.1).1
theorem Sim.step (S:Sim E fs L A h b n ps) (hok:okA fs A=true) (hgo:goA fs A=true):
  (∃E' b' n' ps',Sim E' fs (Av L) (Dv fs A) h b' n' ps'∧(FX fs A→BC L+1+mkA fs A≤h))∨(Av L= {L with code:=2}∧FX fs A∧h < BC L+1+mkA fs A):=by
 have hwd:=DW hok;simp only[goA,Bool.and_eq_true,Bool.or_eq_true,decide_eq_true_eq]at hgo;obtain⟨⟨hc,hop⟩,hout⟩:=hgo;have hbs:=Z5 hok hc;obtain⟨o1,o2,o3⟩:=Z4 hop;have et:Ay L=Ah A:=by unfold Ay Ah;rw[S.cs]
 have eo:opL L (Ah A)=opA fs (Ah A):=by unfold opL opA;rw[S.lf]
 have S':Sim E fs {L with cs:=A5 L.cs ((Ah A).n+1),code:=0} (Hb A) h b n ps:=S.put S.ss (by rw[S.cs]) S.os rfl;have hst:Av L= (if(doL {L with cs:=A5 L.cs ((Ah A).n+1),code:=0} (opA fs (Ah A)) (Ah A)).1=0∨(doL {L with cs:=A5 L.cs ((Ah A).n+1),code:=0} (opA fs (Ah A)) (Ah A)).1=1 then
   {(doL {L with cs:=A5 L.cs ((Ah A).n+1),code:=0} (opA fs (Ah A)) (Ah A)).2 with code:=(doL {L with cs:=A5 L.cs ((Ah A).n+1),code:=0} (opA fs (Ah A)) (Ah A)).1}
   else {L with code:=(doL {L with cs:=A5 L.cs ((Ah A).n+1),code:=0} (opA fs (Ah A)) (Ah A)).1}):=by
  unfold Av;dsimp only;rw[et,eo]
 have hsa:Dv fs A= {(Cg fs A).2 with code:=(Cg fs A).1}:=by unfold Dv;rw[if_pos hout]
 rw[hst,hsa];have Gq:∀ {E' b' n' ps'} {r:Int×VmL},r.1= (Cg fs A).1→Sim E' fs r.2 (Cg fs A).2 h b' n' ps'→
   Sim E' fs (if r.1=0∨r.1=1 then {r.2 with code:=r.1}else {L with code:=r.1}) {(Cg fs A).2 with code:=(Cg fs A).1} h b' n' ps':=by
  intro E' b' n' ps' r h1 h2;rw[if_pos (by rw[h1];exact hout)];exact h2.put h2.ss h2.cs h2.os h1
 by_cases hmk:(opA fs (Ah A)).c=5∨(opA fs (Ah A)).c=8
 ·obtain⟨⟨n0,n1⟩,⟨m0,m1⟩,l1⟩:=o3 hmk;have htk:Ag (opA fs (Ah A)).c (opA fs (Ah A)).m= (opA fs (Ah A)).m:=by unfold Ag;rw[if_pos hmk]
  have hno:∀k:Int,k≠5→k≠8→ ¬(opA fs (Ah A)).c=k:=fun k h1 h2 e=>by rcases hmk with e' |e' <;> omega
  have hne:¬((A.ss.length:Int) - (Ah A).m - 1 < (opA fs (Ah A)).m):=by
   intro hlt;have:(Cg fs A).1=5:=by unfold Cg doA;rw[if_pos (by rw[htk];exact hlt)]
   omega
  obtain⟨k,hk⟩:∃k,(opA fs (Ah A)).m.toNat=k:=⟨_,rfl⟩;have hmkA:mkA fs A=k:=hk;have hout2:Cg fs A=Ha (Hb A) (decide ((opA fs (Ah A)).c=5)) (opA fs (Ah A)).n k:=by
   unfold Cg doA;rw[if_neg (by rw[htk];exact hne),if_neg (hno 1 (by decide) (by decide)),if_neg (hno 2 (by decide) (by decide)),if_neg (hno 3 (by decide) (by decide)),if_neg (hno 4 (by decide) (by decide)),if_pos hmk,hk]
  have hdo:doL {L with cs:=A5 L.cs ((Ah A).n+1),code:=0} (opA fs (Ah A)) (Ah A)=Bb {L with cs:=A5 L.cs ((Ah A).n+1),code:=0} (decide ((opA fs (Ah A)).c=5)) (opA fs (Ah A)).n k:=by
   unfold doL;dsimp only;rw[if_neg (by rw[htk,S.ss.1];exact hne),if_neg (hno 1 (by decide) (by decide)),if_neg (hno 2 (by decide) (by decide)),if_neg (hno 3 (by decide) (by decide)),if_neg (hno 4 (by decide) (by decide)),if_pos hmk,hk]
  rw[hdo,hmkA];unfold Bb;have hlv:BC {L with cs:=A5 L.cs ((Ah A).n+1),code:=0}=BC L:=rfl;have hkl:k≤L.ss.length:=by rw[S.ss.1];omega
  have F:=S.right.frame;have hbh:b≤h:=by have:=F.base;omega
  by_cases hmv:({L with cs:=A5 L.cs ((Ah A).n+1),code:=0}:VmL).each=true∨A8 {L with cs:=A5 L.cs ((Ah A).n+1),code:=0} < 1+ (k:Int)
  ·rw[if_pos hmv];obtain⟨S1,_⟩:=S'.moved (S'.words hwd);rw[hlv]at S1;have hl1:(AJ {L with cs:=A5 L.cs ((Ah A).n+1),code:=0}).ss.length=A.ss.length:=S1.ss.1;by_cases hfit:(h - b)+BC L+1+k≤ (h - b)+h
   ·obtain⟨E',ps',S2,e1,e2,_⟩:=S1.made (S1.words hwd) (f:=decide ((opA fs (Ah A)).c=5)) (k:=k) n0 n1 (by omega) (by omega) hfit (by rw[hl1];omega);refine .inl ⟨E',_,_,ps',Gq (by rw[hout2,e1,e2]) (by rw[hout2];exact S2),fun _=>by omega⟩
   ·refine .inr ⟨?_,hmk,by omega⟩;have:BV (AJ {L with cs:=A5 L.cs ((Ah A).n+1),code:=0}) (decide ((opA fs (Ah A)).c=5)) (opA fs (Ah A)).n k= (2,AJ {L with cs:=A5 L.cs ((Ah A).n+1),code:=0}):=by
     unfold BV;rw[if_pos (by unfold A8;rw[S1.lb,S1.lh,S1.ln];omega)]
    rw[this,if_neg (by simp)]
  ·rw[if_neg hmv];have hroom:¬A8 {L with cs:=A5 L.cs ((Ah A).n+1),code:=0} < 1+ (k:Int):=fun h=>hmv (.inr h);unfold A8 at hroom;dsimp only at hroom;rw[S.lb,S.lh,S.ln]at hroom;have hlr:=S.live_room hwd;obtain⟨E',ps',S2,e1,e2,_⟩:=S'.made (S'.words hwd) (f:=decide ((opA fs (Ah A)).c=5)) (k:=k) n0 n1 (by omega) hkl (by omega) (by show(L.ss.length:Int) - k+1≤600;rw[S.ss.1];omega);exact .inl ⟨E',_,_,ps',Gq (by rw[hout2,e1,e2]) (by rw[hout2];exact S2),fun _=>by have:=F.n0;omega⟩
 ·obtain⟨r1,r2⟩:=S'.do_ (o:=opA fs (Ah A)) (c:=Ah A) hbs o1 o2 hmk;exact .inl ⟨E,b,n,ps,Gq r1 r2,fun hh=>absurd hh hmk⟩
end
def As (fs:List F2):Nat→AbS→AbS
 |0,A=>A
 |k+1,A=>As fs k (Dv fs A)
def Ld (dep:List (List Int)) (A:AbS):Bool:=decide ((dep.getD (Ah A).c.toNat []).getD (Ah A).n.toNat (-1)= (A.ss.length:Int) - (Ah A).m)
def BD (fs:List F2) (dep:List (List Int)) (fin:List Int):Nat→AbS→Bool
 |0,_=>false
 |T+1,A=>(okA fs A&& (A.os.isPrefixOf fin&& decide (Hd A.st≤1900)))&& ((goA fs A&& (Ld dep A&& BD fs dep fin T (Dv fs A))) || ((decide (A.code=1)&& decide (A.os=fin))&& decide (A.ss.length=1)))
def Along (fs:List F2) (A:AbS) (i:Nat):Prop:=∀j,j < i→(As fs j A).code=0
structure Moment (fs:List F2) (dep:List (List Int)) (fin:List Int) (A:AbS):Prop where
 ok:okA fs A=true
 pre:A.os <+:fin
 tot:Hd A.st≤1900
 go:A.code=0→goA fs A=true∧Ld dep A=true
 done:A.code≠0→A.code=1∧A.os=fin∧A.ss.length=1
section
variable {fs:List F2}{dep:List (List Int)}{fin:List Int}
theorem PP {A:AbS}(h:goA fs A=true):A.code=0:=by
 simp only[goA,Bool.and_eq_true,decide_eq_true_eq]at h;exact h.1.1
theorem I9 {T:Nat}{A:AbS}(h:BD fs dep fin T A=true):Moment fs dep fin A∧(A.code=0→ ∃T',T=T'+1∧BD fs dep fin T' (Dv fs A)=true):=by
 cases T with
 |zero=>cases h
 |succ T=>
  simp only[BD,Bool.and_eq_true,Bool.or_eq_true,decide_eq_true_eq]at h;obtain⟨⟨h1,h2,ht⟩,h3⟩:=h;have hp:A.os <+:fin:=List.isPrefixOf_iff_prefix.1 h2;rcases h3 with ⟨g1,g2,g3⟩ |⟨⟨d1,d2⟩,d3⟩
  ·have:=PP g1;exact⟨⟨h1,hp,ht,fun _=>⟨g1,g2⟩,fun hn=>absurd this hn⟩,fun _=>⟨T,rfl,g3⟩⟩
  ·exact⟨⟨h1,hp,ht,(fun h0=>by rw[d1]at h0;cases h0),fun _=>⟨d1,d2,d3⟩⟩,(fun h0=>by rw[d1]at h0;cases h0)⟩
theorem El:∀ {i T:Nat}{A:AbS},BD fs dep fin T A=true→Along fs A i→i < T∧BD fs dep fin (T - i) (As fs i A)=true:=by
 intro i;induction i with
 |zero=>
  intro T A h _;cases T with
  |zero=>cases h
  |succ T=>exact⟨by omega,h⟩
 |succ i ih=>
  intro T A h ha;obtain⟨T',rfl,h'⟩:=(I9 h).2 (ha 0 (by omega));obtain⟨h1,h2⟩:=ih h' (fun j hj=>ha (j+1) (by omega));refine⟨by omega,?_⟩;rw[show T'+1 - (i+1)=T' - i by omega];exact h2
theorem DX {k:Nat}{L:VmL}(h:L.code≠0):Ak k L=L:=by
 cases k with
 |zero=>rfl
 |succ k=>unfold Ak;rw[if_neg h]
theorem Z6 {k:Nat}{L:VmL}(h:L.code=0):Ak (k+1) L=Ak k (Av L):=by
 conv=>lhs;unfold Ak
 rw[if_pos h]
def Fit (fs:List F2) (h:Nat) (A:AbS):Prop:=FX fs A→ ∃E L b n ps,Sim E fs L A h b n ps∧BC L+1+mkA fs A≤h
structure At (fs:List F2) (A:AbS) (h k i:Nat) (L R:VmL) (no:Prop):Prop where
 along:Along fs A i
 le:i≤k
 sim:∃E b n ps,Sim E fs L (As fs i A) h b n ps
 fit:∀j,j < i→Fit fs h (As fs j A)
 how:(R=L∧(i=k∨(As fs i A).code≠0)∧ ¬no)∨(R= {L with code:=2}∧(As fs i A).code=0∧FX fs (As fs i A)∧h < BC L+1+mkA fs (As fs i A)∧no)
theorem Sim.run {h:Nat}:∀ (k:Nat) {T:Nat}{E:Nat→Nat→Prop}{L:VmL}{A:AbS}{b n:Nat}{ps:List Nat},Sim E fs L A h b n ps→BD fs dep fin T A=true→ ∃i L' no,At fs A h k i L' (Ak k L) no:=by
 intro k;induction k with
 |zero=>intro T E L A b n ps S ht;exact⟨0,L,False,fun j hj=>by omega,Nat.le_refl _,⟨E,b,n,ps,S⟩,fun j hj=>by omega,.inl ⟨rfl,.inl rfl,fun h=>h⟩⟩
 |succ k ih=>
  intro T E L A b n ps S ht;obtain⟨M,hn⟩:=I9 ht;by_cases hc:A.code=0
  ·obtain⟨T',rfl,ht'⟩:=hn hc;have hL:L.code=0:=by rw[S.code];exact hc
   rw[Z6 hL];rcases S.step M.ok (M.go hc).1 with ⟨E',b',n',ps',S',hf⟩ |⟨e,hmk,hlt⟩
   ·obtain⟨i,L',no,R⟩:=ih S' ht';refine⟨i+1,L',no,fun j hj=> ?_,by have:=R.le;omega,R.sim,fun j hj=> ?_,?_⟩
    ·cases j with
     |zero=>exact hc
     |succ j=>exact R.along j (by omega)
    ·cases j with
     |zero=>exact fun hm=>⟨E,L,b,n,ps,S,hf hm⟩
     |succ j=>exact R.fit j (by omega)
    ·rcases R.how with ⟨h1,h2,h3⟩ |h1
     ·refine .inl ⟨h1,?_,h3⟩;rcases h2 with h2 |h2
      ·exact .inl (by omega)
      ·exact .inr h2
     ·exact .inr h1
   ·refine⟨0,L,True,fun j hj=>by omega,by omega,⟨E,b,n,ps,S⟩,fun j hj=>by omega,.inr ⟨?_,hc,hmk,hlt,trivial⟩⟩;rw[e,DX (by simp)]
  ·have hL:L.code≠0:=by rw[S.code];exact hc
   rw[DX hL];exact⟨0,L,False,fun j hj=>by omega,by omega,⟨E,b,n,ps,S⟩,fun j hj=>by omega,.inl ⟨rfl,.inr hc,fun h=>h⟩⟩
theorem Moment.of {T i:Nat}{A:AbS}(ht:BD fs dep fin T A=true) (ha:Along fs A i):Moment fs dep fin (As fs i A):=(I9 (El ht ha).2).1
theorem Along.eq {A:AbS}{i j:Nat}(hi:Along fs A i) (hj:Along fs A j) (ci:(As fs i A).code≠0) (cj:(As fs j A).code≠0):i=j:=by
 rcases Nat.lt_trichotomy i j with h |h |h
 ·exact absurd (hj i h) ci
 ·exact h
 ·exact absurd (hi j h) cj
theorem At.same {A:AbS}{h k i i2 T:Nat}{L L2 R R2:VmL}{no no2:Prop}(ht:BD fs dep fin T A=true) (hk:T≤k) (X:At fs A h k i L R no) (Y:At fs A h k i2 L2 R2 no2):i=i2∧(no↔no2):=by
 have mi:=Moment.of ht X.along;have mi2:=Moment.of ht Y.along;have ti:=(El ht X.along).1;have ti2:=(El ht Y.along).1;obtain⟨E,b,n,ps,S⟩:=X.sim;obtain⟨E2,b2,n2,ps2,S2⟩:=Y.sim;have clash:∀ {j:Nat} {L:VmL} {E:Nat→Nat→Prop} {b n:Nat} {ps:List Nat},Along fs A j→Sim E fs L (As fs j A) h b n ps→FX fs (As fs j A)→h < BC L+1+mkA fs (As fs j A)→Fit fs h (As fs j A)→False:=by
  intro j L E b n ps ha S hm hl hf;obtain⟨E',L',b',n',ps',S',hle⟩:=hf hm;have:=S'.live_le S (DW (Moment.of ht ha).ok);omega
 rcases X.how with ⟨_,h1,h2⟩ |⟨_,h1,h2,h3,h4⟩
 ·have hc:(As fs i A).code≠0:=by rcases h1 with e |e;(·omega);exact e
  rcases Y.how with ⟨_,g1,g2⟩ |⟨_,g1,g2,g3,g4⟩
  ·have gc:(As fs i2 A).code≠0:=by rcases g1 with e |e;(·omega);exact e
   exact⟨X.along.eq Y.along hc gc,⟨fun h=>absurd h h2,fun h=>absurd h g2⟩⟩
  ·exfalso;rcases Nat.lt_trichotomy i i2 with hlt |hlt |hlt
   ·exact hc (Y.along i hlt)
   ·subst hlt;exact hc g1
   ·exact clash Y.along S2 g2 g3 (X.fit i2 hlt)
 ·rcases Y.how with ⟨_,g1,g2⟩ |⟨_,g1,g2,g3,g4⟩
  ·have gc:(As fs i2 A).code≠0:=by rcases g1 with e |e;(·omega);exact e
   exfalso;rcases Nat.lt_trichotomy i i2 with hlt |hlt |hlt
   ·exact clash X.along S h2 h3 (Y.fit i hlt)
   ·subst hlt;exact gc h1
   ·exact gc (X.along i2 hlt)
  ·rcases Nat.lt_trichotomy i i2 with hlt |hlt |hlt
   ·exact absurd (Y.fit i hlt) (fun hf=>clash X.along S h2 h3 hf)
   ·exact⟨hlt,⟨fun _=>g4,fun _=>h4⟩⟩
   ·exact absurd (X.fit i2 hlt) (fun hf=>clash Y.along S2 g2 g3 hf)
def Ba (fs:List F2) (h:Nat) (each:Bool):VmL:=⟨fs,List.replicate (2*h) 0,h,0,0,[1,1],[⟨0,0,1⟩],[],0,each⟩
def AG:AbS:=⟨[],[1,1],[⟨0,0,1⟩],[],0⟩
theorem Le (fs:List F2) {h:Nat}(h0:1≤h) (h1:h≤3000) (each:Bool):Sim (fun _ _=>False) fs (Ba fs h each) AG h 0 0 []:=by
 refine⟨rfl,rfl,rfl,rfl,⟨⟨h0,h1,by simp[Ba],.inl rfl,Nat.le_refl _,by omega⟩,rfl,rfl⟩,fun _ _ h=>h.elim,fun _ _ _ h=>h.elim,fun _ _ _ h=>h.elim,fun _ _ h=>h.elim,fun _ _ h=>h.elim,⟨rfl,fun j hj=> ?_⟩,rfl,rfl,rfl,CB (fun x hx=>by rw[List.eq_of_mem_replicate hx];omega)⟩;have:j=0∨j=1:=by simp[Ba]at hj;omega
 rcases this with rfl |rfl <;> exact .inl ⟨rfl,rfl⟩
theorem Sim.vmOk {E:Nat→Nat→Prop}{L:VmL}{A:AbS}{h b n:Nat}{ps:List Nat}(S:Sim E fs L A h b n ps) (hf:A3 fs=true) (hok:okA fs A=true) (hc:A.code=0∨A.code=1) (c:Int) (hcc:c=A.code∨c=2):Go.Proofs.YtfmebaafpfkeiaaGreat.vmOk {L with code:=c}=true:=by
 have hw:=DW hok;have hr:=S.rightB (S.words hw);simp only[okA,Bool.and_eq_true,decide_eq_true_eq]at hok;obtain⟨⟨h1,h2⟩,h3,_⟩:=hok;have hco:BY fs A.ss.length A.cs c=true:=by
  rcases hcc with rfl |rfl
  ·exact h2
  ·simp only[BY,Bool.and_eq_true]at h2 ⊢;exact⟨h2.1,h2.2.1,rfl⟩
 have hcb:inB c 0 5=true:=by rw[Aw];omega
 unfold Go.Proofs.YtfmebaafpfkeiaaGreat.vmOk;dsimp only;rw[S.lf,hf,hr,S.ss.1,S.cs,hco,S.os,h3,hcb]
 simpa using h1
end
end Go.Proofs.YtfmebaafpfkeiaaGreat
end
section
namespace Go.Proofs.YtfmebaafpfkeiaaGreat
def pf0:List F2:=[⟨0,[⟨5,1,0⟩,⟨5,3,0⟩,⟨2,2,0⟩,⟨2,1,0⟩,⟨5,4,0⟩,⟨6,0,0⟩,⟨1,1,0⟩,⟨1,2,0⟩,⟨1,3,0⟩,⟨8,0,0⟩,⟨8,1,2⟩,⟨8,1,2⟩,⟨8,1,2⟩,⟨6,0,0⟩,⟨6,0,0⟩,⟨20,0,0⟩,⟨20,0,0⟩,⟨7,0,0⟩]⟩,⟨0,[⟨2,0,0⟩,⟨4,0,0⟩,⟨5,2,2⟩,⟨7,0,0⟩]⟩,⟨2,[⟨2,0,0⟩,⟨2,1,0⟩,⟨10,0,5⟩,⟨8,0,0⟩,⟨19,20,0⟩,⟨2,1,0⟩,⟨10,1,19⟩,⟨3,0,0⟩,⟨2,1,0⟩,⟨9,0,0⟩,⟨6,0,0⟩,⟨3,1,0⟩,⟨3,0,0⟩,⟨6,0,0⟩,⟨2,1,0⟩,⟨9,1,0⟩,⟨6,0,0⟩,⟨8,1,2⟩,⟨19,20,0⟩,⟨21,0,0⟩,⟨20,0,0⟩,⟨7,0,0⟩]⟩,⟨0,[⟨2,0,0⟩,⟨2,1,0⟩,⟨10,0,5⟩,⟨1,0,0⟩,⟨19,16,0⟩,⟨2,1,0⟩,⟨10,1,15⟩,⟨2,1,0⟩,⟨9,0,0⟩,⟨4,0,0⟩,⟨2,1,0⟩,⟨9,1,0⟩,⟨6,0,0⟩,⟨12,0,0⟩,⟨19,16,0⟩,⟨21,0,0⟩,⟨20,0,0⟩,⟨7,0,0⟩]⟩,⟨0,[⟨2,0,0⟩,⟨2,0,0⟩,⟨14,0,0⟩,⟨7,0,0⟩]⟩]
def pd0:List (List Int):=[[1,2,3,4,5,6,5,6,7,8,9,8,7,6,5,4,3,2],[1,2,3,2],[1,2,3,2,3,2,3,2,3,4,4,3,4,5,4,5,5,4,3,2,3,2],[1,2,3,2,3,2,3,2,3,3,4,5,5,4,3,2,3,2],[1,2,3,2]]
def pe0:List Int:=[]
theorem tr0:BD pf0 pd0 pe0 600 AG=true:=by decide+kernel
theorem fo0:A3 pf0=true:=by decide+kernel
def pf1:List F2:=[⟨0,[⟨5,1,0⟩,⟨2,1,0⟩,⟨1,3,0⟩,⟨6,0,0⟩,⟨2,1,0⟩,⟨8,1,0⟩,⟨6,0,0⟩,⟨8,0,2⟩,⟨2,2,0⟩,⟨2,3,0⟩,⟨10,0,27⟩,⟨2,3,0⟩,⟨9,1,0⟩,⟨10,1,20⟩,⟨2,3,0⟩,⟨9,0,0⟩,⟨1,1,0⟩,⟨12,0,0⟩,⟨17,0,0⟩,⟨19,26,0⟩,⟨2,3,0⟩,⟨9,1,0⟩,⟨10,2,25⟩,⟨1,0,0⟩,⟨19,26,0⟩,⟨21,0,0⟩,⟨19,28,0⟩,⟨21,0,0⟩,⟨20,0,0⟩,⟨20,0,0⟩,⟨20,0,0⟩,⟨7,0,0⟩]⟩,⟨0,[⟨2,0,0⟩,⟨7,0,0⟩]⟩]
def pd1:List (List Int):=[[1,2,3,4,3,4,5,4,3,4,5,4,5,5,4,5,5,6,5,5,4,5,5,4,5,4,5,4,5,4,3,2],[1,2]]
def pe1:List Int:=[4]
theorem tr1:BD pf1 pd1 pe1 600 AG=true:=by decide+kernel
theorem fo1:A3 pf1=true:=by decide+kernel
def pf2:List F2:=[⟨0,[⟨5,1,0⟩,⟨2,1,0⟩,⟨1,5,0⟩,⟨6,0,0⟩,⟨17,0,0⟩,⟨2,1,0⟩,⟨1,20,0⟩,⟨6,0,0⟩,⟨20,0,0⟩,⟨20,0,0⟩,⟨7,0,0⟩]⟩,⟨0,[⟨2,0,0⟩,⟨18,10,0⟩,⟨2,0,0⟩,⟨4,0,0⟩,⟨2,0,0⟩,⟨1,1,0⟩,⟨13,0,0⟩,⟨6,0,0⟩,⟨14,0,0⟩,⟨19,11,0⟩,⟨1,1,0⟩,⟨7,0,0⟩]⟩]
def pd2:List (List Int):=[[1,2,3,4,3,3,4,5,4,3,2],[1,2,1,2,3,4,5,4,3,2,1,2]]
def pe2:List Int:=[120]
theorem tr2:BD pf2 pd2 pe2 600 AG=true:=by decide+kernel
theorem fo2:A3 pf2=true:=by decide+kernel
def pf3:List F2:=[⟨0,[⟨5,1,0⟩,⟨5,3,0⟩,⟨2,2,0⟩,⟨2,1,0⟩,⟨1,3,0⟩,⟨6,0,0⟩,⟨2,1,0⟩,⟨1,9,0⟩,⟨6,0,0⟩,⟨2,1,0⟩,⟨1,1,0⟩,⟨6,0,0⟩,⟨2,1,0⟩,⟨1,5,0⟩,⟨6,0,0⟩,⟨8,0,0⟩,⟨6,0,0⟩,⟨6,0,0⟩,⟨6,0,0⟩,⟨6,0,0⟩,⟨6,0,0⟩,⟨20,0,0⟩,⟨20,0,0⟩,⟨7,0,0⟩]⟩,⟨0,[⟨2,0,0⟩,⟨4,0,0⟩,⟨5,2,2⟩,⟨7,0,0⟩]⟩,⟨2,[⟨2,0,0⟩,⟨2,1,0⟩,⟨10,0,8⟩,⟨8,0,0⟩,⟨3,0,0⟩,⟨8,0,0⟩,⟨8,1,3⟩,⟨19,40,0⟩,⟨2,1,0⟩,⟨10,1,39⟩,⟨3,0,0⟩,⟨2,1,0⟩,⟨9,1,0⟩,⟨15,0,0⟩,⟨18,27,0⟩,⟨3,1,0⟩,⟨3,0,0⟩,⟨6,0,0⟩,⟨2,1,0⟩,⟨9,0,0⟩,⟨6,0,0⟩,⟨2,1,0⟩,⟨9,1,0⟩,⟨2,1,0⟩,⟨9,2,0⟩,⟨8,1,3⟩,⟨19,38,0⟩,⟨2,1,0⟩,⟨9,0,0⟩,⟨2,1,0⟩,⟨9,1,0⟩,⟨3,1,0⟩,⟨3,0,0⟩,⟨6,0,0⟩,⟨2,1,0⟩,⟨9,2,0⟩,⟨6,0,0⟩,⟨8,1,3⟩,⟨19,40,0⟩,⟨21,0,0⟩,⟨20,0,0⟩,⟨7,0,0⟩]⟩,⟨0,[⟨2,0,0⟩,⟨2,1,0⟩,⟨10,0,5⟩,⟨1,0,0⟩,⟨19,26,0⟩,⟨2,1,0⟩,⟨10,1,25⟩,⟨4,0,0⟩,⟨2,1,0⟩,⟨9,0,0⟩,⟨6,0,0⟩,⟨2,1,0⟩,⟨9,1,0⟩,⟨17,0,0⟩,⟨2,2,0⟩,⟨4,0,0⟩,⟨2,1,0⟩,⟨9,2,0⟩,⟨6,0,0⟩,⟨12,0,0⟩,⟨1,1,0⟩,⟨12,0,0⟩,⟨20,0,0⟩,⟨20,0,0⟩,⟨19,26,0⟩,⟨21,0,0⟩,⟨20,0,0⟩,⟨7,0,0⟩]⟩]
def pd3:List (List Int):=[[1,2,3,4,5,6,5,6,7,6,7,8,7,8,9,8,9,8,7,6,5,4,3,2],[1,2,3,2],[1,2,3,2,3,4,5,3,2,3,2,3,4,4,3,2,3,4,3,4,4,3,4,4,5,5,3,2,3,3,4,4,5,6,5,6,6,5,3,2,3,2],[1,2,3,2,3,2,3,2,3,4,4,3,4,4,4,5,6,7,7,6,5,6,5,4,3,2,3,2]]
def pe3:List Int:=[1,3,5,9]
theorem tr3:BD pf3 pd3 pe3 600 AG=true:=by decide+kernel
theorem fo3:A3 pf3=true:=by decide+kernel
def pf4:List F2:=[⟨0,[⟨5,1,0⟩,⟨2,1,0⟩,⟨1,2,0⟩,⟨6,0,0⟩,⟨8,0,0⟩,⟨1,2,0⟩,⟨8,1,1⟩,⟨8,2,0⟩,⟨8,3,2⟩,⟨8,3,2⟩,⟨6,0,0⟩,⟨2,2,0⟩,⟨10,0,15⟩,⟨1,0,0⟩,⟨19,26,0⟩,⟨2,2,0⟩,⟨10,1,25⟩,⟨2,2,0⟩,⟨9,0,0⟩,⟨11,2,22⟩,⟨1,22,0⟩,⟨19,24,0⟩,⟨2,2,0⟩,⟨9,0,0⟩,⟨19,26,0⟩,⟨21,0,0⟩,⟨20,0,0⟩,⟨20,0,0⟩,⟨7,0,0⟩]⟩,⟨0,[⟨2,0,0⟩,⟨4,0,0⟩,⟨5,2,2⟩,⟨7,0,0⟩]⟩,⟨2,[⟨2,0,0⟩,⟨2,1,0⟩,⟨10,2,5⟩,⟨8,0,0⟩,⟨19,41,0⟩,⟨2,1,0⟩,⟨10,3,40⟩,⟨2,1,0⟩,⟨9,0,0⟩,⟨10,1,28⟩,⟨2,1,0⟩,⟨9,0,0⟩,⟨9,0,0⟩,⟨3,0,0⟩,⟨16,0,0⟩,⟨18,21,0⟩,⟨2,1,0⟩,⟨9,0,0⟩,⟨9,0,0⟩,⟨8,1,1⟩,⟨19,27,0⟩,⟨3,1,0⟩,⟨3,0,0⟩,⟨6,0,0⟩,⟨2,1,0⟩,⟨9,1,0⟩,⟨6,0,0⟩,⟨19,39,0⟩,⟨2,1,0⟩,⟨9,0,0⟩,⟨10,0,38⟩,⟨3,1,0⟩,⟨3,0,0⟩,⟨6,0,0⟩,⟨2,1,0⟩,⟨9,1,0⟩,⟨6,0,0⟩,⟨19,39,0⟩,⟨21,0,0⟩,⟨19,41,0⟩,⟨21,0,0⟩,⟨20,0,0⟩,⟨7,0,0⟩]⟩]
def pd4:List (List Int):=[[1,2,3,4,3,4,5,5,6,5,4,3,4,3,4,3,4,3,4,4,3,4,3,4,4,3,4,3,2],[1,2,3,2],[1,2,3,2,3,2,3,2,3,3,2,3,3,3,4,3,2,3,3,3,3,2,3,4,3,4,4,3,2,3,3,2,3,4,3,4,4,3,2,3,2,3,2]]
def pe4:List Int:=[]
theorem tr4:BD pf4 pd4 pe4 600 AG=true:=by decide+kernel
theorem fo4:A3 pf4=true:=by decide+kernel
def pf5:List F2:=[⟨0,[⟨5,1,0⟩,⟨2,1,0⟩,⟨1,60,0⟩,⟨6,0,0⟩,⟨20,0,0⟩,⟨7,0,0⟩]⟩,⟨0,[⟨2,0,0⟩,⟨18,8,0⟩,⟨4,0,0⟩,⟨2,0,0⟩,⟨1,1,0⟩,⟨13,0,0⟩,⟨6,0,0⟩,⟨19,9,0⟩,⟨1,7,0⟩,⟨7,0,0⟩]⟩]
def pd5:List (List Int):=[[1,2,3,4,3,2],[1,2,1,2,3,4,3,2,1,2]]
def pe5:List Int:=[]
theorem tr5:BD pf5 pd5 pe5 600 AG=true:=by decide+kernel
theorem fo5:A3 pf5=true:=by decide+kernel
def pf6:List F2:=[⟨0,[⟨5,1,0⟩,⟨8,0,0⟩,⟨8,1,1⟩,⟨8,1,1⟩,⟨5,3,0⟩,⟨2,3,0⟩,⟨2,1,0⟩,⟨2,2,0⟩,⟨6,0,0⟩,⟨6,0,0⟩,⟨2,1,0⟩,⟨2,2,0⟩,⟨6,0,0⟩,⟨6,0,0⟩,⟨8,0,0⟩,⟨8,1,1⟩,⟨6,0,0⟩,⟨20,0,0⟩,⟨20,0,0⟩,⟨20,0,0⟩,⟨7,0,0⟩]⟩,⟨0,[⟨2,0,0⟩,⟨4,0,0⟩,⟨5,2,2⟩,⟨7,0,0⟩]⟩,⟨2,[⟨3,0,0⟩,⟨2,1,0⟩,⟨10,0,5⟩,⟨2,0,0⟩,⟨19,16,0⟩,⟨2,1,0⟩,⟨10,1,15⟩,⟨3,1,0⟩,⟨2,1,0⟩,⟨9,0,0⟩,⟨6,0,0⟩,⟨2,0,0⟩,⟨6,0,0⟩,⟨8,1,1⟩,⟨19,16,0⟩,⟨21,0,0⟩,⟨20,0,0⟩,⟨7,0,0⟩]⟩,⟨0,[⟨2,0,0⟩,⟨5,4,1⟩,⟨7,0,0⟩]⟩,⟨1,[⟨3,0,0⟩,⟨2,0,0⟩,⟨5,5,2⟩,⟨7,0,0⟩]⟩,⟨2,[⟨3,0,0⟩,⟨3,1,0⟩,⟨2,0,0⟩,⟨6,0,0⟩,⟨6,0,0⟩,⟨7,0,0⟩]⟩]
def pd6:List (List Int):=[[1,2,3,3,3,4,5,6,7,6,5,6,7,6,5,6,6,5,4,3,2],[1,2,3,2],[1,2,3,2,3,2,3,2,3,4,4,3,4,3,3,2,3,2],[1,2,2],[1,2,3,2],[1,2,3,4,3,2]]
def pe6:List Int:=[]
theorem tr6:BD pf6 pd6 pe6 600 AG=true:=by decide+kernel
theorem fo6:A3 pf6=true:=by decide+kernel
end Go.Proofs.YtfmebaafpfkeiaaGreat
end
section
namespace Go.Proofs.YtfmebaafpfkeiaaGreat
open Go.RowKit
theorem RdO.news {B:Nat}{w w':World}{ad:Addr}{n cap:Nat}{cs:List O3}(h:RdO B w (.slice (some ad) n cap) cs) (hb:Below w.heap.size w w'):
  n=cs.length∧ ∀j u,(flat O3.enc cs)[j]?=some u→w'.cell? (ad.add j)=some u:=by
 rcases h with ⟨rfl,a,c,hv⟩ |⟨b,off,c,hv,h2,h3,h4,h5⟩
 ·injection hv with h1 h2 h3
  exact⟨by simpa using h2,fun j u hj=>by simp[flat]at hj⟩
 ·injection hv with e1 e2 e3
  have e1:=Option.some.inj e1;subst e1;refine⟨e2,fun j u hj=> ?_⟩;have hlen:(flat O3.enc cs).length=cs.length*3:=CJ O3.enc_len cs;have hjl:j < cs.length*3:=by rw[←hlen];exact(List.getElem?_eq_some_iff.1 hj).1
  have hk:j/3 < cs.length:=by omega
  have e:=Hy O3.enc_len cs (j/3) _ (List.getElem?_eq_getElem hk) (j%3) (by omega);have hc:=h5 (j/3) _ (List.getElem?_eq_getElem hk) (j%3) (by omega);rw[show j/3*3+j%3=j by omega]at e;have hadd:(⟨b,off,none⟩:Addr).add j=⟨b,off+j,none⟩:=by unfold Addr.add;split <;> simp_all
  rw[hadd];rw[show off+j/3*3+j%3=off+j by omega]at hc;rw[←e,hj]at hc;exact(hb.cell (p:=⟨b,off+j,none⟩) h3).trans hc
theorem RdO.none_nil {B:Nat}{w:World}{n cap:Nat}{cs:List O3}(h:RdO B w (.slice none n cap) cs):cs=[]:=by
 rcases h with ⟨h,_⟩ |⟨b,off,c,hv,_⟩
 ·exact h
 ·injection hv with h1;cases h1
theorem Lv (cs:List O3):∀u∈flat O3.enc cs,u.oneCell'=true:=by
 intro u hu;unfold flat at hu;obtain⟨c,_,hc⟩:=List.mem_flatMap.1 hu;simp only[O3.enc,List.mem_cons,List.not_mem_nil,or_false]at hc;rcases hc with rfl |rfl |rfl <;> rfl
theorem Lw {B:Nat}(v:Value) (cs:List O3) (w:World) (hr:RdO B w v cs) (hn:cs.length≤4294967296):
  Calls Tryz.prog 148 #[v] w fun e w'=>∃v',e= .returned v'∧w'.ownsRow w.heap.size 63 3 v' cs.length (flat O3.enc cs)∧Below w.heap.size w w':=by
 obtain⟨a,cap,rfl⟩:=hr.form;have hrn:=fun(w:World) (n c:Nat) (x:Option Addr)=>Lib.run_eql_slice_nil (P:=Tryz.prog) w 30 63 x n c 0 0 Tryz.underlying30;obtain⟨i0,hi,hz0,hz1,hz2⟩:=info_parts Tryz.infoCall;have hfl:(flat O3.enc cs).length=cs.length*3:=CJ O3.enc_len cs;cases a with
 |none=>
  have hz:cs=[]:=hr.none_nil;subst hz;clear hr;go_enter Tryz.func148,Tryz.ntmps148;go_wp2;go_ret;exact⟨_,rfl,World.ownsRow_nil _ _ _ _,Below.refl _ _⟩
 |some ad=>
  have hnew:=(RdO.news hr ((Below.refl w.heap.size w).alloc (Nat.le_refl _) (.cells #[] 63))).2;have HN:=Lib.hid hnew;clear hr hnew;go_enter Tryz.func148,Tryz.ntmps148;go_wp2_with (at_builtin;refine wpList_append_own _ rfl _ _ 30 rfl w.heap.size 63 i0 (.agg #[.int .i64 0,.int .i64 0,.int .i64 0]) 3 24 Tryz.underlying30 hi hz0 hz1 hz2 rfl (by decide) _ 0 [] rfl ?_ ad cs.length cap (flat O3.enc cs) rfl hfl HN.out (Lv _) ?_ ?_ ?_ ?_)
  ·exact EO rfl (Nat.le_refl _)
  ·unfold maxLen;omega
  ·omega
  ·simp
  ·intro v' w1 ho hg _;have hb:Below w.heap.size w w1:=((Below.refl _ _).alloc (Nat.le_refl _) _).grown hg (by simp) (by intro k hk;simp[Value.ownBlock]at hk;omega);clear hg;go_wp2;go_ret;exact⟨_,rfl,by simpa using ho,hb⟩
theorem Qk {B:Nat}(v:Value) (cs:List O3) (w:World) (hr:RdO B w v cs) (hn:cs.length≤4294967296):
  Calls Tryz.prog 230 #[v] w fun e w'=>∃v',e= .returned v'∧w'.ownsRow w.heap.size 65 3 v' cs.length (flat O3.enc cs)∧Below w.heap.size w w':=by
 obtain⟨a,cap,rfl⟩:=hr.form;have hrn:=fun(w:World) (n c:Nat) (x:Option Addr)=>Lib.run_eql_slice_nil (P:=Tryz.prog) w 66 65 x n c 0 0 Tryz.underlying66;obtain⟨i0,hi,hz0,hz1,hz2⟩:=info_parts Tryz.infoOp2;have hfl:(flat O3.enc cs).length=cs.length*3:=CJ O3.enc_len cs;cases a with
 |none=>
  have hz:cs=[]:=hr.none_nil;subst hz;clear hr;go_enter Tryz.func230,Tryz.ntmps230;go_wp2;go_ret;exact⟨_,rfl,World.ownsRow_nil _ _ _ _,Below.refl _ _⟩
 |some ad=>
  have hnew:=(RdO.news hr ((Below.refl w.heap.size w).alloc (Nat.le_refl _) (.cells #[] 65))).2;have HN:=Lib.hid hnew;clear hr hnew;go_enter Tryz.func230,Tryz.ntmps230;go_wp2_with (at_builtin;refine wpList_append_own _ rfl _ _ 66 rfl w.heap.size 65 i0 (.agg #[.int .i64 0,.int .i64 0,.int .i64 0]) 3 24 Tryz.underlying66 hi hz0 hz1 hz2 rfl (by decide) _ 0 [] rfl ?_ ad cs.length cap (flat O3.enc cs) rfl hfl HN.out (Lv _) ?_ ?_ ?_ ?_)
  ·exact EO rfl (Nat.le_refl _)
  ·unfold maxLen;omega
  ·omega
  ·simp
  ·intro v' w1 ho hg _;have hb:Below w.heap.size w w1:=((Below.refl _ _).alloc (Nat.le_refl _) _).grown hg (by simp) (by intro k hk;simp[Value.ownBlock]at hk;omega);clear hg;go_wp2;go_ret;exact⟨_,rfl,by simpa using ho,hb⟩
structure OwnV (base:Nat) (w:World) (fv hv sv cv ov:Value) (L:VmL):Prop where
 f:OwnF base w fv L.fs
 z:w.ownsRow base 3 1 hv L.zs.length (L.zs.map (Value.int .i64))
 s:w.ownsRow base 3 1 sv L.ss.length (L.ss.map (Value.int .i64))
 c:w.ownsRow base 63 3 cv L.cs.length (flat O3.enc L.cs)
 o:w.ownsRow base 3 1 ov L.os.length (L.os.map (Value.int .i64))
theorem RdV.forms {B:Nat}{w:World}{fv hv sv cv ov:Value}{L:VmL}(h:RdV B w fv hv sv cv ov L):∃fa fc ha hc sa sc ca cc oa oc,fv= .slice fa L.fs.length fc∧hv= .slice ha L.zs.length hc∧sv= .slice sa L.ss.length sc∧cv= .slice ca L.cs.length cc∧ov= .slice oa L.os.length oc:=by
 obtain⟨fa,fc,e1⟩:=h.f.form;obtain⟨ha,hc,e2⟩:=h.z.form;obtain⟨sa,sc,e3⟩:=h.s.form;obtain⟨ca,cc,e4⟩:=h.c.form;obtain⟨oa,oc,e5⟩:=h.o.form;exact⟨fa,fc,ha,hc,sa,sc,ca,cc,oa,oc,e1,e2,e3,e4,e5⟩
theorem RdV.of_own {base:Nat}{w:World}{fv hv sv cv ov:Value}{L:VmL}(h:OwnV base w fv hv sv cv ov L):RdV w.heap.size w fv hv sv cv ov L:=
 ⟨RdF.of_own h.f,Rd.of_own h.z,Rd.of_own h.s,RdE.of_own O3.enc_len h.c,Rd.of_own h.o⟩
theorem OwnV.below {base:Nat}{w w':World}{fv hv sv cv ov:Value}{L:VmL}(h:OwnV base w fv hv sv cv ov L) (hb:Below w.heap.size w w'):OwnV base w' fv hv sv cv ov L:=
 ⟨h.f.below hb,Al h.z hb (Af h.z),Al h.s hb (Af h.s),Al h.c hb (Af h.c),Al h.o hb (Af h.o)⟩
theorem OwnF.setCell {base:Nat}{w:World}{v:Value}{fs:List F2}(h:OwnF base w v fs) {a:Addr}(ha:a.block < base) (u:Value):OwnF base (w.setCell a u) v fs:=by
 obtain⟨fl,h1,h2,h3,h4⟩:=h;exact⟨fl,ownsRow_setCell_below h1 ha u,h2,fun j a b=>⟨(h3 j a b).1,ownsRow_setCell_below (h3 j a b).2 ha u⟩,h4⟩
structure Tv (w:World) (g:Nat) (A Z C:Array Value):Prop where
 k1:Bx w g A
 k2:Bx w (g+1) Z
 k3:Bx w (g+2) C
theorem Tv.below {w w':World}{g:Nat}{A Z C:Array Value}(t:Tv w g A Z C) (hb:Below w.heap.size w w'):Tv w' g A Z C:=⟨t.k1.below hb t.k1.1,t.k2.below hb t.k2.1,t.k3.below hb t.k3.1⟩
theorem Tv.set {w:World}{g:Nat}{A Z C:Array Value}(t:Tv w g A Z C) (i:Nat) (hi:i < C.size) (u:Value):Tv (w.setCell ⟨g+2,i,none⟩ u) g A Z (C.setIfInBounds i u):=
 ⟨t.k1.grown (grownBy.setCell w (g+2) i u) (fun h=>by have:=Option.some.inj h;omega),t.k2.grown (grownBy.setCell w (g+2) i u) (fun h=>by have:=Option.some.inj h;omega),t.k3.put i hi u⟩
theorem Rd.grow {B:Nat}{k:IntKind}{w W:World}{row:Option Nat}{v:Value}{zs:List Int}(h:Rd B k w v zs) (hg:w.grownBy W row) (hne:∀i,v.ownBlock=some i→some i≠row):Rd W.heap.size k W v zs:=by
 rcases h with h |⟨b,off,cap,rfl,h2,h3,h4,h5⟩
 ·exact .inl h
 ·have hl:=Nat.lt_of_lt_of_le h3 hg.size;exact .inr ⟨b,off,cap,rfl,hl,hl,h4,fun j hj=>(World.cell?_of_block (hg.block b h3 (hne b rfl))).trans (h5 j hj)⟩
abbrev slv (g n cap:Nat):Value:= .slice (some ⟨g,0,none⟩) n cap
theorem BU {base:Nat}{e:TypeId}{sz n:Nat}{w:World}{v:Value}{xs:List Value}(h:w.ownsRow base e sz v n xs) (hn:0 < n):∃g cap,v=slv g n cap∧base≤g∧g < w.heap.size:=by
 rcases h.2 with ⟨_,h0⟩ |⟨g,cap,cur,rfl,hb,_⟩
 ·omega
 ·exact⟨g,cap,rfl,(h.lt g rfl).1,(h.lt g rfl).2⟩
structure RunV (base:Nat) (w:World) (g gs gc:Nat) (fv hv ov:Value) (p q:Nat) (L:VmL):Prop where
 bx:Bx w g #[fv,hv,.int .i64 L.h,.int .i64 L.b,.int .i64 L.n,slv gs L.ss.length p,slv gc L.cs.length q,ov,.int .i64 L.code,.bool L.each]
 hb:base≤w.heap.size
 hg:base≤g
 f:RdF base w fv L.fs
 z:Rd w.heap.size .i64 w hv L.zs
 s:w.ownsRow base 3 1 (slv gs L.ss.length p) L.ss.length (L.ss.map (Value.int .i64))
 c:w.ownsRow base 63 3 (slv gc L.cs.length q) L.cs.length (flat O3.enc L.cs)
 o:w.ownsRow base 3 1 ov L.os.length (L.os.map (Value.int .i64))
 n1:g≠gs
 n2:g≠gc
 n3:gs≠gc
 oa:∀k,ov.ownBlock=some k→k≠g∧k≠gs∧k≠gc
 za:∀k,hv.ownBlock=some k→k≠g∧k≠gs∧k≠gc∧ov.ownBlock≠some k
theorem RunV.below {base:Nat}{w w':World}{g gs gc:Nat}{fv hv ov:Value}{p q:Nat}{L:VmL}(h:RunV base w g gs gc fv hv ov p q L) (hb:Below w.heap.size w w'):RunV base w' g gs gc fv hv ov p q L:=
 ⟨h.bx.below hb h.bx.1,Nat.le_trans h.hb hb.size,h.hg,h.f.below hb h.hb,(h.z.below' hb).mono hb.size,Al h.s hb (Af h.s),Al h.c hb (Af h.c),Al h.o hb (Af h.o),h.n1,h.n2,h.n3,h.oa,h.za⟩
theorem RunV.lts {base:Nat}{w:World}{g gs gc:Nat}{fv hv ov:Value}{p q:Nat}{L:VmL}(h:RunV base w g gs gc fv hv ov p q L):(base≤gs∧gs < w.heap.size)∧(base≤gc∧gc < w.heap.size):=⟨h.s.lt gs rfl,h.c.lt gc rfl⟩
theorem RunV.zlt {base:Nat}{w:World}{g gs gc:Nat}{fv hv ov:Value}{p q:Nat}{L:VmL}(h:RunV base w g gs gc fv hv ov p q L) (hz:L.zs≠ []):∀k,hv.ownBlock=some k→k < w.heap.size:=by
 rcases h.z with ⟨h0,_⟩ |⟨b,off,cap,rfl,_,h3,_⟩
 ·exact absurd h0 hz
 ·intro k hk;cases hk;exact h3
theorem RunV.off {base:Nat}{w:World}{g gs gc:Nat}{fv hv ov:Value}{p q:Nat}{L:VmL}(h:RunV base w g gs gc fv hv ov p q L) {i:Nat}(hi:∀k,ov.ownBlock=some k→k≠i):ov.ownBlock=none∨ov.ownBlock≠some i:=by
 rcases hv:ov.ownBlock with _ |k
 ·exact .inl rfl
 ·exact .inr (fun e=>hi k hv (Option.some.inj e))
theorem RunV.stack {base:Nat}{w w1:World}{g gs gc:Nat}{fv hv ov:Value}{p q:Nat}{L:VmL}(h:RunV base w g gs gc fv hv ov p q L) (hz:L.zs≠ []) {v':Value}{ss:List Int}
  (hg:w.grownBy w1 (some gs)) (ho:w1.ownsRow base 3 1 v' ss.length (ss.map (Value.int .i64))) (hn:0 < ss.length) (hat:∀k,v'.ownBlock=some k→k=gs∨w.heap.size≤k):
  ∃gs' p',v'=slv gs' ss.length p'∧RunV base (w1.setCell ⟨g,5,none⟩ v') g gs' gc fv hv ov p' q {L with ss:=ss}∧Below base w (w1.setCell ⟨g,5,none⟩ v'):=by
 obtain⟨gs',p',rfl,hb1,hl1⟩:=BU ho hn;obtain⟨⟨l1,l2⟩,l3,l4⟩:=h.lts;have hgl:=h.bx.1;have n1:=h.n1;have n2:=h.n2;have n3:=h.n3;have hx:=hat gs' rfl;have hng:g≠gs':=by rcases hx with e |e <;> omega
 have hnc:gs'≠gc:=by rcases hx with e |e <;> omega
 have hw:w.heap.size≤w1.heap.size:=hg.size;have hbw:=h.hb;have k1:=h.bx.grown hg (fun e=>n1 (Option.some.inj e));have k2:=k1.set 5 (by simp) (slv gs' ss.length p');have b1:Below base w w1:=Below.of_grown hg h.hb (fun k e=>by cases e;exact l1);have b2:=b1.setCell (p:=⟨g,5,none⟩) h.hg (slv gs' ss.length p');have g2:=grownBy.setCell w1 g 5 (slv gs' ss.length p');refine⟨gs',p',rfl,⟨k2,by simp;omega,h.hg,h.f.below b2 (Nat.le_refl _),?_,?_,?_,?_,hng,n2,hnc,?_,?_⟩,b2⟩
 ·exact(h.z.grow hg (fun i hi e=>(h.za i hi).2.1 (Option.some.inj e))).grow g2 (fun i hi e=>(h.za i hi).1 (Option.some.inj e))
 ·exact ownsRow_setCell_other ho (fun e=>hng (Option.some.inj e).symm) _
 ·exact ownsRow_setCell_other (h.c.kept hg (.inr (fun e=>n3 (Option.some.inj e).symm))) (fun e=>n2 (Option.some.inj e).symm) _
 ·have hk:=h.o.kept hg (h.off (fun k hk=>(h.oa k hk).2.1));exact ownsRow_setCell_other hk (fun e=>(h.oa g e).1 rfl) _
 ·intro k hk;have:=h.oa k hk;have:=(h.o.lt k hk).2;rcases hx with e |e <;> refine⟨by omega,by omega,by omega⟩
 ·intro k hk;have:=h.za k hk;have:=h.zlt hz k hk;rcases hx with e |e <;> refine⟨by omega,by omega,by omega,by simp_all⟩
end Go.Proofs.YtfmebaafpfkeiaaGreat
end
section
namespace Go.Proofs.YtfmebaafpfkeiaaGreat
open Go
section
variable {P:Program}{ops:Array Oper}{Q:Exit→Act→World→Prop}{md:Region.Mode}{S:World→Prop}{n:Nat}
def Cd (P:Program) (md:Region.Mode) (ops:Array Oper) (Q:Exit→Act→World→Prop) (S:World→Prop) (n:Nat):Nat→Array Bool→Act→World→Prop
 |0,listed,a,w=>Region.seqB md ops (ops.size - n) n listed=true∧wpList P ops Q (ops.toList.drop n) a w
 |f+1,listed,a,w=>Region.ready md ops listed≠ []∧ ∀i∈Region.ready md ops listed,i < n∧wpOp P ops Q i (fun a' w'=>S w'∧Cd P md ops Q S n f (listed.setIfInBounds i true) a' w') a w
theorem M8:∀ (f:Nat) (listed:Array Bool) (a:Act) (w:World),Cd P md ops Q S n f listed a w→wpAny P md ops Q (f+ (ops.size - n)) listed a w
 |0,listed,a,w,h=>by
  have:=wpAny_of_seq (md:=md) (ops:=ops) (Q':=Q) (ops.toList.drop n) n listed a w (fun j=>by simp[List.getElem?_drop]) (by simpa using h.1) h.2
  simpa using this
 |f+1,listed,a,w,h=>by
  rw[show f+1+ (ops.size - n)= (f+ (ops.size - n))+1 by omega];exact⟨fun h0=>absurd h0 h.1,fun i hi=>wpOp_mono (fun a' w' h'=>M8 f _ a' w' h'.2) (h.2 i hi).2⟩
theorem Vd {i:Nat}{oi:Oper}{v:Value}(hi:ops[i]?=some oi) (hsel:∀ (j:Nat) (o:Oper) cs b,ops[j]?=some o→o.op≠ .select cs b)
  (hQ:∀c a w,Q (.panic c) (a.put oi.dst v) w→Q (.panic c) a w)
  (hs:Region.sinkB md ops n=true) (hc:Region.chainB md ops n=true) (hn:n < ops.size) (hin:i < n):
  ∀ (f:Nat) (listed:Array Bool) (a:Act) (w:World),HeadInv md ops n listed→
   (∀j oj,ops[j]?=some oj→j≠i→listed.getD j true=false→(∀e∈oj.after,Region.binds md e=true→e.on≠i)→oi.apart ops oj=true)→
   i∈Region.ready md ops listed→YieldsIf P ops S oi v a→S w→
   Cd P md ops Q S n f (listed.setIfInBounds i true) (a.put oi.dst v) w→Cd P md ops Q S n (f+1) listed a w:=by
 intro f;induction f with
 |zero=>
  intro listed a w inv _ hr hy hS H;have hun:=(mem_ready.1 hr).1;refine⟨fun h=>(by rw[h]at hr;cases hr),fun j hj=> ?_⟩;have hjn:j < n:=by
   rcases Nat.lt_or_ge j n with h |h
   ·exact h
   ·exact absurd hj (tail_waits hs hc hn inv _ i rfl hin hun j h)
  refine⟨hjn,?_⟩;by_cases hji:j=i
  ·subst hji;exact hy.wpOp hi hS ⟨hS,H⟩
  ·have:=seqB_ready H.1 j (ready_mono hj hji);omega
 |succ f ih=>
  intro listed a w inv hfree hr hy hS H;have hun:=(mem_ready.1 hr).1;refine⟨fun h=>(by rw[h]at hr;cases hr),fun j hj=> ?_⟩;have hjn:j < n:=by
   rcases Nat.lt_or_ge j n with h |h
   ·exact h
   ·exact absurd hj (tail_waits hs hc hn inv _ i rfl hin hun j h)
  refine⟨hjn,?_⟩;by_cases hji:j=i
  ·subst hji;exact hy.wpOp hi hS ⟨hS,H⟩
  ·have h1:=(H.2 j (ready_mono hj hji)).2;obtain⟨hjun,oj,hoj,hall⟩:=mem_ready.1 hj;have hnot:∀e∈oj.after,Region.binds md e=true→e.on≠i:=fun e he hb heq=>by
    have h1:=hall e he hb;rw[heq,getD_both hun]at h1;cases h1
   have h2:=wpOp_putIf hoj (hfree j oj hoj hji hjun hnot) (fun cs b=>hsel i oi cs b hi) (fun cs b=>hsel j oj cs b hoj) hQ hy h1;have hfree':∀k ok,ops[k]?=some ok→k≠i→(listed.setIfInBounds j true).getD k true=false→
     (∀e∈ok.after,Region.binds md e=true→e.on≠i)→oi.apart ops ok=true:=fun k ok hk hki hun hno=>by
    refine hfree k ok hk hki ?_ hno;by_cases hjk:j=k
    ·subst hjk;exact hjun
    ·rw[getD_set_ne true hjk]at hun;exact hun
   refine wpOp_mono (fun a' w' h3=>⟨h3.2.1,ih (listed.setIfInBounds j true) a' w' (inv.set hj hjn) hfree' (ready_mono hr (Ne.symm hji)) h3.1 h3.2.1 ?_⟩) h2;rw[Array.setIfInBounds_comm _ _ hji];exact h3.2.2
def J1 (md:Region.Mode) (ops:Array Oper) (n:Nat) (listed:Array Bool):Bool:=
 decide (listed.size=ops.size)&& ((List.range ops.size).all (fun j=>!listed.getD j false || (match ops[j]? with |some o=>o.after.all fun e=>!Region.binds md e || listed.getD e.on false |none=>true))&&
  (List.range ops.size).all (fun t=>decide (t < n) || !listed.getD t true))
theorem Ve {listed:Array Bool}(h:J1 md ops n listed=true):HeadInv md ops n listed:=by
 simp only[J1,Bool.and_eq_true,decide_eq_true_eq,List.all_eq_true,List.mem_range,Bool.or_eq_true,Bool.not_eq_true']at h;obtain⟨h1,h2,h3⟩:=h;refine⟨h1,fun j oj hj hl e he hb=> ?_,fun t ht hts=> ?_⟩
 ·have hlt:j < ops.size:=(Array.getElem?_eq_some_iff.1 hj).1;rcases h2 j hlt with h |h
  ·rw[h]at hl;cases hl
  ·rw[hj]at h;simp only[Array.all_eq_true',Bool.or_eq_true,Bool.not_eq_true']at h;rcases h e he with h |h
   ·rw[h]at hb;cases hb
   ·exact h
 ·rcases h3 t hts with h |h
  ·omega
  ·exact h
def J2 (md:Region.Mode) (ops:Array Oper) (n:Nat) (i:Nat) (listed:Array Bool):Bool:=
 Region.noSelect ops&& (Region.sinkB md ops n&& (Region.chainB md ops n&& (decide (n < ops.size)&& (decide (i < n)&& J1 md ops n listed))))
theorem Vf {i:Nat}{oi:Oper}{v:Value}{fuel:Nat}{listed:Array Bool}{a:Act}{w:World}(hi:ops[i]?=some oi)
  (hs:J2 md ops n i listed=true) (hf:Region.free md ops listed i=true) (hr:(Region.ready md ops listed).contains i=true)
  (hQ:∀c a w,Q (.panic c) (a.put oi.dst v) w→Q (.panic c) a w) (hy:YieldsIf P ops S oi v a) (hS:S w)
  (h:Cd P md ops Q S n fuel (listed.setIfInBounds i true) (a.put oi.dst v) w):Cd P md ops Q S n (fuel+1) listed a w:=by
 simp only[J2,Bool.and_eq_true,decide_eq_true_eq]at hs;obtain⟨h1,h2,h3,h4,h5,h6⟩:=hs;exact Vd hi (Region.noSelect_spec h1) hQ h2 h3 h4 h5 fuel listed a w (Ve h6) (Region.free_spec hi hf) (by simpa using hr) hy hS h
def AllReadyT (P:Program) (md:Region.Mode) (ops:Array Oper) (Q:Exit→Act→World→Prop) (S:World→Prop) (n:Nat) (fuel:Nat) (listed:Array Bool) (a:Act) (w:World) (rs:List Nat):Prop:=
 ∀i∈rs,wpOp P ops Q i (fun a' w'=>S w'∧Cd P md ops Q S n fuel (listed.setIfInBounds i true) a' w') a w
theorem AllReadyT.nil {fuel:Nat}{listed:Array Bool}{a:Act}{w:World}:AllReadyT P md ops Q S n fuel listed a w []:=fun _ h=>by cases h
theorem AllReadyT.cons {fuel:Nat}{listed:Array Bool}{a:Act}{w:World}{i:Nat}{o:Oper}{rs:List Nat}(ho:ops[i]?=some o)
  (h:∀K':Act→World→Prop,Shut (∀a w,S w→(S w→Cd P md ops Q S n fuel (listed.setIfInBounds i true) a w)→K' a w)→if Region.wanted o (yielded ops a.tmps)=true then Oper.wp P o a w K' Q else K' (a.put o.dst undef) w)
  (hs:AllReadyT P md ops Q S n fuel listed a w rs):AllReadyT P md ops Q S n fuel listed a w (i::rs):=fun j hj=>by
 rcases List.mem_cons.1 hj with rfl |hj
 ·exact wpOp_step ho (fun K' hK=>h K' (fun a w hS hW=>hK a w ⟨hS,hW hS⟩))
 ·exact hs j hj
theorem It {rs:List Nat}{fuel:Nat}{listed:Array Bool}{a:Act}{w:World}(hr:Region.ready md ops listed=rs) (hne:(rs≠ [])∧ ∀i∈rs,i < n)
  (h:AllReadyT P md ops Q S n fuel listed a w rs):Cd P md ops Q S n (fuel+1) listed a w:=⟨hr▸hne.1,fun i hi=>⟨hne.2 i (hr▸hi),h i (hr▸hi)⟩⟩
theorem AU {listed:Array Bool}{a:Act}{w:World}(hr:Region.seqB md ops (ops.size - n) n listed=true) (h:wpList P ops Q (ops.toList.drop n) a w):Cd P md ops Q S n 0 listed a w:=⟨hr,h⟩
theorem AV (n:Nat) {id:Nat}{a:Act}{w:World}(hm:P.follows .mixedOrders=true) (hn:decide (n≤ops.size)=true) (hS:S w.drew)
  (h:S w.drew→Cd P .any ops Q S n n (Array.replicate ops.size false) a w.drew):(Code.region id ops true).wp P Q a w:=by
 have hn':n≤ops.size:=by simpa using hn
 refine wp_region_any hm ?_;have:=M8 _ _ _ _ (h hS);rw[show n+ (ops.size - n)=ops.size by omega]at this;exact this
end
section
variable {P:Program}{ops:Array Oper}{Q:Exit→Act→World→Prop}{md:Region.Mode}{S:World→Prop}{n:Nat}
theorem tkT {i:Nat}{oi:Oper}{v:Value}{fuel:Nat}{listed:Array Bool}{a a':Act}{w:World}(h:Cd P md ops Q S n fuel (listed.setIfInBounds i true) a' w) (hi:ops[i]?=some oi:=by (simp only[List.getElem?_toArray,List.getElem?_cons_succ,List.getElem?_cons_zero];rfl))
  (hs:J2 md ops n i listed=true:=by kernel_rfl) (hf:Region.free md ops listed i=true:=by kernel_rfl) (hr:(Region.ready md ops listed).contains i=true:=by kernel_rfl)
  (hQ:∀c a w,Q (.panic c) (a.put oi.dst v) w→Q (.panic c) a w:=by exact fun _ _ _ h=>h) (hy:YieldsIf P ops S oi v a:=by exact Or.inl ⟨by rfl,by (intro w hSw;(try dsimp only at hSw);go_simp;(try with_reducible rfl))⟩) (hS:S w:=by assumption)
  (ha:a.put oi.dst v=a':=by first | (simp only[Act.put,List.setIfInBounds_toArray,List.set_cons_zero,List.set_cons_succ];done) | (simp only[Act.put,List.setIfInBounds_toArray,List.set_cons_zero,List.set_cons_succ];rfl) |rfl):Cd P md ops Q S n (fuel+1) listed a w:=by
 subst ha;exact Vf hi hs hf hr hQ hy hS h
theorem bkT {fuel:Nat}{listed:Array Bool}{a a':Act}{w:World}{K:Act→World→Prop}(hK:Shut (∀a w,S w→(S w→Cd P md ops Q S n fuel listed a w)→K a w)) (hS:S w) (h:S w→Cd P md ops Q S n fuel listed a' w)
  (ha:a=a':=by first | (simp only[Act.put,List.setIfInBounds_toArray,List.set_cons_zero,List.set_cons_succ];done) | (simp only[Act.put,List.setIfInBounds_toArray,List.set_cons_zero,List.set_cons_succ];rfl) |rfl):K a w:=by
 subst ha;exact hK.out _ _ hS h
theorem rdT {i:Nat}{o:Oper}{fuel:Nat}{listed:Array Bool}{a:Act}{w:World}(h:∀K':Act→World→Prop,Shut (∀a w,S w→(S w→Cd P md ops Q S n fuel (listed.setIfInBounds i true) a w)→K' a w)→if Region.wanted o (yielded ops a.tmps)=true then Oper.wp P o a w K' Q else K' (a.put o.dst undef) w)
  (hr:Region.ready md ops listed=[i]:=by kernel_rfl) (hn:i < n:=by decide) (ho:ops[i]?=some o:=by (simp only[List.getElem?_toArray,List.getElem?_cons_succ,List.getElem?_cons_zero];rfl)):Cd P md ops Q S n (fuel+1) listed a w:=
 It hr (by simpa using hn) (AllReadyT.cons ho h AllReadyT.nil)
end
end Go.Proofs.YtfmebaafpfkeiaaGreat
end
section
namespace Go.Proofs.YtfmebaafpfkeiaaGreat
open Go.RowKit
theorem G5 {base:Nat}{e:TypeId}{sz:Nat}{w:World}{g n cap:Nat}{xs:List Value}(h:w.ownsRow base e sz (slv g n cap) n xs) {k:Nat}(hk:k≤n):w.ownsRow base e sz (slv g k cap) k (xs.take (k*sz)):=by
 obtain⟨h1,h2⟩:=h;have hm:k*sz≤n*sz:=Nat.mul_le_mul_right _ hk;refine⟨by rw[List.length_take];omega,?_⟩;rcases h2 with ⟨hh,_⟩ |⟨g',cap',cur,hv,hb,hg,hn,hc,hs,ht⟩
 ·cases hh
 ·cases hv
  refine .inr ⟨g,cap,cur,rfl,hb,hg,by omega,hc,hs,?_⟩;rw[←ht,List.take_take,Nat.min_eq_left hm]
theorem DU {base:Nat}{e:TypeId}{sz:Nat}{w:World}{g n cap:Nat}{xs:List Value}(h:w.ownsRow base e sz (slv g n cap) n xs):n≤cap:=by
 rcases h.2 with ⟨hh,_⟩ |⟨g',cap',cur,hv,hb,hg,hn,_⟩
 ·cases hh
 ·cases hv
  exact hn
theorem I4 {P:Program}{w:World}{o:Oper}{a:Act}{Q:Exit→Act→World→Prop}{K:Act→World→Prop}(s x:Operand) (t:TypeId)
  (ho:o.op= .call {callee:= .builtin .append,args:= #[s,x],argTypes:= #[t,t]})
  (base:Nat) (e:TypeId) (i:TypeInfo) (z:Value) (size bytes:Nat) (ht:P.underlying t=some (.slice e)) (hi:P.info? e=some i) (hz:i.zero=some z)
  (hsize:i.size=size) (hby:i.bytes=bytes) (hzs:z.cells.size=size) (hsz:0 < size)
  (v:Value) (n:Nat) (xs:List Value) (hs:a.eval s=v) (hown:w.ownsRow base e size v n xs) (us:Array Value) (hus:us.size=size) (h1:∀u∈us.toList,u.oneCell'=true)
  (H:Nat) (hx:a.eval x= .slice (some ⟨H,0,none⟩) 1 1) (hc:∀j,w.cell? ⟨H,j,none⟩=us[j]?)
  (h63:n+1≤maxLen) (hbytes:(n+1)*bytes≤140737488355328) (hbase:base≤w.heap.size)
  (h:∀v' w',w'.ownsRow base e size v' (n+1) (xs++us.toList)→w.grownBy w' v.ownBlock→(v'.ownBlock=v.ownBlock∨v'.ownBlock=some w.heap.size)→K (a.put o.dst v') w'):
  Oper.wp P o a w K Q:=by
 obtain⟨v',w',hrun,h2,h3,_,h5⟩:=run_append_own_at (P:=P) w base t o.type e i z size bytes ht hi hz hsize hby hzs hsz v n xs hown ⟨H,0,none⟩ 1 1 us.toList (by simp[hus]) (by
  intro j u hj;have hadd:(⟨H,0,none⟩:Addr).add j=⟨H,j,none⟩:=by unfold Addr.add;split <;> simp_all
  rw[hadd,hc j]
  simpa using hj) h1 h63 hbytes hbase
 unfold Oper.wp execOp;simp only[ho,resolve,invoke,builtin,Sem.run_bind,Sem.run_pure,Result.andThen_ok,List.map_toArray,List.map_cons,List.map_nil,hs,hx,hrun];exact h v' w' h2 h3 h5
theorem CS {base:Nat}{w:World}{g gs gc:Nat}{fv hv ov:Value}{p q:Nat}{L:VmL}(h:RunV base w g gs gc fv hv ov p q L) (hz:L.zs≠ []) (hl:L.ss.length≤4294967296) (t:Nat) (ht:t≤L.ss.length) (x:Int):
  Calls Tryz.prog 231 #[.pointer (some ⟨g,0,none⟩),.int .i64 t,.int .i64 x] w fun e w'=>e= .returned (.int .i64 (AY L.ss t x).1)∧
   (∃gs' p',RunV base w' g gs' gc fv hv ov p' q {L with ss:=(AY L.ss t x).2})∧Below base w w':=by
 obtain⟨i0,hi,hz0,hz1,hz2⟩:=info_parts Tryz.infoI2;have HH:=Lib.hid h;have HZ:=Lib.hid hz;have q5:=h.bx.2.1 5;have f1:=h.bx.2.2;have y1:=h.bx.1;simp at q5;have hb:=h.hb;clear h hz;by_cases hc:600 < (L.ss.length:Int) - t+1
 ·have HP:=Lib.hid (show AY L.ss t x= (3,L.ss)from if_pos hc);go_enter Tryz.func231,Tryz.ntmps231;go_wp2;go_ret;rw[HP.out];exact⟨rfl,⟨gs,p,HH.out⟩,Below.refl _ _⟩
 ·have HP:=Lib.hid (show AY L.ss t x= (0,L.ss.take (L.ss.length - t)++ [x])from if_neg hc);go_enter Tryz.func231,Tryz.ntmps231;go_wp2_with fail;obtain⟨n,hn⟩:∃n,L.ss.length - t=n:=⟨_,rfl⟩;have e1:IntKind.i64.wrap ((L.ss.length:Int) - (t:Int))= (n:Int):=by rw[IntWalk.i64_in _ (by omega)];omega
  have hnp:n≤p:=by have:=DU HH.out.s;omega
  refine AV 18 (S:=(fun w'=>w'.cell? ⟨g,5,none⟩=some (slv gs L.ss.length p))) (by kernel_rfl) (by kernel_rfl) (by first | (dsimp only;exact q5) | (exact q5)) (fun hHeld=> ?_);refine tkT (i:=0) ?_;refine tkT (i:=1) ?_;refine tkT (i:=2) ?_;refine tkT (i:=3) ?_;refine tkT (i:=4) ?_;refine tkT (i:=5) ?_;refine tkT (i:=6) ?_;refine tkT (i:=7) ?_;refine tkT (i:=8) ?_;refine tkT (i:=9) ?_;refine tkT (i:=10) ?_;refine tkT (i:=11) ?_;refine tkT (i:=12) ?_;refine tkT (i:=13) ?_;refine tkT (i:=14) ?_;refine tkT (i:=15) ?_;generalize hxd:w.drew=x0 at hHeld;have hd:Below w.heap.size w x0:=by rw[←hxd];exact(Below.refl _ _).drew
  have r0:=HH.out.below hd;clear hxd;refine rdT (i:=16) (fun K hK=> ?_);go_simp;generalize hy:x0.alloc _=x1;obtain⟨b1,k1⟩:=Bx.alloc hy;clear hy;have r1:=r0.below b1;refine bkT hK (by first | (dsimp only;exact(b1.cell (by dsimp only;exact r0.bx.1)).trans hHeld) | (exact(b1.cell (by dsimp only;exact r0.bx.1)).trans hHeld)) (fun hHeld=> ?_);clear hK K;refine It (rs:=[17]) (by kernel_rfl) (by simp) ?_;refine AllReadyT.cons (by (simp only[List.getElem?_toArray,List.getElem?_cons_succ,List.getElem?_cons_zero];rfl)) (fun K hK=> ?_) AllReadyT.nil;rw[if_pos (by rfl)];have os:=G5 r1.s (show n≤L.ss.length by omega);refine I4 _ _ 27 rfl base 3 i0 (.int .i64 0) 1 8 Tryz.underlying27 hi hz0 hz1 hz2 rfl (by decide) _ _ _ rfl os #[.int .i64 x] rfl ?_ x0.heap.size rfl ?_ ?_ ?_ ?_ ?_
  ·simp[Value.oneCell']
  ·exact k1.2.1
  ·unfold maxLen;omega
  ·omega
  ·exact r1.hb
  ·intro v' x2 ho hg hat;have e2:(L.ss.map (Value.int .i64)).take (n*1)++ #[.int .i64 x].toList= (L.ss.take n++ [x]).map (Value.int .i64):=by simp
   rw[e2]at ho;have hl2:(L.ss.take n++ [x]).length=n+1:=by simp;omega
   have R2:=Lib.hid (r1.stack HZ.out (ss:=L.ss.take n++ [x]) hg (by rw[hl2];exact ho) (by omega) (fun k hk=>by
    rcases hat with e |e
    ·exact .inl (Option.some.inj (hk.symm.trans e))
    ·exact .inr (by have:=Option.some.inj (hk.symm.trans e);omega)))
   have hk2:=r1.bx.grown hg (fun e=>r1.n1 (Option.some.inj e));refine hK.out _ _ (by first | (dsimp only;exact hk2.2.1 5) | (exact hk2.2.1 5)) (fun hHeld=> ?_);clear hK K
   try simp only[Act.put,List.setIfInBounds_toArray,List.set_cons_zero,List.set_cons_succ]
   have c2:=hk2.2.1;have f2:=hk2.2.2;have y2:=hk2.1;have bb:=(hd.trans (b1.mono hd.size)).mono HH.out.hb;have BB:=Lib.hid bb;have hp:=HP.out;clear bb hg ho hk2 os r1 r0 k1 b1 hd hat;obtain⟨gs',p',rfl,R3,b3⟩:=R2.out;have R3:=Lib.hid R3;clear R2;refine AU (by kernel_rfl) ?_;dsimp only[List.drop];go_wp2;go_ret;have R4:=R3.out;rw[hl2]at R4 b3;exact⟨rfl,⟨gs',p',R4⟩,BB.out.trans b3⟩
end Go.Proofs.YtfmebaafpfkeiaaGreat
end
