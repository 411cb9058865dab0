/- Parts of the proof of FnFuel. -/
import Derived.Test.YtifhcbeaiijkcaaGreatZ09
import Derived.Test.YtifhcbeaiijkcaaGreatZ10
import Derived.Test.YtifhcbeaiijkcaaGreatZ20
import Derived.Test.YtifhcbeaiijkcaaGreatZ21
import Derived.Test.YtifhcbeaiijkcaaGreatZ22
import Derived.Test.YtifhcbeaiijkcaaGreatZ23
set_option linter.unusedVariables false
set_option linter.unusedSimpArgs false
set_option maxRecDepth 1000000
set_option maxHeartbeats 16000000
section
namespace Go.Proofs.YtifhcbeaiijkcaaGreat
open Go.RowKit Go.Ev
open _root_.Go.World renaming alloc→Wa,setCell→Ws
open _root_.Go.Proofs.Tryz renaming prog→Pq
theorem FY {v:Value}(h:v.oneCell'=true) (w:World) (a:Addr) (m:Mode):(store a v m).run Pq w=stored Pq w a v m:=run_store Pq w a v m h
theorem QE {ρ:Rho}{p:List S}{l:List Value}(h:LR (SR ρ) p l) (hp:p.length=6):∃a0 a1 a2 a3 a4 a5,l=[a0,a1,a2,a3,a4,a5]:=by
 have hl:l.length=6:=by rw[←h.length];exact hp
 match l,hl with
 | [a0,a1,a2,a3,a4,a5],_=>exact⟨_,_,_,_,_,_,rfl⟩
theorem LW {α:Type}{a:Array α}{l:List α}(h:a.toList=l):a=l.toArray:=by subst h;simp
theorem QF {ρ:Rho}{p:List S}{cv:Value}(h:VR ρ (.t [.a p,.c (.i (-1))]) cv) (hp:p.length=6):
  ∃a0 a1 a2 a3 a4 a5,cv= .tuple #[.agg #[a0,a1,a2,a3,a4,a5],.int .i64 (-1)]∧LR (SR ρ) p [a0,a1,a2,a3,a4,a5]:=by
 obtain⟨arr,rfl,k⟩:=h
 match hm:arr.toList,k with
 | [x,y],k=>
  obtain⟨k1,k2,_⟩:=k;obtain⟨ar,rfl,k3⟩:=k1;obtain⟨a0,a1,a2,a3,a4,a5,e⟩:=QE k3 hp;have k2':y= .int .i64 (-1):=k2;subst k2';rw[e]at k3;refine⟨a0,a1,a2,a3,a4,a5,?_,k3⟩;rw[LW hm,LW e]
 | [],k=>exact k.elim
 | [_],k=>exact k.2.elim
 |_::_::_::_,k=>exact k.2.2.elim
theorem LX (w:World) (a:Addr) (v:Value) {q:Nat}(hq:q≠a.block):(w.setCell a v).heap[q]?=w.heap[q]?:=Below.heap_setCell _ _ _ _ (by first |exact hq |exact hq.symm)
theorem QG {ρ:Rho}{u:St}{w:World}(h:Rel ρ u w) {a:Addr}(ha:∀x sh z,ρ x≠some (a.block,sh,z)) (v:Value):Rel ρ u (w.setCell a v):=by
 have hs:∀x cb sh z,ρ x=some (cb,sh,z)→(w.setCell a v).heap[cb]?=w.heap[cb]?:=fun x cb sh z e=>LX w a v (fun h=>ha x sh z (h▸e));refine⟨h.dom,fun x cb sh z e=> ?_,fun x cb sh z b e e'=> ?_,h.inj,h.fam,h.nfl,h.lt⟩
 ·rw[hs _ _ _ _ e];exact h.blk x cb sh z e
 ·obtain⟨k1,k2⟩:=h.con x cb sh z b e e';refine⟨k1,fun i sv hi=> ?_⟩;rw[An (a:=⟨cb,sh+i,none⟩) (hs _ _ _ _ e)];exact k2 i sv hi
structure Kq (n:Nat) (ρ:Rho) (u:St) (w:World):Prop where
 rel:Rel ρ u w
 low:∀x cb sh z,ρ x=some (cb,sh,z)→n≤cb
 le:n≤w.heap.size
theorem Kq.later {n:Nat}{ρ:Rho}{u:St}{w w':World}(h:Kq n ρ u w) (hb:Below w.heap.size w w'):Kq n ρ u w':=⟨h.rel.later hb,h.low,Ar h.le hb.size⟩
theorem Kq.put {n:Nat}{ρ:Rho}{u:St}{w:World}(h:Kq n ρ u w) {a:Addr}(ha:a.block < n) (v:Value):Kq n ρ u (w.setCell a v):=
 ⟨QG h.rel (fun x sh z e=>by have:=h.low _ _ _ _ e;omega) v,h.low,by rw[AS];exact h.le⟩
theorem Kq.ent {n:Nat}{P:Program}{g:Nat}{vs:List V}{u u':St}{v:V}(E:Ent P g vs u v u') {ρ:Rho}{w:World}(h:Kq n ρ u w) {cargs:List Value}(hl:LR (VR ρ) vs cargs):
  Calls P g cargs.toArray w fun e w'=>∃cv ρ',e= .returned cv∧VR ρ' v cv∧Kq n ρ' u' w'∧Below n w w'∧Go.Ev.Left ρ w ρ' w':=
 (E ρ w cargs hl h.rel).2.mono fun e w' ⟨cv,ρ',he,k1,k2,k3⟩=>⟨cv,ρ',he,k1,⟨k2,fun x cb sh z e=>by
  rcases k3.new x cb sh z e with ⟨x0,sh0,z0,e0⟩ |hh
  ·exact h.low _ _ _ _ e0
  ·exact Ar h.le hh,Ar h.le k3.size⟩,k3.below h.le h.low,Left.of k3⟩
theorem Kq.far {n:Nat}{ρ:Rho}{u:St}{w w':World}(h:Kq n ρ u w) {c:Nat}(hc:w.heap.size≤c) (h':c < w'.heap.size):Far ρ w' c:=by
 refine⟨h',fun x sh z e=> ?_⟩;obtain⟨cs,el,e1,_⟩:=h.rel.blk x c sh z e;rw[KQ hc]at e1;cases e1
theorem Kq.zero (w:World):Kq w.heap.size JP St.zero w:=⟨Rel.zero w,(fun x cb sh z e=>by cases e),Ad _⟩
theorem Dr.far {w W W':World}{g n:Nat}{cv:Value}{m:Nat}(d:Dr w g cv m W) (hb:Below n W W') (hn:w.heap.size≤n) (hg:g < w.heap.size):Dr w g cv m W':=by
 obtain⟨i,x,k,hh⟩:=d.cur;exact⟨⟨hb.os.trans d.grown.os,hb.tape.trans d.grown.tape,hb.output.trans d.grown.output,Ar d.grown.size hb.size,fun q h1 h2=>(hb.block q (by omega)).trans (d.grown.block q h1 h2)⟩,⟨i,x,k.below hb (by omega),hh⟩⟩
theorem Dr.put {w W:World}{g:Nat}{cv:Value}{m:Nat}(d:Dr w g cv m W) {a:Addr}(ha:w.heap.size≤a.block) (hg:g < w.heap.size) (v:Value):Dr w g cv m (W.setCell a v):=
 d.far (n:=w.heap.size) ((Ac _ _).setCell ha v) (Ad _) hg
theorem QH (k:Nat) (hk:k < 7):∃p uP,PipeP (Gy.getD k []) p uP:=by
 have hk':k=0∨k=1∨k=2∨k=3∨k=4∨k=5∨k=6:=by omega
 rcases hk' with rfl |rfl |rfl |rfl |rfl |rfl |rfl
 ·exact FE S8
 ·exact FE Ta
 ·exact FE Tb
 ·exact FE Tc
 ·exact FE Td
 ·exact FE Te
 ·exact FE Tf
theorem QI {B g:Nat}(cv:Value) (zs:List Int) (w:World) (hC:Cur w g cv zs.length) (hr:∀W,Below w.heap.size w W→Rd B .u8 W cv zs) (hz:bytesIn zs) (hl:zs.length≤4294967296) (hg:B≤g):
  Calls Pq 88 #[.pointer (some ⟨g,0,none⟩)] w fun e w'=>∃k p uP ρ n a0 a1 a2 a3 a4 a5,k < 7∧PipeP (Gy.getD k []) p uP∧
   e= .returned (.agg #[a0,a1,a2,a3,a4,a5])∧LR (SR ρ) p [a0,a1,a2,a3,a4,a5]∧Kq n ρ uP w'∧w.heap.size≤n∧Dr w g cv zs.length w':=by
 have hlt:g < w.heap.size:=hC.lt;have HD:=Aa (fun(W:World) (hb:Below w.heap.size w W)=>QW cv zs W (hC.below hb) (fun W' hb'=>hr W' (hb.trans (hb'.mono hb.size))) hz hl hg);have D0:=Aa (Dr.refl hC);clear hC hr;go_enter Tryz.func88,Tryz.ntmps88;go_wp2_with fail;generalize hxx:w.alloc _=x0;obtain⟨b0,k0⟩:=Bx.alloc hxx;clear hxx;have z0:=k0.1;refine(HD.out x0 b0).mono ?_;rintro e w1 ⟨⟨x,k,rfl,hk,bs,rfl,hs⟩,d1⟩;have D1:=Aa ((D0.out.below b0).trans d1);replace k0:=d1.bx k0 (by omega);have z1:=d1.size;clear b0 d1 D0 HD;obtain⟨p,uP,H⟩:=QH k hk;have HP:=Aa (show Calls Pq 148 #[.string bs] w1 fun e w'=>∃cv ρ',e= .returned cv∧VR ρ' (.t [.a p,.c (.i (-1))]) cv∧Kq w1.heap.size ρ' uP w'∧Below w1.heap.size w1 w'∧Go.Ev.Left JP w1 ρ' w' from
  (Kq.zero w1).ent H.parse (cargs:=[.string bs]) ⟨⟨bs,rfl,hs⟩,trivial⟩)
 have HH:=Aa H;have hlen:=Aa H.len;clear H hs;go_wp2_with fail;refine HP.out.mono ?_;rintro e w2 ⟨cv2,ρ,rfl,v2,n2,b2,_⟩;obtain⟨a0,a1,a2,a3,a4,a5,rfl,lp⟩:=QF v2 hlen.out;have so:=LR.one lp;have s0:=FY (so a0 (by simp));have s1:=FY (so a1 (by simp));have s2:=FY (so a2 (by simp));have s3:=FY (so a3 (by simp));have s4:=FY (so a4 (by simp));have s5:=FY (so a5 (by simp));replace k0:=k0.below b2 (by omega);have z2:=b2.size;have D2:=Aa (D1.out.below b2);have N2:=Aa n2;have LP:=Aa lp;clear v2 HP n2 lp so D1 b2;have K0:=Aa k0;have ck0:=k0.2.1;have yk0:=k0.1;have zk0:=k0.2.2;have hne:w2.heap.size≠w.heap.size:=by omega
 go_wp2;refine AA (v:= .agg #[a0,a1,a2,a3,a4,a5]) ?_ rfl ⟨k,p,uP,ρ,w1.heap.size,a0,a1,a2,a3,a4,a5,hk,HH.out,rfl,LP.out,?_,by omega,?_⟩
 ·have hk:=(K0.out.put6 a0 a1 a2 a3 a4 a5).1;generalize hy:Wa _ _=W;obtain⟨by_,_⟩:=Bx.alloc hy;have hc:=(hk.below by_ hk.1).2.1;simp[results,Tryz.results88,go_sem,hc]
 ·refine Kq.later ?_ ((Ac _ _).alloc (Ad _) _)
  repeat(with_reducible refine Kq.put ?_ (by dsimp only;omega) _)
  exact N2.out
 ·refine Dr.below ?_ ((Ac _ _).alloc (Ad _) _)
  repeat(with_reducible refine Dr.put ?_ (by dsimp only;omega) hlt _)
  exact D2.out
def QJ (B:Nat) (w:World) (v:Value):Prop:=∃ (ds:List Dt) (x:Nd) (dv kv:Value),v=pgV dv x kv∧RdDts B w dv ds∧RdNs B w kv x.kids∧AR ds≤1000∧wgN x≤1000∧ ∀d∈ds,0≤d.vars∧d.vars≤100
theorem QK {B g:Nat}(cv:Value) (zs:List Int) (w:World) (hC:Cur w g cv zs.length) (hr:∀W,Below w.heap.size w W→Rd B .u8 W cv zs) (hz:bytesIn zs) (hl:zs.length≤4294967296) (hg:B≤g):
  Calls Pq 88 #[.pointer (some ⟨g,0,none⟩)] w fun e w'=>∃v,e= .returned v∧QJ w'.heap.size w' v∧Dr w g cv zs.length w':=by
 refine(QI cv zs w hC hr hz hl hg).mono ?_;rintro e w' ⟨k,p,uP,ρ,n,a0,a1,a2,a3,a4,a5,hk,H,rfl,hlr,hkq,hn,hd⟩;have hB:∀x cb sh z,ρ x=some (cb,sh,z)→cb < w'.heap.size:=fun x cb sh z e1=>by
  obtain⟨cs,el,f1,_⟩:=hkq.rel.blk x cb sh z e1;rcases FP cb w'.heap.size with h |h
  ·exact h
  ·rw[KQ h]at f1;cases f1
 obtain⟨ds,x,dv,kv,he,h1,h2,h3,h4,h5⟩:=S7 hkq.rel hB H.rd hlr;injection he with e0 he
 injection he with e1 he
 injection he with e2 he
 injection he with e3 he
 injection he with e4 he
 injection he with e5 he
 subst e0 e1 e2 e3 e4 e5;exact⟨_,rfl,⟨ds,x,_,_,rfl,h1,h2,h3,h4,h5⟩,hd⟩
end Go.Proofs.YtifhcbeaiijkcaaGreat
end
section
namespace Go.Proofs.YtifhcbeaiijkcaaGreat
open Go.RowKit
open _root_.Go.World renaming alloc→Wa,setCell→Ws
open _root_.Go.Proofs.Tryz renaming prog→Pq
theorem Kb {lo sz n b cap x:Nat}{t e:TypeId}{w:World}{xs:List Value}{cs:Array Value}(h:w.ownsRow lo t sz (.slice (some ⟨b,0,none⟩) n cap) n xs) (hx:w.heap[x]?=some (.cells cs e (0,0))) (he:e≠t):b≠x:=by
 rintro rfl;rcases h.2 with ⟨hv,_⟩ |⟨q,cap',cu,hv,hb,hgg,_⟩
 ·cases hv
 ·cases hv
  rw[hgg]at hx;cases hx
  exact he rfl
theorem NN {lo sz n b cap:Nat}{t:TypeId}{w:World}{xs:List Value}(h:w.ownsRow lo t sz (.slice (some ⟨b,0,none⟩) n cap) n xs):∃cs,w.heap[b]?=some (.cells cs t (0,0)):=by
 rcases h.2 with ⟨hv,_⟩ |⟨q,cap',cu,hv,hb,hgg,_⟩
 ·cases hv
 ·cases hv
  exact⟨_,hgg⟩
section
variable {A:Nat→Prop}{w:World}{x:Nat}{cs:Array Value}{e:TypeId}
theorem OwT.part {v:Value}{ks:List Tp}(h:OwT A w v ks) (hx:w.heap[x]?=some (.cells cs e (0,0))) (he:e≠158):OwT (fun b=>A b∧b≠x) w v ks:=by
 induction h with
 |nil=>exact .nil
 |row b cap lo ks kv hb ho _ ih=>exact .row b cap lo ks kv ⟨hb,Kb ho hx he⟩ ho ih
theorem OwG.partT {v:Value}{xs:List Tp}(h:OwG kTy A w v xs) (hx:w.heap[x]?=some (.cells cs e (0,0))) (he:e≠158):OwG kTy (fun b=>A b∧b≠x) w v xs:=by
 rcases h with h |⟨b,cap,lo,kv,hb,rfl,ho,hk⟩
 ·exact .inl h
 ·exact .inr ⟨b,cap,lo,kv,⟨hb,Kb ho hx he⟩,rfl,ho,fun j hj=>OwT.part (hk j hj) hx he⟩
theorem OwG.partC {v:Value}{xs:List Cn}(h:OwG kCn A w v xs) (hx:w.heap[x]?=some (.cells cs e (0,0))) (he:e≠158) (he2:e≠160):OwG kCn (fun b=>A b∧b≠x) w v xs:=by
 rcases h with h |⟨b,cap,lo,kv,hb,rfl,ho,hk⟩
 ·exact .inl h
 ·exact .inr ⟨b,cap,lo,kv,⟨hb,Kb ho hx he2⟩,rfl,ho,fun j hj=>OwG.partT (hk j hj) hx he⟩
end
theorem E4 {α:Type}(K:Kind α) {w:World}{lo b cap:Nat}{xs:List α}{kv:Nat→Value}(ho:w.ownsRow lo K.e K.sz (.slice (some ⟨b,0,none⟩) xs.length cap) xs.length (K.row xs kv)) {j:Nat}(hj:j < xs.length) {i:Nat}(hi:i < K.sz):w.cell? ⟨b,j*K.sz+i,none⟩= (K.cf xs[j] (kv j))[i]?:=by
 rw[Er ho (j*K.sz+i) (by rw[K.row_len];have:(j+1)*K.sz≤xs.length*K.sz:=Dq _ hj;rw[Dg]at this;omega)];have:=CQ (at_:=fun j=>K.cf (xs[j]?.getD K.z) (kv j)) (n:=xs.length) (sz:=K.sz) (fun _ _=>K.csz _ _) hj hi;rw[Bl hj]at this;exact this
theorem OwG.rdC {A:Nat→Prop}{w:World}{v:Value}{xs:List Cn}(h:OwG kCn A w v xs):RdCns w.heap.size w v xs:=by
 rcases h with ⟨rfl,rfl⟩ |⟨b,cap,lo,kv,hb,rfl,ho,hk⟩
 ·exact .inl ⟨rfl,_,_,rfl⟩
 ·have hl:=(ho.lt b rfl).2;refine .inr ⟨b,0,cap,kv,rfl,hl,hl,Et ho,fun j hj=> ?_⟩;have c0:=E4 kCn ho hj (i:=0) (by decide);have c1:=E4 kCn ho hj (i:=1) (by decide);rw[BU];exact⟨c0,c1,OwG.rdT (hk j hj)⟩
theorem OwD.dset {A:Nat→Prop}{w:World}{dv:Value}{ds:List Dt}(h:OwD A w dv ds) {j:Nat}(hj:j < ds.length):
  ∃bd cap kj s1 e1,dv= .slice (some ⟨bd,0,none⟩) ds.length cap∧A bd∧bd < w.heap.size∧ds.length≤cap∧(∀o,w.frozen? ⟨bd,o,none⟩=false)∧
   w.cell? ⟨bd,j*3,none⟩=some (.string ds[j].name)∧w.cell? ⟨bd,j*3+1,none⟩=some (.int .i64 ds[j].vars)∧w.cell? ⟨bd,j*3+2,none⟩=some kj∧OwG kCn (fun b=>(A b∧s1≤b∧b < e1)∧b≠bd) w kj ds[j].cons∧
   ∀ (w':World) (d':Dt) (cv':Value),(∀c,A c→c≠bd→ ¬(s1≤c∧c < e1)→c < w.heap.size→w'.heap[c]?=w.heap[c]?)→w.heap.size≤w'.heap.size→(∀i,i < j*3∨j*3+3≤i→w'.cell? ⟨bd,i,none⟩=w.cell? ⟨bd,i,none⟩)→
    w'.cell? ⟨bd,j*3,none⟩=some (.string d'.name)→w'.cell? ⟨bd,j*3+1,none⟩=some (.int .i64 d'.vars)→w'.cell? ⟨bd,j*3+2,none⟩=some cv'→RdCns w'.heap.size w' cv' d'.cons→RdDts w'.heap.size w' dv (ds.set j d'):=by
 rcases h with ⟨rfl, -⟩ |⟨b,cap,lo,kv,ss,es,hb,rfl,ho,hd,hk⟩
 ·simp at hj
 ·have hl:=(ho.lt b rfl).2;obtain⟨cs,hty⟩:=NN ho;obtain⟨r1,r2⟩:=Et ho;have hc:∀i (hi:i < ds.length),w.cell? ⟨b,i*3,none⟩=some (.string ds[i].name)∧w.cell? ⟨b,i*3+1,none⟩=some (.int .i64 ds[i].vars)∧w.cell? ⟨b,i*3+2,none⟩=some (kv i):=fun i hi=>
   ⟨E4 kDt ho hi (i:=0) (by decide),E4 kDt ho hi (i:=1) (by decide),E4 kDt ho hi (i:=2) (by decide)⟩
  have hp:∀i (hi:i < ds.length),OwG kCn (fun c=>(A c∧ss i≤c∧c < es i)∧c≠b) w (kv i) ds[i].cons:=fun i hi=>OwG.partC (hk i hi) hty (by decide) (by decide);refine⟨b,cap,kv j,ss j,es j,rfl,hb,hl,r2,fun o=>IN ho o,(hc j hj).1,(hc j hj).2.1,(hc j hj).2.2,hp j hj,fun w' d' cv' h1 h2 h3 e0 e1 e2 h4=> ?_⟩;have hlen:(ds.set j d').length=ds.length:=List.length_set;rw[←hlen];refine .inr ⟨b,0,cap,fun i=>if i=j then cv' else kv i,rfl,Aj hl h2,Aj hl h2,⟨by rw[hlen];exact r1,by rw[hlen];exact r2⟩,fun i hi=> ?_⟩;rw[hlen]at hi;rw[BU];by_cases hij:i=j
  ·subst hij;dsimp only;rw[Ag rfl,Pt];exact⟨e0,e1,e2,h4⟩
  ·dsimp only;rw[Ab hij,List.getElem_set_ne (fun e1=>hij e1.symm)];obtain⟨c0,c1,c2⟩:=hc i hi;exact⟨(h3 _ (by omega)).trans c0,(h3 _ (by omega)).trans c1,(h3 _ (by omega)).trans c2,(OwG.later kCn (hp i hi) (A':=fun _=>True) (fun q hq hq2=>⟨trivial,Aj hq2 h2,h1 q hq.1.1 hq.2 (fun e3=>by
    rcases FP i j with e4 |e4
    ·have:=hd i j e4 hj;omega
    ·have:=hd j i (by omega) hi;omega) hq2⟩)).rdC⟩
theorem OwG.rdD {A:Nat→Prop}{w:World}{v:Value}{xs:List Dt}(h:OwG kDt A w v xs):RdDts w.heap.size w v xs:=by
 rcases h with ⟨rfl,rfl⟩ |⟨b,cap,lo,kv,hb,rfl,ho,hk⟩
 ·exact .inl ⟨rfl,_,_,rfl⟩
 ·have hl:=(ho.lt b rfl).2;refine .inr ⟨b,0,cap,kv,rfl,hl,hl,Et ho,fun j hj=> ?_⟩;have c0:=E4 kDt ho hj (i:=0) (by decide);have c1:=E4 kDt ho hj (i:=1) (by decide);have c2:=E4 kDt ho hj (i:=2) (by decide);rw[BU];exact⟨c0,c1,c2,OwG.rdC (hk j hj)⟩
theorem NP:∀ (ds:List Dt) (j:Nat) (h:j < ds.length) (d:Dt),AR (ds.set j d)+wgD ds[j]=AR ds+wgD d
 |k::ks,0,h,y=>by simp only[List.set_cons_zero,List.getElem_cons_zero,AR];omega
 |k::ks,i+1,h,y=>by
  have:=NP ks i (by simpa using h) y;simp only[List.set_cons_succ,List.getElem_cons_succ,AR];omega
structure Mid (w:World) (g a0 P m M b o s e N:Nat) (y:Nd) (kv dv:Value) (ds:List Dt):Prop where
 el:El w P m M b o s e N y kv
 ow:OwD (fun c=>a0≤c∧c < m) w dv ds
 pc:w.cell? ⟨P,0,none⟩=some dv
 ga:g < a0
 am:a0≤m
 mM:m≤M
 MP:M≤P
 wd:AR ds≤1000
 vd:∀d∈ds,0≤d.vars∧d.vars≤100
def Kc (w:World) (P:Nat):Prop:=∃ (ds:List Dt) (x:Nd) (dv kv:Value),w.cell? ⟨P,0,none⟩=some dv∧NdAt w P 1 x kv∧RdDts w.heap.size w dv ds∧RdNs w.heap.size w kv x.kids∧AR ds≤3000∧wgN x≤3000∧ ∀d∈ds, -1≤d.vars∧d.vars≤100
def UpA (a0:Nat) (w W:World):Prop:=(∀c,a0≤c→c < w.heap.size→W.heap[c]?=w.heap[c]?)∧w.heap.size≤W.heap.size
def Cl (a0:Nat) (w:World) (P:Nat):Prop:=∀W,UpA a0 w W→Kc W P
section
variable {w w':World}{g a0 P m M b o s e N:Nat}{y:Nd}{kv dv:Value}{ds:List Dt}
theorem Mid.kept (h:Mid w g a0 P m M b o s e N y kv dv ds) (hs:w.heap.size≤w'.heap.size) (hk:∀c,c < w.heap.size→a0≤c→w'.heap[c]?=w.heap[c]?):Mid w' g a0 P m M b o s e N y kv dv ds:=by
 have hP:=h.el.hP;have:=h.am;have:=h.mM;have:=h.MP;exact⟨h.el.kept hs (fun c hc=>hk c (h.el.inR hc) (by omega)),OwD.later h.ow (fun q hq hl=>⟨hq,Aj hl hs,hk q hl hq.1⟩),(An (hk P hP.2.1 (by omega))).trans h.pc,h.ga,h.am,h.mM,h.MP,h.wd,h.vd⟩
theorem Mid.grown (h:Mid w g a0 P m M b o s e N y kv dv ds) (hg:w.grownBy w' (some g)):Mid w' g a0 P m M b o s e N y kv dv ds:=
 h.kept hg.size (fun c h1 h2=>hg.block c h1 (fun e1=>by have:=Ah e1;have:=h.ga;omega))
theorem Mid.below (h:Mid w g a0 P m M b o s e N y kv dv ds) (hb:Below w.heap.size w w'):Mid w' g a0 P m M b o s e N y kv dv ds:=
 h.kept hb.size (fun c h1 h2=>hb.block c h1)
theorem Mid.node0 (h:Mid w g a0 P m M b o s e N y kv dv ds) {y':Nd}{kv':Value}(h1:∀c,a0≤c→c < w.heap.size→c≠b→ ¬(s≤c∧c < e)→w'.heap[c]?=w.heap[c]?) (hs:w.heap.size≤w'.heap.size) (h3:∀i,i < o∨o+5≤i→w'.cell? ⟨b,i,none⟩=w.cell? ⟨b,i,none⟩) (h4:NdAt w' b o y' kv') (h5:RdNs w'.heap.size w' kv' y'.kids) (hw:wgN y'≤wgN y+1000):Kc w' P:=by
 have hP:=h.el.hP;have:=h.am;have:=h.mM;have:=h.MP;have hbb:=h.el.hb;have hse:=h.el.hs;have hwg:=h.el.wg;obtain⟨x',kvx,g1,g2,g3⟩:=h.el.hol w' y' kv' (fun c e1 e2 e3=>h1 c (by omega) (h.el.inR e1) e2 e3) hs h3 h4 h5;refine⟨ds,x',dv,kvx,?_,g1,?_,g2,by have:=h.wd;omega,by omega,fun d hd=>by have:=h.vd d hd;omega⟩
 ·refine Eq.trans ?_ h.pc;by_cases hbP:b=P
  ·have:=h.el.po hbP;rw[←hbP];exact h3 0 (by omega)
  ·exact An (h1 P (by omega) hP.2.1 (fun e1=>hbP e1.symm) (by omega))
 ·exact(OwD.later h.ow (A':=fun _=>True) (fun q hq hl=>⟨trivial,Aj hl hs,h1 q hq.1 hl (by omega) (by omega)⟩)).ow.rdD
theorem Mid.ba (h:Mid w g a0 P m M b o s e N y kv dv ds):a0≤b:=by
 have:=h.am;have:=h.mM;have:=h.MP;have:=h.el.hb;omega
theorem Mid.node (h:Mid w g a0 P m M b o s e N y kv dv ds) {y':Nd}{kv':Value}(h1:∀c,a0≤c→c < w.heap.size→c≠b→ ¬(s≤c∧c < e)→w'.heap[c]?=w.heap[c]?) (hs:w.heap.size≤w'.heap.size) (h3:∀i,i < o∨o+5≤i→w'.cell? ⟨b,i,none⟩=w.cell? ⟨b,i,none⟩) (h4:NdAt w' b o y' kv') (h5:∀W,UpA a0 w' W→RdNs W.heap.size W kv' y'.kids) (hw:wgN y'≤wgN y+1000):Cl a0 w' P:=fun W u=>by
 have hl:=Aj h.el.lt hs;have hb:=u.1 b h.ba hl;obtain⟨e0,e1,e2,e3,e4⟩:=h4;exact h.node0 (fun c e1 e2 e3 e4=>(u.1 c e1 (by omega)).trans (h1 c e1 e2 e3 e4)) (Ar hs u.2) (fun i hi=>(An hb).trans (h3 i hi)) ⟨(An hb).trans e0,(An hb).trans e1,(An hb).trans e2,(An hb).trans e3,(An hb).trans e4⟩ (h5 W u) hw
theorem Mid.node' (h:Mid w g a0 P m M b o s e N y kv dv ds) {y':Nd}(hk:y'.kids=y.kids) (h1:∀c,c≠b→w'.heap[c]?=w.heap[c]?) (hs:w.heap.size≤w'.heap.size) (h3:∀i,i < o∨o+5≤i→w'.cell? ⟨b,i,none⟩=w.cell? ⟨b,i,none⟩) (h4:NdAt w' b o y' kv) (hw:wgN y'≤wgN y+1000):Cl a0 w' P:=
 h.node (fun c _ _ h2 _=>h1 c h2) hs h3 h4 (fun W u=>by
  rw[hk];have:=h.am;have:=h.el.hs;exact(h.el.ow.keep (fun c e1 e2 e4=>(u.1 c (by omega) (by omega)).trans (h1 c (fun e3=>h.el.nb ⟨by omega,by omega⟩)))).ow.rd) hw
theorem Mid.fin (h:Mid w g a0 P m M b o s e N y kv dv ds):Cl a0 w P:=
 h.node' rfl (fun _ _=>rfl) (Ad _) (fun _ _=>rfl) h.el.at_ (by omega)
theorem Mid.data0 (h:Mid w g a0 P m M b o s e N y kv dv ds) (h1:∀c,m≤c→c < w.heap.size→w'.heap[c]?=w.heap[c]?) (hs:w.heap.size≤w'.heap.size) {ds':List Dt}(hr:RdDts w'.heap.size w' dv ds') (hw:AR ds'≤3000) (hv:∀d∈ds', -1≤d.vars∧d.vars≤100):Kc w' P:=by
 have hP:=h.el.hP;have:=h.am;have:=h.mM;have:=h.MP;have hwg:=h.el.wg;have hel:=h.el.kept hs (fun c hc=>h1 c (by omega) (h.el.inR hc));obtain⟨x',kvx,g1,g2,g3⟩:=hel.hol w' y kv (fun _ _ _ _=>rfl) (Ad _) (fun _ _=>rfl) hel.at_ hel.ow.ow.rd;exact⟨ds',x',dv,kvx,(An (h1 P (by omega) hP.2.1)).trans h.pc,g1,hr,g2,hw,by omega,hv⟩
theorem Mid.data (h:Mid w g a0 P m M b o s e N y kv dv ds) (h1:∀c,m≤c→c < w.heap.size→w'.heap[c]?=w.heap[c]?) (hs:w.heap.size≤w'.heap.size) {ds':List Dt}(hr:∀W,UpA a0 w' W→RdDts W.heap.size W dv ds') (hw:AR ds'≤3000) (hv:∀d∈ds', -1≤d.vars∧d.vars≤100):Cl a0 w' P:=fun W u=>
 h.data0 (fun c e1 e2=>(u.1 c (Ar h.am e1) (by omega)).trans (h1 c e1 e2)) (Ar hs u.2) (hr W u) hw hv
end
theorem CG (w:World) (q o:Nat) (v:Value) (c:Nat) (h:c≠q):(w.setCell ⟨q,o,none⟩ v).heap[c]?=w.heap[c]?:=LX w ⟨q,o,none⟩ v h
theorem AE (w:World) (q o i:Nat) (v:Value) (h:i≠o):(w.setCell ⟨q,o,none⟩ v).cell? ⟨q,i,none⟩=w.cell? ⟨q,i,none⟩:=I1 w _ _ v (fun e=>h (by injection e with _ e;exact e.symm))
theorem CW (w:World) (q o:Nat) (v:Value) {u:Value}(h:w.cell? ⟨q,o,none⟩=some u):(w.setCell ⟨q,o,none⟩ v).cell? ⟨q,o,none⟩=some v:=Pr w _ v h
section
variable {w:World}{g a0 P m M b o s e N:Nat}{y:Nd}{kv dv:Value}{ds:List Dt}
theorem Mid.oo (h:Mid w g a0 P m M b o s e N y kv dv ds) (i:Int):Cl a0 (w.setCell ⟨b,o,none⟩ (.int .i64 i)) P:=by
 obtain⟨c0,c1,c2,c3,c4⟩:=h.el.at_;exact h.node' (y':= .mk i y.n y.s y.t y.kids) rfl (fun c hc=>CG _ _ _ _ c hc) (by rw[AS];exact Ad _) (fun i hi=>AE _ _ _ _ _ (by omega))
  ⟨CW _ _ _ _ c0,(AE _ _ _ _ _ (by omega)).trans c1,(AE _ _ _ _ _ (by omega)).trans c2,(AE _ _ _ _ _ (by omega)).trans c3,(AE _ _ _ _ _ (by omega)).trans c4⟩ (by cases y;simp only[wgN];exact Gr _ _)
theorem Mid.nn (h:Mid w g a0 P m M b o s e N y kv dv ds) (i:Int):Cl a0 (w.setCell ⟨b,o+1,none⟩ (.int .i64 i)) P:=by
 obtain⟨c0,c1,c2,c3,c4⟩:=h.el.at_;exact h.node' (y':= .mk y.op i y.s y.t y.kids) rfl (fun c hc=>CG _ _ _ _ c hc) (by rw[AS];exact Ad _) (fun i hi=>AE _ _ _ _ _ (by omega))
  ⟨(AE _ _ _ _ _ (by omega)).trans c0,CW _ _ _ _ c1,(AE _ _ _ _ _ (by omega)).trans c2,(AE _ _ _ _ _ (by omega)).trans c3,(AE _ _ _ _ _ (by omega)).trans c4⟩ (by cases y;simp only[wgN];exact Gr _ _)
theorem Mid.ss (h:Mid w g a0 P m M b o s e N y kv dv ds) (t:Str) (ht:t.size≤100):Cl a0 (w.setCell ⟨b,o+2,none⟩ (.string t)) P:=by
 obtain⟨c0,c1,c2,c3,c4⟩:=h.el.at_;exact h.node' (y':= .mk y.op y.n t y.t y.kids) rfl (fun c hc=>CG _ _ _ _ c hc) (by rw[AS];exact Ad _) (fun i hi=>AE _ _ _ _ _ (by omega))
  ⟨(AE _ _ _ _ _ (by omega)).trans c0,(AE _ _ _ _ _ (by omega)).trans c1,CW _ _ _ _ c2,(AE _ _ _ _ _ (by omega)).trans c3,(AE _ _ _ _ _ (by omega)).trans c4⟩ (by have:=Aw (.mk y.op y.n t y.t y.kids);have:=Aw y;simp only[Nd.s,Nd.t,Nd.kids]at*;omega)
theorem Mid.tt (h:Mid w g a0 P m M b o s e N y kv dv ds) (t:Str) (ht:t.size≤100):Cl a0 (w.setCell ⟨b,o+3,none⟩ (.string t)) P:=by
 obtain⟨c0,c1,c2,c3,c4⟩:=h.el.at_;exact h.node' (y':= .mk y.op y.n y.s t y.kids) rfl (fun c hc=>CG _ _ _ _ c hc) (by rw[AS];exact Ad _) (fun i hi=>AE _ _ _ _ _ (by omega))
  ⟨(AE _ _ _ _ _ (by omega)).trans c0,(AE _ _ _ _ _ (by omega)).trans c1,(AE _ _ _ _ _ (by omega)).trans c2,CW _ _ _ _ c3,(AE _ _ _ _ _ (by omega)).trans c4⟩ (by have:=Aw (.mk y.op y.n y.s t y.kids);have:=Aw y;simp only[Nd.s,Nd.t,Nd.kids]at*;omega)
def CH (w:World) (b o:Nat) (c0 c1 c2 c3 c4:Value):World:=((((w.setCell ⟨b,o,none⟩ c0).setCell ⟨b,o+1,none⟩ c1).setCell ⟨b,o+2,none⟩ c2).setCell ⟨b,o+3,none⟩ c3).setCell ⟨b,o+4,none⟩ c4
theorem NR (w:World) (b o:Nat) (c0 c1 c2 c3 c4:Value):(CH w b o c0 c1 c2 c3 c4).heap.size=w.heap.size:=by unfold CH;simp only[AS]
theorem NS (w:World) (b o:Nat) (c0 c1 c2 c3 c4:Value) (c:Nat) (h:c≠b):(CH w b o c0 c1 c2 c3 c4).heap[c]?=w.heap[c]?:=by
 unfold CH;rw[CG _ _ _ _ _ h,CG _ _ _ _ _ h,CG _ _ _ _ _ h,CG _ _ _ _ _ h,CG _ _ _ _ _ h]
theorem NU (w:World) (b o:Nat) (c0 c1 c2 c3 c4:Value) (i:Nat) (h:i < o∨o+5≤i):(CH w b o c0 c1 c2 c3 c4).cell? ⟨b,i,none⟩=w.cell? ⟨b,i,none⟩:=by
 unfold CH;rw[AE _ _ _ _ _ (by omega),AE _ _ _ _ _ (by omega),AE _ _ _ _ _ (by omega),AE _ _ _ _ _ (by omega),AE _ _ _ _ _ (by omega)]
theorem NW {w:World}{b o:Nat}{x:Nd}{kv:Value}(h:NdAt w b o x kv) (x':Nd) (kv':Value):NdAt (CH w b o (.int .i64 x'.op) (.int .i64 x'.n) (.string x'.s) (.string x'.t) kv') b o x' kv':=by
 obtain⟨c0,c1,c2,c3,c4⟩:=h;unfold CH;refine⟨?_,?_,?_,?_,?_⟩
 ·rw[AE _ _ _ _ _ (by omega),AE _ _ _ _ _ (by omega),AE _ _ _ _ _ (by omega),AE _ _ _ _ _ (by omega)];exact CW _ _ _ _ c0
 ·rw[AE _ _ _ _ _ (by omega),AE _ _ _ _ _ (by omega),AE _ _ _ _ _ (by omega)];exact CW _ _ _ _ ((AE _ _ _ _ _ (by omega)).trans c1)
 ·rw[AE _ _ _ _ _ (by omega),AE _ _ _ _ _ (by omega)];exact CW _ _ _ _ ((AE _ _ _ _ _ (by omega)).trans ((AE _ _ _ _ _ (by omega)).trans c2))
 ·rw[AE _ _ _ _ _ (by omega)];exact CW _ _ _ _ ((AE _ _ _ _ _ (by omega)).trans ((AE _ _ _ _ _ (by omega)).trans ((AE _ _ _ _ _ (by omega)).trans c3)))
 ·exact CW _ _ _ _ ((AE _ _ _ _ _ (by omega)).trans ((AE _ _ _ _ _ (by omega)).trans ((AE _ _ _ _ _ (by omega)).trans ((AE _ _ _ _ _ (by omega)).trans c4))))
theorem Mid.whole (h:Mid w g a0 P m M b o s e N y kv dv ds) (p n:Int) (t:Str) (ht:t.size≤100):Cl a0 (CH w b o (.int .i64 p) (.int .i64 n) (.string t) (.string ⟨#[]⟩) (.slice none 0 0)) P:=
 h.node (y':= .mk p n t ⟨#[]⟩ []) (kv':= .slice none 0 0) (fun c _ _ h1 _=>NS _ _ _ _ _ _ _ _ c h1) (by rw[NR];exact Ad _) (fun i hi=>NU _ _ _ _ _ _ _ _ i hi) (NW h.el.at_ (.mk p n t ⟨#[]⟩ []) _) (fun _ _=> .nil _ _) (by
  have:wgN (.mk p n t ⟨#[]⟩ [])=t.size+0+0:=rfl;omega)
end
def StrRow (w:World) (b k:Nat):Prop:=b < w.heap.size∧ ∀i,i < k→ ∃t:Str,w.cell? ⟨b,i,none⟩=some (.string t)∧t.size≤9
theorem TF {B g b k:Nat}(v:Value) (zs:List Int) (w:World) (hC:Cur w g v zs.length) (hr:Rd B .u8 w v zs) (hz:bytesIn zs) (hl:zs.length≤4294967296) (hg:B≤g)
  (hT:StrRow w b k) (hk:0 < k) (hk2:k≤100) (hne:b≠g):
  Calls Pq 91 #[.pointer (some ⟨g,0,none⟩),.slice (some ⟨b,0,none⟩) k k] w fun e w'=>(∃t:Str,e= .returned (.string t)∧t.size≤9)∧Cur w' g v zs.length∧w.grownBy w' (some g):=by
 have HB:=Aa (fun(W:World) (hC:Cur W g v zs.length) (hr:Rd B .u8 W v zs)=>FZ v zs k W hC hr hz hl hg (by unfold Dc;omega));have HC:=Aa hC;have HR:=Aa hr;have HT:=Aa hT;clear hC hr hT;go_enter Tryz.func91,Tryz.ntmps91;go_wp2_with fail;refine(HB.out w HC.out HR.out).mono ?_;rintro e w1 ⟨hu,c1,g1⟩;obtain⟨i,rfl,hi⟩:=CZ hu hk;obtain⟨x,c0,sx⟩:=HT.out.2 i hi;have c0:=(g1.cell_far ⟨b,i,none⟩ HT.out.1 (by intro h;exact hne (Ah h))).trans c0;have hii:(i:Int) < (k:Int):=by omega
 have hi0:(0:Int)≤ (i:Int):=by omega
 have C1:=Aa c1;have G1:=Aa g1;have HS:=Aa sx;clear c1 g1 hu sx;go_wp2;go_ret;exact⟨⟨_,rfl,HS.out⟩,C1.out,G1.out⟩
theorem NJ (y:Nd):∀ (ks:List Nd),wgN.wgNs (ks++ [y])=wgN.wgNs ks+1+wgN y
 | []=>by simp only[List.nil_append,wgN.wgNs];omega
 |k::ks=>by
  have:=NJ y ks;simp only[List.cons_append,wgN.wgNs];omega
structure KRow (w:World) (s e lo:Nat) (kv:Value) (ks:List Nd) (kvs:Nat→Value):Prop where
 row:w.ownsRow lo 41 5 kv ks.length (CR ks kvs)
 lo_:lo≤w.heap.size
 own:∀q,kv.ownBlock=some q→s≤q∧q < e∧q < w.heap.size
 kid:∀j (hj:j < ks.length),∃s' e',OwI w s' e' (kvs j) ks[j].kids∧s≤s'∧e'≤e∧ ∀q,kv.ownBlock=some q→ ¬(s'≤q∧q < e')
theorem OwI.rows {w:World}{s e:Nat}{kv:Value}{ks:List Nd}(h:OwI w s e kv ks):∃lo kvs,KRow w s e lo kv ks kvs:=by
 cases h with
 |nil=>exact⟨0,fun _=> .int .i64 0,World.ownsRow_nil _ _ _ _,Av _,fun q hq=>(by cases hq),fun j hj=>absurd hj (Ay j)⟩
 |row _ _ b cap lo _ kvs ss es hb ho hi hd hk=>
  have hl:=ho.lt b rfl;exact⟨lo,kvs,ho,by omega,fun q hq=>by cases hq;exact⟨hb.1,hb.2,hl.2⟩,fun j hj=>⟨ss j,es j,hk j hj,(hi j hj).1,(hi j hj).2.1,fun q hq=>by cases hq;exact(hi j hj).2.2⟩⟩
theorem Mid.leaf {x w9 W:World}{g a0 P m M b o s e N lo q cap:Nat}{y:Nd}{kv dv:Value}{ds:List Dt}{kvs:Nat→Value}(h:Mid x g a0 P m M b o s e N y kv dv ds) (hr:KRow x s e lo kv y.kids kvs)
  (ho:w9.ownsRow lo 41 5 (.slice (some ⟨q,0,none⟩) (y.kids.length+1) cap) (y.kids.length+1) (CR y.kids kvs++ (ndC Nd.zero (.slice none 0 0)).toList))
  (hg:x.grownBy w9 kv.ownBlock) (alt:kv.ownBlock=some q∨q=x.heap.size)
  (h1:∀c,c≠b→c≠q→W.heap[c]?=w9.heap[c]?) (h2:W.heap.size=w9.heap.size)
  (h3:∀i,i≠o+4→W.cell? ⟨b,i,none⟩=w9.cell? ⟨b,i,none⟩) (h4:W.cell? ⟨b,o+4,none⟩=some (.slice (some ⟨q,0,none⟩) (y.kids.length+1) cap))
  (h5:∀i,i < y.kids.length*5∨y.kids.length*5+5≤i→W.cell? ⟨q,i,none⟩=w9.cell? ⟨q,i,none⟩)
  (h6:NdAt W q (y.kids.length*5) (.mk 1 4 ⟨#[]⟩ ⟨#[]⟩ []) (.slice none 0 0)):Cl a0 W P:=by
 have hbl:=h.el.lt;have hnb:=h.el.nb;have hse:=h.el.hs;have ham:=h.am;have hq9:=(ho.lt q rfl).2;have hxs:=hg.size;have hqa:a0≤q:=by
  rcases alt with e1 |e1
  ·have:=hr.own q e1;omega
  ·have:=h.ba;omega
 have hbq:b≠q:=by
  rcases alt with e1 |e1
  ·intro e2;have:=hr.own q e1;exact hnb ⟨by omega,by omega⟩
  ·omega
 have hrest:∀c,c < x.heap.size→c≠b→(∀q,kv.ownBlock=some q→c≠q)→W.heap[c]?=x.heap[c]?:=fun c e1 e2 e3=>by
  have hcq:c≠q:=by
   rcases alt with e4 |e4
   ·exact e3 q e4
   ·omega
  exact(h1 c e2 hcq).trans (hg.block c e1 (fun e4=>e3 c e4.symm rfl))
 have hbx:∀i,w9.cell? ⟨b,i,none⟩=x.cell? ⟨b,i,none⟩:=fun i=>An (hg.block b hbl (fun e1=>by have:=hr.own b e1.symm;exact hnb ⟨this.1,this.2.1⟩));obtain⟨c0,c1,c2,c3,c4⟩:=h.el.at_;refine h.node (y':= .mk y.op y.n y.s y.t (y.kids++ [.mk 1 4 ⟨#[]⟩ ⟨#[]⟩ []])) (kv':= .slice (some ⟨q,0,none⟩) (y.kids.length+1) cap) (fun c e1 e2 e3 e4=>hrest c e2 e3 (fun q' hq' e5=>by have:=hr.own q' hq';exact e4 ⟨by omega,by omega⟩)) (by omega)
  (fun i hi=>(h3 i (by omega)).trans (hbx i)) ⟨(h3 _ (by omega)).trans ((hbx _).trans c0),(h3 _ (by omega)).trans ((hbx _).trans c1),(h3 _ (by omega)).trans ((hbx _).trans c2),(h3 _ (by omega)).trans ((hbx _).trans c3),h4⟩ (fun W2 u=> ?_) ?_
 ·have hlen:(y.kids++ [Nd.mk 1 4 ⟨#[]⟩ ⟨#[]⟩ []]).length=y.kids.length+1:=by simp
  have hqW:∀i,W2.cell? ⟨q,i,none⟩=W.cell? ⟨q,i,none⟩:=fun i=>An (u.1 q hqa (by omega));have hroom:=Et ho
  show RdNs W2.heap.size W2 (.slice (some ⟨q,0,none⟩) (y.kids.length+1) cap) (y.kids++ [Nd.mk 1 4 ⟨#[]⟩ ⟨#[]⟩ []])
  rw[←hlen];have hu:=u.2;refine .row q 0 cap _ (fun j=>if j < y.kids.length then kvs j else .slice none 0 0) (by omega) (by omega) ⟨by rw[hlen];exact hroom.1,by rw[hlen];exact hroom.2⟩ (fun j hj=> ?_) (fun j hj=> ?_)
  ·rw[hlen]at hj;rw[BU]
   try dsimp only
   by_cases hjk:j < y.kids.length
   ·rw[Ag hjk,G9 hjk];have hc:∀t,t < 5→W2.cell? ⟨q,j*5+t,none⟩= (ndC y.kids[j] (kvs j))[t]?:=fun t ht=>by
     rw[hqW,h5 _ (by omega),Er ho (j*5+t) (by rw[AV,Fj];simp[ndC];omega),BV (by rw[Fj];omega)];unfold CR;rw[CQ (at_:=fun j=>ndC (y.kids[j]?.getD Nd.zero) (kvs j)) (fun _ _=>rfl) hjk ht,Bl hjk];rfl
    exact⟨hc 0 (by omega),hc 1 (by omega),hc 2 (by omega),hc 3 (by omega),hc 4 (by omega)⟩
   ·obtain rfl:j=y.kids.length:=by omega
    rw[Ab hjk,Ha (Ad _)];simp only[EI,List.getElem_cons_zero];obtain⟨d0,d1,d2,d3,d4⟩:=h6;exact⟨(hqW _).trans d0,(hqW _).trans d1,(hqW _).trans d2,(hqW _).trans d3,(hqW _).trans d4⟩
  ·rw[hlen]at hj
   try dsimp only
   by_cases hjk:j < y.kids.length
   ·rw[Ag hjk,G9 hjk];obtain⟨s',e',k1,k2,k3,k4⟩:=hr.kid j hjk;exact(k1.keep (fun c e1 e2 e3=>(u.1 c (by omega) (by omega)).trans (hrest c e3 (fun e4=>hnb ⟨by omega,by omega⟩) (fun q' hq' e5=>k4 q' hq' ⟨by omega,by omega⟩)))).ow.rd
   ·obtain rfl:j=y.kids.length:=by omega
    rw[Ab hjk,Ha (Ad _)];simp only[EI,List.getElem_cons_zero];exact .nil _ _
 ·have e1:wgN (.mk y.op y.n y.s y.t (y.kids++ [.mk 1 4 ⟨#[]⟩ ⟨#[]⟩ []]))=y.s.size+y.t.size+wgN.wgNs (y.kids++ [.mk 1 4 ⟨#[]⟩ ⟨#[]⟩ []]):=rfl;have e2:=Aw y;have e3:=NJ (.mk 1 4 ⟨#[]⟩ ⟨#[]⟩ []) y.kids;have e4:wgN (.mk 1 4 ⟨#[]⟩ ⟨#[]⟩ [])=0:=rfl;rw[e1,e3,e4];omega
structure LeafW (w9 W:World) (b o q k:Nat) (v:Value):Prop where
 h1:∀c,c≠b→c≠q→W.heap[c]?=w9.heap[c]?
 h2:W.heap.size=w9.heap.size
 h3:∀i,i≠o+4→W.cell? ⟨b,i,none⟩=w9.cell? ⟨b,i,none⟩
 h4:W.cell? ⟨b,o+4,none⟩=some v
 h5:∀i,i < k*5∨k*5+5≤i→W.cell? ⟨q,i,none⟩=w9.cell? ⟨q,i,none⟩
 h6:NdAt W q (k*5) (.mk 1 4 ⟨#[]⟩ ⟨#[]⟩ []) (.slice none 0 0)
def Ck (w:World) (q k:Nat):World:=CH w q (k*5) (.int .i64 1) (.int .i64 4) (.string ⟨#[]⟩) (.string ⟨#[]⟩) (.slice none 0 0)
theorem NdAt.same {w w':World}{b o:Nat}{x:Nd}{kv:Value}(h:NdAt w b o x kv) (hb:w'.heap[b]?=w.heap[b]?):NdAt w' b o x kv:=by
 obtain⟨e0,e1,e2,e3,e4⟩:=h;exact⟨(An hb).trans e0,(An hb).trans e1,(An hb).trans e2,(An hb).trans e3,(An hb).trans e4⟩
theorem J9 (w:World) (q k:Nat):(Ck w q k).heap.size=w.heap.size:=by
 unfold Ck;exact NR _ _ _ _ _ _ _ _
theorem Ka (w:World) (q k:Nat) (c:Nat) (h:c≠q):(Ck w q k).heap[c]?=w.heap[c]?:=by
 unfold Ck;exact NS _ _ _ _ _ _ _ _ c h
theorem NL (w:World) (q k i:Nat) (h:i < k*5∨k*5+5≤i):(Ck w q k).cell? ⟨q,i,none⟩=w.cell? ⟨q,i,none⟩:=by
 unfold Ck;exact NU _ _ _ _ _ _ _ _ i h
theorem NM {w:World}{q k:Nat}{z:Nd}{kz:Value}(h:NdAt w q (k*5) z kz):NdAt (Ck w q k) q (k*5) (.mk 1 4 ⟨#[]⟩ ⟨#[]⟩ []) (.slice none 0 0):=by
 unfold Ck;exact NW h (.mk 1 4 ⟨#[]⟩ ⟨#[]⟩ []) (.slice none 0 0)
theorem Tz {w9 W:World}{b o q k:Nat}{u v kz:Value}{z:Nd}(hbq:b≠q) (hc:w9.cell? ⟨b,o+4,none⟩=some u) (hn:NdAt w9 q (k*5) z kz) (hW:(Ck w9 q k).setCell ⟨b,o+4,none⟩ v=W):LeafW w9 W b o q k v:=by
 obtain⟨X,hX⟩:∃X,Ck w9 q k=X:=⟨_,rfl⟩;have x1:∀c,c≠q→X.heap[c]?=w9.heap[c]?:=fun c h=>by rw[←hX];exact Ka _ _ _ c h
 have x2:X.heap.size=w9.heap.size:=by rw[←hX];exact J9 _ _ _
 have x3:∀i,i < k*5∨k*5+5≤i→X.cell? ⟨q,i,none⟩=w9.cell? ⟨q,i,none⟩:=fun i h=>by rw[←hX];exact NL _ _ _ i h
 have x4:NdAt X q (k*5) (.mk 1 4 ⟨#[]⟩ ⟨#[]⟩ []) (.slice none 0 0):=by rw[←hX];exact NM hn
 rw[hX]at hW;have y1:∀c,c≠b→W.heap[c]?=X.heap[c]?:=fun c h=>by rw[←hW];exact CG _ _ _ _ c h
 have y2:∀i,i≠o+4→W.cell? ⟨b,i,none⟩=X.cell? ⟨b,i,none⟩:=fun i h=>by rw[←hW];exact AE _ _ _ _ _ h
 have hb:∀i,X.cell? ⟨b,i,none⟩=w9.cell? ⟨b,i,none⟩:=fun i=>An (x1 b hbq);have y3:W.cell? ⟨b,o+4,none⟩=some v:=by rw[←hW];exact CW _ _ _ _ ((hb _).trans hc)
 have hq:=y1 q (fun e=>hbq e.symm);exact⟨fun c h1 h2=>(y1 c h1).trans (x1 c h2),by rw[←hW,AS];exact x2,fun i hi=>(y2 i hi).trans (hb i),y3,fun i hi=>(An hq).trans (x3 i hi),x4.same hq⟩
theorem TA {w9 W:World}{b o q k:Nat}{u v kz:Value}{z:Nd}(hbq:b≠q) (hc:w9.cell? ⟨b,o+4,none⟩=some u) (hn:NdAt w9 q (k*5) z kz) (hW:Ck (w9.setCell ⟨b,o+4,none⟩ v) q k=W):LeafW w9 W b o q k v:=by
 obtain⟨X,hX⟩:∃X,w9.setCell ⟨b,o+4,none⟩ v=X:=⟨_,rfl⟩;have y1:∀c,c≠b→X.heap[c]?=w9.heap[c]?:=fun c h=>by rw[←hX];exact CG _ _ _ _ c h
 have y2:∀i,i≠o+4→X.cell? ⟨b,i,none⟩=w9.cell? ⟨b,i,none⟩:=fun i h=>by rw[←hX];exact AE _ _ _ _ _ h
 have y3:X.cell? ⟨b,o+4,none⟩=some v:=by rw[←hX];exact CW _ _ _ _ hc
 have y4:X.heap.size=w9.heap.size:=by rw[←hX,AS]
 have hq:=y1 q (fun e=>hbq e.symm);rw[hX]at hW;have x1:∀c,c≠q→W.heap[c]?=X.heap[c]?:=fun c h=>by rw[←hW];exact Ka _ _ _ c h
 have x2:W.heap.size=X.heap.size:=by rw[←hW];exact J9 _ _ _
 have x3:∀i,i < k*5∨k*5+5≤i→W.cell? ⟨q,i,none⟩=X.cell? ⟨q,i,none⟩:=fun i h=>by rw[←hW];exact NL _ _ _ i h
 have x4:NdAt W q (k*5) (.mk 1 4 ⟨#[]⟩ ⟨#[]⟩ []) (.slice none 0 0):=by rw[←hW];exact NM (hn.same hq)
 have hb:∀i,W.cell? ⟨b,i,none⟩=X.cell? ⟨b,i,none⟩:=fun i=>An (x1 b hbq);exact⟨fun c h1 h2=>(x1 c h2).trans (y1 c h1),x2.trans y4,fun i hi=>(hb i).trans (y2 i hi),(hb _).trans y3,fun i hi=>(x3 i hi).trans (An hq),x4⟩
theorem TE {w:World}{lo q k cap:Nat}{ks:List Nd}{kvs:Nat→Value}(h:w.ownsRow lo 41 5 (.slice (some ⟨q,0,none⟩) (ks.length+1) cap) (ks.length+1) (CR ks kvs++ (ndC Nd.zero (.slice none 0 0)).toList)):NdAt w q (ks.length*5) Nd.zero (.slice none 0 0):=by
 have hc:∀t,t < 5→w.cell? ⟨q,ks.length*5+t,none⟩= (ndC Nd.zero (.slice none 0 0))[t]?:=fun t ht=>by
  have e1:(CR ks kvs++ (ndC Nd.zero (.slice none 0 0)).toList)[ks.length*5+t]?= (ndC Nd.zero (.slice none 0 0)).toList[t]?:=by
   rw[Cp (by rw[Fj];omega),Fj,show ks.length*5+t - ks.length*5=t by omega]
  have e2:(ndC Nd.zero (.slice none 0 0)).toList.length=5:=rfl;exact((Er h (ks.length*5+t) (by rw[AV,Fj,e2];omega)).trans e1).trans Array.getElem?_toList
 exact⟨hc 0 (by omega),hc 1 (by omega),hc 2 (by omega),hc 3 (by omega),hc 4 (by omega)⟩
section
variable {w w':World}{g a0 P m M b o s e N:Nat}{y:Nd}{kv dv:Value}{ds:List Dt}
structure DAt (w:World) (a0 m:Nat) (dv:Value) (ds:List Dt) (j bd cap s1 e1:Nat) (kj:Value) (d:Dt):Prop where
 hj:j < ds.length
 hd:ds[j]=d
 hv:dv= .slice (some ⟨bd,0,none⟩) ds.length cap
 lo:a0≤bd
 hi:bd < m
 lt:bd < w.heap.size
 fr:∀o,w.frozen? ⟨bd,o,none⟩=false
 c0:w.cell? ⟨bd,j*3,none⟩=some (.string d.name)
 c1:w.cell? ⟨bd,j*3+1,none⟩=some (.int .i64 d.vars)
 c2:w.cell? ⟨bd,j*3+2,none⟩=some kj
 ow:OwG kCn (fun b=>((a0≤b∧b < m)∧s1≤b∧b < e1)∧b≠bd) w kj d.cons
 set_:∀ (w':World) (d':Dt) (cv':Value),(∀c,(a0≤c∧c < m)→c≠bd→ ¬(s1≤c∧c < e1)→c < w.heap.size→w'.heap[c]?=w.heap[c]?)→w.heap.size≤w'.heap.size→(∀i,i < j*3∨j*3+3≤i→w'.cell? ⟨bd,i,none⟩=w.cell? ⟨bd,i,none⟩)→
    w'.cell? ⟨bd,j*3,none⟩=some (.string d'.name)→w'.cell? ⟨bd,j*3+1,none⟩=some (.int .i64 d'.vars)→w'.cell? ⟨bd,j*3+2,none⟩=some cv'→RdCns w'.heap.size w' cv' d'.cons→RdDts w'.heap.size w' dv (ds.set j d')
theorem Mid.dat (h:Mid w g a0 P m M b o s e N y kv dv ds) {j:Nat}(hj:j < ds.length):∃bd cap s1 e1 kj d,DAt w a0 m dv ds j bd cap s1 e1 kj d:=by
 obtain⟨bd,cap,kj,s1,e1,h1,h2,h3,h4,h5,h6,h7,h8,h9,h10⟩:=h.ow.dset hj;exact⟨bd,cap,s1,e1,kj,ds[j],hj,rfl,h1,h2.1,h2.2,h3,h5,h6,h7,h8,h9,h10⟩
variable {j bd cap s1 e1:Nat}{kj:Value}{d:Dt}
theorem Mid.dput (h:Mid w g a0 P m M b o s e N y kv dv ds) (t:DAt w a0 m dv ds j bd cap s1 e1 kj d) {d':Dt}{cv':Value}
  (h1:∀c,a0≤c→c < w.heap.size→c≠bd→ ¬((c < m)∧s1≤c∧c < e1)→w'.heap[c]?=w.heap[c]?) (hs:w.heap.size≤w'.heap.size) (h3:∀i,i < j*3∨j*3+3≤i→w'.cell? ⟨bd,i,none⟩=w.cell? ⟨bd,i,none⟩)
  (q0:w'.cell? ⟨bd,j*3,none⟩=some (.string d'.name)) (q1:w'.cell? ⟨bd,j*3+1,none⟩=some (.int .i64 d'.vars)) (q2:w'.cell? ⟨bd,j*3+2,none⟩=some cv') (hc:∀W,UpA a0 w' W→RdCns W.heap.size W cv' d'.cons)
  (hw:wgD d'≤wgD d+1000) (hv:-1≤d'.vars∧d'.vars≤100):Cl a0 w' P:=by
 have hbd:=t.hi;have hlo:=t.lo;have hlt:=t.lt;refine h.data (ds':=ds.set j d') (fun c c1 c2=>h1 c (Ar h.am c1) c2 (by omega) (by omega)) hs (fun W u=> ?_) ?_ (fun x hx=> ?_)
 ·have hu:=u.1 bd hlo (by omega);exact t.set_ W d' cv' (fun c hA hc hn hcl=>(u.1 c hA.1 (by omega)).trans (h1 c hA.1 hcl hc (fun e3=>hn e3.2))) (by have:=u.2;omega) (fun i hi=>(An hu).trans (h3 i hi)) ((An hu).trans q0) ((An hu).trans q1) ((An hu).trans q2) (hc W u)
 ·have:=NP ds j t.hj d';have:=h.wd;rw[t.hd]at*;omega
 ·rcases List.mem_or_eq_of_mem_set hx with hx |rfl
  ·have:=h.vd x hx;omega
  ·exact hv
theorem Mid.dput' (h:Mid w g a0 P m M b o s e N y kv dv ds) (t:DAt w a0 m dv ds j bd cap s1 e1 kj d) {d':Dt}(hcons:d'.cons=d.cons)
  (h1:∀c,c≠bd→w'.heap[c]?=w.heap[c]?) (hs:w.heap.size≤w'.heap.size) (h3:∀i,i < j*3∨j*3+3≤i→w'.cell? ⟨bd,i,none⟩=w.cell? ⟨bd,i,none⟩)
  (q0:w'.cell? ⟨bd,j*3,none⟩=some (.string d'.name)) (q1:w'.cell? ⟨bd,j*3+1,none⟩=some (.int .i64 d'.vars)) (q2:w'.cell? ⟨bd,j*3+2,none⟩=some kj)
  (hw:wgD d'≤wgD d+1000) (hv:-1≤d'.vars∧d'.vars≤100):Cl a0 w' P:=
 h.dput t (fun c _ _ h2 _=>h1 c h2) hs h3 q0 q1 q2 (fun W u=>by
  rw[hcons];exact OwG.rdC (OwG.later kCn t.ow (A':=fun _=>True) (fun q hq hl=>⟨trivial,by have:=u.2;omega,(u.1 q hq.1.1.1 (by omega)).trans (h1 q hq.2)⟩))) hw hv
theorem Mid.dvars (h:Mid w g a0 P m M b o s e N y kv dv ds) (t:DAt w a0 m dv ds j bd cap s1 e1 kj d) (i:Int) (hi:-1≤i∧i≤100):Cl a0 (w.setCell ⟨bd,j*3+1,none⟩ (.int .i64 i)) P:=
 h.dput' t (d':=⟨d.name,i,d.cons⟩) rfl (fun c hc=>CG _ _ _ _ c hc) (by rw[AS];exact Ad _) (fun i hi=>AE _ _ _ _ _ (by omega))
  ((AE _ _ _ _ _ (by omega)).trans t.c0) (CW _ _ _ _ t.c1) ((AE _ _ _ _ _ (by omega)).trans t.c2) (by unfold wgD;dsimp only;omega) hi
theorem Mid.dvd (h:Mid w g a0 P m M b o s e N y kv dv ds) (t:DAt w a0 m dv ds j bd cap s1 e1 kj d):-1≤d.vars∧d.vars≤100:=by
 have:=h.vd (ds[j]'t.hj) (As t.hj);rw[t.hd]at this;omega
theorem Mid.dname (h:Mid w g a0 P m M b o s e N y kv dv ds) (t:DAt w a0 m dv ds j bd cap s1 e1 kj d) (x:Str) (hx:x.size≤100):Cl a0 (w.setCell ⟨bd,j*3,none⟩ (.string x)) P:=
 h.dput' t (d':=⟨x,d.vars,d.cons⟩) rfl (fun c hc=>CG _ _ _ _ c hc) (by rw[AS];exact Ad _) (fun i hi=>AE _ _ _ _ _ (by omega))
  (CW _ _ _ _ t.c0) ((AE _ _ _ _ _ (by omega)).trans t.c1) ((AE _ _ _ _ _ (by omega)).trans t.c2) (by unfold wgD;dsimp only;omega) (by have:=h.dvd t;exact this)
theorem Mid.dnil (h:Mid w g a0 P m M b o s e N y kv dv ds) (t:DAt w a0 m dv ds j bd cap s1 e1 kj d):Cl a0 (w.setCell ⟨bd,j*3+2,none⟩ (.slice none 0 0)) P:=
 h.dput t (d':=⟨d.name,d.vars,[]⟩) (cv':= .slice none 0 0) (fun c _ _ hc _=>CG _ _ _ _ c hc) (by rw[AS];exact Ad _) (fun i hi=>AE _ _ _ _ _ (by omega))
  ((AE _ _ _ _ _ (by omega)).trans t.c0) ((AE _ _ _ _ _ (by omega)).trans t.c1) (CW _ _ _ _ t.c2) (fun _ _=> .inl ⟨rfl,_,_,rfl⟩) (by unfold wgD C9;dsimp only;omega) (by have:=h.dvd t;exact this)
structure CRow (A:Nat→Prop) (w:World) (lo:Nat) (kv:Value) (cs:List Cn) (kvs:Nat→Value):Prop where
 row:w.ownsRow lo kCn.e kCn.sz kv cs.length (kCn.row cs kvs)
 lo_:lo≤w.heap.size
 own:∀q,kv.ownBlock=some q→A q∧q < w.heap.size
 kid:∀j (hj:j < cs.length),OwG kTy (fun c=>A c∧kv.ownBlock≠some c) w (kvs j) cs[j].args
theorem OwG.crow {A:Nat→Prop}{w:World}{kv:Value}{cs:List Cn}(h:OwG kCn A w kv cs):∃lo kvs,CRow A w lo kv cs kvs:=by
 rcases h with ⟨rfl,rfl⟩ |⟨b,cap,lo,kv,hb,rfl,ho,hk⟩
 ·exact⟨0,fun _=> .int .i64 0,World.ownsRow_nil _ _ _ _,Av _,fun q hq=>(by cases hq),fun j hj=>absurd hj (Ay j)⟩
 ·have hl:=ho.lt b rfl;obtain⟨cs',hty⟩:=NN ho;exact⟨lo,kv,ho,by omega,fun q hq=>by cases hq;exact⟨hb,hl.2⟩,fun j hj=>OwG.later kTy (OwG.partT (hk j hj) hty (by decide)) (fun q hq hq2=>⟨⟨hq.1,fun e1=>hq.2 (Ah e1).symm⟩,hq2,rfl⟩)⟩
theorem NI (c:Cn):∀ (cs:List Cn),C9 (cs++ [c])=C9 cs+1+wgC c
 | []=>by simp only[List.nil_append,C9];omega
 |k::ks=>by
  have:=NI c ks;simp only[List.cons_append,C9];omega
theorem Mid.dcon {x w9 W:World}(h:Mid x g a0 P m M b o s e N y kv dv ds) (t:DAt x a0 m dv ds j bd cap s1 e1 kj d) {lo q c9 bt:Nat}{kvs:Nat→Value}{nm tx:Str}{p n:Int}
  (hr:CRow (fun b=>((a0≤b∧b < m)∧s1≤b∧b < e1)∧b≠bd) x lo kj d.cons kvs) (hbt:m≤bt∧bt < x.heap.size) (hty:∀i,i < 4→x.cell? ⟨bt,i,none⟩= (tpC (.mk p n tx []) (.slice none 0 0))[i]?)
  (ho:w9.ownsRow lo kCn.e kCn.sz (.slice (some ⟨q,0,none⟩) (d.cons.length+1) c9) (d.cons.length+1) (kCn.row d.cons kvs++ (cnC ⟨nm,[.mk p n tx []]⟩ (.slice (some ⟨bt,0,none⟩) 1 1)).toList))
  (hg:x.grownBy w9 kj.ownBlock) (alt:kj.ownBlock=some q∨q=x.heap.size) (hW:w9.setCell ⟨bd,j*3+2,none⟩ (.slice (some ⟨q,0,none⟩) (d.cons.length+1) c9)=W) (hn:nm.size≤9) (ht:tx.size≤9):Cl a0 W P:=by
 have hlt:=t.lt;have hlo:=t.lo;have hbm:=t.hi;have hxs:=hg.size;have hq9:=(ho.lt q rfl).2;have y1:∀c,c≠bd→W.heap[c]?=w9.heap[c]?:=fun c h=>by rw[←hW];exact CG _ _ _ _ c h
 have y2:∀i,i≠j*3+2→W.cell? ⟨bd,i,none⟩=w9.cell? ⟨bd,i,none⟩:=fun i h=>by rw[←hW];exact AE _ _ _ _ _ h
 have hbx:w9.heap[bd]?=x.heap[bd]?:=hg.block bd hlt (fun e1=>(hr.own bd e1.symm).1.2 rfl);have y3:W.cell? ⟨bd,j*3+2,none⟩=some (.slice (some ⟨q,0,none⟩) (d.cons.length+1) c9):=by rw[←hW];exact CW _ _ _ _ ((An hbx).trans t.c2)
 have ys:W.heap.size=w9.heap.size:=by rw[←hW,AS]
 have hqb:q≠bd:=by
  rcases alt with e1 |e1
  ·exact(hr.own q e1).1.2
  ·omega
 have hqa:a0≤q:=by
  rcases alt with e1 |e1
  ·exact(hr.own q e1).1.1.1.1
  ·omega
 have hrest:∀c,c < x.heap.size→c≠bd→kj.ownBlock≠some c→W.heap[c]?=x.heap[c]?:=fun c c1 c2 c3=>(y1 c c2).trans (hg.block c c1 (fun e4=>c3 e4.symm));refine h.dput t (d':=⟨d.name,d.vars,d.cons++ [⟨nm,[.mk p n tx []]⟩]⟩) (cv':= .slice (some ⟨q,0,none⟩) (d.cons.length+1) c9) (fun c _ c2 c3 c4=>hrest c c2 c3 (fun e4=>c4 ⟨(hr.own c e4).1.1.1.2,(hr.own c e4).1.1.2⟩)) (by omega)
  (fun i hi=>(y2 i (by omega)).trans (An hbx)) ((y2 _ (by omega)).trans ((An hbx).trans t.c0)) ((y2 _ (by omega)).trans ((An hbx).trans t.c1)) y3 (fun W2 u=> ?_) ?_ (by have:=h.dvd t;exact this)
 ·have hu:=u.2;have hlen:(d.cons++ [(⟨nm,[.mk p n tx []]⟩:Cn)]).length=d.cons.length+1:=by simp
  have hqW:∀i,W2.cell? ⟨q,i,none⟩=w9.cell? ⟨q,i,none⟩:=fun i=>An ((u.1 q hqa (by omega)).trans (y1 q hqb));have hroom:=Et ho
  show RdCns W2.heap.size W2 (.slice (some ⟨q,0,none⟩) (d.cons.length+1) c9) (d.cons++ [⟨nm,[.mk p n tx []]⟩])
  rw[←hlen];have hsz:kCn.sz=2:=rfl;have hcl:(cnC ⟨nm,[.mk p n tx []]⟩ (.slice (some ⟨bt,0,none⟩) 1 1)).toList.length=2:=rfl;have hrl:=kCn.row_len d.cons kvs;refine .inr ⟨q,0,c9,fun j=>if j < d.cons.length then kvs j else .slice (some ⟨bt,0,none⟩) 1 1,rfl,by omega,by omega,⟨by rw[hlen];exact hroom.1,by rw[hlen];exact hroom.2⟩,fun i hi=> ?_⟩;rw[hlen]at hi;rw[BU]
  try dsimp only
  by_cases hjk:i < d.cons.length
  ·rw[Ag hjk,G9 hjk];have hc:∀t,t < 2→W2.cell? ⟨q,i*2+t,none⟩= (cnC d.cons[i] (kvs i))[t]?:=fun t ht=>by
    have e1:(kCn.row d.cons kvs++ (cnC ⟨nm,[.mk p n tx []]⟩ (.slice (some ⟨bt,0,none⟩) 1 1)).toList)[i*2+t]?= (kCn.row d.cons kvs)[i*2+t]?:=BV (by rw[hrl,hsz];omega);have e2:(kCn.row d.cons kvs)[i*2+t]?= (kCn.cf (d.cons[i]?.getD kCn.z) (kvs i))[t]?:=CQ (at_:=fun j=>kCn.cf (d.cons[j]?.getD kCn.z) (kvs j)) (n:=d.cons.length) (sz:=kCn.sz) (fun _ _=>kCn.csz _ _) hjk ht;rw[Bl hjk]at e2;exact((hqW _).trans (Er ho (i*2+t) (by rw[AV,hrl,hcl,hsz];omega))).trans (e1.trans e2)
   have hk:=OwG.later kTy (hr.kid i hjk) (A':=fun _=>True) (w':=W2) (fun c hc hc2=>⟨trivial,by omega,(u.1 c hc.1.1.1.1 (by omega)).trans (hrest c hc2 hc.1.2 hc.2)⟩);exact⟨hc 0 (by omega),hc 1 (by omega),OwG.rdT hk⟩
  ·obtain rfl:i=d.cons.length:=by omega
   rw[Ab hjk,Ha (Ad _)];simp only[EI,List.getElem_cons_zero];have hc:∀t,t < 2→W2.cell? ⟨q,d.cons.length*2+t,none⟩= (cnC ⟨nm,[.mk p n tx []]⟩ (.slice (some ⟨bt,0,none⟩) 1 1))[t]?:=fun t ht=>by
    have e1:(kCn.row d.cons kvs++ (cnC ⟨nm,[.mk p n tx []]⟩ (.slice (some ⟨bt,0,none⟩) 1 1)).toList)[d.cons.length*2+t]?= (cnC ⟨nm,[.mk p n tx []]⟩ (.slice (some ⟨bt,0,none⟩) 1 1)).toList[t]?:=by
     rw[Cp (by rw[hrl,hsz];omega),hrl,hsz,show d.cons.length*2+t - d.cons.length*2=t by omega]
    exact(((hqW _).trans (Er ho (d.cons.length*2+t) (by rw[AV,hrl,hcl,hsz];omega))).trans e1).trans Array.getElem?_toList
   have hbW:∀i,W2.cell? ⟨bt,i,none⟩=x.cell? ⟨bt,i,none⟩:=fun i=>An ((u.1 bt (by have:=h.am;omega) (by omega)).trans (hrest bt hbt.2 (by omega) (fun e1=>by have:=(hr.own bt e1).1.1.1.2;omega)));refine⟨hc 0 (by omega),hc 1 (by omega),?_⟩;refine RdTps.row bt 0 1 [.mk p n tx []] (fun _=> .slice none 0 0) (by omega) (by omega) ⟨(by decide:1≤maxLen),Ad _⟩ (fun i hi=> ?_) (fun i hi=> ?_)
   ·obtain rfl:i=0:=by simp only[List.length_singleton]at hi;omega
    exact⟨(hbW _).trans (hty 0 (by omega)),(hbW _).trans (hty 1 (by omega)),(hbW _).trans (hty 2 (by omega)),(hbW _).trans (hty 3 (by omega))⟩
   ·obtain rfl:i=0:=by simp only[List.length_singleton]at hi;omega
    exact .nil _ _
 ·have e1:=NI ⟨nm,[.mk p n tx []]⟩ d.cons;have e2:wgC ⟨nm,[.mk p n tx []]⟩=nm.size+ (1+ (tx.size+0)+0):=rfl;unfold wgD;dsimp only;rw[e1,e2];omega
end
end Go.Proofs.YtifhcbeaiijkcaaGreat
end
