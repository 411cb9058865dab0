/- Parts of the proof of FnFuel. -/
import Derived.Test.YtifhcbeaiijkcaaGreatZ08
import Derived.Test.YtifhcbeaiijkcaaGreatZ06
import Derived.Test.YtifhcbeaiijkcaaGreatZ05
set_option linter.unusedVariables false
set_option linter.unusedSimpArgs false
set_option maxRecDepth 1000000
set_option maxHeartbeats 16000000
namespace Go.Proofs.YtifhcbeaiijkcaaGreat
open Go.RowKit
open _root_.Go.World renaming alloc→Wa,setCell→Ws
open _root_.Go.Proofs.Tryz renaming prog→Pq
section
variable {α:Type}
structure Kind (α:Type) where
 e:TypeId
 sz:Nat
 z:α
 cf:α→Value→Array Value
 R:(Nat→Prop)→World→Value→α→Prop
 csz:∀a v,(cf a v).size=sz
 pos:0 < sz
 later:∀ {A A':Nat→Prop} {w w':World} {v:Value} {a:α},R A w v a→(∀b,A b→b < w.heap.size→A' b∧b < w'.heap.size∧w'.heap[b]?=w.heap[b]?)→R A' w' v a
variable (K:Kind α)
def Kind.row (xs:List α) (kv:Nat→Value):List Value:=BF xs.length K.sz (fun j=>K.cf (xs[j]?.getD K.z) (kv j))
theorem Kind.row_len (xs:List α) (kv:Nat→Value):(K.row xs kv).length=xs.length*K.sz:=Cf _ _ _
theorem Kind.row_snoc (xs:List α) (kv:Nat→Value) (y:α) (v:Value):K.row xs kv++ (K.cf y v).toList=K.row (xs++ [y]) (fun j=>if j < xs.length then kv j else v):=by
 unfold Kind.row;have hsz:∀j,j < xs.length→((fun j=>K.cf (xs[j]?.getD K.z) (kv j)) j).size=K.sz:=fun j _=>K.csz _ _;rw[Jg hsz (K.csz y v) K.pos,AV,List.length_singleton];refine Jf fun j hj=> ?_;by_cases h:j < xs.length
 ·simp only[Ag h,BV h]
 ·obtain rfl:j=xs.length:=by omega
  simp only[Ab h,Cp (Ad _),EI,List.getElem?_cons_zero,Option.getD_some]
def OwG (A:Nat→Prop) (w:World) (v:Value) (xs:List α):Prop:=
 (xs=[]∧v= .slice none 0 0)∨ ∃b cap lo kv,A b∧v= .slice (some ⟨b,0,none⟩) xs.length cap∧w.ownsRow lo K.e K.sz v xs.length (K.row xs kv)∧ ∀j (h:j < xs.length),K.R A w (kv j) xs[j]
theorem OwG.later {A A':Nat→Prop}{w w':World}{v:Value}{xs:List α}(h:OwG K A w v xs) (t:∀b,A b→b < w.heap.size→A' b∧b < w'.heap.size∧w'.heap[b]?=w.heap[b]?):OwG K A' w' v xs:=by
 rcases h with h |⟨b,cap,lo,kv,hb,rfl,ho,hk⟩
 ·exact .inl h
 ·have hl:=(ho.lt b rfl).2;exact .inr ⟨b,cap,lo,kv,(t b hb hl).1,rfl,Fi ho (fun q e=>by cases e;exact(t b hb hl).2.2),fun j hj=>K.later (hk j hj) t⟩
theorem OwG.form {A:Nat→Prop}{w:World}{v:Value}{xs:List α}(h:OwG K A w v xs):∃a cap,v= .slice a xs.length cap:=by
 rcases h with ⟨rfl,rfl⟩ |⟨b,cap,lo,kv,hb,rfl,ho,hk⟩
 ·exact⟨none,0,rfl⟩
 ·exact⟨_,cap,rfl⟩
theorem OwG.at_ {A:Nat→Prop}{w:World}{v:Value}{xs:List α}(h:OwG K A w v xs) {j:Nat}(hj:j < xs.length):∃b cap kv,v= .slice (some ⟨b,0,none⟩) xs.length cap∧A b∧b < w.heap.size∧xs.length≤maxLen∧xs.length≤cap∧(∀i,i < K.sz→w.cell? ⟨b,0+j*K.sz+i,none⟩= (K.cf xs[j] kv)[i]?)∧(∀o,w.frozen? ⟨b,o,none⟩=false)∧K.R A w kv xs[j]:=by
 rcases h with ⟨rfl, -⟩ |⟨b,cap,lo,kv,hb,rfl,ho,hk⟩
 ·simp at hj
 ·obtain⟨h1,h2⟩:=Et ho;refine⟨b,cap,kv j,rfl,hb,(ho.lt b rfl).2,h1,h2,fun i hi=> ?_,fun o=> ?_,hk j hj⟩
  ·rw[BU,Er ho (j*K.sz+i) (by rw[K.row_len];have:(j+1)*K.sz≤xs.length*K.sz:=Dq _ hj;rw[Dg]at this;omega)];have:=CQ (at_:=fun j=>K.cf (xs[j]?.getD K.z) (kv j)) (n:=xs.length) (sz:=K.sz) (fun _ _=>K.csz _ _) hj hi;rw[Bl hj]at this;exact this
  ·exact IN ho o
def RwG (lo:Nat) (W:World) (xs:List α) (k:Nat) (v:Value):Prop:=
 ∃kvs:Nat→Value,W.ownsRow lo K.e K.sz v k (K.row (xs.take k) kvs)∧ ∀j (h:j < xs.length),j < k→K.R (fun b=>lo≤b∧v.ownBlock≠some b) W (kvs j) xs[j]
variable {K}{lo:Nat}{W W':World}{xs:List α}{k:Nat}{v:Value}
theorem RwG.zero:RwG K lo W xs 0 (.slice none 0 0):=⟨fun _=> .int .i64 0,by
 have h:K.row (xs.take 0) (fun _=>Value.int .i64 0)=[]:=by simp[Kind.row,BF]
 rw[h];exact World.ownsRow_nil _ _ _ _,fun j _ hj=>absurd hj (Ay j)⟩
theorem RwG.form (h:RwG K lo W xs k v):∃a cap,v= .slice a k cap:=by
 obtain⟨kvs,ho, -⟩:=h;exact A2 ho
theorem RwG.lt (h:RwG K lo W xs k v):∀q,v.ownBlock=some q→lo≤q∧q < W.heap.size:=by
 obtain⟨kvs,ho, -⟩:=h;exact fun q e=>ho.lt q e
theorem RwG.kept (h:RwG K lo W xs k v) (hs:W.heap.size≤W'.heap.size) (hb:∀b,lo≤b→b < W.heap.size→W'.heap[b]?=W.heap[b]?):RwG K lo W' xs k v:=by
 obtain⟨kvs,ho,hr⟩:=h;exact⟨kvs,Fi ho (fun q e=>hb q (ho.lt q e).1 (ho.lt q e).2),fun j hj hk=>K.later (hr j hj hk) fun q hq hl=>⟨hq,Aj hl hs,hb q hq.1 hl⟩⟩
theorem RwG.same (h:RwG K lo W xs k v) (b:Below W.heap.size W W'):RwG K lo W' xs k v:=h.kept b.size (fun q _ hl=>b.block q hl)
theorem RwG.set (h:RwG K lo W xs k v) {q o:Nat}{u:Value}(hq:q < lo):RwG K lo (W.setCell ⟨q,o,none⟩ u) xs k v:=
 h.kept (by rw[AS];exact Ad _) (fun b hb hl=>(grownBy.setCell W q o u).block b hl (fun e=>by have:=Ah e;omega))
theorem RwG.app (h:RwG K lo W xs k v) {M:Nat}{c:Value}(hk:k < xs.length) (hM:∀q,v.ownBlock=some q→q < M) (hMW:M≤W.heap.size) (hlM:lo≤M) (hc:K.R (fun b=>M≤b) W c xs[k]):
  ∃ps,W.ownsRow lo K.e K.sz v k ps∧ ∀ (v':Value) (w4:World),w4.ownsRow lo K.e K.sz v' (k+1) (ps++ (K.cf xs[k] c).toList)→W.grownBy w4 v.ownBlock→(v'.ownBlock=v.ownBlock∨ ∃q,v'.ownBlock=some q∧W.heap.size≤q)→RwG K lo w4 xs (k+1) v':=by
 obtain⟨kvs,hps,hr2⟩:=h;refine⟨_,hps,fun v' w4 ho hg hat=> ?_⟩;have hblk:∀b,b < W.heap.size→v.ownBlock≠some b→w4.heap[b]?=W.heap[b]?:=fun b hb h2=>hg.block b hb (fun e=>h2 e.symm);have htl:(xs.take k).length=k:=by rw[Hd];omega
 have hts:xs.take (k+1)=xs.take k++ [xs[k]]:=by rw[He,Bl hk];rfl
 refine⟨fun j=>if j < k then kvs j else c,?_,fun j hj hjk=> ?_⟩
 ·have:=K.row_snoc (xs.take k) kvs xs[k] c;rw[htl,←hts]at this;rw[←this];exact ho
 ·dsimp only;by_cases hj2:j < k
  ·rw[Ag hj2];refine K.later (hr2 j hj hj2) fun q hq hl2=>⟨⟨hq.1,fun e=> ?_⟩,Aj hl2 hg.size,hblk q hl2 hq.2⟩
   rcases hat with e2 |⟨q2,e2,e3⟩
   ·exact hq.2 (e2.symm.trans e)
   ·rw[e2]at e;have:=Ah e;omega
  ·obtain rfl:j=k:=by omega
   rw[Ab hj2];refine K.later hc fun q hq hl2=>⟨⟨by omega,fun e=> ?_⟩,Aj hl2 hg.size,hblk q hl2 (fun e=>by have:=hM q e;omega)⟩
   rcases hat with e2 |⟨q2,e2,e3⟩
   ·have:=hM q (e2.symm.trans e);omega
   ·rw[e2]at e;have:=Ah e;omega
theorem RwG.done (h:RwG K lo W xs xs.length v):OwG K (fun b=>lo≤b) W v xs:=by
 obtain⟨kvs,ho,hr⟩:=h;rw[CL]at ho;rcases ho.2 with ⟨rfl,h0⟩ |⟨q,cap,cu,rfl,hbq,_⟩
 ·exact .inl ⟨List.eq_nil_of_length_eq_zero h0,rfl⟩
 ·exact .inr ⟨q,cap,_,kvs,hbq,rfl,ho,fun j hj=>K.later (hr j hj hj) fun q hq hl=>⟨hq.1,hl,rfl⟩⟩
end
def cnC (c:Cn) (av:Value):Array Value:= #[.string c.name,av]
def dtC (d:Dt) (cv:Value):Array Value:= #[.string d.name,.int .i64 d.vars,cv]
def kTy:Kind Tp:=⟨158,4,.mk 0 0 eS [],tpC,fun A w v t=>OwT A w v t.kids,fun _ _=>rfl,by decide,fun h t=>OwT.later h t⟩
def kCn:Kind Cn:=⟨160,2,⟨eS,[]⟩,cnC,fun A w v c=>OwG kTy A w v c.args,fun _ _=>rfl,by decide,fun h t=>OwG.later _ h t⟩
def kDt:Kind Dt:=⟨135,3,⟨eS,0,[]⟩,dtC,fun A w v d=>OwG kCn A w v d.cons,fun _ _=>rfl,by decide,fun h t=>OwG.later _ h t⟩
theorem OwG.rdT {A:Nat→Prop}{w:World}{v:Value}{xs:List Tp}(h:OwG kTy A w v xs):RdTps w.heap.size w v xs:=by
 rcases h with ⟨rfl,rfl⟩ |⟨b,cap,lo,kv,hb,rfl,ho,hk⟩
 ·exact .nil _ _
 ·exact(OwT.row b cap lo xs kv hb ho hk).rd
theorem Tryz.infoCnD:(Tryz.prog.info? 160).map (fun i=>(i.zero,i.size,i.bytes))=some (some (.agg #[.string ⟨#[]⟩,.slice none 0 0]),2,40):=by kernel_rfl
theorem Tryz.infoDtD:(Tryz.prog.info? 135).map (fun i=>(i.zero,i.size,i.bytes))=some (some (.agg #[.string ⟨#[]⟩,.int .i64 0,.slice none 0 0]),3,48):=by kernel_rfl
theorem RwG.made {α:Type}{K:Kind α}{lo g:Nat}{W:World}{xs:List α}(hg:g=W.heap.size) (hl:lo≤g):RwG K lo (W.alloc (.cells #[] K.e)) xs 0 (.slice (some ⟨g,0,none⟩) 0 0):=
 ⟨fun _=> .int .i64 0,by
  have h:K.row (xs.take 0) (fun _=>Value.int .i64 0)=[]:=by simp[Kind.row,BF]
  rw[h];exact Ge hg hl,fun j _ hj=>absurd hj (Ay j)⟩
theorem Pa:∀ (N:Nat) (x:Tp) (kv:Value) (B:Nat) (w:World),wgT x < N→wgT x≤1048576→RdTps B w kv x.kids→
  Calls Pq 111 #[tpV x kv] w fun e w'=>e= .returned (.int .i64 (AC x))∧Below w.heap.size w w'
 |0,x,kv,B,w,hN,hl,hr=>by omega
 |N+1,x,kv,B,w,hN,hl,hr=>by
  have HR:=Aa (fun(W:World) (hb:Below w.heap.size w W)=>hr.later' hb);have hlen:=hr.len;unfold maxLen at hlen;obtain⟨ka,kc,rfl⟩:=hr.form;have hsz:=Eg x;have ih:=fun(j:Nat) (hj:j < x.kids.length) (kv:Value) (B:Nat) (W:World) (h:RdTps B W kv x.kids[j].kids)=>(by
   have:=CJ (As hj);exact Pa N x.kids[j] kv B W (by omega) (by omega) h:Calls Pq 111 #[tpV x.kids[j] kv] W fun e w'=>e= .returned (.int .i64 (AC x.kids[j]))∧Below W.heap.size W w')
  unfold tpV at ih ⊢;have IH:=Aa ih;have HB:=Aa (fun(k:Nat)=>(show AC.deepTs (x.kids.take k)≤1048577 from by have:=Kn x.kids k;have:=OG x;have:=IU x;omega));have HS:=Aa (Km x.kids);have HX:=Aa (IU x);clear hr ih hsz hN;generalize x.op=xop;generalize x.n=xn;generalize x.s=xs;generalize AC x=dx at HX ⊢;generalize x.kids=ks at*;go_enter Tryz.func111,Tryz.ntmps111;go_wp2_with fail;generalize hxx:w.alloc _=x0;obtain⟨bb,k1⟩:=Bx.alloc hxx;clear hxx;go_wp2
  go_loopw [3,4] (fun o i wr=>∃k:Nat,k≤ks.length∧i= .int .i64 k∧o= .int .i64 (AC.deepTs (ks.take k))∧Below w.heap.size w wr∧Bx wr w.heap.size #[.int .i64 xop,.int .i64 xn,.string xs,.slice ka ks.length kc]) (fun _ i _=>ks.length - (intOf i).toNat)
  case atStart=>exact⟨0,Av _,rfl,rfl,bb,k1⟩
  case round=>
   clear bb k1;obtain⟨k,hk,rfl,rfl,bb,k1⟩:=hrel;by_cases hlt:k < ks.length
   ·obtain⟨b,off,cap,kv,hv,hB,hbs,hcap,⟨c0,c1,c2,c3⟩,hkr⟩:=(HR.out wr bb).at_ hlt;cases hv
    have hki:(k:Int) < (ks.length:Int):=by omega
    obtain⟨kva,kvc,rfl⟩:=hkr.form;have HK:=Aa hkr;have q1:=k1.2.1;clear hkr;go_wp2_with fail;clear q1 c0 c1 c2 c3;refine(IH.out k hlt _ _ wr HK.out).mono ?_;rintro e w2 ⟨rfl,b2⟩;replace k1:=k1.below b2 k1.1;replace bb:=bb.trans (b2.mono bb.size);clear b2 HK;have hb1:=HB.out (k+1);have hs1:=HS.out k hlt;go_wp2_with fail;refine(LQ _ _ w2).mono ?_;rintro e w3 ⟨rfl,rfl⟩;go_wp2;go_roundw
    case rel=>
     refine⟨k+1,hlt,by go_num,?_,bb,k1⟩;rw[hs1];exact AX (Value.int .i64) (by omega)
    case measure=>simp[intOf];omega
   ·obtain rfl:k=ks.length:=by omega
    have hb1:=HB.out ks.length;have hx1:=HX.out;rw[CL]at hb1;simp only[CL];have q1:=k1.2.1;go_wp2;go_ret;exact⟨AK (by rw[hx1];simp),bb⟩
theorem Pb (vars:Int) (hv:-9223372036854775807≤vars∧vars≤9223372036854775807):∀ (N:Nat) (x:Tp) (kv:Value) (B:Nat) (w:World),wgT x < N→wgT x≤1048576→RdTps B w kv x.kids→
  Calls Pq 112 #[tpV x kv,.int .i64 vars] w fun e w'=>e= .returned (.bool (AW vars x))∧Below w.heap.size w w'
 |0,x,kv,B,w,hN,hl,hr=>by omega
 |N+1,x,kv,B,w,hN,hl,hr=>by
  have HR:=Aa (fun(W:World) (hb:Below w.heap.size w W)=>hr.later' hb);have hwg:=Eg x;have hlen:=DS x.kids;have hks:x.kids.length≤1048576:=by omega
  have hss:x.s.size≤1048576:=by omega
  obtain⟨ka,kc,rfl⟩:=hr.form;have ih:=fun(j:Nat) (hj:j < x.kids.length) (kv:Value) (B:Nat) (W:World) (h:RdTps B W kv x.kids[j].kids)=>(by
   have:=CJ (As hj);exact Pb vars hv N x.kids[j] kv B W (by omega) (by omega) h:Calls Pq 112 #[tpV x.kids[j] kv,.int .i64 vars] W fun e w'=>e= .returned (.bool (AW vars x.kids[j]))∧Below W.heap.size W w')
  unfold tpV at ih ⊢;have IH:=Aa ih;have HE:=Aa (OH vars x);clear hr ih hN hwg hlen hl;generalize x.op=xop at*;generalize x.n=xn at*;generalize x.s=xs at*;generalize AW vars x=px at*;generalize x.kids=ks at*;go_enter Tryz.func112,Tryz.ntmps112;go_wp2_with fail;generalize hxx:w.alloc _=x0;obtain⟨bb,k1⟩:=Bx.alloc hxx;clear hxx;go_wp2
  go_loopw [5] (fun i wr=>∃k:Nat,k≤ks.length∧i= .int .i64 k∧Below w.heap.size w wr∧Bx wr w.heap.size #[.int .i64 xop,.int .i64 xn,.string xs,.slice ka ks.length kc]∧Hid (∀j (h:j < ks.length),j < k→AW vars ks[j]=true)) (fun i _=>ks.length - (intOf i).toNat)
  case atStart=>exact⟨0,Av _,rfl,bb,k1,Aa (fun j h hk=>absurd hk (Ay j))⟩
  case round=>
   clear bb k1;obtain⟨k,hk,rfl,bb,k1,hd⟩:=hrel;by_cases hlt:k < ks.length
   ·obtain⟨b,off,cap,kv,hv,hB,hbs,hcap,⟨c0,c1,c2,c3⟩,hkr⟩:=(HR.out wr bb).at_ hlt;cases hv
    have hki:(k:Int) < (ks.length:Int):=by omega
    obtain⟨kva,kvc,rfl⟩:=hkr.form;have HK:=Aa hkr;have q1:=k1.2.1;clear hkr;go_wp2_with fail;clear q1 c0 c1 c2 c3;refine(IH.out k hlt _ _ wr HK.out).mono ?_;rintro e w2 ⟨rfl,b2⟩;replace k1:=k1.below b2 k1.1;replace bb:=bb.trans (b2.mono bb.size);clear b2 HK;cases hp:AW vars ks[k]with
    |true=>
     have hp':=Aa hp;clear hp;go_wp2;go_roundw
     case rel=>exact⟨k+1,hlt,by go_num,bb,k1,Aa (fun j h hj=>by
      by_cases e:j=k
      ·subst e;exact hp'.out
      ·exact hd.out j h (by omega))⟩
     case measure=>simp[intOf];omega
    |false=>
     have hp':=Aa ((IV vars ks).trans (Dw hlt hp));clear hp;go_wp2;go_ret;exact⟨Ae (by rw[HE.out,hp'.out];rfl),bb⟩
   ·obtain rfl:k=ks.length:=by omega
    have hy:=(IV vars ks).trans (DT (fun j hj=>hd.out j hj hj));have HE:Hid (px=Bm vars xop xn xs ks.length):=Aa (by rw[HE.out,hy];rfl);clear hy;have q1:=k1.2.1;clear hd k1 HR IH;by_cases o1:xop=1
    ·subst o1;by_cases n0:xn=0
     ·subst n0;by_cases hs:xs.toList=[]
      ·go_wp2;go_ret;exact⟨Ae (by rw[HE.out];simp[Bm,Ap hs,BL, -List.length_eq_zero_iff]),bb⟩
      ·go_wp2;go_ret;exact⟨Ae (by rw[HE.out];simp[Bm,AM hs]),bb⟩
     ·go_wp2;go_ret;exact⟨Ae (by rw[HE.out];simp[Bm,n0]),bb⟩
    by_cases o2:xop=2
    ·subst o2;have hin:=Ei xn 0 (vars - 1) wr;cases hq:inB xn 0 (vars - 1)with
     |false=>
      rw[hq]at hin;go_wp2_with fail;refine hin.mono ?_;rintro e w3 ⟨rfl,rfl⟩;clear hin;have hq:=Aa hq;go_wp2;go_ret;exact⟨Ae (by rw[HE.out];simp[Bm,hq.out]),bb⟩
     |true=>
      rw[hq]at hin;go_wp2_with fail;refine hin.mono ?_;rintro e w3 ⟨rfl,rfl⟩;clear hin;have hq:=Aa hq;by_cases hs:xs.toList=[]
      ·go_wp2;go_ret;exact⟨Ae (by rw[HE.out];simp[Bm,Ap hs,hq.out,BL, -List.length_eq_zero_iff]),bb⟩
      ·go_wp2;go_ret;exact⟨Ae (by rw[HE.out];simp[Bm,AM hs]),bb⟩
    by_cases o3:xop=3
    ·subst o3;by_cases n0:xn=0
     ·subst n0;by_cases hs:xs.toList=[]
      ·go_wp2;go_ret;exact⟨Ae (by rw[HE.out];simp[Bm,Ap hs,Bw]),bb⟩
      ·go_wp2;go_ret;exact⟨Ae (by rw[HE.out];simp[Bm,AM hs]),bb⟩
     ·go_wp2;go_ret;exact⟨Ae (by rw[HE.out];simp[Bm,n0]),bb⟩
    by_cases o4:xop=4
    ·subst o4;by_cases n0:xn=0
     ·subst n0;go_wp2_with fail;refine(GY xs _ hss).mono ?_;rintro e w3 ⟨rfl,b3⟩;replace bb:=bb.trans (b3.mono bb.size);go_wp2;go_ret;exact⟨Ae (by rw[HE.out];simp[Bm]),bb⟩
     ·go_wp2;go_ret;exact⟨Ae (by rw[HE.out];simp[Bm,n0]),bb⟩
    ·go_wp2;go_ret;exact⟨Ae (by rw[HE.out];simp[Bm,o1,o2,o3,o4]),bb⟩
def pgV (dv:Value) (x:Nd) (kv:Value):Value:= .agg #[dv,.int .i64 x.op,.int .i64 x.n,.string x.s,.string x.t,kv]
def SzP (ds:List Dt) (x:Nd):Prop:=AR ds≤1048576∧wgN x≤1048576∧BJ x≤4294967296
theorem V8 {cs:List Cn}{vars:Int}{k j:Nat}(hk:k < cs.length) (hj:j < cs[k].args.length) (h:(decide (AC cs[k].args[j]≤24)&& AW vars cs[k].args[j])=false):cs.all (cnP vars)=false:=by
 refine Dw hk ?_;unfold cnP;rw[Dw (q:=fun t=>decide (AC t≤24)&& AW vars t) hj h,Bool.and_false]
theorem V9 {cs:List Cn}{vars:Int}{k:Nat}(hk:k < cs.length) (h:Bb cs[k].name=false):cs.all (cnP vars)=false:=by
 refine Dw hk ?_;unfold cnP;rw[h,Bool.false_and]
theorem Wb {c:Cn}{vars:Int}(h:Bb c.name=true) (ha:∀j (hj:j < c.args.length),(decide (AC c.args[j]≤24)&& AW vars c.args[j])=true):cnP vars c=true:=by
 unfold cnP;rw[h,Hb];exact DT (q:=fun t=>decide (AC t≤24)&& AW vars t) ha
theorem Wc {ds:List Dt}{x:Nd}{i:Nat}(hi:i < ds.length) (h:dtP ds[i]=false):By ds x=false:=by
 unfold By;rw[Dw hi h,Bool.false_and]
theorem Wd {ds:List Dt}{x:Nd}(h:∀i (hi:i < ds.length),dtP ds[i]=true):By ds x= (decide (Ba x≤24)&& Ao x):=by
 unfold By;rw[DT h,Hb]
theorem O7 (ds:List Dt) (x:Nd) (dv kv:Value) (B B':Nat) (w:World) (hz:SzP ds x) (hd:RdDts B w dv ds) (hr:RdNs B' w kv x.kids)
  (hv:∀d∈ds, -9223372036854775807≤d.vars∧d.vars≤9223372036854775807):
  Calls Pq 53 #[pgV dv x kv] w fun e w'=>e= .returned (.bool (By ds x))∧Below w.heap.size w w':=by
 obtain⟨z1,z2,z3⟩:=hz;have HD:=Aa (fun(W:World) (hb:Below w.heap.size w W)=>hd.later' hb);have DE:=Aa (fun(W:World) (hb:Below w.heap.size w W)=>LT _ x kv _ W (Ad _) z3 (hr.later' hb));have EE:=Aa (fun(W:World) (hb:Below w.heap.size w W)=>Ky 1048577 x kv _ W (by omega) z2 (hr.later' hb));have TD:=Aa (fun(i:Nat) (hi:i < ds.length) (k:Nat) (hk:k < ds[i].cons.length) (j:Nat) (hj:j < ds[i].cons[k].args.length) (kv:Value) (B:Nat) (W:World) (h:RdTps B W kv ds[i].cons[k].args[j].kids)=>(by
  have h1:=Dx (As hi);have h2:=Eh (As hk);have h3:=CJ (As hj);unfold wgD at h1;unfold wgC at h2;exact Pa 1048577 _ kv B W (by omega) (by omega) h:Calls Pq 111 #[tpV ds[i].cons[k].args[j] kv] W fun e w'=>e= .returned (.int .i64 (AC ds[i].cons[k].args[j]))∧Below W.heap.size W w'))
 have TT:=Aa (fun(i:Nat) (hi:i < ds.length) (k:Nat) (hk:k < ds[i].cons.length) (j:Nat) (hj:j < ds[i].cons[k].args.length) (kv:Value) (B:Nat) (W:World) (h:RdTps B W kv ds[i].cons[k].args[j].kids)=>(by
  have h1:=Dx (As hi);have h2:=Eh (As hk);have h3:=CJ (As hj);unfold wgD at h1;unfold wgC at h2;exact Pb ds[i].vars (hv _ (As hi)) 1048577 _ kv B W (by omega) (by omega) h:Calls Pq 112 #[tpV ds[i].cons[k].args[j] kv,.int .i64 ds[i].vars] W fun e w'=>e= .returned (.bool (AW ds[i].vars ds[i].cons[k].args[j]))∧Below W.heap.size W w'))
 have SZ:=Aa (fun(i:Nat) (hi:i < ds.length)=>(by
  have h1:=Dx (As hi);have h2:=Fa ds[i].cons;unfold wgD at h1;exact⟨by omega,by omega,fun k hk=>by
   have h2:=Eh (As hk);have h3:=DS ds[i].cons[k].args;unfold wgC at h2;exact⟨by omega,by omega⟩⟩:ds[i].name.size≤1048576∧ds[i].cons.length≤1048576∧ ∀k (hk:k < ds[i].cons.length),ds[i].cons[k].name.size≤1048576∧ds[i].cons[k].args.length≤1048576))
 have hln:=De ds;have hds:ds.length≤1048576:=by omega
 obtain⟨da,dc,rfl⟩:=hd.form;have HTn:=Aa (fun(i:Nat) (hi:i < ds.length) (h:dtP ds[i]=false)=>Wc (x:=x) hi h);have HTy:=Aa (fun(h:∀i (hi:i < ds.length),dtP ds[i]=true)=>Wd (x:=x) h);clear hd hr hv z1 z2 z3 hln;unfold ndV tpV at*;unfold pgV;generalize Ba x=dpx at*;generalize Ao x=npx at*;generalize x.op=xop at*;generalize x.n=xn at*;generalize x.s=xs at*;generalize x.t=xt at*;generalize By ds x=tp at*;go_enter Tryz.func53,Tryz.ntmps53;go_wp2_with fail;generalize hxx:w.alloc _=x0;obtain⟨bb,k1⟩:=Bx.alloc hxx;clear hxx;go_wp2
 go_loopw [3] (fun i wr=>∃k:Nat,k≤ds.length∧i= .int .i64 k∧Below w.heap.size w wr∧Bx wr w.heap.size #[.slice da ds.length dc,.int .i64 xop,.int .i64 xn,.string xs,.string xt,kv]∧Hid (∀j (h:j < ds.length),j < k→dtP ds[j]=true)) (fun i _=>ds.length - (intOf i).toNat)
 case atStart=>exact⟨0,Av _,rfl,bb,k1,Aa (fun j h hk=>absurd hk (Ay j))⟩
 case round=>
  clear bb k1;obtain⟨i,hi,rfl,bb,k1,hd⟩:=hrel;by_cases hlt:i < ds.length
  ·have HTk:=Aa (HTn.out i hlt);have TDi:=Aa (TD.out i hlt);have TTi:=Aa (TT.out i hlt);obtain⟨zz1,zz2,zz3⟩:=SZ.out i hlt;have zz3:=Aa zz3;have HDY:=Aa (fun(hy:dtP ds[i]=true)=>(fun j h hj=>(by
     by_cases e:j=i
     ·subst e;exact hy
     ·exact hd.out j h (by omega)):∀j (h:j < ds.length),j < i+1→dtP ds[j]=true))
   obtain⟨b,off,cap,cv,hv,hB,hbs,hcap,c0,c1,c2,hkr⟩:=(HD.out wr bb).at_ hlt;cases hv
   have hki:(i:Int) < (ds.length:Int):=by omega
   have HC:=Aa (fun(W:World) (hb:Below wr.heap.size wr W)=>hkr.later' hb);obtain⟨ca,cc,rfl⟩:=hkr.form;have q1:=k1.2.1;have hE:dtP ds[i]= (Bb ds[i].name&& (inB ds[i].vars 0 26&& (decide (ds[i].cons.length≠0)&& ds[i].cons.all (cnP ds[i].vars)))):=rfl;have HE:=Aa hE;clear hkr hE TD TT SZ;generalize dtP ds[i]=dd at*;generalize ds[i]=d at*;obtain⟨dn,dvs,dcs⟩:=d;dsimp only at*;go_wp2_with fail;generalize hyy:Wa _ _=wy;obtain⟨by_,k2⟩:=Bx.alloc hyy;clear hyy c0 c1 c2 q1;have hs0:=bb.size;replace k1:=k1.below by_ k1.1;have by1:=by_;replace bb:=bb.trans (by_.mono hs0);refine(GY dn wy zz1).mono ?_;rintro e w2 ⟨rfl,b2⟩;replace k1:=k1.below b2 k1.1;replace k2:=k2.below b2 k2.1;replace bb:=bb.trans (b2.mono bb.size);replace by_:=by_.trans (b2.mono by_.size);clear b2;cases hcn:Bb dn with
   |false=>
    have hcn:=Aa hcn;go_wp2;go_ret;exact⟨Ae (HTk.out (by rw[HE.out,hcn.out];rfl)).symm,bb⟩
   |true=>
   have hcn:=Aa hcn;have hin:=fun(W:World)=>Ei dvs 0 26 W;cases hvb:inB dvs 0 26 with
   |false=>
    rw[hvb]at hin;have hvb:=Aa hvb;have q2:=k2.2.1;go_wp2_with fail;refine(hin _).mono ?_;rintro e w3 ⟨rfl,rfl⟩;clear q2 hin;go_wp2;go_ret;exact⟨Ae (HTk.out (by rw[HE.out,hvb.out];simp)).symm,bb⟩
   |true=>
   rw[hvb]at hin;have hvb:=Aa hvb;have q2:=k2.2.1;go_wp2_with fail;refine(hin _).mono ?_;rintro e w3 ⟨rfl,rfl⟩;clear hin;by_cases hl0:dcs.length=0
   ·have k0b:((dcs.length:Int)==0)=true:=by rw[BL];exact AN hl0
    have hl0:=Aa hl0;go_wp2;go_ret;exact⟨Ae (HTk.out (by rw[HE.out];simp[hl0.out])).symm,bb⟩
   have k0b:((dcs.length:Int)==0)=false:=by rw[BL];exact AG hl0
   have HE:Hid (dcs.all (cnP dvs)=dd):=Aa (by rw[HE.out,hcn.out,hvb.out];simp[hl0]);clear hcn hvb;have hl0:=Aa hl0;have BW:=Aa bb;have BY:=Aa by_;go_wp2_with fail;obtain⟨wo,rfl⟩:∃W,W=wr:=⟨wr,rfl⟩
   go_loopw [5] (fun v wr=>∃k:Nat,k≤dcs.length∧v= .int .i64 k∧Below w2.heap.size w2 wr∧Hid (∀l (hl:l < dcs.length),l < k→cnP dvs dcs[l]=true)) (fun v _=>dcs.length - (intOf v).toNat)
   case atStart=>exact⟨0,Av _,rfl,Ac _ _,Aa (fun j h hk=>absurd hk (Ay j))⟩
   case round=>
    clear q2;obtain⟨k,hk,rfl,bz,hdk⟩:=hrel;have k1z:=k1.below bz k1.1;have k2z:=k2.below bz k2.1;have byz:=BY.out.trans (bz.mono BY.out.size);have q2:=k2z.2.1;by_cases hlk:k < dcs.length
    ·obtain⟨b',off',cap',av,hv',hB',hbs',hcap',d0,d1,hka⟩:=(HC.out wr byz).at_ hlk;cases hv'
     have hkk:(k:Int) < (dcs.length:Int):=by omega
     obtain⟨zc1,zc2⟩:=zz3.out k hlk;have HA:=Aa (fun(W:World) (hb:Below wr.heap.size wr W)=>hka.later' hb);have TDk:=Aa (TDi.out k hlk);have TTk:=Aa (TTi.out k hlk);have HDK:=Aa (fun(hy:cnP dvs dcs[k]=true)=>(fun l h hj=>(by
      by_cases e:l=k
      ·subst e;exact hy
      ·exact hdk.out l h (by omega)):∀l (h:l < dcs.length),l < k+1→cnP dvs dcs[l]=true))
     have HAB:=Aa (fun(j:Nat) (hj:j < dcs[k].args.length) h=>V8 (vars:=dvs) hlk hj h);have HCB:=Aa (fun h=>V9 (vars:=dvs) hlk h);have HCG:=Aa (@Wb (dcs[k]'hlk) dvs);obtain⟨aa,ac,rfl⟩:=hka.form;clear hka;generalize hdck:dcs[k]=c at*;have HDCK:=Aa hdck;clear hdck;go_wp2_with fail;clear d0 d1 q2;refine(GY c.name wr zc1).mono ?_;rintro e w4 ⟨rfl,b4⟩;have hs3:=bz.size;replace k1z:=k1z.below b4 k1z.1;replace k2z:=k2z.below b4 k2z.1;replace byz:=byz.trans (b4.mono byz.size);replace bz:=bz.trans (b4.mono hs3);cases hcc:Bb c.name with
     |false=>
      have hcc:=Aa hcc;have bt:=BW.out.trans (bz.mono BW.out.size);go_wp2;go_ret;exact⟨Ae (HTk.out (by rw[←HE.out];exact HCB.out hcc.out)).symm,bt⟩
     |true=>
     have hcc:=Aa hcc;have BK:=Aa bz;have B4:=Aa b4;have BYZ:=Aa byz;clear bz b4 byz;go_wp2_with fail;obtain⟨wm,rfl⟩:∃W,W=wr:=⟨wr,rfl⟩
     go_loopw [6] (fun v wu=>∃j:Nat,j≤c.args.length∧v= .int .i64 j∧Below w4.heap.size w4 wu∧Hid (∀l (hl:l < c.args.length),l < j→(decide (AC c.args[l]≤24)&& AW dvs c.args[l])=true)) (fun v _=>c.args.length - (intOf v).toNat)
     case atStart=>exact⟨0,Av _,rfl,Ac _ _,Aa (fun j h hk=>absurd hk (Ay j))⟩
     case round=>
      obtain⟨j,hj,rfl,bu,hdj⟩:=hrel;have k1u:=k1z.below bu k1z.1;have k2u:=k2z.below bu k2z.1;have b4u:=B4.out.trans (bu.mono B4.out.size);have byu:=BYZ.out.trans (bu.mono BYZ.out.size);have q2:=k2u.2.1;obtain⟨b',off',cap',av,hv',hB',hbs',hcap',d0,d1,hka⟩:=(HC.out wr byu).at_ hlk;cases hv'
      rw[HDCK.out]at d0 hka;by_cases hlj:j < c.args.length
      ·obtain⟨ab,ao,acp,kt,hvt,hBt,hbt,hcapt,⟨e0,e1,e2,e3⟩,hkt⟩:=hka.at_ hlj;cases hvt
       have hjj:(j:Int) < (c.args.length:Int):=by omega
       obtain⟨ta,tc,rfl⟩:=hkt.form;have HKT:=Aa (fun(W:World) (hb:Below wr.heap.size wr W)=>hkt.later' hb);have TDj:=Aa (TDk.out j hlj);have TTj:=Aa (TTk.out j hlj);have HBj:=Aa (HAB.out j hlj);have HDJ:=Aa (fun(hy:(decide (AC c.args[j]≤24)&& AW dvs c.args[j])=true)=>(fun l h hl=>(by
        by_cases e:l=j
        ·subst e;exact hy
        ·exact hdj.out l h (by omega)):∀l (h:l < c.args.length),l < j+1→(decide (AC c.args[l]≤24)&& AW dvs c.args[l])=true))
       clear hka hkt;have hb1:b' < wr.heap.size:=hbs';have hb2:ab < wr.heap.size:=hbt;have p2:=q2 2;have p1:=q2 1;have hb3:=k2u.1;clear q2 d0;generalize c.args[j]=ty at*;generalize AC ty=dt at*;generalize AW dvs ty=tt at*;replace p1:wr.cell? ⟨wo.heap.size,1,none⟩=some (.int .i64 dvs):=p1;replace p2:wr.cell? ⟨wo.heap.size,2,none⟩=some (.slice (some ⟨b',off',none⟩) dcs.length cc):=p2;have hS0:∀W,Below wr.heap.size wr W→W.cell? ⟨wo.heap.size,1,none⟩=some (.int .i64 dvs)∧W.cell? ⟨wo.heap.size,2,none⟩=some (.slice (some ⟨b',off',none⟩) dcs.length cc)∧W.cell? ⟨b',off'+k*2+1,none⟩=some (.slice (some ⟨ab,ao,none⟩) c.args.length acp)∧W.cell? ⟨ab,ao+j*4,none⟩=some (.int .i64 ty.op)∧W.cell? ⟨ab,ao+j*4+1,none⟩=some (.int .i64 ty.n)∧W.cell? ⟨ab,ao+j*4+2,none⟩=some (.string ty.s)∧W.cell? ⟨ab,ao+j*4+3,none⟩=some (.slice ta ty.kids.length tc):=fun W hb=>
        ⟨(hb.cell (p:=⟨wo.heap.size,1,none⟩) hb3).trans p1,(hb.cell (p:=⟨wo.heap.size,2,none⟩) hb3).trans p2,(hb.cell (p:=⟨b',off'+k*2+1,none⟩) hb1).trans d1,(hb.cell (p:=⟨ab,ao+j*4,none⟩) hb2).trans e0,(hb.cell (p:=⟨ab,ao+j*4+1,none⟩) hb2).trans e1,(hb.cell (p:=⟨ab,ao+j*4+2,none⟩) hb2).trans e2,(hb.cell (p:=⟨ab,ao+j*4+3,none⟩) hb2).trans e3⟩
       have HS0:=Aa hS0;clear hS0;go_wp2_with fail;clear p1 p2 d1 e0 e1 e2 e3;refine wp_region_held_drew (S:=(fun W=>W.cell? ⟨wo.heap.size,1,none⟩=some (.int .i64 dvs)∧W.cell? ⟨wo.heap.size,2,none⟩=some (.slice (some ⟨b',off',none⟩) dcs.length cc)∧W.cell? ⟨b',off'+k*2+1,none⟩=some (.slice (some ⟨ab,ao,none⟩) c.args.length acp)∧W.cell? ⟨ab,ao+j*4,none⟩=some (.int .i64 ty.op)∧W.cell? ⟨ab,ao+j*4+1,none⟩=some (.int .i64 ty.n)∧W.cell? ⟨ab,ao+j*4+2,none⟩=some (.string ty.s)∧W.cell? ⟨ab,ao+j*4+3,none⟩=some (.slice ta ty.kids.length tc))) (by kernel_rfl) (by first | (dsimp only;exact HS0.out _ (Below.refl _ _).drew) | (exact HS0.out _ (Below.refl _ _).drew)) (fun hHeld=> ?_);generalize hxd:wr.drew=x1 at hHeld ⊢;have hd1:Below wr.heap.size wr x1:=by rw[←hxd];exact(Ac _ _).drew
       clear hxd;refine tkH (i:=0) ?_;refine tkH (i:=1) ?_;refine tkH (i:=2) ?_;refine tkH (i:=3) ?_;refine tkH (i:=4) ?_;refine tkH (i:=5) ?_;refine tkH (i:=6) ?_;refine tkH (i:=7) ?_;refine tkH (i:=8) ?_;refine rdH (i:=9) (fun K hK=> ?_);go_simp;refine(TDj.out _ _ x1 (HKT.out x1 hd1)).mono ?_;rintro e w6 ⟨rfl,b6⟩;replace b6:=hd1.trans (b6.mono hd1.size);refine bkH hK (by first | (dsimp only;exact HS0.out _ b6) | (exact HS0.out _ b6)) (fun hHeld=> ?_);clear hK K;by_cases hdl:dt≤24
       ·have hdb:decide ((dt:Int) > 24)=false:=by simp;omega
        have hdi:¬((dt:Int) > 24):=by omega
        have hdl':=Aa hdl;clear hdl;refine tkH (i:=10) ?_;refine tkH (i:=11) ?_;refine tkH (i:=12) ?_;refine tkH (i:=13) ?_;refine tkH (i:=14) ?_;refine tkH (i:=15) ?_;refine tkH (i:=16) ?_;refine tkH (i:=17) ?_;refine tkH (i:=18) ?_;refine tkH (i:=19) ?_;refine tkH (i:=20) ?_;refine tkH (i:=21) ?_;refine tkH (i:=22) ?_;refine rdH (i:=23) (fun K hK=> ?_);go_simp;refine(TTj.out _ _ w6 (HKT.out w6 b6)).mono ?_;rintro e w7 ⟨rfl,b7⟩;replace b7:=b6.trans (b7.mono b6.size);refine bkH hK (by first | (dsimp only;exact HS0.out _ b7) | (exact HS0.out _ b7)) (fun hHeld=> ?_);clear hK K;refine tkH (i:=24) ?_;refine tkH (i:=25) ?_;refine Bs (by kernel_rfl) ?_ _;have b7u:=bu.trans (b7.mono bu.size);cases tt with
        |true=>
         have hy:=Aa (HDJ.out (by rw[AN hdl'.out];rfl));clear hdb hdi b6 b7 hd1;go_wp2;go_roundw
         case rel=>exact⟨j+1,hlj,by go_num,b7u,hy⟩
         case measure=>simp[intOf];omega
        |false=>
         have hy:=Aa (HBj.out (by simp));have bt:=BW.out.trans ((BK.out.trans (b7u.mono BK.out.size)).mono BW.out.size);clear hdb hdi b6 b7 hd1;go_wp2;go_ret;exact⟨Ae (HTk.out (by rw[←HE.out];exact hy.out)).symm,bt⟩
       ·have hdb:decide ((dt:Int) > 24)=true:=by simp;omega
        have hdi:(dt:Int) > 24:=by omega
        have hdl':=Aa hdl;clear hdl;refine tkH (i:=10) ?_;refine tkH (i:=11) ?_;refine skH (i:=12) ?_;refine skH (i:=13) ?_;refine skH (i:=14) ?_;refine skH (i:=15) ?_;refine skH (i:=16) ?_;refine skH (i:=17) ?_;refine skH (i:=18) ?_;refine skH (i:=19) ?_;refine skH (i:=20) ?_;refine skH (i:=21) ?_;refine skH (i:=22) ?_;refine skH (i:=23) ?_;refine skH (i:=24) ?_;refine tkH (i:=25) ?_;refine Bs (by kernel_rfl) ?_ _;have hy:=Aa (HBj.out (by rw[AG hdl'.out];rfl));have b7u:=bu.trans (b6.mono bu.size);have bt:=BW.out.trans ((BK.out.trans (b7u.mono BK.out.size)).mono BW.out.size);clear hdb hdi b6 hd1;go_wp2;go_ret;exact⟨Ae (HTk.out (by rw[←HE.out];exact hy.out)).symm,bt⟩
      ·obtain rfl:j=c.args.length:=by omega
       have hy:=Aa (HDK.out (HCG.out hcc.out fun l hl=>hdj.out l hl hl));have bt:=BK.out.trans (bu.mono BK.out.size);obtain⟨a2,ac2,hv2⟩:=hka.form;cases hv2
       clear hka;go_wp2;go_roundw
       case rel=>exact⟨k+1,hlk,by go_num,bt,hy⟩
       case measure=>simp[intOf];omega
    ·obtain rfl:k=dcs.length:=by omega
     have hy:=Aa (HDY.out (HE.out.symm.trans (DT fun l hl=>hdk.out l hl hl)));have bt:=BW.out.trans (bz.mono BW.out.size);go_wp2;go_roundw
     case rel=>exact⟨i+1,hlt,by go_num,bt,k1z,hy⟩
     case measure=>simp[intOf];omega
  ·obtain rfl:i=ds.length:=by omega
   have hy:=Aa (HTy.out fun j hj=>hd.out j hj hj);have q1:=k1.2.1;go_wp2_with fail;clear q1;refine(DE.out _ bb).mono ?_;rintro e w3 ⟨rfl,b3⟩;replace k1:=k1.below b3 k1.1;replace bb:=bb.trans (b3.mono bb.size);clear b3;have q1:=k1.2.1;by_cases hdl:dpx≤24
   ·have hdi:(dpx:Int)≤24:=by omega
    have hdl':=Aa hdl;clear hdl;go_wp2_with fail;clear q1;refine(EE.out _ bb).mono ?_;rintro e w4 ⟨rfl,b4⟩;replace bb:=bb.trans (b4.mono bb.size);go_wp2;go_ret;exact⟨Ae (by rw[hy.out,AN hdl'.out];rfl),bb⟩
   ·have hdi:¬((dpx:Int)≤24):=by omega
    have hdl':=Aa hdl;clear hdl;go_wp2;go_ret;exact⟨Ae (by rw[hy.out,AG hdl'.out];rfl),bb⟩
theorem Bx.put6 {w:World}{g:Nat}{z0 z1 z2 z3 z4 z5:Value}(k:Bx w g #[z0,z1,z2,z3,z4,z5]) (a0 a1 a2 a3 a4 a5:Value):
  Bx ((((((w.setCell ⟨g,0,none⟩ a0).setCell ⟨g,1,none⟩ a1).setCell ⟨g,2,none⟩ a2).setCell ⟨g,3,none⟩ a3).setCell ⟨g,4,none⟩ a4).setCell ⟨g,5,none⟩ a5) g #[a0,a1,a2,a3,a4,a5]∧w.grownBy ((((((w.setCell ⟨g,0,none⟩ a0).setCell ⟨g,1,none⟩ a1).setCell ⟨g,2,none⟩ a2).setCell ⟨g,3,none⟩ a3).setCell ⟨g,4,none⟩ a4).setCell ⟨g,5,none⟩ a5) (some g):=by
 have:=(((((k.st 0 (by simp) a0).st 1 (by simp) a1).st 2 (by simp) a2).st 3 (by simp) a3).st 4 (by simp) a4).st 5 (by simp) a5;exact⟨by simpa using this,(((((grownBy.setCell w g 0 a0).trans' (grownBy.setCell _ g 1 a1)).trans' (grownBy.setCell _ g 2 a2)).trans' (grownBy.setCell _ g 3 a3)).trans' (grownBy.setCell _ g 4 a4)).trans' (grownBy.setCell _ g 5 a5)⟩
theorem Ql {w x:World}{cur cur2:Array Value}{e e2:TypeId}(h:(w.alloc (.cells cur e)).alloc (.cells cur2 e2)=x):Below w.heap.size w x∧Bx x w.heap.size cur∧Bx x (w.heap.size+1) cur2:=by
 obtain⟨b1,k1⟩:=Bx.alloc (w:=w) (cur:=cur) (e:=e) rfl;obtain⟨b2,k2⟩:=Bx.alloc h;simp only[BM]at b2 k2;exact⟨b1.trans (b2.mono (by omega)),k1.below b2 (by omega),k2⟩
inductive OwI (w:World):Nat→Nat→Value→List Nd→Prop
 |nil (s e:Nat):OwI w s e (.slice none 0 0) []
 |row (s e b cap lo:Nat) (ks:List Nd) (kv:Nat→Value) (ss es:Nat→Nat) (hb:s≤b∧b < e) (ho:w.ownsRow lo 41 5 (.slice (some ⟨b,0,none⟩) ks.length cap) ks.length (CR ks kv))
   (hi:∀j,j < ks.length→s≤ss j∧es j≤e∧ ¬(ss j≤b∧b < es j)) (hd:∀i j,i < j→j < ks.length→es i≤ss j) (hk:∀j (h:j < ks.length),OwI w (ss j) (es j) (kv j) ks[j].kids):OwI w s e (.slice (some ⟨b,0,none⟩) ks.length cap) ks
theorem OwI.keep {s e:Nat}{w w':World}{v:Value}{ks:List Nd}(h:OwI w s e v ks) (t:∀b,s≤b→b < e→b < w.heap.size→w'.heap[b]?=w.heap[b]?):OwI w' s e v ks:=by
 induction h with
 |nil=>exact .nil _ _
 |row s e b cap lo ks kv ss es hb ho hi hd _ ih=>
  have hl:=(ho.lt b rfl).2;exact .row s e b cap lo ks kv ss es hb (Fi ho (fun q e=>by cases e;exact t b hb.1 hb.2 hl)) hi hd (fun j hj=>ih j hj (fun q h1 h2 h3=>t q (by have:=hi j hj;omega) (by have:=hi j hj;omega) h3))
theorem OwI.widen {s e s' e':Nat}{w:World}{v:Value}{ks:List Nd}(h:OwI w s e v ks) (h1:s'≤s) (h2:e≤e'):OwI w s' e' v ks:=by
 cases h with
 |nil=>exact .nil _ _
 |row _ _ b cap lo _ kv ss es hb ho hi hd hk=>exact .row s' e' b cap lo ks kv ss es ⟨by omega,by omega⟩ ho (fun j hj=>by have:=hi j hj;omega) hd hk
theorem OwI.form {s e:Nat}{w:World}{v:Value}{ks:List Nd}(h:OwI w s e v ks):∃a cap,v= .slice a ks.length cap:=by
 cases h with
 |nil=>exact⟨none,0,rfl⟩
 |row=>exact⟨_,_,rfl⟩
theorem OwI.ow {s e:Nat}{w:World}{v:Value}{ks:List Nd}(h:OwI w s e v ks):OwN (fun _=>True) w v ks:=by
 induction h with
 |nil=>exact .nil
 |row s e b cap lo ks kv ss es hb ho hi hd _ ih=>exact .row b cap lo ks kv trivial ho ih
structure CpI (w W:World) (x:Nd) (k:Nat) (kv:Value):Prop where
 bb:Below w.heap.size w W
 bo:Bx W w.heap.size #[.int .i64 0,.int .i64 0,.string ⟨#[]⟩,.string ⟨#[]⟩,.slice none 0 0]
 bt:Bx W (w.heap.size+1) (ndC x kv)
 row:∃ (kvs:Nat→Value) (ss es:Nat→Nat),W.ownsRow (w.heap.size+2) 41 5 kv k (CR (x.kids.take k) kvs)∧(∀i j,i < j→j < k→es i≤ss j)∧ ∀j (h:j < x.kids.length),j < k→(w.heap.size+2≤ss j∧es j≤W.heap.size∧ ∀q,kv.ownBlock=some q→ ¬(ss j≤q∧q < es j))∧OwI W (ss j) (es j) (kvs j) x.kids[j].kids
section
variable {w W W':World}{x:Nd}{k:Nat}{kv:Value}
theorem CpI.same (h:CpI w W x k kv) (b:Below W.heap.size W W'):CpI w W' x k kv:=by
 obtain⟨kvs,ss,es,ho,hd,hr⟩:=h.row;exact⟨h.bb.trans (b.mono h.bb.size),h.bo.below b h.bo.1,h.bt.below b h.bt.1,kvs,ss,es,CE ho b (Cj ho),hd,fun j hj hk=>⟨⟨(hr j hj hk).1.1,Ar (hr j hj hk).1.2.1 b.size,(hr j hj hk).1.2.2⟩,(hr j hj hk).2.keep fun q h1 h2 hl=>b.block q hl⟩⟩
theorem CpI.form (h:CpI w W x k kv):∃a cap,kv= .slice a k cap:=by
 obtain⟨kvs,ss,es,ho, -⟩:=h.row;exact A2 ho
theorem CpI.lt (h:CpI w W x k kv):∀q,kv.ownBlock=some q→w.heap.size+2≤q∧q < W.heap.size:=by
 obtain⟨kvs,ss,es,ho, -⟩:=h.row;exact fun q e=>ho.lt q e
theorem CpI.app (h:CpI w W x k kv) {N:Nat}{v:Value}(hk:k < x.kids.length) (hb:Below W.heap.size W W') (hN:N≤W'.heap.size) (hc:OwI W' W.heap.size N v x.kids[k].kids):∃ps,W'.ownsRow (w.heap.size+2) 41 5 kv k ps∧ ∀ (v':Value) (w4:World),w4.ownsRow (w.heap.size+2) 41 5 v' (k+1) (ps++ (ndC x.kids[k] v).toList)→W'.grownBy w4 kv.ownBlock→
  (v'.ownBlock=kv.ownBlock∨ ∃q,v'.ownBlock=some q∧W'.heap.size≤q)→CpI w (w4.setCell ⟨w.heap.size+1,4,none⟩ v') x (k+1) v':=by
 have hlt:=h.lt;have h':=h.same hb;have hbt:=h.bt.1;obtain⟨kvs,ss,es,ho0,hd,hr0⟩:=h.row;have hps:=CE ho0 hb (Cj ho0);refine⟨_,hps,fun v' w4 ho hg hat=> ?_⟩;have hsz:w4.heap.size= (w4.setCell ⟨w.heap.size+1,4,none⟩ v').heap.size:=(AS ..).symm;have hq0:∀q,kv.ownBlock=some q→w.heap.size+2≤q:=fun q hq=>(hlt q hq).1;have hs:=grownBy.setCell w4 (w.heap.size+1) 4 v';have hblk:∀b,b < W'.heap.size→b≠w.heap.size+1→kv.ownBlock≠some b→(w4.setCell ⟨w.heap.size+1,4,none⟩ v').heap[b]?=W'.heap[b]?:=fun b hb h1 h2=>
  (hs.block b (Aj hb hg.size) (fun e=>h1 (Ah e))).trans (hg.block b hb (fun e=>h2 e.symm))
 have hbW:Below w.heap.size W' (w4.setCell ⟨w.heap.size+1,4,none⟩ v'):=⟨hg.os,hg.tape,hg.output,by rw[←hsz];exact hg.size,fun q hq=>hblk q (by have:=h'.bb.size;omega) (by omega) (fun e=>by have:=hq0 q e;omega)⟩;have htl:(x.kids.take k).length=k:=by rw[Hd];omega
 have hts:x.kids.take (k+1)=x.kids.take k++ [x.kids[k]]:=by rw[He,Bl hk];rfl
 have hws:=hb.size;refine⟨h'.bb.trans hbW,?_,?_,fun j=>if j < k then kvs j else v,fun j=>if j < k then ss j else W.heap.size,fun j=>if j < k then es j else N,?_,fun i j hij hjk=> ?_,fun j hj hjk=> ?_⟩
 ·have:=hblk w.heap.size h'.bo.1 (by omega) (fun e=>by have:=hq0 _ e;omega);exact⟨by rw[←hsz];exact Aj h'.bo.1 hg.size,fun j=>(An this).trans (h'.bo.2.1 j),fun j=>(DG this).trans (h'.bo.2.2 j)⟩
 ·have h4:Bx w4 (w.heap.size+1) (ndC x kv):=h'.bt.grown hg (fun e=>by have:=hq0 _ e.symm;omega);have:=h4.st 4 (by simp[ndC]) v'
  simpa [ndC] using this
 ·have:=LB (x.kids.take k) kvs x.kids[k] v;rw[htl,←hts]at this;rw[←this];refine ho.kept hs ?_;cases hq:v'.ownBlock with
  |none=>exact .inl rfl
  |some q=>exact .inr (fun e=>by have:=(ho.lt q hq).1;have:=Ah e;omega)
 ·dsimp only;rw[Ag (show i < k by omega)];by_cases hj2:j < k
  ·rw[Ag hj2];exact hd i j hij hj2
  ·rw[Ab hj2];exact(hr0 i (by omega) (by omega)).1.2.1
 ·dsimp only;by_cases hj2:j < k
  ·rw[Ag hj2,Ag hj2,Ag hj2];obtain⟨⟨h1,h2,h3⟩,h4⟩:=hr0 j hj hj2;refine⟨⟨h1,by rw[←hsz];exact Ar h2 (Ar hws hg.size),fun q hq=> ?_⟩,(h4.keep fun q e1 e2 hl=>hb.block q hl).keep fun q e1 e2 hl=>hblk q hl (by omega) (fun e=>h3 q e ⟨e1,e2⟩)⟩;rcases hat with e2 |⟨q2,e2,e3⟩
   ·exact h3 q (e2.symm.trans hq)
   ·rw[e2]at hq;have:=Ah hq;omega
  ·obtain rfl:j=k:=by omega
   rw[Ab hj2,Ab hj2,Ab hj2];refine⟨⟨by omega,by rw[←hsz];exact Ar hN hg.size,fun q hq=> ?_⟩,hc.keep fun q e1 e2 hl=>hblk q hl (by omega) (fun e=>by have:=(hlt q e).2;omega)⟩;rcases hat with e2 |⟨q2,e2,e3⟩
   ·have:=(hlt q (e2.symm.trans hq)).2;omega
   ·rw[e2]at hq;have:=Ah hq;omega
theorem CpI.done (h:CpI w W x x.kids.length kv):OwI W (w.heap.size+2) W.heap.size kv x.kids:=by
 obtain⟨kvs,ss,es,ho,hd,hr⟩:=h.row;rw[CL]at ho;have hl:=ho.lt;rcases ho.2 with ⟨rfl,h0⟩ |⟨q,cap,cu,rfl,hbq,_⟩
 ·rw[List.eq_nil_of_length_eq_zero h0];exact .nil _ _
 ·exact .row _ _ q cap _ x.kids kvs ss es ⟨hbq,(hl q rfl).2⟩ ho (fun j hj=>⟨(hr j hj hj).1.1,(hr j hj hj).1.2.1,(hr j hj hj).1.2.2 q rfl⟩) hd (fun j hj=>(hr j hj hj).2)
end
theorem Lz:∀ (M:Nat) (x:Nd) (kv:Value) (B:Nat) (w:World),wgN x < M→wgN x≤1048576→RdNs B w kv x.kids→
  Calls Pq 147 #[ndV x kv] w fun e w'=>Below w.heap.size w w'∧ ∃kv',e= .returned (.agg (ndC x kv'))∧OwI w' w.heap.size w'.heap.size kv' x.kids
 |0,x,kv,B,w,hM,hl,hr=>by omega
 |M+1,x,kv,B,w,hM,hl,hr=>by
  have hwg:=Aw x;have hlen:=AU x.kids;have IH:=Aa (fun(j:Nat) (hj:j < x.kids.length) (kv:Value) (W:World) (hb:Below w.heap.size w W) (h2:RdNs w.heap.size W kv x.kids[j].kids)=>(by
   have:=AT (As hj);exact Lz M _ kv _ W (by omega) (by omega) h2:Calls Pq 147 #[ndV x.kids[j] kv] W fun e w'=>Below W.heap.size W w'∧ ∃kv',e= .returned (.agg (ndC x.kids[j] kv'))∧OwI w' W.heap.size w'.heap.size kv' x.kids[j].kids))
  have KL:=Aa (fun(W:World) (hb:Below w.heap.size w W)=>hr.later' hb);have hks:x.kids.length≤1048576:=by omega
  obtain⟨ti,hi,hz0,hz1,hz2⟩:=info_parts Tryz.infoCpN;obtain⟨ka,kc,rfl⟩:=hr.form;clear hr hM hwg hlen hl;unfold ndV;go_enter Tryz.func147,Tryz.ntmps147;go_wp2_with fail;generalize hW:Wa (Wa (Wa _ _) _) _=W1;obtain⟨b1,k1,k2,k3⟩:=LA hW;obtain⟨w1,hw1⟩:∃w1,w.alloc (.cells #[.int .i64 x.op,.int .i64 x.n,.string x.s,.string x.t,.slice ka x.kids.length kc] 41)=w1:=⟨_,rfl⟩;have hs1:w1.heap.size=w.heap.size+1:=by rw[←hw1];simp
  have b1':Below w1.heap.size w1 W1:=by rw[←hW,hw1];exact((Ac _ _).alloc (Ad _) _).alloc (by simp) _
  have S0:CpI w1 W1 x 0 (.slice none 0 0):=⟨b1',by rw[hs1];exact k2,by rw[hs1];exact k3,fun _=> .int .i64 0,fun _=>0,fun _=>0,World.ownsRow_nil _ _ _ _,fun i j _ hj=>absurd hj (Ay j),fun j _ hj=>absurd hj (Ay j)⟩;have HW1:=Aa (show Below w.heap.size w w1 by rw[←hw1];exact(Ac _ _).alloc (Ad _) _);have KB:=Aa k1;clear k2 k3 hW b1' b1 k1 hw1
  go_loopw [4] (fun i wr=>∃ (k:Nat) (kv:Value),k≤x.kids.length∧i= .int .i64 k∧CpI w1 wr x k kv∧Bx wr w.heap.size #[.int .i64 x.op,.int .i64 x.n,.string x.s,.string x.t,.slice ka x.kids.length kc]) (fun i _=>x.kids.length - (intOf i).toNat)
  case atStart=>exact⟨0,_,Av _,rfl,S0,KB.out⟩
  case round=>
   clear S0;obtain⟨k,kv,hk,rfl,hs,kb⟩:=hrel;obtain⟨va,vc,rfl⟩:=hs.form;have qb:=kb.2.1;have lb:=kb.1;have bw:=HW1.out.trans (hs.bb.mono HW1.out.size);by_cases hlt:k < x.kids.length
   ·obtain⟨b,off,cap,kvy,hv,hB',hbs,hcap,⟨d0,d1,d2,d3,d4⟩,hka⟩:=(KL.out wr bw).at_ hlt;cases hv
    have hki:(k:Int) < (x.kids.length:Int):=by omega
    have hk0:(0:Int)≤ (k:Int):=by omega
    obtain⟨kya,kyc,rfl⟩:=hka.form;have HKA:=Aa hka;have HS:=Aa hs;have KB2:=Aa kb;have IHk:=Aa (IH.out k hlt);have HAP:=Aa (fun(W0 W':World) (v:Value) (N:Nat) (h:CpI w1 W0 x k (.slice va k vc)) (hb:Below W0.heap.size W0 W') (hN:N≤W'.heap.size)=>h.app (W':=W') (N:=N) (v:=v) hlt hb hN);clear hka;generalize x.kids[k]=y at*;have HQ:=Aa (fun(W':World) (h:Below wr.heap.size wr W')=>(by
     have j1:=(kb.below h kb.1).2.1;have j2:Bx wr (w1.heap.size+1) _:=HS.out.bt;have j3:=(j2.below h j2.1).2.1;rw[hs1]at j3;exact⟨j3 4,j1 4,(h.cell (p:=⟨b,off+k*5,none⟩) hbs).trans d0,(h.cell (p:=⟨b,off+k*5+1,none⟩) hbs).trans d1,(h.cell (p:=⟨b,off+k*5+2,none⟩) hbs).trans d2,(h.cell (p:=⟨b,off+k*5+3,none⟩) hbs).trans d3,(h.cell (p:=⟨b,off+k*5+4,none⟩) hbs).trans d4⟩:W'.cell? ⟨w.heap.size+2,4,none⟩=some (.slice va k vc)∧W'.cell? ⟨w.heap.size,4,none⟩=some (.slice (some ⟨b,off,none⟩) x.kids.length kc)∧W'.cell? ⟨b,off+k*5,none⟩=some (.int .i64 y.op)∧W'.cell? ⟨b,off+k*5+1,none⟩=some (.int .i64 y.n)∧W'.cell? ⟨b,off+k*5+2,none⟩=some (.string y.s)∧W'.cell? ⟨b,off+k*5+3,none⟩=some (.string y.t)∧W'.cell? ⟨b,off+k*5+4,none⟩=some (.slice kya y.kids.length kyc)))
    clear hs kb d0 d1 d2 d3 d4;go_wp2_with fail;clear qb lb;refine BP 10 (S:=(fun W'=>W'.cell? ⟨w.heap.size+2,4,none⟩=some (.slice va k vc)∧W'.cell? ⟨w.heap.size,4,none⟩=some (.slice (some ⟨b,off,none⟩) x.kids.length kc)∧W'.cell? ⟨b,off+k*5,none⟩=some (.int .i64 y.op)∧W'.cell? ⟨b,off+k*5+1,none⟩=some (.int .i64 y.n)∧W'.cell? ⟨b,off+k*5+2,none⟩=some (.string y.s)∧W'.cell? ⟨b,off+k*5+3,none⟩=some (.string y.t)∧W'.cell? ⟨b,off+k*5+4,none⟩=some (.slice kya y.kids.length kyc))) (by kernel_rfl) (by kernel_rfl) (by first | (dsimp only;exact HQ.out _ (Below.refl _ _).drew) | (exact HQ.out _ (Below.refl _ _).drew)) (fun hHeld=> ?_);generalize hxd:wr.drew=x1 at hHeld ⊢;have hd:Below wr.heap.size wr x1:=by rw[←hxd];exact(Ac _ _).drew
    have h1:=HS.out.same hd;clear hxd;refine tkT (i:=0) ?_;refine tkT (i:=1) ?_;refine tkT (i:=2) ?_;refine tkT (i:=3) ?_;refine tkT (i:=4) ?_;refine tkT (i:=5) ?_;refine tkT (i:=6) ?_;have hvk:∀q,(Value.slice va k vc).ownBlock=some q→q < x1.heap.size:=by
     exact fun q e=>(h1.lt q e).2
    have hw2:w1.heap.size+2≤x1.heap.size:=by have:=h1.bt.1;omega
    have HH1:=Aa h1;have bwx:=bw.trans (hd.mono bw.size);refine rdT (i:=7) (fun K hK=> ?_);go_simp;refine(IHk.out _ x1 bwx (HKA.out.later hd bw.size)).mono ?_;rintro e w2 ⟨b2,kv2,rfl,ct⟩;have h2:=HH1.out.same b2;obtain⟨ka2,kc2,rfl⟩:=ct.form;unfold ndC;refine bkT hK (by first | (dsimp only;exact HQ.out _ (hd.trans (b2.mono hd.size))) | (exact HQ.out _ (hd.trans (b2.mono hd.size)))) (fun hHeld=> ?_);clear hK K;refine rdT (i:=8) (fun K hK=> ?_);go_simp;generalize hy:w2.alloc _=w3;obtain⟨b3,k3⟩:=Bx.alloc hy;have h3:=h2.same b3;refine bkT hK (by first | (dsimp only;exact HQ.out _ (hd.trans ((b2.trans (b3.mono b2.size)).mono hd.size))) | (exact HQ.out _ (hd.trans ((b2.trans (b3.mono b2.size)).mono hd.size)))) (fun hHeld=> ?_);clear hK K;have hd3:Below wr.heap.size wr w3:=hd.trans ((b2.trans (b3.mono b2.size)).mono hd.size);have S3:=HQ.out _ hd3;refine Dn (rs:=[9]) (by kernel_rfl) (by simp) ?_;refine AllReadyT.cons (by (simp only[List.getElem?_toArray,List.getElem?_cons_succ,List.getElem?_cons_zero];rfl)) (fun K hK=> ?_) AllReadyT.nil;rw[Ag (by rfl)];obtain⟨ps,hps,hnext⟩:=HAP.out x1 w3 _ w2.heap.size h1 (b2.trans (b3.mono b2.size)) b3.size (ct.keep fun q h1 h2 hl=>b3.block q hl);refine ED _ _ 39 rfl (w1.heap.size+2) 41 ti _ 5 72 Tryz.underlying39 hi hz0 hz1 hz2 rfl (by decide) _ _ _ rfl hps (ndC y (.slice ka2 y.kids.length kc2)) rfl ?_ w2.heap.size rfl ?_ ?_ ?_ ?_ ?_
    ·simp[Value.oneCell',ndC]
    ·exact k3.2.1
    ·unfold maxLen;omega
    ·omega
    ·have:=b2.size;have:=b3.size;omega
    ·intro v4 w4 o4 g4 alt;obtain⟨a4,c4,rfl⟩:=A2 o4;have HN:=Aa (hnext _ w4 o4 g4 (by
      rcases alt with e |e
      ·exact .inl e
      ·exact .inr ⟨_,e,Ad _⟩))
     have hpl:=hps.lt;have hb3:=hd3.size;have hbw:=bw.size;have hlw:w.heap.size < wr.heap.size:=KB2.out.1;have K4:=h3.bt.grown g4 (fun e=>by have:=hpl _ e.symm;omega);have KB4:=(KB2.out.below hd3 KB2.out.1).grown g4 (fun e=>by have:=hpl _ e.symm;omega);have KB5:=Aa KB4;rw[hs1]at K4;have hcell:∀o,w4.cell? ⟨b,o,none⟩=w3.cell? ⟨b,o,none⟩:=fun o=>An (g4.block b (by omega) (fun e=>by have:=hpl _ e.symm;omega));have S4:w4.cell? ⟨w.heap.size+2,4,none⟩=some (.slice va k vc)∧w4.cell? ⟨w.heap.size,4,none⟩=some (.slice (some ⟨b,off,none⟩) x.kids.length kc)∧w4.cell? ⟨b,off+k*5,none⟩=some (.int .i64 y.op)∧w4.cell? ⟨b,off+k*5+1,none⟩=some (.int .i64 y.n)∧w4.cell? ⟨b,off+k*5+2,none⟩=some (.string y.s)∧w4.cell? ⟨b,off+k*5+3,none⟩=some (.string y.t)∧w4.cell? ⟨b,off+k*5+4,none⟩=some (.slice kya y.kids.length kyc):=by
      refine⟨K4.2.1 4,KB4.2.1 4,(hcell _).trans S3.2.2.1,(hcell _).trans S3.2.2.2.1,(hcell _).trans S3.2.2.2.2.1,(hcell _).trans S3.2.2.2.2.2.1,(hcell _).trans S3.2.2.2.2.2.2⟩
     have q4:=K4.2.1;have f4:=K4.2.2;have y4:=K4.1;refine hK.out _ _ (by first | (dsimp only;exact S4) | (exact S4)) (fun hHeld=> ?_);clear hK K
     try simp only[Act.put,List.setIfInBounds_toArray,List.set_cons_zero,List.set_cons_succ]
     have HN2:=Aa (show CpI w1 (w4.setCell ⟨w.heap.size+2,4,none⟩ (.slice a4 (k+1) c4)) x (k+1) (.slice a4 (k+1) c4)by have:=HN.out;rw[hs1]at this;exact this);have KB6:=Aa (show Bx (w4.setCell ⟨w.heap.size+2,4,none⟩ (.slice a4 (k+1) c4)) w.heap.size _ from KB5.out.grown (grownBy.setCell w4 (w.heap.size+2) 4 _) (fun e=>by have:=Ah e;omega));unfold ndC at q4;clear h1 h2 h3 HH1 K4 KB4 hnext hps alt o4 g4 b2 b3 k3 ct hd hd3 S3 S4 hcell hpl bw bwx;refine BO (by kernel_rfl) ?_;dsimp only[List.drop];go_wp2;go_roundw
     case rel=>exact⟨k+1,_,hlt,by go_num,HN2.out,KB6.out⟩
     case measure=>simp[intOf];omega
   ·obtain rfl:k=x.kids.length:=by omega
    have hki:¬((x.kids.length:Int) < (x.kids.length:Int)):=by omega
    have k1:=hs.bo;have k2:=hs.bt;unfold ndC at k2;rw[hs1]at k1 k2;have HS:=Aa hs;have BW:=Aa bw;clear hs kb bw;have fk1:=k1.2.2;have ck1:=k1.2.1;have yk1:=k1.1;have ck2:=k2.2.1;have yk2:=k2.1;have hne:w.heap.size+1≠w.heap.size+2:=by omega
    go_wp2;generalize hz:Ws (Ws _ _ _) _ _=z;have K1:=HS.out.bo;rw[hs1]at K1;have k5:=(((((K1.st 0 (by simp) (.int .i64 x.op)).st 1 (by simp) (.int .i64 x.n)).st 2 (by simp) (.string x.s)).st 3 (by simp) (.string x.t)).st 4 (by simp) (.slice va x.kids.length vc));have g5:wr.grownBy z (some (w.heap.size+1)):=by
     rw[←hz];exact(((((grownBy.setCell wr (w.heap.size+1) 0 _).trans' (grownBy.setCell _ (w.heap.size+1) 1 _)).trans' (grownBy.setCell _ (w.heap.size+1) 2 _)).trans' (grownBy.setCell _ (w.heap.size+1) 3 _)).trans' (grownBy.setCell _ (w.heap.size+1) 4 _))
    have c9:∀j,z.cell? ⟨w.heap.size+1,j,none⟩= #[.int .i64 x.op,.int .i64 x.n,.string x.s,.string x.t,.slice va x.kids.length vc][j]?:=by
     rw[←hz];exact fun j=>(k5.2.1 j).trans rfl
    refine AA (v:= .agg (ndC x (.slice va x.kids.length vc))) ?_ rfl ⟨BW.out.trans (Below.of_grown g5 BW.out.size (fun q e=>by have:=Ah e;omega)),_,rfl,?_⟩
    ·simp[results,Tryz.results147,go_sem,c9,ndC]
    ·exact(HS.out.done.widen (s':=w.heap.size+2) (by omega) (Ad _)).keep (fun q h1 h2 hl=>g5.block q hl (fun e=>by have:=Ah e;omega)) |>.widen (by omega) g5.size
def OwD (A:Nat→Prop) (w:World) (v:Value) (xs:List Dt):Prop:=
 (xs=[]∧v= .slice none 0 0)∨ ∃ (b cap lo:Nat) (kv:Nat→Value) (ss es:Nat→Nat),A b∧v= .slice (some ⟨b,0,none⟩) xs.length cap∧w.ownsRow lo kDt.e kDt.sz v xs.length (kDt.row xs kv)∧
  (∀i j,i < j→j < xs.length→es i≤ss j)∧ ∀j (h:j < xs.length),OwG kCn (fun c=>A c∧ss j≤c∧c < es j) w (kv j) xs[j].cons
theorem OwD.ow {A:Nat→Prop}{w:World}{v:Value}{xs:List Dt}(h:OwD A w v xs):OwG kDt A w v xs:=by
 rcases h with h |⟨b,cap,lo,kv,ss,es,hb,rfl,ho,hd,hk⟩
 ·exact .inl h
 ·exact .inr ⟨b,cap,lo,kv,hb,rfl,ho,fun j hj=>(OwG.later kCn (hk j hj) (fun q hq hl=>⟨hq.1,hl,rfl⟩):OwG kCn A w (kv j) xs[j].cons)⟩
theorem OwD.form {A:Nat→Prop}{w:World}{v:Value}{xs:List Dt}(h:OwD A w v xs):∃a cap,v= .slice a xs.length cap:=OwG.form kDt h.ow
theorem OwD.later {A A':Nat→Prop}{w w':World}{v:Value}{xs:List Dt}(h:OwD A w v xs) (t:∀b,A b→b < w.heap.size→A' b∧b < w'.heap.size∧w'.heap[b]?=w.heap[b]?):OwD A' w' v xs:=by
 rcases h with h |⟨b,cap,lo,kv,ss,es,hb,rfl,ho,hd,hk⟩
 ·exact .inl h
 ·have hl:=(ho.lt b rfl).2;exact .inr ⟨b,cap,lo,kv,ss,es,(t b hb hl).1,rfl,Fi ho (fun q e=>by cases e;exact(t b hb hl).2.2),hd,fun j hj=>OwG.later kCn (hk j hj) (fun q hq hl=>⟨⟨(t q hq.1 hl).1,hq.2⟩,(t q hq.1 hl).2⟩)⟩
def RwD (lo hi:Nat) (W:World) (xs:List Dt) (k:Nat) (v:Value):Prop:=
 ∃ (kvs:Nat→Value) (ss es:Nat→Nat),W.ownsRow lo kDt.e kDt.sz v k (kDt.row (xs.take k) kvs)∧(∀i j,i < j→j < k→es i≤ss j)∧(∀j,j < k→es j≤hi)∧
  ∀j (h:j < xs.length),j < k→OwG kCn (fun b=>(lo≤b∧v.ownBlock≠some b)∧ss j≤b∧b < es j) W (kvs j) xs[j].cons
section
variable {lo hi:Nat}{W W':World}{xs:List Dt}{k:Nat}{v:Value}
theorem RwD.made {lo g hi:Nat}{W:World}{xs:List Dt}(hg:g=W.heap.size) (hl:lo≤g):RwD lo hi (W.alloc (.cells #[] kDt.e)) xs 0 (.slice (some ⟨g,0,none⟩) 0 0):=
 ⟨fun _=> .int .i64 0,fun _=>0,fun _=>0,by
  have h:kDt.row (xs.take 0) (fun _=>Value.int .i64 0)=[]:=by simp[Kind.row,BF]
  rw[h];exact Ge hg hl,fun i j _ hj=>absurd hj (Ay j),fun j hj=>absurd hj (Ay j),fun j _ hj=>absurd hj (Ay j)⟩
theorem RwD.form (h:RwD lo hi W xs k v):∃a cap,v= .slice a k cap:=by
 obtain⟨kvs,ss,es,ho, -⟩:=h;exact A2 ho
theorem RwD.lt (h:RwD lo hi W xs k v):∀q,v.ownBlock=some q→lo≤q∧q < W.heap.size:=by
 obtain⟨kvs,ss,es,ho, -⟩:=h;exact fun q e=>ho.lt q e
theorem RwD.kept (h:RwD lo hi W xs k v) (hs:W.heap.size≤W'.heap.size) (hb:∀b,lo≤b→b < W.heap.size→W'.heap[b]?=W.heap[b]?):RwD lo hi W' xs k v:=by
 obtain⟨kvs,ss,es,ho,h1,h2,hr⟩:=h;exact⟨kvs,ss,es,Fi ho (fun q e=>hb q (ho.lt q e).1 (ho.lt q e).2),h1,h2,fun j hj hk=>OwG.later kCn (hr j hj hk) fun q hq hl=>⟨hq,Aj hl hs,hb q hq.1.1 hl⟩⟩
theorem RwD.same (h:RwD lo hi W xs k v) (b:Below W.heap.size W W'):RwD lo hi W' xs k v:=h.kept b.size (fun q _ hl=>b.block q hl)
theorem RwD.set (h:RwD lo hi W xs k v) {q o:Nat}{u:Value}(hq:q < lo):RwD lo hi (W.setCell ⟨q,o,none⟩ u) xs k v:=
 h.kept (by rw[AS];exact Ad _) (fun b hb hl=>(grownBy.setCell W q o u).block b hl (fun e=>by have:=Ah e;omega))
theorem RwD.app (h:RwD lo hi W xs k v) {M:Nat}{c:Value}(hk:k < xs.length) (hM:∀q,v.ownBlock=some q→q < M) (hMW:M≤W.heap.size) (hlM:lo≤M) (hiM:hi≤M) (hc:OwG kCn (fun b=>M≤b) W c xs[k].cons):
  ∃ps,W.ownsRow lo kDt.e kDt.sz v k ps∧ ∀ (v':Value) (w4:World),w4.ownsRow lo kDt.e kDt.sz v' (k+1) (ps++ (kDt.cf xs[k] c).toList)→W.grownBy w4 v.ownBlock→(v'.ownBlock=v.ownBlock∨ ∃q,v'.ownBlock=some q∧W.heap.size≤q)→RwD lo W.heap.size w4 xs (k+1) v':=by
 obtain⟨kvs,ss,es,hps,h1,h2,hr2⟩:=h;refine⟨_,hps,fun v' w4 ho hg hat=> ?_⟩;have hblk:∀b,b < W.heap.size→v.ownBlock≠some b→w4.heap[b]?=W.heap[b]?:=fun b hb h2=>hg.block b hb (fun e=>h2 e.symm);have htl:(xs.take k).length=k:=by rw[Hd];omega
 have hts:xs.take (k+1)=xs.take k++ [xs[k]]:=by rw[He,Bl hk];rfl
 refine⟨fun j=>if j < k then kvs j else c,fun j=>if j < k then ss j else M,fun j=>if j < k then es j else W.heap.size,?_,fun i j hij hj=> ?_,fun j hj=> ?_,fun j hj hjk=> ?_⟩
 ·have:=kDt.row_snoc (xs.take k) kvs xs[k] c;rw[htl,←hts]at this;rw[←this];exact ho
 ·dsimp only;rw[Ag (show i < k by omega)];by_cases hj2:j < k
  ·rw[Ag hj2];exact h1 i j hij hj2
  ·rw[Ab hj2];have:=h2 i (by omega);omega
 ·dsimp only;by_cases hj2:j < k
  ·rw[Ag hj2];have:=h2 j hj2;omega
  ·rw[Ab hj2];exact Ad _
 ·dsimp only;by_cases hj2:j < k
  ·simp only[Ag hj2];refine OwG.later kCn (hr2 j hj hj2) fun q hq hl2=>⟨⟨⟨hq.1.1,fun e=> ?_⟩,hq.2⟩,Aj hl2 hg.size,hblk q hl2 hq.1.2⟩
   rcases hat with e2 |⟨q2,e2,e3⟩
   ·exact hq.1.2 (e2.symm.trans e)
   ·rw[e2]at e;have:=Ah e;omega
  ·obtain rfl:j=k:=by omega
   simp only[Ab hj2];refine OwG.later kCn hc fun q hq hl2=>⟨⟨⟨by omega,fun e=> ?_⟩,hq,hl2⟩,Aj hl2 hg.size,hblk q hl2 (fun e=>by have:=hM q e;omega)⟩
   rcases hat with e2 |⟨q2,e2,e3⟩
   ·have:=hM q (e2.symm.trans e);omega
   ·rw[e2]at e;have:=Ah e;omega
theorem RwD.done (h:RwD lo hi W xs xs.length v):OwD (fun b=>lo≤b) W v xs:=by
 obtain⟨kvs,ss,es,ho,h1,h2,hr⟩:=h;rw[CL]at ho;rcases ho.2 with ⟨rfl,h0⟩ |⟨q,cap,cu,rfl,hbq,_⟩
 ·exact .inl ⟨List.eq_nil_of_length_eq_zero h0,rfl⟩
 ·exact .inr ⟨q,cap,_,kvs,ss,es,hbq,rfl,ho,h1,fun j hj=>OwG.later kCn (hr j hj hj) fun q hq hl=>⟨⟨hq.1.1,hq.2⟩,hl,rfl⟩⟩
end
theorem Qj (ds:List Dt) (dv:Value) (B:Nat) (w:World) (hr:RdDts B w dv ds) (hl:AR ds≤1048576):
  Calls Pq 146 #[dv] w fun e w'=>Below w.heap.size w w'∧ ∃v',e= .returned v'∧OwD (fun b=>w.heap.size≤b) w' v' ds:=by
 have HR:=Aa (fun(W:World) (hb:Below w.heap.size w W)=>hr.later' hb);have hln:=De ds;have hds:ds.length≤1048576:=by omega
 have WD:=Aa (fun(k:Nat) (hk:k < ds.length)=>(by have:=Dx (As hk);omega:wgD ds[k]≤1048576));obtain⟨ti,hi,hz0,hz1,hz2⟩:=info_parts Tryz.infoCpT;obtain⟨ci,hci,cz0,cz1,cz2⟩:=info_parts Tryz.infoCnD;obtain⟨di,hdi,dz0,dz1,dz2⟩:=info_parts Tryz.infoDtD;obtain⟨da,dc,rfl⟩:=hr.form;clear hr hl hln;go_enter Tryz.func146,Tryz.ntmps146;go_wp2_with fail;generalize hW:Wa _ _=W1;have R0:RwD w.heap.size 0 W1 ds 0 (.slice (some ⟨w.heap.size,0,none⟩) 0 0):=by rw[←hW];exact RwD.made rfl (Ad _)
 have B0:Below w.heap.size w W1:=by rw[←hW];exact(Ac _ _).alloc (Ad _) _
 clear hW
 go_loopw [3,4] (fun o i wr=>∃ (k:Nat) (va:Option Addr) (vc hi:Nat),k≤ds.length∧i= .int .i64 k∧o= .slice va k vc∧Below w.heap.size w wr∧hi≤wr.heap.size∧RwD w.heap.size hi wr ds k (.slice va k vc)) (fun _ i _=>ds.length - (intOf i).toNat)
 case atStart=>exact⟨0,_,_,0,Av _,rfl,rfl,B0,Av _,R0⟩
 case round=>
  clear B0 R0;obtain⟨k,va,vc,hi9,hk,rfl,rfl,bb,hhi9,hR⟩:=hrel;obtain⟨wo,rfl⟩:∃W,W=wr:=⟨_,rfl⟩;by_cases hlt:k < ds.length
  ·obtain⟨b,off,cap,cv,hv,hB',hbs,hcap,c0,c1,c2,hcr⟩:=(HR.out _ (Ac _ _)).at_ hlt;cases hv
   have hki:(k:Int) < (ds.length:Int):=by omega
   have hk0:(0:Int)≤ (k:Int):=by omega
   obtain⟨cva,cvc,rfl⟩:=hcr.form;have HCR:=Aa (fun(W:World) (hb:Below w.heap.size w W)=>hcr.later' hb);have HAP1:=Aa (fun(W:World) (c:Value) (M:Nat) (h:RwD w.heap.size hi9 W ds k (.slice va k vc))=>h.app (M:=M) (c:=c) hlt);have WDk:=WD.out k hlt;have HR1:=Aa hR;have BB:=Aa bb;clear hcr;generalize ds[k]=d at*;have hcl:d.cons.length≤1048576:=by have:=Fa d.cons;unfold wgD at WDk;omega
   have WC:=Aa (fun(k:Nat) (hk:k < d.cons.length)=>(by have:=Eh (As hk);unfold wgD at WDk;omega:wgC d.cons[k]≤1048576));have HQ5:=Aa (fun(W':World) (h:Below w.heap.size w W')=>(And.intro ((h.cell (p:=⟨b,off+k*3,none⟩) hbs).trans c0) ((h.cell (p:=⟨b,off+k*3+1,none⟩) hbs).trans c1):W'.cell? ⟨b,off+k*3,none⟩=some (.string d.name)∧W'.cell? ⟨b,off+k*3+1,none⟩=some (.int .i64 d.vars)));have HC2:=Aa (fun(W':World) (h:Below w.heap.size w W')=>((h.cell (p:=⟨b,off+k*3+2,none⟩) hbs).trans c2:W'.cell? ⟨b,off+k*3+2,none⟩=some (.slice cva d.cons.length cvc)));have hbwo:b < wo.heap.size:=Aj hbs bb.size;clear c0 c1 c2 hR;go_wp2_with fail;refine BP 12 (S:=(fun W'=>W'.cell? ⟨b,off+k*3,none⟩=some (.string d.name)∧W'.cell? ⟨b,off+k*3+1,none⟩=some (.int .i64 d.vars))) (by kernel_rfl) (by kernel_rfl) (by first | (dsimp only;exact HQ5.out _ (bb.trans ((Below.refl wo.heap.size wo).drew.mono bb.size))) | (exact HQ5.out _ (bb.trans ((Below.refl wo.heap.size wo).drew.mono bb.size)))) (fun hHeld=> ?_);generalize hxd:wo.drew=x1 at hHeld ⊢;have hd:Below wo.heap.size wo x1:=by rw[←hxd];exact(Ac _ _).drew
   clear hxd;refine tkT (i:=0) ?_;refine tkT (i:=1) ?_;refine tkT (i:=2) ?_;refine tkT (i:=3) ?_;refine tkT (i:=4) ?_;refine tkT (i:=5) ?_;refine tkT (i:=6) ?_;refine tkT (i:=7) ?_;refine tkT (i:=8) ?_;refine tkT (i:=9) ?_;refine tkT (i:=10) ?_;refine rdT (i:=11) (fun K hK=> ?_);go_simp;generalize hy:Wa _ _=x2;obtain⟨b2,k2⟩:=Bx.alloc hy;refine bkT hK (by first | (dsimp only;exact HQ5.out _ (bb.trans ((hd.trans (b2.mono hd.size)).mono bb.size))) | (exact HQ5.out _ (bb.trans ((hd.trans (b2.mono hd.size)).mono bb.size)))) (fun hHeld=> ?_);clear hK K;refine BO (by kernel_rfl) ?_;dsimp only[List.drop];have hd2:Below wo.heap.size wo x2:=hd.trans (b2.mono hd.size);obtain⟨D,hD⟩:∃D,x1.heap.size=D:=⟨_,rfl⟩;have hDo:wo.heap.size≤D:=by rw[←hD];exact hd.size
   rw[hD]at k2 ⊢;have KZ:=Aa k2;have qt:=k2.2.1;have ft:=k2.2.2;have lt:=k2.1;clear hHeld hd hy b2 k2;go_wp2_with fail;generalize hz:Ws (Ws (Ws _ _ _) _ _) _ _=x3;have K3:Bx x3 D #[.string d.name,.int .i64 d.vars,.slice none 0 0]:=by
    rw[←hz];have:=((KZ.out.st 0 (by simp) (.string d.name)).st 1 (by simp) (.int .i64 d.vars)).st 2 (by simp) (.slice none 0 0);exact this
   have B3:Below wo.heap.size wo x3:=by
    rw[←hz];exact((hd2.setCell (p:=⟨D,0,none⟩) (by exact hDo) _).setCell (p:=⟨D,1,none⟩) (by exact hDo) _).setCell (p:=⟨D,2,none⟩) (by exact hDo) _
   clear hz qt ft lt hd2
   go_loopw [6] (fun i wr=>∃ (k2:Nat) (va2:Option Addr) (vc2:Nat),k2≤d.cons.length∧i= .int .i64 k2∧Below wo.heap.size wo wr∧Bx wr D #[.string d.name,.int .i64 d.vars,.slice va2 k2 vc2]∧RwG kCn (D+1) wr d.cons k2 (.slice va2 k2 vc2)) (fun i _=>d.cons.length - (intOf i).toNat)
   case atStart=>exact⟨0,_,_,Av _,rfl,B3,K3,RwG.zero⟩
   case round=>
    clear B3 K3;obtain⟨k2,va2,vc2,hk2,rfl,bb2,kd,hR2⟩:=hrel;obtain⟨w2,rfl⟩:∃W,W=wr:=⟨_,rfl⟩;have BW2:=Aa (BB.out.trans (bb2.mono BB.out.size));have cc2:=HC2.out w2 BW2.out;have hbw2:b < w2.heap.size:=Aj hbs BW2.out.size;have hDw:D < w2.heap.size:=kd.1;by_cases hlt2:k2 < d.cons.length
    ·obtain⟨eb,eo,ecap,av,hev,heB,hebs,hecap,e0,e1,har⟩:=(HCR.out _ (Ac _ _)).at_ hlt2;cases hev
     have hki2:(k2:Int) < (d.cons.length:Int):=by omega
     have hk20:(0:Int)≤ (k2:Int):=by omega
     obtain⟨ava,avc,rfl⟩:=har.form;have HAR:=Aa (fun(W:World) (hb:Below w.heap.size w W)=>har.later' hb);have HAP2:=Aa (fun(W:World) (c:Value) (M:Nat) (h:RwG kCn (D+1) W d.cons k2 (.slice va2 k2 vc2))=>h.app (M:=M) (c:=c) hlt2);have WCk:=WC.out k2 hlt2;have HR2:=Aa hR2;have KD:=Aa kd;have BB2:=Aa bb2;clear har;generalize d.cons[k2]=c at*;have hal:c.args.length≤1048576:=by have:=DS c.args;unfold wgC at WCk;omega
     have WT:=Aa (fun(k:Nat) (hk:k < c.args.length)=>(by have:=CJ (As hk);unfold wgC at WCk;omega:wgT c.args[k]≤1048576));have HE1:=Aa (fun(W':World) (h:Below w.heap.size w W')=>((h.cell (p:=⟨eb,eo+k2*2+1,none⟩) hebs).trans e1:W'.cell? ⟨eb,eo+k2*2+1,none⟩=some (.slice ava c.args.length avc)));have ee0:=(BW2.out.cell (p:=⟨eb,eo+k2*2,none⟩) hebs).trans e0;have hebw:eb < w2.heap.size:=Aj hebs BW2.out.size;clear e0 e1 hR2 kd;go_wp2_with fail;generalize hC:Wa _ _=W3;obtain⟨b3,k3⟩:=Bx.alloc hC;obtain⟨Cb,hCb⟩:∃D,w2.heap.size=D:=⟨_,rfl⟩;rw[hCb]at k3 ⊢;clear hC cc2 ee0
     go_loopw [8] (fun i wr=>∃ (j:Nat) (va3:Option Addr) (vc3:Nat),j≤c.args.length∧i= .int .i64 j∧Below w2.heap.size w2 wr∧Bx wr Cb #[.string c.name,.slice va3 j vc3]∧RwG kTy (Cb+1) wr c.args j (.slice va3 j vc3)) (fun i _=>c.args.length - (intOf i).toNat)
     case atStart=>exact⟨0,_,_,Av _,rfl,b3,k3,RwG.zero⟩
     case round=>
      clear b3 k3;obtain⟨j,va3,vc3,hj,rfl,bb3,kc,hR3⟩:=hrel;have BW3:=Aa (BW2.out.trans (bb3.mono BW2.out.size));have cc3:=HC2.out wr BW3.out;have ce3:=HE1.out wr BW3.out;have qc:=kc.2.1;have lc:=kc.1;by_cases hlt3:j < c.args.length
      ·obtain⟨fb,fo,fcap,kv,hfv,hfB,hfbs,hfcap,⟨f0,f1,f2,f3⟩,hka⟩:=(HAR.out _ (Ac _ _)).at_ hlt3;cases hfv
       have hki3:(j:Int) < (c.args.length:Int):=by omega
       have hk30:(0:Int)≤ (j:Int):=by omega
       obtain⟨kya,kyc,rfl⟩:=hka.form;have HKA:=Aa (fun(W:World) (hb:Below w.heap.size w W)=>hka.later' hb);have HAP3:=Aa (fun(W:World) (v:Value) (M:Nat) (h:RwG kTy (Cb+1) W c.args j (.slice va3 j vc3))=>h.app (M:=M) (c:=v) hlt3);have WTj:=WT.out j hlt3;have HR3:=Aa hR3;have KC:=Aa kc;have BB3:=Aa bb3;clear hka;generalize c.args[j]=y at*;have HQ:=Aa (fun(W':World) (h:Below wr.heap.size wr W')=>(by
        have hw:=BW3.out.trans (h.mono BW3.out.size);exact⟨(kc.below h kc.1).2.1 1,HC2.out W' hw,HE1.out W' hw,(hw.cell (p:=⟨fb,fo+j*4,none⟩) hfbs).trans f0,(hw.cell (p:=⟨fb,fo+j*4+1,none⟩) hfbs).trans f1,(hw.cell (p:=⟨fb,fo+j*4+2,none⟩) hfbs).trans f2,(hw.cell (p:=⟨fb,fo+j*4+3,none⟩) hfbs).trans f3⟩:W'.cell? ⟨Cb,1,none⟩=some (.slice va3 j vc3)∧W'.cell? ⟨b,off+k*3+2,none⟩=some (.slice (some ⟨eb,eo,none⟩) d.cons.length cvc)∧W'.cell? ⟨eb,eo+k2*2+1,none⟩=some (.slice (some ⟨fb,fo,none⟩) c.args.length avc)∧W'.cell? ⟨fb,fo+j*4,none⟩=some (.int .i64 y.op)∧W'.cell? ⟨fb,fo+j*4+1,none⟩=some (.int .i64 y.n)∧W'.cell? ⟨fb,fo+j*4+2,none⟩=some (.string y.s)∧W'.cell? ⟨fb,fo+j*4+3,none⟩=some (.slice kya y.kids.length kyc)))
       have hbwr:b < wr.heap.size:=Aj hbs BW3.out.size;have hebr:eb < wr.heap.size:=Aj hebs BW3.out.size;have hwsz:=BW3.out.size;clear f0 f1 f2 f3 hR3 kc;go_wp2_with fail;clear qc cc3 ce3;refine BP 17 (S:=(fun W'=>W'.cell? ⟨Cb,1,none⟩=some (.slice va3 j vc3)∧W'.cell? ⟨b,off+k*3+2,none⟩=some (.slice (some ⟨eb,eo,none⟩) d.cons.length cvc)∧W'.cell? ⟨eb,eo+k2*2+1,none⟩=some (.slice (some ⟨fb,fo,none⟩) c.args.length avc)∧W'.cell? ⟨fb,fo+j*4,none⟩=some (.int .i64 y.op)∧W'.cell? ⟨fb,fo+j*4+1,none⟩=some (.int .i64 y.n)∧W'.cell? ⟨fb,fo+j*4+2,none⟩=some (.string y.s)∧W'.cell? ⟨fb,fo+j*4+3,none⟩=some (.slice kya y.kids.length kyc))) (by kernel_rfl) (by kernel_rfl) (by first | (dsimp only;exact HQ.out _ (Below.refl _ _).drew) | (exact HQ.out _ (Below.refl _ _).drew)) (fun hHeld=> ?_);generalize hxd:wr.drew=x1 at hHeld ⊢;have hd:Below wr.heap.size wr x1:=by rw[←hxd];exact(Ac _ _).drew
       clear hxd;have bwx:=BW3.out.trans (hd.mono BW3.out.size);refine tkT (i:=0) ?_;refine tkT (i:=1) ?_;refine tkT (i:=2) ?_;refine tkT (i:=3) ?_;refine tkT (i:=4) ?_;refine tkT (i:=5) ?_;refine tkT (i:=6) ?_;refine tkT (i:=7) ?_;refine tkT (i:=8) ?_;refine tkT (i:=9) ?_;refine tkT (i:=10) ?_;refine tkT (i:=11) ?_;refine tkT (i:=12) ?_;refine tkT (i:=13) ?_;refine rdT (i:=14) (fun K hK=> ?_);go_simp;refine(LC _ y _ _ x1 (CM _) WTj (HKA.out x1 bwx)).mono ?_;rintro e x2 ⟨b2,kv2,rfl,ct⟩;obtain⟨ka2,kc2,rfl⟩:=ct.form;unfold tpC;refine bkT hK (by first | (dsimp only;exact HQ.out _ (hd.trans (b2.mono hd.size))) | (exact HQ.out _ (hd.trans (b2.mono hd.size)))) (fun hHeld=> ?_);clear hK K;refine rdT (i:=15) (fun K hK=> ?_);go_simp;generalize hy:Wa _ _=x3;obtain⟨b4,k4⟩:=Bx.alloc hy;refine bkT hK (by first | (dsimp only;exact HQ.out _ (hd.trans ((b2.trans (b4.mono b2.size)).mono hd.size))) | (exact HQ.out _ (hd.trans ((b2.trans (b4.mono b2.size)).mono hd.size)))) (fun hHeld=> ?_);clear hK K;have hd3:Below wr.heap.size wr x3:=hd.trans ((b2.trans (b4.mono b2.size)).mono hd.size);have S3:=HQ.out _ hd3;have hRx:=HR3.out.same hd3;have hsx1:=hd.size;have hsx2:=b2.size;have hsx3:=b4.size;have hCbl:Cb < wr.heap.size:=lc;refine Dn (rs:=[16]) (by kernel_rfl) (by simp) ?_;refine AllReadyT.cons (by (simp only[List.getElem?_toArray,List.getElem?_cons_succ,List.getElem?_cons_zero];rfl)) (fun K hK=> ?_) AllReadyT.nil;rw[Ag (by rfl)];obtain⟨ps,hps,hnext⟩:=HAP3.out x3 _ x1.heap.size hRx (fun q e=>by have:=(HR3.out.lt q e).2;omega) (by omega) (by omega) (ct.later fun q hq hl=>⟨hq,Aj hl b4.size,b4.block q hl⟩);refine ED _ _ 156 rfl (Cb+1) 158 ti _ 4 56 Tryz.underlying156 hi hz0 hz1 hz2 rfl (by decide) _ _ _ rfl hps (tpC y (.slice ka2 y.kids.length kc2)) rfl ?_ x2.heap.size rfl ?_ ?_ ?_ ?_ ?_
       ·simp[Value.oneCell',tpC]
       ·exact k4.2.1
       ·unfold maxLen;omega
       ·omega
       ·omega
       ·intro v4 w4 o4 g4 alt;obtain⟨a4,c4,rfl⟩:=A2 o4;have HN:=Aa (hnext _ w4 o4 g4 (by
         rcases alt with e |e
         ·exact .inl e
         ·exact .inr ⟨_,e,Ad _⟩))
        have hpl:=hps.lt;have KC4:=(KC.out.below hd3 KC.out.1).grown g4 (fun e=>by have:=hpl _ e.symm;omega);have KC5:=Aa KC4;have hB4:Below w2.heap.size w2 w4:=BB3.out.trans ((hd3.mono BB3.out.size).trans (Below.of_grown g4 (by have:=BB3.out.size;omega) (fun q e=>by have:=hpl q e;omega)));have HB4:=Aa hB4;have hw4:=BW2.out.trans (hB4.mono BW2.out.size);have hcell:∀ (p o:Nat),p < w.heap.size→w4.cell? ⟨p,o,none⟩=x3.cell? ⟨p,o,none⟩:=fun p o hp=>An (g4.block p (by omega) (fun e=>by have:=hpl _ e.symm;have:=BW2.out.size;omega));have S4:w4.cell? ⟨Cb,1,none⟩=some (.slice va3 j vc3)∧w4.cell? ⟨b,off+k*3+2,none⟩=some (.slice (some ⟨eb,eo,none⟩) d.cons.length cvc)∧w4.cell? ⟨eb,eo+k2*2+1,none⟩=some (.slice (some ⟨fb,fo,none⟩) c.args.length avc)∧w4.cell? ⟨fb,fo+j*4,none⟩=some (.int .i64 y.op)∧w4.cell? ⟨fb,fo+j*4+1,none⟩=some (.int .i64 y.n)∧w4.cell? ⟨fb,fo+j*4+2,none⟩=some (.string y.s)∧w4.cell? ⟨fb,fo+j*4+3,none⟩=some (.slice kya y.kids.length kyc):=
         ⟨KC4.2.1 1,(hcell _ _ hbs).trans S3.2.1,(hcell _ _ hebs).trans S3.2.2.1,(hcell _ _ hfbs).trans S3.2.2.2.1,(hcell _ _ hfbs).trans S3.2.2.2.2.1,(hcell _ _ hfbs).trans S3.2.2.2.2.2.1,(hcell _ _ hfbs).trans S3.2.2.2.2.2.2⟩
        have q4:=KC4.2.1;have f4:=KC4.2.2;have y4:=KC4.1;refine hK.out _ _ (by first | (dsimp only;exact S4) | (exact S4)) (fun hHeld=> ?_);clear hK K
        try simp only[Act.put,List.setIfInBounds_toArray,List.set_cons_zero,List.set_cons_succ]
        have HN2:=Aa (HN.out.set (q:=Cb) (o:=1) (u:= .slice a4 (j+1) c4) (CM _));have HC6:=Aa (show Bx (w4.setCell ⟨Cb,1,none⟩ (.slice a4 (j+1) c4)) Cb #[.string c.name,.slice a4 (j+1) c4]from KC5.out.st 1 (by simp) _);have HB6:=Lib.hid (show Below w2.heap.size w2 (w4.setCell ⟨Cb,1,none⟩ (.slice a4 (j+1) c4))from HB4.out.setCell (p:=⟨Cb,1,none⟩) (by dsimp only;omega) _);clear hRx hnext hps alt o4 g4 b2 b4 k4 ct hd hd3 S3 S4 hcell hpl bwx KC4 hB4 hw4;refine BO (by kernel_rfl) ?_;dsimp only[List.drop];go_wp2;go_roundw
        case rel=>exact⟨j+1,_,_,hlt3,by go_num,HB6.out,HC6.out,HN2.out⟩
        case measure=>simp[intOf];omega
      ·obtain rfl:j=c.args.length:=by omega
       have hki3:¬((c.args.length:Int) < (c.args.length:Int)):=by omega
       have HDN:=Aa hR3.done;have kd3:=KD.out.below bb3 KD.out.1;have qd:=kd3.2.1;have ld:=kd3.1;have fd:=kd3.2.2;have hR2':=HR2.out.same bb3;have hs23:=bb3.size;obtain⟨ps,hps,hnext⟩:=HAP2.out wr _ Cb hR2' (fun q e=>by have:=(HR2.out.lt q e).2;omega) (by omega) (by omega) (show OwG kTy (fun b=>Cb≤b) wr (.slice va3 c.args.length vc3) c.args from OwG.later _ HDN.out (fun b hb hl=>⟨by omega,hl,rfl⟩));have HPS:=Aa hps;have HNX:=Aa hnext;have HB3:=Aa bb3;have KD3:=Aa kd3;have hDC:D≠Cb:=by omega
       have hbwr:b < wr.heap.size:=Aj hbs BW3.out.size;have hebr:eb < wr.heap.size:=Aj hebs BW3.out.size;clear hps hnext hR2' bb3 hR3 kc kd3;go_wp2_with (at_builtin;refine Dj rfl _ _ 133 rfl (D+1) 160 ci _ 2 40 Tryz.underlying133 hci cz0 cz1 cz2 rfl (by decide) _ _ _ rfl HPS.out (cnC c (.slice va3 c.args.length vc3)) rfl ?_ wr.heap.size rfl rfl ?_ ?_ ?_ ?_)
       ·simp[Value.oneCell',cnC]
       ·unfold maxLen;omega
       ·omega
       ·omega
       ·intro v4 w4 o4 g4 alt;obtain⟨a4,c4,rfl⟩:=A2 o4;have HN:=Aa (HNX.out _ w4 o4 g4 (by
         rcases alt with e |e
         ·exact .inl e
         ·exact .inr ⟨_,e,AQ _⟩))
        have hpl:=HPS.out.lt;have KD4:=KD3.out.grown g4 (fun e=>by have:=hpl _ e.symm;omega);have hB4:Below wo.heap.size wo w4:=BB2.out.trans ((HB3.out.mono BB2.out.size).trans (Below.of_grown g4 (by have:=BB2.out.size;omega) (fun q e=>by have:=hpl q e;omega)));have HN2:=Aa (HN.out.set (q:=D) (o:=2) (u:= .slice a4 (k2+1) c4) (CM _));have HC6:=Aa (show Bx (w4.setCell ⟨D,2,none⟩ (.slice a4 (k2+1) c4)) D #[.string d.name,.int .i64 d.vars,.slice a4 (k2+1) c4]from KD4.st 2 (by simp) _);have HB6:=Lib.hid (show Below wo.heap.size wo (w4.setCell ⟨D,2,none⟩ (.slice a4 (k2+1) c4))from hB4.setCell (p:=⟨D,2,none⟩) (by dsimp only;omega) _);have q4:=KD4.2.1;have f4:=KD4.2.2;have y4:=KD4.1;clear o4 g4 alt KD4 hB4 hpl qd fd ld;go_wp2;go_roundw
        case rel=>exact⟨k2+1,_,_,hlt2,by go_num,HB6.out,HC6.out,HN2.out⟩
        case measure=>simp[intOf];omega
    ·obtain rfl:k2=d.cons.length:=by omega
     have hki2:¬((d.cons.length:Int) < (d.cons.length:Int)):=by omega
     have HDN:=Aa hR2.done;have hR1':=HR1.out.same bb2;have hs12:=bb2.size;obtain⟨ps,hps,hnext⟩:=HAP1.out w2 _ D hR1' (fun q e=>by have:=(HR1.out.lt q e).2;omega) (by omega) (by have:=BB.out.size;omega) (by omega) (show OwG kCn (fun b=>D≤b) w2 (.slice va2 d.cons.length vc2) d.cons from OwG.later _ HDN.out (fun b hb hl=>⟨by omega,hl,rfl⟩));have HPS:=Aa hps;have HNX:=Aa hnext;have HB2:=Aa bb2;have qd:=kd.2.1;have ld:=kd.1;have hwo:=BB.out.size;clear hps hnext hR1' bb2 hR2 kd;go_wp2_with (at_builtin;refine Dj rfl _ _ 38 rfl w.heap.size 135 di _ 3 48 Tryz.underlying38 hdi dz0 dz1 dz2 rfl (by decide) _ _ _ rfl HPS.out (dtC d (.slice va2 d.cons.length vc2)) rfl ?_ w2.heap.size rfl rfl ?_ ?_ ?_ ?_)
     ·simp[Value.oneCell',dtC]
     ·unfold maxLen;omega
     ·omega
     ·omega
     ·intro v4 w4 o4 g4 alt;obtain⟨a4,c4,rfl⟩:=A2 o4;have HN:=Aa (HNX.out _ w4 o4 g4 (by
       rcases alt with e |e
       ·exact .inl e
       ·exact .inr ⟨_,e,AQ _⟩))
      have hpl:=HPS.out.lt;have HB4:=Aa (show Below w.heap.size w w4 from BB.out.trans ((HB2.out.mono BB.out.size).trans (Below.of_grown g4 (by omega) (fun q e=>(hpl q e).1))));have hw24:w2.heap.size≤w4.heap.size:=by have:=g4.size;(try simp only[BM]at this);omega
      clear o4 g4 alt hpl qd ld cc2;go_wp2;go_roundw
      case rel=>exact⟨k+1,_,_,_,hlt,by go_num,rfl,HB4.out,hw24,HN.out⟩
      case measure=>simp[intOf];omega
  ·obtain rfl:k=ds.length:=by omega
   have HDN:=Aa hR.done;have BB:=Aa bb;clear bb hR;go_wp2;go_ret;exact⟨BB.out,_,rfl,HDN.out⟩
theorem Qk (ds:List Dt) (x:Nd) (dv kv:Value) (B B':Nat) (w:World) (hd:RdDts B w dv ds) (hl:AR ds≤1048576) (hk:RdNs B' w kv x.kids) (hx:wgN x≤1048576):
  Calls Pq 87 #[pgV dv x kv] w fun e w'=>Below w.heap.size w w'∧ ∃dv' kv' m,e= .returned (pgV dv' x kv')∧w.heap.size≤m∧m≤w'.heap.size∧OwD (fun b=>w.heap.size≤b∧b < m) w' dv' ds∧OwI w' m w'.heap.size kv' x.kids:=by
 have HD:=Aa (fun(W:World) (hb:Below w.heap.size w W)=>Qj ds dv _ W (hd.later' hb) hl);have HN:=Aa (fun(W:World) (hb:Below w.heap.size w W)=>Lz _ x kv _ W (CM _) hx (hk.later' hb));obtain⟨da,dc,rfl⟩:=hd.form;obtain⟨ka,kc,rfl⟩:=hk.form;clear hd hk;unfold pgV ndV at*;go_enter Tryz.func87,Tryz.ntmps87;go_wp2_with fail;generalize hW:Wa (Wa _ _) _=W1;obtain⟨b1,k1,k2⟩:=Ql hW;have HQ:=Aa (fun(W':World) (h:Below W1.heap.size W1 W')=>(by
  have j1:=(k1.below h k1.1).2.1;exact⟨j1 0,j1 1,j1 2,j1 3,j1 4,j1 5⟩:W'.cell? ⟨w.heap.size,0,none⟩=some (.slice da ds.length dc)∧W'.cell? ⟨w.heap.size,1,none⟩=some (.int .i64 x.op)∧W'.cell? ⟨w.heap.size,2,none⟩=some (.int .i64 x.n)∧W'.cell? ⟨w.heap.size,3,none⟩=some (.string x.s)∧W'.cell? ⟨w.heap.size,4,none⟩=some (.string x.t)∧W'.cell? ⟨w.heap.size,5,none⟩=some (.slice ka x.kids.length kc)))
 have K2:=Aa k2;have B1:=Aa b1;clear hW k1 k2;refine BP 7 (S:=(fun W'=>W'.cell? ⟨w.heap.size,0,none⟩=some (.slice da ds.length dc)∧W'.cell? ⟨w.heap.size,1,none⟩=some (.int .i64 x.op)∧W'.cell? ⟨w.heap.size,2,none⟩=some (.int .i64 x.n)∧W'.cell? ⟨w.heap.size,3,none⟩=some (.string x.s)∧W'.cell? ⟨w.heap.size,4,none⟩=some (.string x.t)∧W'.cell? ⟨w.heap.size,5,none⟩=some (.slice ka x.kids.length kc))) (by kernel_rfl) (by kernel_rfl) (by first | (dsimp only;exact HQ.out _ (Below.refl _ _).drew) | (exact HQ.out _ (Below.refl _ _).drew)) (fun hHeld=> ?_);generalize hxd:World.drew _=x1 at hHeld ⊢;have hd1:Below W1.heap.size W1 x1:=by rw[←hxd];exact(Ac _ _).drew
 clear hxd;refine tkT (i:=0) ?_;refine tkT (i:=1) ?_;refine tkT (i:=3) ?_;refine tkT (i:=4) ?_;refine rdT (i:=2) (fun K hK=> ?_);go_simp;refine(HD.out x1 (b1.trans (hd1.mono b1.size))).mono ?_;rintro e x2 ⟨b2,dv',rfl,hO⟩;obtain⟨da2,dc2,rfl⟩:=hO.form;refine bkT hK (by first | (dsimp only;exact HQ.out _ (hd1.trans (b2.mono hd1.size))) | (exact HQ.out _ (hd1.trans (b2.mono hd1.size)))) (fun hHeld=> ?_);clear hK K;have hd2:=hd1.trans (b2.mono hd1.size);refine rdT (i:=5) (fun K hK=> ?_);go_simp;refine(HN.out x2 (b1.trans (hd2.mono b1.size))).mono ?_;rintro e x3 ⟨b3,kv',rfl,hP⟩;obtain⟨ka2,kc2,rfl⟩:=hP.form;unfold ndC;refine bkT hK (by first | (dsimp only;exact HQ.out _ (hd2.trans (b3.mono hd2.size))) | (exact HQ.out _ (hd2.trans (b3.mono hd2.size)))) (fun hHeld=> ?_);clear hK K;refine tkT (i:=6) ?_;refine BO (by kernel_rfl) ?_;dsimp only[List.drop];have hd3:=hd2.trans (b3.mono hd2.size);have K3:=Aa (K2.out.below hd3 K2.out.1);have B3:=Aa (B1.out.trans (hd3.mono B1.out.size));have ck:=K3.out.2.1;have fk:=K3.out.2.2;have yk:=K3.out.1;have h21:=hd1.size;have h11:=B1.out.size;have h32:=b2.size;have HO3:=Aa (show OwD (fun b=>w.heap.size+2≤b∧b < x2.heap.size) x3 (.slice da2 ds.length dc2) ds from OwD.later hO (fun q hq hl=>⟨⟨by have:=K2.out.1;omega,hl⟩,Aj hl b3.size,b3.block q hl⟩));have HP3:=Aa (show OwI x3 x2.heap.size x3.heap.size (.slice ka2 x.kids.length kc2) x.kids from hP);have hx2:w.heap.size+2≤x2.heap.size:=by have:=K2.out.1;omega
 have hx3:=b3.size;clear hHeld hd1 hd2 hd3 b2 b3 hO hP;go_wp2;generalize hz:Ws (Ws _ _ _) _ _=z;obtain⟨k9,g9⟩:=Bx.put6 K3.out (.slice da2 ds.length dc2) (.int .i64 x.op) (.int .i64 x.n) (.string x.s) (.string x.t) (.slice ka2 x.kids.length kc2);rw[hz]at k9 g9;have c9:=k9.2.1;have hlat:∀q,w.heap.size+2≤q∧q < x2.heap.size→q < x3.heap.size→(w.heap.size≤q∧q < x2.heap.size)∧q < z.heap.size∧z.heap[q]?=x3.heap[q]?:=fun q hq hl=>⟨⟨by omega,hq.2⟩,Aj hl g9.size,g9.block q hl (fun e=>by have:=Ah e;omega)⟩
 have h9s:=g9.size;refine AA (v:= .agg #[.slice da2 ds.length dc2,.int .i64 x.op,.int .i64 x.n,.string x.s,.string x.t,.slice ka2 x.kids.length kc2]) ?_ rfl ⟨B3.out.trans (Below.of_grown g9 B3.out.size (fun q e=>by have:=Ah e;omega)),_,_,x2.heap.size,rfl,by omega,by omega,OwD.later HO3.out hlat,(HP3.out.keep (fun q h1 h2 hl=>g9.block q hl (fun e=>by have:=Ah e;omega))).widen (Ad _) g9.size⟩;simp[results,Tryz.results87,go_sem,c9]
end Go.Proofs.YtifhcbeaiijkcaaGreat
