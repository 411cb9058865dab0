/- Parts of the proof of FnExactJudgeSame. -/
import Derived.Test.YtifhcbeaiijkcaaGreatJ02
set_option linter.unusedVariables false
set_option linter.unusedSimpArgs false
set_option maxRecDepth 1000000
set_option maxHeartbeats 16000000
section
namespace Go.Proofs.YtifhcbeaiijkcaaGreat
open Go.RowKit
open _root_.Go.World renaming alloc→Wa,setCell→Ws
open _root_.Go.Proofs.Tryz renaming prog→Pq
theorem OR (x:Nd) (kv:Value) (B:Nat) (w:World) (hl:wgN x≤1048576) (hr:RdNs B w kv x.kids)
  (ih:∀ (y:Nd) (kv:Value) (B:Nat) (W:World),wgN y < wgN x→RdNs B W kv y.kids→Calls Pq 114 #[ndV y kv] W fun e w'=>e= .returned (.bool (Aj y))∧Below W.heap.size W w'):
  Calls Pq 175 #[ndV x kv] w fun e w'=>e= .returned (.bool (decide (2≤x.kids.length)&& AO x.kids))∧Below w.heap.size w w':=by
 have HR:=Aa (fun(W:World) (hb:Below w.heap.size w W)=>hr.later' hb);have hwg:=Av x;have hlen:=AY x.kids;have hks:x.kids.length≤1048576:=by omega
 obtain⟨ka,kc,rfl⟩:=hr.form;have IP:=Aa (fun(j:Nat) (hj:j < x.kids.length) (i:Nat) (hi:i < x.kids[j].kids.length) (kv:Value) (B:Nat) (W:World) (h:RdNs B W kv x.kids[j].kids[i].kids)=>(by
  have h1:=AT (An hj);have h2:=AT (An hi);have h3:=Av x.kids[j];exact MS 1048577 x.kids[j].kids[i] kv B W (by omega) (by omega) h:Calls Pq 216 #[ndV x.kids[j].kids[i] kv] W fun e w'=>e= .returned (.bool (BQ x.kids[j].kids[i]))∧Below W.heap.size W w'))
 have IE:=Aa (fun(j:Nat) (hj:j < x.kids.length) (i:Nat) (hi:i < x.kids[j].kids.length) (kv:Value) (B:Nat) (W:World) (h:RdNs B W kv x.kids[j].kids[i].kids)=>(by
  have h1:=AT (An hj);have h2:=AT (An hi);have h3:=Av x.kids[j];exact ih x.kids[j].kids[i] kv B W (by omega) h:Calls Pq 114 #[ndV x.kids[j].kids[i] kv] W fun e w'=>e= .returned (.bool (Aj x.kids[j].kids[i]))∧Below W.heap.size W w'))
 have I0:=Aa (fun(hj:0 < x.kids.length) (kv:Value) (B:Nat) (W:World) (h:RdNs B W kv x.kids[0].kids)=>(by
  have h1:=AT (An hj);exact ih x.kids[0] kv B W (by omega) h:Calls Pq 114 #[ndV x.kids[0] kv] W fun e w'=>e= .returned (.bool (Aj x.kids[0]))∧Below W.heap.size W w'))
 clear ih hr hwg hlen hl;unfold ndV at IP IE I0 ⊢;generalize x.op=xop at*;generalize x.n=xn at*;generalize x.s=xs at*;generalize x.t=xt at*;generalize x.kids=ks at*;go_enter Tryz.func175,Tryz.ntmps175;go_wp2_with fail;generalize hxx:w.alloc _=x0;obtain⟨bb,k1⟩:=Bx.alloc hxx;clear hxx;go_wp2
 go_loopw [3] (fun i wr=>∃k:Nat,1≤k∧(k≤ks.length∨k=1)∧i= .int .i64 k∧Below w.heap.size w wr∧Bx wr w.heap.size #[.int .i64 xop,.int .i64 xn,.string xs,.string xt,.slice ka ks.length kc]∧Hid (∀j (h:j < ks.length),1≤j→j < k→Cm ks[j]=true)) (fun i _=>ks.length - (intOf i).toNat)
 case atStart=>exact⟨1,Ad _,.inr rfl,rfl,bb,k1,Aa (fun j h h1 hk=>by omega)⟩
 case round=>
  clear bb k1;obtain⟨k,h1k,hk,rfl,bb,k1,hd⟩:=hrel;by_cases hlt:k < ks.length
  ·have IPk:=IP.out k hlt;have IEk:=IE.out k hlt;have HN:=OP h1k hlt;have HY:∀j (h:j < ks.length),1≤j→j < k+1→Cm ks[k]=true→Cm ks[j]=true:=fun j h h1 h2 h3=>by
    by_cases e:j=k
    ·subst e;exact h3
    ·exact hd.out j h h1 (by omega)
   obtain⟨b,off,cap,kv,hv,hB,hbs,hcap,⟨c0,c1,c2,c3,c4⟩,hkr⟩:=(HR.out wr bb).at_ hlt;cases hv
   have hki:(k:Int) < (ks.length:Int):=by omega
   have HA:=IU ks[k];obtain⟨kva,kvc,rfl⟩:=hkr.form;generalize Cm ks[k]=ay at*;generalize ks[k]=y at*;obtain⟨yo,yn,ys,yt,yk⟩:=y;dsimp only[Nd.op,Nd.n,Nd.s,Nd.t,Nd.kids]at c0 c1 c2 c3 c4 hkr HA IPk IEk;have HK:=Aa hkr;have HA:=Aa HA;have HN:=Aa HN;have HY:=Aa HY;have IPk:=Aa IPk;have IEk:=Aa IEk;have q1:=k1.2.1;clear hkr;by_cases o8:yo=8
   ·subst o8;by_cases n0:yn=0
    ·subst n0;by_cases hs:ys.toList=[]
     ·by_cases ht:yt.toList=[]
      ·by_cases h2:yk.length=2
       ·obtain⟨p,e,rfl⟩:=IV h2;obtain⟨b2,o2,cp2,kv0,kv1,hv2,hB2,hcp2,⟨d0,d1,d2,d3,d4⟩,hk0,⟨e0,e1,e2,e3,e4⟩,hk1⟩:=HK.out.two;cases hv2
        have IPp:=Aa (IPk.out 0 (by simp));have IEe:=Aa (IEk.out 1 (by simp));simp only[List.getElem_cons_zero,List.getElem_cons_succ]at IPp IEe;clear h2;have H0:=Aa hk0;have H1:=Aa hk1;clear hk0 hk1;go_wp2_with fail;generalize hyy:Wa _ _=wy;obtain⟨by_,k2⟩:=Bx.alloc hyy;clear hyy q1 c0 c1 c2 c3 c4 d0 d1 d2 d3 d4 e0 e1 e2 e3 e4;have hsz:=bb.size;refine(IPp.out _ _ wy (H0.out.later' by_)).mono ?_;rintro e1 w2 ⟨rfl,b2⟩;replace k2:=k2.below b2 k2.1;replace b2:=by_.trans (b2.mono by_.size);cases hp:BQ p with
        |false=>
         have hp':=Aa hp;clear hp;replace bb:=bb.trans (b2.mono hsz);clear b2;go_wp2;go_ret;exact⟨Ac (by rw[HN.out (by rw[HA.out];simp[CC,Fb,hp'.out])];simp),bb⟩
        |true=>
         have hp':=Aa hp;clear hp;obtain⟨b3,o3,cp3,kv3,kv4,hv3,hB3,hcp3, -, -,⟨e0,e1,e2,e3,e4⟩,hk4⟩:=(HK.out.later' b2).two;cases hv3
         have H4:=Aa hk4;have q2:=k2.2.1;clear hk4 k2 hB3;go_wp2_with fail;clear q2 e0 e1 e2 e3 e4;refine(IEe.out _ _ w2 H4.out).mono ?_;rintro e1 w3 ⟨rfl,b3⟩;replace b2:=b2.trans (b3.mono b2.size);replace k1:=k1.below b2 k1.1;replace bb:=bb.trans (b2.mono hsz);clear b2 b3;cases hq:Aj e with
         |false=>
          have hq':=Aa hq;clear hq;go_wp2;go_ret;exact⟨Ac (by rw[HN.out (by rw[HA.out];simp[CC,Fb,hq'.out])];simp),bb⟩
         |true=>
          have hq':=Aa hq;clear hq;have hay:ay=true:=by rw[HA.out];simp[CC,Fb,hq'.out,hp'.out,Al hs,Al ht]
          have hay':=Aa (HY.out · · · · hay);clear hay;go_wp2;go_roundw
          case rel=>exact⟨k+1,by omega,.inl hlt,by go_num,bb,k1,Aa (fun j h h1 hj=>hay'.out j h h1 hj)⟩
          case measure=>simp[intOf];omega
       ·have h2n:¬((yk.length:Int)=2):=by omega
        go_wp2;go_ret;exact⟨Ac (by rw[HN.out (by rw[HA.out];simp[CC,h2])];simp),bb.alloc bb.size _⟩
      ·go_wp2;go_ret;exact⟨Ac (by rw[HN.out (by rw[HA.out];simp[CC,AH ht])];simp),bb.alloc bb.size _⟩
     ·go_wp2;go_ret;exact⟨Ac (by rw[HN.out (by rw[HA.out];simp[CC,AH hs])];simp),bb.alloc bb.size _⟩
    ·go_wp2;go_ret;exact⟨Ac (by rw[HN.out (by rw[HA.out];simp[CC,n0])];simp),bb.alloc bb.size _⟩
   ·go_wp2;go_ret;exact⟨Ac (by rw[HN.out (by rw[HA.out];simp[CC,o8])];simp),bb.alloc bb.size _⟩
  ·have HY:=Aa (fun(hl:0 < ks.length)=>OQ hl (fun j h h1=>hd.out j h h1 (by omega)));have q1:=k1.2.1;by_cases h2:2≤ks.length
   ·have h2i:(2:Int)≤ (ks.length:Int):=by omega
    have h0:0 < ks.length:=by omega
    obtain⟨b,off,cap,kv,hv,hB,hbs,hcap,⟨c0,c1,c2,c3,c4⟩,hkr⟩:=(HR.out wr bb).at_ h0;rw[Nat.zero_mul,Nat.add_zero]at c0 c1 c2 c3 c4;cases hv
    have H0:=Aa hkr;clear hkr;go_wp2_with fail;clear q1 c0 c1 c2 c3 c4;refine(I0.out h0 _ _ wr H0.out).mono ?_;rintro e1 w3 ⟨rfl,b3⟩;replace bb:=bb.trans (b3.mono bb.size);go_wp2;go_ret;exact⟨Ac (by rw[HY.out h0];simp[h2]),bb⟩
   ·have h2i:¬((2:Int)≤ (ks.length:Int)):=by omega
    go_wp2;go_ret;exact⟨Ac (by simp[h2]),bb⟩
end Go.Proofs.YtifhcbeaiijkcaaGreat
end
section
namespace Go.Proofs.YtifhcbeaiijkcaaGreat
open Go.RowKit
open _root_.Go.World renaming alloc→Wa,setCell→Ws
open _root_.Go.Proofs.Tryz renaming prog→Pq
theorem Cc (n:Nat):((n:Int)==0)=decide (n=0):=by rw[Ds];simp
theorem E8 (n:Nat):((n:Int)==1)=decide (n=1):=by rw[Ds];simp;omega
theorem BF (n:Nat):((n:Int)==2)=decide (n=2):=by rw[Ds];simp;omega
theorem Io (n:Nat):((n:Int)==3)=decide (n=3):=by rw[Ds];simp;omega
inductive Tp where
 |mk (op n:Int) (s:Str) (kids:List Tp)
namespace Tp
def op:Tp→Int |mk o _ _ _=>o
def n:Tp→Int |mk _ n _ _=>n
def s:Tp→Str |mk _ _ s _=>s
def kids:Tp→List Tp |mk _ _ _ k=>k
end Tp
def TpAt (w:World) (b o:Nat) (x:Tp) (kv:Value):Prop:=
 w.cell? ⟨b,o,none⟩=some (.int .i64 x.op)∧w.cell? ⟨b,o+1,none⟩=some (.int .i64 x.n)∧w.cell? ⟨b,o+2,none⟩=some (.string x.s)∧w.cell? ⟨b,o+3,none⟩=some kv
inductive RdTps (B:Nat) (w:World):Value→List Tp→Prop
 |nil (a:Option Addr) (cap:Nat):RdTps B w (.slice a 0 cap) []
 |row (b off cap:Nat) (ks:List Tp) (kv:Nat→Value) (hb:b < B) (hw:b < w.heap.size) (hl:ks.length≤maxLen∧ks.length≤cap)
   (hc:∀j (h:j < ks.length),TpAt w b (off+j*4) ks[j] (kv j)) (hk:∀j (h:j < ks.length),RdTps B w (kv j) ks[j].kids):RdTps B w (.slice (some ⟨b,off,none⟩) ks.length cap) ks
theorem TpAt.below {w w':World}{B b o:Nat}{x:Tp}{kv:Value}(h:TpAt w b o x kv) (hb:Below B w w') (hB:b < B):TpAt w' b o x kv:=
 ⟨(hb.cell (p:=⟨b,o,none⟩) hB).trans h.1,(hb.cell (p:=⟨b,o+1,none⟩) hB).trans h.2.1,(hb.cell (p:=⟨b,o+2,none⟩) hB).trans h.2.2.1,(hb.cell (p:=⟨b,o+3,none⟩) hB).trans h.2.2.2⟩
theorem RdTps.later {B B':Nat}{w w':World}{v:Value}{ks:List Tp}(h:RdTps B w v ks) (hb:Below B' w w') (hB:B≤B'):RdTps B w' v ks:=by
 induction h with
 |nil a cap=>exact .nil a cap
 |row b off cap ks kv h1 h2 h3 h4 _ ih=>exact .row b off cap ks kv h1 (Ah h2 hb.size) h3 (fun j hj=>(h4 j hj).below hb (Ah h1 hB)) ih
theorem RdTps.later' {B:Nat}{w w':World}{v:Value}{ks:List Tp}(h:RdTps B w v ks) (hb:Below w.heap.size w w'):RdTps w.heap.size w' v ks:=by
 induction h with
 |nil a cap=>exact .nil a cap
 |row b off cap ks kv h1 h2 h3 h4 _ ih=>exact .row b off cap ks kv h2 (Ah h2 hb.size) h3 (fun j hj=>(h4 j hj).below hb h2) ih
theorem RdTps.form {B:Nat}{w:World}{v:Value}{ks:List Tp}(h:RdTps B w v ks):∃a cap,v= .slice a ks.length cap:=by
 cases h with
 |nil a cap=>exact⟨a,cap,rfl⟩
 |row b off cap _ kv=>exact⟨_,cap,rfl⟩
theorem RdTps.len {B:Nat}{w:World}{v:Value}{ks:List Tp}(h:RdTps B w v ks):ks.length≤maxLen:=by
 cases h with
 |nil a cap=>simp
 |row b off cap _ kv _ _ hl=>exact hl.1
theorem RdTps.at_ {B:Nat}{w:World}{v:Value}{ks:List Tp}(h:RdTps B w v ks) {j:Nat}(hj:j < ks.length):∃b off cap kv,v= .slice (some ⟨b,off,none⟩) ks.length cap∧b < B∧b < w.heap.size∧ks.length≤cap∧TpAt w b (off+j*4) ks[j] kv∧RdTps B w kv ks[j].kids:=by
 cases h with
 |nil a cap=>simp at hj
 |row b off cap _ kv h1 h2 h3 h4 h5=>exact⟨b,off,cap,kv j,rfl,h1,h2,h3.2,h4 j hj,h5 j hj⟩
def wgT:Tp→Nat
 | .mk _ _ s ks=>s.size+wgTs ks
where wgTs:List Tp→Nat
 | []=>0
 |k::ks=>1+wgT k+wgTs ks
theorem DM (x:Tp):wgT x=x.s.size+wgT.wgTs x.kids:=by cases x;rfl
theorem CJ {k:Tp}:∀ {ks:List Tp},k∈ks→wgT k+1≤wgT.wgTs ks
 |x::xs,h=>by
  unfold wgT.wgTs;rcases List.mem_cons.1 h with rfl |h
  ·omega
  ·have:=CJ h;omega
theorem EJ:∀ (ks:List Tp),ks.length≤wgT.wgTs ks
 | []=>Ad _
 |x::xs=>by have:=EJ xs;unfold wgT.wgTs;simp only[List.length_cons];omega
def AE:Tp→Nat
 | .mk _ _ _ ks=>deepTs ks+1
where deepTs:List Tp→Nat
 | []=>0
 |k::ks=>max (AE k) (deepTs ks)
theorem Ip (x:Tp):AE x=AE.deepTs x.kids+1:=by cases x;rfl
theorem M7 (x:Tp):AE x≤wgT x+1:=by
 have h:∀m (x:Tp),wgT x < m→AE x≤wgT x+1:=by
  intro m;induction m with
  |zero=>intro x hx;omega
  |succ m ih=>
   intro x hx;obtain⟨op,n,s,ks⟩:=x;unfold wgT at hx;unfold AE wgT;have:∀l:List Tp,wgT.wgTs l≤m→AE.deepTs l≤wgT.wgTs l:=by
    intro l;induction l with
    |nil=>intro _;exact Ad _
    |cons k l ihl=>
     intro hl;unfold wgT.wgTs at hl;unfold AE.deepTs wgT.wgTs;have a:=ih k (by omega);have b:=ihl (by omega);omega
   have:=this ks (by omega);omega
 exact h _ x (Cp _)
theorem JM:∀ (ks:List Tp) (k:Nat) (h:k < ks.length),AE.deepTs (ks.take (k+1))=max (AE.deepTs (ks.take k)) (AE ks[k])
 |x::xs,0,h=>by simp[AE.deepTs]
 |x::xs,k+1,h=>by
  have:=JM xs k (by simpa using h);simp only[List.take_succ_cons,List.getElem_cons_succ];unfold AE.deepTs;rw[this];omega
theorem JN:∀ (ks:List Tp) (k:Nat),AE.deepTs (ks.take k)≤AE.deepTs ks
 | [],k=>by simp
 |x::xs,0=>by simp[AE.deepTs]
 |x::xs,k+1=>by
  have:=JN xs k;rw[List.take_succ_cons];unfold AE.deepTs;omega
def Bs (vars op n:Int) (s:Str) (k:Nat):Bool:=
 if op=1 then decide (n=0)&& (noS s&& decide (k=0))
 else if op=2 then inB n 0 (vars - 1)&& (noS s&& decide (k=0))
 else if op=3 then decide (n=0)&& (noS s&& decide (k=2))
 else if op=4 then decide (n=0)&& Bg s
 else false
def AW (vars:Int):Tp→Bool
 | .mk op n s ks=>typsP ks&& Bs vars op n s ks.length
where typsP:List Tp→Bool
 | []=>true
 |k::ks=>AW vars k&& typsP ks
theorem M8 (vars:Int) (x:Tp):AW vars x= (AW.typsP vars x.kids&& Bs vars x.op x.n x.s x.kids.length):=by cases x;rfl
theorem Iq (vars:Int):∀ (ks:List Tp),AW.typsP vars ks=ks.all (AW vars)
 | []=>rfl
 |k::ks=>by rw[AW.typsP,Iq vars ks];rfl
theorem DN {α:Type}{q:α→Bool}{ks:List α}{k:Nat}(h:k < ks.length) (e:q ks[k]=false):ks.all q=false:=by
 rw[Ec];exact⟨_,An h,by rw[e];simp⟩
theorem Ea {α:Type}{q:α→Bool}{ks:List α}(h:∀j (h:j < ks.length),q ks[j]=true):ks.all q=true:=by
 rw[BA];intro x hx;obtain⟨j,hj,rfl⟩:=DG hx;exact h j hj
def tpV (x:Tp) (kv:Value):Value:= .agg #[.int .i64 x.op,.int .i64 x.n,.string x.s,kv]
structure Cn where
 name:Str
 args:List Tp
structure Dt where
 name:Str
 vars:Int
 cons:List Cn
def RdCns (B:Nat) (w:World) (v:Value) (cs:List Cn):Prop:=
 (cs=[]∧ ∃a cap,v= .slice a 0 cap)∨ ∃ (b off cap:Nat) (av:Nat→Value),v= .slice (some ⟨b,off,none⟩) cs.length cap∧b < B∧b < w.heap.size∧(cs.length≤maxLen∧cs.length≤cap)∧
  ∀j (h:j < cs.length),w.cell? ⟨b,off+j*2,none⟩=some (.string cs[j].name)∧w.cell? ⟨b,off+j*2+1,none⟩=some (av j)∧RdTps B w (av j) cs[j].args
def RdDts (B:Nat) (w:World) (v:Value) (ds:List Dt):Prop:=
 (ds=[]∧ ∃a cap,v= .slice a 0 cap)∨ ∃ (b off cap:Nat) (cv:Nat→Value),v= .slice (some ⟨b,off,none⟩) ds.length cap∧b < B∧b < w.heap.size∧(ds.length≤maxLen∧ds.length≤cap)∧
  ∀j (h:j < ds.length),w.cell? ⟨b,off+j*3,none⟩=some (.string ds[j].name)∧w.cell? ⟨b,off+j*3+1,none⟩=some (.int .i64 ds[j].vars)∧w.cell? ⟨b,off+j*3+2,none⟩=some (cv j)∧RdCns B w (cv j) ds[j].cons
theorem RdCns.later {B B':Nat}{w w':World}{v:Value}{cs:List Cn}(h:RdCns B w v cs) (hb:Below B' w w') (hB:B≤B'):RdCns B w' v cs:=by
 rcases h with h |⟨b,off,cap,av,h1,h2,h3,h4,h5⟩
 ·exact .inl h
 ·refine .inr ⟨b,off,cap,av,h1,h2,Ah h3 hb.size,h4,fun j hj=> ?_⟩;have hB':b < B':=Ah h2 hB;obtain⟨c1,c2,c3⟩:=h5 j hj;exact⟨(hb.cell (p:=⟨b,off+j*2,none⟩) hB').trans c1,(hb.cell (p:=⟨b,off+j*2+1,none⟩) hB').trans c2,c3.later hb hB⟩
theorem RdCns.later' {B:Nat}{w w':World}{v:Value}{cs:List Cn}(h:RdCns B w v cs) (hb:Below w.heap.size w w'):RdCns w.heap.size w' v cs:=by
 rcases h with h |⟨b,off,cap,av,h1,h2,h3,h4,h5⟩
 ·exact .inl h
 ·refine .inr ⟨b,off,cap,av,h1,h3,Ah h3 hb.size,h4,fun j hj=> ?_⟩;obtain⟨c1,c2,c3⟩:=h5 j hj;exact⟨(hb.cell (p:=⟨b,off+j*2,none⟩) h3).trans c1,(hb.cell (p:=⟨b,off+j*2+1,none⟩) h3).trans c2,c3.later' hb⟩
theorem RdDts.later {B B':Nat}{w w':World}{v:Value}{ds:List Dt}(h:RdDts B w v ds) (hb:Below B' w w') (hB:B≤B'):RdDts B w' v ds:=by
 rcases h with h |⟨b,off,cap,cv,h1,h2,h3,h4,h5⟩
 ·exact .inl h
 ·refine .inr ⟨b,off,cap,cv,h1,h2,Ah h3 hb.size,h4,fun j hj=> ?_⟩;have hB':b < B':=Ah h2 hB;obtain⟨c1,c2,c3,c4⟩:=h5 j hj;exact⟨(hb.cell (p:=⟨b,off+j*3,none⟩) hB').trans c1,(hb.cell (p:=⟨b,off+j*3+1,none⟩) hB').trans c2,(hb.cell (p:=⟨b,off+j*3+2,none⟩) hB').trans c3,c4.later hb hB⟩
theorem RdDts.later' {B:Nat}{w w':World}{v:Value}{ds:List Dt}(h:RdDts B w v ds) (hb:Below w.heap.size w w'):RdDts w.heap.size w' v ds:=by
 rcases h with h |⟨b,off,cap,cv,h1,h2,h3,h4,h5⟩
 ·exact .inl h
 ·refine .inr ⟨b,off,cap,cv,h1,h3,Ah h3 hb.size,h4,fun j hj=> ?_⟩;obtain⟨c1,c2,c3,c4⟩:=h5 j hj;exact⟨(hb.cell (p:=⟨b,off+j*3,none⟩) h3).trans c1,(hb.cell (p:=⟨b,off+j*3+1,none⟩) h3).trans c2,(hb.cell (p:=⟨b,off+j*3+2,none⟩) h3).trans c3,c4.later' hb⟩
theorem RdCns.form {B:Nat}{w:World}{v:Value}{cs:List Cn}(h:RdCns B w v cs):∃a cap,v= .slice a cs.length cap:=by
 rcases h with ⟨rfl,a,cap,rfl⟩ |⟨b,off,cap,av,rfl,_⟩
 ·exact⟨_,_,rfl⟩
 ·exact⟨_,_,rfl⟩
theorem RdDts.form {B:Nat}{w:World}{v:Value}{cs:List Dt}(h:RdDts B w v cs):∃a cap,v= .slice a cs.length cap:=by
 rcases h with ⟨rfl,a,cap,rfl⟩ |⟨b,off,cap,av,rfl,_⟩
 ·exact⟨_,_,rfl⟩
 ·exact⟨_,_,rfl⟩
theorem RdCns.at_ {B:Nat}{w:World}{v:Value}{cs:List Cn}(h:RdCns B w v cs) {j:Nat}(hj:j < cs.length):∃b off cap av,v= .slice (some ⟨b,off,none⟩) cs.length cap∧b < B∧b < w.heap.size∧cs.length≤cap∧w.cell? ⟨b,off+j*2,none⟩=some (.string cs[j].name)∧w.cell? ⟨b,off+j*2+1,none⟩=some av∧RdTps B w av cs[j].args:=by
 rcases h with ⟨rfl,_⟩ |⟨b,off,cap,av,h1,h2,h3,h4,h5⟩
 ·simp at hj
 ·exact⟨b,off,cap,av j,h1,h2,h3,h4.2,h5 j hj⟩
theorem RdDts.at_ {B:Nat}{w:World}{v:Value}{ds:List Dt}(h:RdDts B w v ds) {j:Nat}(hj:j < ds.length):∃b off cap cv,v= .slice (some ⟨b,off,none⟩) ds.length cap∧b < B∧b < w.heap.size∧ds.length≤cap∧w.cell? ⟨b,off+j*3,none⟩=some (.string ds[j].name)∧w.cell? ⟨b,off+j*3+1,none⟩=some (.int .i64 ds[j].vars)∧w.cell? ⟨b,off+j*3+2,none⟩=some cv∧RdCns B w cv ds[j].cons:=by
 rcases h with ⟨rfl,_⟩ |⟨b,off,cap,cv,h1,h2,h3,h4,h5⟩
 ·simp at hj
 ·exact⟨b,off,cap,cv j,h1,h2,h3,h4.2,h5 j hj⟩
def wgC (c:Cn):Nat:=c.name.size+wgT.wgTs c.args
def Dc:List Cn→Nat
 | []=>0
 |c::cs=>1+wgC c+Dc cs
def wgD (d:Dt):Nat:=d.name.size+Dc d.cons
def AN:List Dt→Nat
 | []=>0
 |d::ds=>1+wgD d+AN ds
theorem Eb {k:Cn}:∀ {ks:List Cn},k∈ks→wgC k+1≤Dc ks
 |x::xs,h=>by
  unfold Dc;rcases List.mem_cons.1 h with rfl |h
  ·omega
  ·have:=Eb h;omega
theorem Dm {k:Dt}:∀ {ks:List Dt},k∈ks→wgD k+1≤AN ks
 |x::xs,h=>by
  unfold AN;rcases List.mem_cons.1 h with rfl |h
  ·omega
  ·have:=Dm h;omega
theorem E9:∀ (ks:List Cn),ks.length≤Dc ks
 | []=>Ad _
 |x::xs=>by have:=E9 xs;unfold Dc;simp only[List.length_cons];omega
theorem Dn:∀ (ks:List Dt),ks.length≤AN ks
 | []=>Ad _
 |x::xs=>by have:=Dn xs;unfold AN;simp only[List.length_cons];omega
def cnP (vars:Int) (c:Cn):Bool:=Bg c.name&& c.args.all fun t=>decide (AE t≤24)&& AW vars t
def dtP (d:Dt):Bool:=Bg d.name&& (inB d.vars 0 26&& (decide (d.cons.length≠0)&& d.cons.all (cnP d.vars)))
def BG (ds:List Dt) (x:Nd):Bool:=ds.all dtP&& (decide (Bf x≤24)&& Aj x)
end Go.Proofs.YtifhcbeaiijkcaaGreat
end
section
namespace Go.Proofs.YtifhcbeaiijkcaaGreat
open Go.RowKit
open _root_.Go.World renaming alloc→Wa,setCell→Ws
open _root_.Go.Proofs.Tryz renaming prog→Pq
theorem UF (x:Nd) (kv:Value) (B:Nat) (w:World) (hl:wgN x≤1048576) (hr:RdNs B w kv x.kids) (HE:Hid (Aj x= (if x.op=7 then decide (x.n=0)&& (noS x.s&& (noS x.t&& (decide (2≤x.kids.length)&& AO x.kids)))else Ai x.op x.n x.s x.t x.kids.length&& AB x.kids)))
  (ES:Hid (∀ (W:World) (hb:Below w.heap.size w W),Calls Pq 174 #[ndV x kv,.int .i64 0] W fun e w'=>e= .returned (.bool (AB x.kids))∧Below W.heap.size W w'))
  (CA:Hid (∀ (W:World) (hb:Below w.heap.size w W),Calls Pq 175 #[ndV x kv] W fun e w'=>e= .returned (.bool (decide (2≤x.kids.length)&& AO x.kids))∧Below W.heap.size W w'))
  (ho:x.op=1):Calls Pq 114 #[ndV x kv] w fun e w'=>e= .returned (.bool (Aj x))∧Below w.heap.size w w':=by
 have hwg:=Av x;have hlen:=AY x.kids;have hss:x.s.size≤1048576:=by omega
 have htt:x.t.size≤1048576:=by omega
 have hks:x.kids.length≤1048576:=by omega
 obtain⟨ka,kc,rfl⟩:=hr.form;unfold ndV at ES CA ⊢;clear hr hwg hlen hl;generalize x.op=xop at*;generalize x.n=xn at*;generalize x.s=xs at*;generalize x.t=xt at*;generalize Aj x=px at*;generalize x.kids=ks at*;subst ho;go_enter Tryz.func114,Tryz.ntmps114;by_cases ht:xt.toList=[]
 ·skip;by_cases hs:xs.toList=[]
  ·skip;by_cases k0:ks.length=0
   ·have k0b:((ks.length:Int)==0)=true:=by rw[Cc];exact Ax k0
    have hn0:AB ks=true:=by rw[List.eq_nil_of_length_eq_zero k0];rfl
    have k0':=Aa k0;clear k0;go_wp2_with fail;generalize hxx:Wa _ _=x0;obtain⟨bb,k1⟩:=Bx.alloc hxx;clear hxx;refine(AZ xn 0 1073741823 _).mono ?_;rintro e w3 ⟨rfl,rfl⟩;go_wp2;go_ret;exact⟨Ac (by rw[HE.out];simp[Ai,Al ht,Al hs,k0'.out,hn0,inB,Cl,Ew]),bb⟩
   ·have k0b:((ks.length:Int)==0)=false:=by rw[Cc];exact AF k0
    have k0':=Aa k0;clear k0;go_wp2;go_ret;exact⟨Ac (by rw[HE.out];simp[Ai,Al ht,Al hs,k0'.out]),(Ab _ _).alloc (Ad _) _⟩
  ·have hse:(ByteArray.toList xs).isEmpty=false:=by simp[hs]
   go_wp2;go_ret;exact⟨Ac (by rw[HE.out];simp[Ai,Al ht,AH hs]),(Ab _ _).alloc (Ad _) _⟩
 ·have hte:(ByteArray.toList xt).isEmpty=false:=by simp[ht]
  go_wp2;go_ret;exact⟨Ac (by rw[HE.out];simp[Ai,AH ht]),(Ab _ _).alloc (Ad _) _⟩
theorem UG (x:Nd) (kv:Value) (B:Nat) (w:World) (hl:wgN x≤1048576) (hr:RdNs B w kv x.kids) (HE:Hid (Aj x= (if x.op=7 then decide (x.n=0)&& (noS x.s&& (noS x.t&& (decide (2≤x.kids.length)&& AO x.kids)))else Ai x.op x.n x.s x.t x.kids.length&& AB x.kids)))
  (ES:Hid (∀ (W:World) (hb:Below w.heap.size w W),Calls Pq 174 #[ndV x kv,.int .i64 0] W fun e w'=>e= .returned (.bool (AB x.kids))∧Below W.heap.size W w'))
  (CA:Hid (∀ (W:World) (hb:Below w.heap.size w W),Calls Pq 175 #[ndV x kv] W fun e w'=>e= .returned (.bool (decide (2≤x.kids.length)&& AO x.kids))∧Below W.heap.size W w'))
  (ho:x.op=2):Calls Pq 114 #[ndV x kv] w fun e w'=>e= .returned (.bool (Aj x))∧Below w.heap.size w w':=by
 have hwg:=Av x;have hlen:=AY x.kids;have hss:x.s.size≤1048576:=by omega
 have htt:x.t.size≤1048576:=by omega
 have hks:x.kids.length≤1048576:=by omega
 obtain⟨ka,kc,rfl⟩:=hr.form;unfold ndV at ES CA ⊢;clear hr hwg hlen hl;generalize x.op=xop at*;generalize x.n=xn at*;generalize x.s=xs at*;generalize x.t=xt at*;generalize Aj x=px at*;generalize x.kids=ks at*;subst ho;go_enter Tryz.func114,Tryz.ntmps114;by_cases n0:xn=0
 ·subst n0;by_cases ht:xt.toList=[]
  ·skip;by_cases k0:ks.length=0
   ·have k0b:((ks.length:Int)==0)=true:=by rw[Cc];exact Ax k0
    have hn0:AB ks=true:=by rw[List.eq_nil_of_length_eq_zero k0];rfl
    have k0':=Aa k0;clear k0;go_wp2_with fail;generalize hxx:Wa _ _=x0;obtain⟨bb,k1⟩:=Bx.alloc hxx;clear hxx;refine(FU xs _ hss).mono ?_;rintro e w3 ⟨rfl,b3⟩;replace k1:=k1.below b3 k1.1;replace bb:=bb.trans (b3.mono bb.size);clear b3;go_wp2;go_ret;exact⟨Ac (by rw[HE.out];simp[Ai,Al ht,k0'.out,hn0,inB,Cl,Ew]),bb⟩
   ·have k0b:((ks.length:Int)==0)=false:=by rw[Cc];exact AF k0
    have k0':=Aa k0;clear k0;go_wp2;go_ret;exact⟨Ac (by rw[HE.out];simp[Ai,Al ht,k0'.out]),(Ab _ _).alloc (Ad _) _⟩
  ·have hte:(ByteArray.toList xt).isEmpty=false:=by simp[ht]
   go_wp2;go_ret;exact⟨Ac (by rw[HE.out];simp[Ai,AH ht]),(Ab _ _).alloc (Ad _) _⟩
 ·have n0b:(xn !=0)=true:=by simp[n0]
  go_wp2;go_ret;exact⟨Ac (by rw[HE.out];simp[Ai,n0]),(Ab _ _).alloc (Ad _) _⟩
theorem UH (x:Nd) (kv:Value) (B:Nat) (w:World) (hl:wgN x≤1048576) (hr:RdNs B w kv x.kids) (HE:Hid (Aj x= (if x.op=7 then decide (x.n=0)&& (noS x.s&& (noS x.t&& (decide (2≤x.kids.length)&& AO x.kids)))else Ai x.op x.n x.s x.t x.kids.length&& AB x.kids)))
  (ES:Hid (∀ (W:World) (hb:Below w.heap.size w W),Calls Pq 174 #[ndV x kv,.int .i64 0] W fun e w'=>e= .returned (.bool (AB x.kids))∧Below W.heap.size W w'))
  (CA:Hid (∀ (W:World) (hb:Below w.heap.size w W),Calls Pq 175 #[ndV x kv] W fun e w'=>e= .returned (.bool (decide (2≤x.kids.length)&& AO x.kids))∧Below W.heap.size W w'))
  (ho:x.op=3):Calls Pq 114 #[ndV x kv] w fun e w'=>e= .returned (.bool (Aj x))∧Below w.heap.size w w':=by
 have hwg:=Av x;have hlen:=AY x.kids;have hss:x.s.size≤1048576:=by omega
 have htt:x.t.size≤1048576:=by omega
 have hks:x.kids.length≤1048576:=by omega
 obtain⟨ka,kc,rfl⟩:=hr.form;unfold ndV at ES CA ⊢;clear hr hwg hlen hl;generalize x.op=xop at*;generalize x.n=xn at*;generalize x.s=xs at*;generalize x.t=xt at*;generalize Aj x=px at*;generalize x.kids=ks at*;subst ho;go_enter Tryz.func114,Tryz.ntmps114;by_cases n0:xn=0
 ·subst n0;by_cases ht:xt.toList=[]
  ·skip;by_cases k0:ks.length=1
   ·have k0b:((ks.length:Int)==1)=true:=by rw[E8];exact Ax k0
    have k0':=Aa k0;clear k0;go_wp2_with fail;generalize hxx:Wa _ _=x0;obtain⟨bb,k1⟩:=Bx.alloc hxx;clear hxx;refine(FU xs _ hss).mono ?_;rintro e w3 ⟨rfl,b3⟩;replace k1:=k1.below b3 k1.1;replace bb:=bb.trans (b3.mono bb.size);clear b3;cases qns:BJ xs with
    |true=>
     have qns:=Aa qns;have q1:=k1.2.1;go_wp2_with fail;clear q1;refine(ES.out _ bb).mono ?_;rintro e w3 ⟨rfl,b3⟩;replace k1:=k1.below b3 k1.1;replace bb:=bb.trans (b3.mono bb.size);clear b3;go_wp2;go_ret;exact⟨Ac (by rw[HE.out];simp[Ai,Al ht,k0'.out,qns.out,inB,Cl,Ew]),bb⟩
    |false=>
     have qns:=Aa qns;have q1:=k1.2.1;go_wp2;go_ret;exact⟨Ac (by rw[HE.out];simp[Ai,Al ht,k0'.out,qns.out]),bb⟩
   ·have k0b:((ks.length:Int)==1)=false:=by rw[E8];exact AF k0
    have k0':=Aa k0;clear k0;go_wp2;go_ret;exact⟨Ac (by rw[HE.out];simp[Ai,Al ht,k0'.out]),(Ab _ _).alloc (Ad _) _⟩
  ·have hte:(ByteArray.toList xt).isEmpty=false:=by simp[ht]
   go_wp2;go_ret;exact⟨Ac (by rw[HE.out];simp[Ai,AH ht]),(Ab _ _).alloc (Ad _) _⟩
 ·have n0b:(xn !=0)=true:=by simp[n0]
  go_wp2;go_ret;exact⟨Ac (by rw[HE.out];simp[Ai,n0]),(Ab _ _).alloc (Ad _) _⟩
theorem UI (x:Nd) (kv:Value) (B:Nat) (w:World) (hl:wgN x≤1048576) (hr:RdNs B w kv x.kids) (HE:Hid (Aj x= (if x.op=7 then decide (x.n=0)&& (noS x.s&& (noS x.t&& (decide (2≤x.kids.length)&& AO x.kids)))else Ai x.op x.n x.s x.t x.kids.length&& AB x.kids)))
  (ES:Hid (∀ (W:World) (hb:Below w.heap.size w W),Calls Pq 174 #[ndV x kv,.int .i64 0] W fun e w'=>e= .returned (.bool (AB x.kids))∧Below W.heap.size W w'))
  (CA:Hid (∀ (W:World) (hb:Below w.heap.size w W),Calls Pq 175 #[ndV x kv] W fun e w'=>e= .returned (.bool (decide (2≤x.kids.length)&& AO x.kids))∧Below W.heap.size W w'))
  (ho:x.op=4):Calls Pq 114 #[ndV x kv] w fun e w'=>e= .returned (.bool (Aj x))∧Below w.heap.size w w':=by
 have hwg:=Av x;have hlen:=AY x.kids;have hss:x.s.size≤1048576:=by omega
 have htt:x.t.size≤1048576:=by omega
 have hks:x.kids.length≤1048576:=by omega
 obtain⟨ka,kc,rfl⟩:=hr.form;unfold ndV at ES CA ⊢;clear hr hwg hlen hl;generalize x.op=xop at*;generalize x.n=xn at*;generalize x.s=xs at*;generalize x.t=xt at*;generalize Aj x=px at*;generalize x.kids=ks at*;subst ho;go_enter Tryz.func114,Tryz.ntmps114;by_cases n0:xn=0
 ·subst n0;by_cases ht:xt.toList=[]
  ·skip;by_cases hs:xs.toList=[]
   ·skip;by_cases k0:ks.length=2
    ·have k0b:((ks.length:Int)==2)=true:=by rw[BF];exact Ax k0
     have k0':=Aa k0;clear k0;go_wp2_with fail;generalize hxx:Wa _ _=x0;obtain⟨bb,k1⟩:=Bx.alloc hxx;clear hxx;refine(ES.out _ bb).mono ?_;rintro e w3 ⟨rfl,b3⟩;replace k1:=k1.below b3 k1.1;replace bb:=bb.trans (b3.mono bb.size);clear b3;go_wp2;go_ret;exact⟨Ac (by rw[HE.out];simp[Ai,Al ht,Al hs,k0'.out,inB,Cl,Ew]),bb⟩
    ·have k0b:((ks.length:Int)==2)=false:=by rw[BF];exact AF k0
     have k0':=Aa k0;clear k0;go_wp2;go_ret;exact⟨Ac (by rw[HE.out];simp[Ai,Al ht,Al hs,k0'.out]),(Ab _ _).alloc (Ad _) _⟩
   ·have hse:(ByteArray.toList xs).isEmpty=false:=by simp[hs]
    go_wp2;go_ret;exact⟨Ac (by rw[HE.out];simp[Ai,Al ht,AH hs]),(Ab _ _).alloc (Ad _) _⟩
  ·have hte:(ByteArray.toList xt).isEmpty=false:=by simp[ht]
   go_wp2;go_ret;exact⟨Ac (by rw[HE.out];simp[Ai,AH ht]),(Ab _ _).alloc (Ad _) _⟩
 ·have n0b:(xn !=0)=true:=by simp[n0]
  go_wp2;go_ret;exact⟨Ac (by rw[HE.out];simp[Ai,n0]),(Ab _ _).alloc (Ad _) _⟩
theorem UJ (x:Nd) (kv:Value) (B:Nat) (w:World) (hl:wgN x≤1048576) (hr:RdNs B w kv x.kids) (HE:Hid (Aj x= (if x.op=7 then decide (x.n=0)&& (noS x.s&& (noS x.t&& (decide (2≤x.kids.length)&& AO x.kids)))else Ai x.op x.n x.s x.t x.kids.length&& AB x.kids)))
  (ES:Hid (∀ (W:World) (hb:Below w.heap.size w W),Calls Pq 174 #[ndV x kv,.int .i64 0] W fun e w'=>e= .returned (.bool (AB x.kids))∧Below W.heap.size W w'))
  (CA:Hid (∀ (W:World) (hb:Below w.heap.size w W),Calls Pq 175 #[ndV x kv] W fun e w'=>e= .returned (.bool (decide (2≤x.kids.length)&& AO x.kids))∧Below W.heap.size W w'))
  (ho:x.op=5):Calls Pq 114 #[ndV x kv] w fun e w'=>e= .returned (.bool (Aj x))∧Below w.heap.size w w':=by
 have hwg:=Av x;have hlen:=AY x.kids;have hss:x.s.size≤1048576:=by omega
 have htt:x.t.size≤1048576:=by omega
 have hks:x.kids.length≤1048576:=by omega
 obtain⟨ka,kc,rfl⟩:=hr.form;unfold ndV at ES CA ⊢;clear hr hwg hlen hl;generalize x.op=xop at*;generalize x.n=xn at*;generalize x.s=xs at*;generalize x.t=xt at*;generalize Aj x=px at*;generalize x.kids=ks at*;subst ho;go_enter Tryz.func114,Tryz.ntmps114;by_cases n0:xn=0
 ·subst n0;by_cases ht:xt.toList=[]
  ·skip;by_cases k0:ks.length=2
   ·have k0b:((ks.length:Int)==2)=true:=by rw[BF];exact Ax k0
    have k0':=Aa k0;clear k0;go_wp2_with fail;generalize hxx:Wa _ _=x0;obtain⟨bb,k1⟩:=Bx.alloc hxx;clear hxx;refine(FU xs _ hss).mono ?_;rintro e w3 ⟨rfl,b3⟩;replace k1:=k1.below b3 k1.1;replace bb:=bb.trans (b3.mono bb.size);clear b3;cases qns:BJ xs with
    |true=>
     have qns:=Aa qns;have q1:=k1.2.1;go_wp2_with fail;clear q1;refine(ES.out _ bb).mono ?_;rintro e w3 ⟨rfl,b3⟩;replace k1:=k1.below b3 k1.1;replace bb:=bb.trans (b3.mono bb.size);clear b3;go_wp2;go_ret;exact⟨Ac (by rw[HE.out];simp[Ai,Al ht,k0'.out,qns.out,inB,Cl,Ew]),bb⟩
    |false=>
     have qns:=Aa qns;have q1:=k1.2.1;go_wp2;go_ret;exact⟨Ac (by rw[HE.out];simp[Ai,Al ht,k0'.out,qns.out]),bb⟩
   ·have k0b:((ks.length:Int)==2)=false:=by rw[BF];exact AF k0
    have k0':=Aa k0;clear k0;go_wp2;go_ret;exact⟨Ac (by rw[HE.out];simp[Ai,Al ht,k0'.out]),(Ab _ _).alloc (Ad _) _⟩
  ·have hte:(ByteArray.toList xt).isEmpty=false:=by simp[ht]
   go_wp2;go_ret;exact⟨Ac (by rw[HE.out];simp[Ai,AH ht]),(Ab _ _).alloc (Ad _) _⟩
 ·have n0b:(xn !=0)=true:=by simp[n0]
  go_wp2;go_ret;exact⟨Ac (by rw[HE.out];simp[Ai,n0]),(Ab _ _).alloc (Ad _) _⟩
theorem UK (x:Nd) (kv:Value) (B:Nat) (w:World) (hl:wgN x≤1048576) (hr:RdNs B w kv x.kids) (HE:Hid (Aj x= (if x.op=7 then decide (x.n=0)&& (noS x.s&& (noS x.t&& (decide (2≤x.kids.length)&& AO x.kids)))else Ai x.op x.n x.s x.t x.kids.length&& AB x.kids)))
  (ES:Hid (∀ (W:World) (hb:Below w.heap.size w W),Calls Pq 174 #[ndV x kv,.int .i64 0] W fun e w'=>e= .returned (.bool (AB x.kids))∧Below W.heap.size W w'))
  (CA:Hid (∀ (W:World) (hb:Below w.heap.size w W),Calls Pq 175 #[ndV x kv] W fun e w'=>e= .returned (.bool (decide (2≤x.kids.length)&& AO x.kids))∧Below W.heap.size W w'))
  (ho:x.op=6):Calls Pq 114 #[ndV x kv] w fun e w'=>e= .returned (.bool (Aj x))∧Below w.heap.size w w':=by
 have hwg:=Av x;have hlen:=AY x.kids;have hss:x.s.size≤1048576:=by omega
 have htt:x.t.size≤1048576:=by omega
 have hks:x.kids.length≤1048576:=by omega
 obtain⟨ka,kc,rfl⟩:=hr.form;unfold ndV at ES CA ⊢;clear hr hwg hlen hl;generalize x.op=xop at*;generalize x.n=xn at*;generalize x.s=xs at*;generalize x.t=xt at*;generalize Aj x=px at*;generalize x.kids=ks at*;subst ho;go_enter Tryz.func114,Tryz.ntmps114;by_cases n0:xn=0
 ·subst n0;by_cases k0:ks.length=2
  ·have k0b:((ks.length:Int)==2)=true:=by rw[BF];exact Ax k0
   have k0':=Aa k0;clear k0;go_wp2_with fail;generalize hxx:Wa _ _=x0;obtain⟨bb,k1⟩:=Bx.alloc hxx;clear hxx;refine(FU xs _ hss).mono ?_;rintro e w3 ⟨rfl,b3⟩;replace k1:=k1.below b3 k1.1;replace bb:=bb.trans (b3.mono bb.size);clear b3;cases qns:BJ xs with
   |true=>
    have qns:=Aa qns;have q1:=k1.2.1;go_wp2_with fail;clear q1;refine(FU xt _ htt).mono ?_;rintro e w3 ⟨rfl,b3⟩;replace k1:=k1.below b3 k1.1;replace bb:=bb.trans (b3.mono bb.size);clear b3;cases qnt:BJ xt with
    |true=>
     have qnt:=Aa qnt;have q1:=k1.2.1;go_wp2_with fail;clear q1;refine(ES.out _ bb).mono ?_;rintro e w3 ⟨rfl,b3⟩;replace k1:=k1.below b3 k1.1;replace bb:=bb.trans (b3.mono bb.size);clear b3;go_wp2;go_ret;exact⟨Ac (by rw[HE.out];simp[Ai,k0'.out,qns.out,qnt.out,inB,Cl,Ew]),bb⟩
    |false=>
     have qnt:=Aa qnt;have q1:=k1.2.1;go_wp2;go_ret;exact⟨Ac (by rw[HE.out];simp[Ai,k0'.out,qns.out,qnt.out]),bb⟩
   |false=>
    have qns:=Aa qns;have q1:=k1.2.1;go_wp2;go_ret;exact⟨Ac (by rw[HE.out];simp[Ai,k0'.out,qns.out]),bb⟩
  ·have k0b:((ks.length:Int)==2)=false:=by rw[BF];exact AF k0
   have k0':=Aa k0;clear k0;go_wp2;go_ret;exact⟨Ac (by rw[HE.out];simp[Ai,k0'.out]),(Ab _ _).alloc (Ad _) _⟩
 ·have n0b:(xn !=0)=true:=by simp[n0]
  go_wp2;go_ret;exact⟨Ac (by rw[HE.out];simp[Ai,n0]),(Ab _ _).alloc (Ad _) _⟩
end Go.Proofs.YtifhcbeaiijkcaaGreat
end
