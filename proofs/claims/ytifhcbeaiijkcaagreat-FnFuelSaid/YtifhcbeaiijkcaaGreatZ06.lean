/- Parts of the proof of FnFuel. -/
import Derived.Test.YtifhcbeaiijkcaaGreatZ05
set_option linter.unusedVariables false
set_option linter.unusedSimpArgs false
set_option maxRecDepth 1000000
set_option maxHeartbeats 16000000
section
namespace Go.Proofs.YtifhcbeaiijkcaaGreat
open Go.RowKit
open _root_.Go.World renaming alloc→Wa,setCell→Ws
open _root_.Go.Proofs.Tryz renaming prog→Pq
theorem LU:∀ (N:Nat) (x:Nd) (kv:Value) (B:Nat) (w:World),BJ x≤N→BJ x≤4294967296→RdNs B w kv x.kids→
  Calls Pq 155 #[ndV x kv] w fun e w'=>e= .returned (.int .i64 (Ba x))∧Below w.heap.size w w'
 |0,x,kv,B,w,hN,hl,hr=>by have:=Hw x;omega
 |N+1,x,kv,B,w,hN,hl,hr=>by
  have HR:=Aa (fun(W:World) (hb:Below w.heap.size w W)=>hr.later' hb);have hlen:=hr.len;unfold maxLen at hlen;obtain⟨ka,kc,rfl⟩:=hr.form;have hsz:=Hw x;have ih:=fun(j:Nat) (hj:j < x.kids.length) (kv:Value) (B:Nat) (W:World) (h:RdNs B W kv x.kids[j].kids)=>(by
   have:=Kl (As hj);exact LU N x.kids[j] kv B W (by omega) (by omega) h:Calls Pq 155 #[ndV x.kids[j] kv] W fun e w'=>e= .returned (.int .i64 (Ba x.kids[j]))∧Below W.heap.size W w')
  unfold ndV at ih ⊢;have IH:=Aa ih;have HB:=Aa (fun(k:Nat)=>(show Ba.deepNs (x.kids.take k)≤4294967296 from by have:=Jk x.kids k;have:=LO x;have:=Hv x;omega));have HS:=Aa (Jj x.kids);have HX:=Aa (Hv x);clear hr ih hsz hN;generalize x.op=xop;generalize x.n=xn;generalize x.s=xs;generalize x.t=xt;generalize Ba x=dx at HX ⊢;generalize x.kids=ks at*;go_enter Tryz.func155,Tryz.ntmps155;go_wp2_with fail;generalize hxx:w.alloc _=x0;obtain⟨bb,k1⟩:=Bx.alloc hxx;clear hxx;go_wp2
  go_loopw [3,9] (fun o i wr=>∃k:Nat,k≤ks.length∧i= .int .i64 k∧o= .int .i64 (Ba.deepNs (ks.take k))∧Below w.heap.size w wr∧Bx wr w.heap.size #[.int .i64 xop,.int .i64 xn,.string xs,.string xt,.slice ka ks.length kc]) (fun _ i _=>ks.length - (intOf i).toNat)
  case atStart=>exact⟨0,Av _,rfl,rfl,bb,k1⟩
  case round=>
   clear bb k1;obtain⟨k,hk,rfl,rfl,bb,k1⟩:=hrel;by_cases hlt:k < ks.length
   ·obtain⟨b,off,cap,kv,hv,hB,hbs,hcap,⟨c0,c1,c2,c3,c4⟩,hkr⟩:=(HR.out wr bb).at_ hlt;cases hv
    have hki:(k:Int) < (ks.length:Int):=by omega
    obtain⟨kva,kvc,rfl⟩:=hkr.form;have HK:=Aa hkr;have q1:=k1.2.1;clear hkr;go_wp2_with fail;clear q1 c0 c1 c2 c3 c4;generalize hyy:wr.alloc _=wy;obtain⟨by_, -⟩:=Bx.alloc hyy;clear hyy;have hsz:=bb.size;refine(IH.out k hlt _ _ wy (HK.out.later by_ hsz)).mono ?_;rintro e w2 ⟨rfl,b2⟩;replace b2:=by_.trans (b2.mono by_.size);replace k1:=k1.below b2 k1.1;replace bb:=bb.trans (b2.mono hsz);clear b2 HK by_ hsz;have hb1:=HB.out (k+1);have hs1:=HS.out k hlt;go_wp2_with fail;go_roundw
    case rel=>
     refine⟨k+1,hlt,by go_num,?_,bb,k1⟩;rw[hs1];exact AX (Value.int .i64) (by omega)
    case measure=>simp[intOf];omega
   ·obtain rfl:k=ks.length:=by omega
    have hb1:=HB.out ks.length;have hx1:=HX.out;rw[CL]at hb1;simp only[CL];have q1:=k1.2.1;go_wp2;go_ret;exact⟨AK (by rw[hx1];simp),bb⟩
def wgN:Nd→Nat
 | .mk _ _ s t ks=>s.size+t.size+wgNs ks
where wgNs:List Nd→Nat
 | []=>0
 |k::ks=>1+wgN k+wgNs ks
theorem Aw (x:Nd):wgN x=x.s.size+x.t.size+wgN.wgNs x.kids:=by cases x;rfl
theorem AT {k:Nd}:∀ {ks:List Nd},k∈ks→wgN k+1≤wgN.wgNs ks
 |x::xs,h=>by
  unfold wgN.wgNs;rcases List.mem_cons.1 h with rfl |h
  ·omega
  ·have:=AT h;omega
theorem AU:∀ (ks:List Nd),ks.length≤wgN.wgNs ks
 | []=>Ad _
 |x::xs=>by have:=AU xs;unfold wgN.wgNs;simp only[List.length_cons];omega
theorem Kk (s:Str):noS s=decide (s.toList=[]):=by
 unfold noS;rw[BR,FO,FO];constructor
 ·rintro rfl;rw[ByteArray.toList_eq];rfl
 ·intro e;rw[ByteArray.toList_eq]at e;obtain⟨⟨l⟩⟩:=s;simp at e;subst e;rfl
theorem Ap {s:Str}(h:s.toList=[]):noS s=true:=by rw[Kk,AN h]
theorem AM {s:Str}(h:¬s.toList=[]):noS s=false:=by rw[Kk,AG h]
def Bj (op n:Int) (s t:Str) (k:Nat):Bool:=noS t&& (if op=17 then decide (n=0)&& (noS s&& decide (k=0))
   else if op=18 then decide (n=0)&& (BC s&& decide (k=0))
   else if op=19 then B9 n&& (noS s&& decide (k=0))
   else if op=20 then decide (n=0)&& Bb s else false)
theorem Gk:∀ (ks:List Nd),Dy ks=ks.all BG
 | []=>rfl
 |k::ks=>by rw[Dy,Gk ks];rfl
theorem Gl (x:Nd):BG x= (Dy x.kids&& Bj x.op x.n x.s x.t x.kids.length):=by
 obtain⟨op,n,s,t,ks⟩:=x;simp only[Nd.op,Nd.n,Nd.s,Nd.t,Nd.kids];rw[BG];unfold Bj;cases ks with
 |nil=>simp[Dy]
 |cons y ys=>
  simp only[List.length_cons];have h0:decide (ys.length+1=0)=false:=by simp
  rw[h0];generalize Dy (y::ys)=pp;cases pp <;> cases noS t <;> simp
theorem US {ks:List Nd}{k:Nat}(h:k < ks.length) (e:BG ks[k]=false):Dy ks=false:=by
 rw[Gk,IZ];exact⟨_,As h,by rw[e];simp⟩
theorem UT {ks:List Nd}(h:∀j (h:j < ks.length),BG ks[j]=true):Dy ks=true:=by
 rw[Gk,Be];intro x hx;obtain⟨j,hj,rfl⟩:=EH hx;exact h j hj
theorem OC:∀ (N:Nat) (x:Nd) (kv:Value) (B:Nat) (w:World),wgN x < N→wgN x≤1048576→RdNs B w kv x.kids→
  Calls Pq 216 #[ndV x kv] w fun e w'=>e= .returned (.bool (BG x))∧Below w.heap.size w w'
 |0,x,kv,B,w,hN,hl,hr=>by omega
 |N+1,x,kv,B,w,hN,hl,hr=>by
  have HR:=Aa (fun(W:World) (hb:Below w.heap.size w W)=>hr.later' hb);have hwg:=Aw x;have hlen:=AU x.kids;have hks:x.kids.length≤1048576:=by omega
  have hss:x.s.size≤1048576:=by omega
  obtain⟨ka,kc,rfl⟩:=hr.form;have ih:=fun(j:Nat) (hj:j < x.kids.length) (kv:Value) (B:Nat) (W:World) (h:RdNs B W kv x.kids[j].kids)=>(by
   have:=AT (As hj);exact OC N x.kids[j] kv B W (by omega) (by omega) h:Calls Pq 216 #[ndV x.kids[j] kv] W fun e w'=>e= .returned (.bool (BG x.kids[j]))∧Below W.heap.size W w')
  unfold ndV at ih ⊢;have IH:=Aa ih;have HE:=Aa (Gl x);clear hr ih hN hwg hlen hl;generalize x.op=xop at*;generalize x.n=xn at*;generalize x.s=xs at*;generalize x.t=xt at*;generalize BG x=px at*;generalize x.kids=ks at*;go_enter Tryz.func216,Tryz.ntmps216;go_wp2_with fail;generalize hxx:w.alloc _=x0;obtain⟨bb,k1⟩:=Bx.alloc hxx;clear hxx;go_wp2
  go_loopw [3] (fun i wr=>∃k:Nat,k≤ks.length∧i= .int .i64 k∧Below w.heap.size w wr∧Bx wr w.heap.size #[.int .i64 xop,.int .i64 xn,.string xs,.string xt,.slice ka ks.length kc]∧Hid (∀j (h:j < ks.length),j < k→BG ks[j]=true)) (fun i _=>ks.length - (intOf i).toNat)
  case atStart=>exact⟨0,Av _,rfl,bb,k1,Aa (fun j h hk=>absurd hk (Ay j))⟩
  case round=>
   clear bb k1;obtain⟨k,hk,rfl,bb,k1,hd⟩:=hrel;by_cases hlt:k < ks.length
   ·obtain⟨b,off,cap,kv,hv,hB,hbs,hcap,⟨c0,c1,c2,c3,c4⟩,hkr⟩:=(HR.out wr bb).at_ hlt;cases hv
    have hki:(k:Int) < (ks.length:Int):=by omega
    obtain⟨kva,kvc,rfl⟩:=hkr.form;have HK:=Aa hkr;have q1:=k1.2.1;clear hkr;go_wp2_with fail;clear q1 c0 c1 c2 c3 c4;refine(IH.out k hlt _ _ wr HK.out).mono ?_;rintro e w2 ⟨rfl,b2⟩;replace k1:=k1.below b2 k1.1;replace bb:=bb.trans (b2.mono bb.size);clear b2 HK;cases hp:BG ks[k]with
    |true=>
     have hp':=Aa hp;clear hp;go_wp2;go_roundw
     case rel=>exact⟨k+1,hlt,by go_num,bb,k1,Aa (fun j h hj=>by
      by_cases e:j=k
      ·subst e;exact hp'.out
      ·exact hd.out j h (by omega))⟩
     case measure=>simp[intOf];omega
    |false=>
     have hp':=Aa (US hlt hp);clear hp;go_wp2;go_ret;exact⟨Ae (by rw[HE.out,hp'.out];rfl),bb⟩
   ·obtain rfl:k=ks.length:=by omega
    have hy:=UT (fun j hj=>hd.out j hj hj);have HE:Hid (px=Bj xop xn xs xt ks.length):=Aa (by rw[HE.out,hy];rfl);clear hy;have q1:=k1.2.1;clear hd k1 HR IH;have W3:=Aa bb.size;by_cases ht:xt.toList=[]
    ·by_cases o20:xop=20
     ·subst o20;by_cases n0:xn=0
      ·subst n0;go_wp2_with fail;refine(GY xs _ hss).mono ?_;rintro e w3 ⟨rfl,b3⟩;replace bb:=bb.trans (b3.mono W3.out);go_wp2;go_ret;exact⟨Ae (by rw[HE.out];simp[Bj,Ap ht]),bb⟩
      ·go_wp2;go_ret;exact⟨Ae (by rw[HE.out];simp[Bj,n0]),bb⟩
     ·by_cases k0:ks.length=0
      ·have hk0:¬((ks.length:Int) > 0):=by omega
       by_cases o19:xop=19
       ·subst o19;by_cases hs:xs.toList=[]
        ·go_wp2_with fail;refine(Ei xn 0 1073741823 _).mono ?_;rintro e w3 ⟨rfl,rfl⟩;go_wp2;go_ret;exact⟨Ae (by rw[HE.out];simp[Bj,Ap ht,Ap hs,k0,inB,B9]),bb⟩
        ·go_wp2;go_ret;exact⟨Ae (by rw[HE.out];simp[Bj,AM hs,hs]),bb⟩
       ·by_cases n0:xn=0
        ·subst n0;by_cases o17:xop=17
         ·subst o17;go_wp2;go_ret;exact⟨Ae (by rw[HE.out];simp[Bj,Ap ht,Kk,k0];cases ByteArray.toList xs <;> simp),bb⟩
         ·by_cases o18:xop=18
          ·subst o18;go_wp2_with fail;refine(Gi xs _ hss).mono ?_;rintro e w3 ⟨rfl,b3⟩;replace bb:=bb.trans (b3.mono W3.out);go_wp2;go_ret;exact⟨Ae (by rw[HE.out];simp[Bj,Ap ht,k0]),bb⟩
          ·go_wp2;go_ret;exact⟨Ae (by rw[HE.out];simp[Bj,o17,o18,o19,o20]),bb⟩
        ·have hb:(xop !=19&& xn !=0)=true:=by simp[n0,o19]
         go_wp2;go_ret;exact⟨Ae (by rw[HE.out];simp[Bj,n0,o19,o20]),bb⟩
      ·have hk0:(ks.length:Int) > 0:=by omega
       go_wp2;go_ret;exact⟨Ae (by rw[HE.out];simp[Bj,k0,o20]),bb⟩
    ·go_wp2;go_ret;exact⟨Ae (by rw[HE.out];simp[Bj,AM ht]),bb⟩
end Go.Proofs.YtifhcbeaiijkcaaGreat
end
section
namespace Go.Proofs.YtifhcbeaiijkcaaGreat
open Go.RowKit
open _root_.Go.World renaming alloc→Wa,setCell→Ws
open _root_.Go.Proofs.Tryz renaming prog→Pq
theorem BL (n:Nat):((n:Int)==0)=decide (n=0):=by rw[BR];simp
theorem E9 (n:Nat):((n:Int)==1)=decide (n=1):=by rw[BR];simp;omega
theorem Bw (n:Nat):((n:Int)==2)=decide (n=2):=by rw[BR];simp;omega
theorem IT (n:Nat):((n:Int)==3)=decide (n=3):=by rw[BR];simp;omega
inductive Tp where
 |mk (op n:Int) (s:Str) (kids:List Tp)
namespace Tp
def op:Tp→Int |mk o _ _ _=>o
def n:Tp→Int |mk _ n _ _=>n
def s:Tp→Str |mk _ _ s _=>s
def kids:Tp→List Tp |mk _ _ _ k=>k
end Tp
def TpAt (w:World) (b o:Nat) (x:Tp) (kv:Value):Prop:=
 w.cell? ⟨b,o,none⟩=some (.int .i64 x.op)∧w.cell? ⟨b,o+1,none⟩=some (.int .i64 x.n)∧w.cell? ⟨b,o+2,none⟩=some (.string x.s)∧w.cell? ⟨b,o+3,none⟩=some kv
inductive RdTps (B:Nat) (w:World):Value→List Tp→Prop
 |nil (a:Option Addr) (cap:Nat):RdTps B w (.slice a 0 cap) []
 |row (b off cap:Nat) (ks:List Tp) (kv:Nat→Value) (hb:b < B) (hw:b < w.heap.size) (hl:ks.length≤maxLen∧ks.length≤cap)
   (hc:∀j (h:j < ks.length),TpAt w b (off+j*4) ks[j] (kv j)) (hk:∀j (h:j < ks.length),RdTps B w (kv j) ks[j].kids):RdTps B w (.slice (some ⟨b,off,none⟩) ks.length cap) ks
theorem TpAt.below {w w':World}{B b o:Nat}{x:Tp}{kv:Value}(h:TpAt w b o x kv) (hb:Below B w w') (hB:b < B):TpAt w' b o x kv:=
 ⟨(hb.cell (p:=⟨b,o,none⟩) hB).trans h.1,(hb.cell (p:=⟨b,o+1,none⟩) hB).trans h.2.1,(hb.cell (p:=⟨b,o+2,none⟩) hB).trans h.2.2.1,(hb.cell (p:=⟨b,o+3,none⟩) hB).trans h.2.2.2⟩
theorem RdTps.later {B B':Nat}{w w':World}{v:Value}{ks:List Tp}(h:RdTps B w v ks) (hb:Below B' w w') (hB:B≤B'):RdTps B w' v ks:=by
 induction h with
 |nil a cap=>exact .nil a cap
 |row b off cap ks kv h1 h2 h3 h4 _ ih=>exact .row b off cap ks kv h1 (Aj h2 hb.size) h3 (fun j hj=>(h4 j hj).below hb (Aj h1 hB)) ih
theorem RdTps.later' {B:Nat}{w w':World}{v:Value}{ks:List Tp}(h:RdTps B w v ks) (hb:Below w.heap.size w w'):RdTps w.heap.size w' v ks:=by
 induction h with
 |nil a cap=>exact .nil a cap
 |row b off cap ks kv h1 h2 h3 h4 _ ih=>exact .row b off cap ks kv h2 (Aj h2 hb.size) h3 (fun j hj=>(h4 j hj).below hb h2) ih
theorem RdTps.form {B:Nat}{w:World}{v:Value}{ks:List Tp}(h:RdTps B w v ks):∃a cap,v= .slice a ks.length cap:=by
 cases h with
 |nil a cap=>exact⟨a,cap,rfl⟩
 |row b off cap _ kv=>exact⟨_,cap,rfl⟩
theorem RdTps.len {B:Nat}{w:World}{v:Value}{ks:List Tp}(h:RdTps B w v ks):ks.length≤maxLen:=by
 cases h with
 |nil a cap=>simp
 |row b off cap _ kv _ _ hl=>exact hl.1
theorem RdTps.at_ {B:Nat}{w:World}{v:Value}{ks:List Tp}(h:RdTps B w v ks) {j:Nat}(hj:j < ks.length):∃b off cap kv,v= .slice (some ⟨b,off,none⟩) ks.length cap∧b < B∧b < w.heap.size∧ks.length≤cap∧TpAt w b (off+j*4) ks[j] kv∧RdTps B w kv ks[j].kids:=by
 cases h with
 |nil a cap=>simp at hj
 |row b off cap _ kv h1 h2 h3 h4 h5=>exact⟨b,off,cap,kv j,rfl,h1,h2,h3.2,h4 j hj,h5 j hj⟩
def wgT:Tp→Nat
 | .mk _ _ s ks=>s.size+wgTs ks
where wgTs:List Tp→Nat
 | []=>0
 |k::ks=>1+wgT k+wgTs ks
theorem Eg (x:Tp):wgT x=x.s.size+wgT.wgTs x.kids:=by cases x;rfl
theorem CJ {k:Tp}:∀ {ks:List Tp},k∈ks→wgT k+1≤wgT.wgTs ks
 |x::xs,h=>by
  unfold wgT.wgTs;rcases List.mem_cons.1 h with rfl |h
  ·omega
  ·have:=CJ h;omega
theorem DS:∀ (ks:List Tp),ks.length≤wgT.wgTs ks
 | []=>Ad _
 |x::xs=>by have:=DS xs;unfold wgT.wgTs;simp only[List.length_cons];omega
def AC:Tp→Nat
 | .mk _ _ _ ks=>deepTs ks+1
where deepTs:List Tp→Nat
 | []=>0
 |k::ks=>max (AC k) (deepTs ks)
theorem IU (x:Tp):AC x=AC.deepTs x.kids+1:=by cases x;rfl
theorem OG (x:Tp):AC x≤wgT x+1:=by
 have h:∀m (x:Tp),wgT x < m→AC x≤wgT x+1:=by
  intro m;induction m with
  |zero=>intro x hx;omega
  |succ m ih=>
   intro x hx;obtain⟨op,n,s,ks⟩:=x;unfold wgT at hx;unfold AC wgT;have:∀l:List Tp,wgT.wgTs l≤m→AC.deepTs l≤wgT.wgTs l:=by
    intro l;induction l with
    |nil=>intro _;exact Ad _
    |cons k l ihl=>
     intro hl;unfold wgT.wgTs at hl;unfold AC.deepTs wgT.wgTs;have a:=ih k (by omega);have b:=ihl (by omega);omega
   have:=this ks (by omega);omega
 exact h _ x (CM _)
theorem Km:∀ (ks:List Tp) (k:Nat) (h:k < ks.length),AC.deepTs (ks.take (k+1))=max (AC.deepTs (ks.take k)) (AC ks[k])
 |x::xs,0,h=>by simp[AC.deepTs]
 |x::xs,k+1,h=>by
  have:=Km xs k (by simpa using h);simp only[List.take_succ_cons,List.getElem_cons_succ];unfold AC.deepTs;rw[this];omega
theorem Kn:∀ (ks:List Tp) (k:Nat),AC.deepTs (ks.take k)≤AC.deepTs ks
 | [],k=>by simp
 |x::xs,0=>by simp[AC.deepTs]
 |x::xs,k+1=>by
  have:=Kn xs k;rw[List.take_succ_cons];unfold AC.deepTs;omega
def Bm (vars op n:Int) (s:Str) (k:Nat):Bool:=
 if op=1 then decide (n=0)&& (noS s&& decide (k=0))
 else if op=2 then inB n 0 (vars - 1)&& (noS s&& decide (k=0))
 else if op=3 then decide (n=0)&& (noS s&& decide (k=2))
 else if op=4 then decide (n=0)&& Bb s
 else false
def AW (vars:Int):Tp→Bool
 | .mk op n s ks=>typsP ks&& Bm vars op n s ks.length
where typsP:List Tp→Bool
 | []=>true
 |k::ks=>AW vars k&& typsP ks
theorem OH (vars:Int) (x:Tp):AW vars x= (AW.typsP vars x.kids&& Bm vars x.op x.n x.s x.kids.length):=by cases x;rfl
theorem IV (vars:Int):∀ (ks:List Tp),AW.typsP vars ks=ks.all (AW vars)
 | []=>rfl
 |k::ks=>by rw[AW.typsP,IV vars ks];rfl
theorem Dw {α:Type}{q:α→Bool}{ks:List α}{k:Nat}(h:k < ks.length) (e:q ks[k]=false):ks.all q=false:=by
 rw[IZ];exact⟨_,As h,by rw[e];simp⟩
theorem DT {α:Type}{q:α→Bool}{ks:List α}(h:∀j (h:j < ks.length),q ks[j]=true):ks.all q=true:=by
 rw[Be];intro x hx;obtain⟨j,hj,rfl⟩:=EH hx;exact h j hj
def tpV (x:Tp) (kv:Value):Value:= .agg #[.int .i64 x.op,.int .i64 x.n,.string x.s,kv]
structure Cn where
 name:Str
 args:List Tp
structure Dt where
 name:Str
 vars:Int
 cons:List Cn
def RdCns (B:Nat) (w:World) (v:Value) (cs:List Cn):Prop:=
 (cs=[]∧ ∃a cap,v= .slice a 0 cap)∨ ∃ (b off cap:Nat) (av:Nat→Value),v= .slice (some ⟨b,off,none⟩) cs.length cap∧b < B∧b < w.heap.size∧(cs.length≤maxLen∧cs.length≤cap)∧
  ∀j (h:j < cs.length),w.cell? ⟨b,off+j*2,none⟩=some (.string cs[j].name)∧w.cell? ⟨b,off+j*2+1,none⟩=some (av j)∧RdTps B w (av j) cs[j].args
def RdDts (B:Nat) (w:World) (v:Value) (ds:List Dt):Prop:=
 (ds=[]∧ ∃a cap,v= .slice a 0 cap)∨ ∃ (b off cap:Nat) (cv:Nat→Value),v= .slice (some ⟨b,off,none⟩) ds.length cap∧b < B∧b < w.heap.size∧(ds.length≤maxLen∧ds.length≤cap)∧
  ∀j (h:j < ds.length),w.cell? ⟨b,off+j*3,none⟩=some (.string ds[j].name)∧w.cell? ⟨b,off+j*3+1,none⟩=some (.int .i64 ds[j].vars)∧w.cell? ⟨b,off+j*3+2,none⟩=some (cv j)∧RdCns B w (cv j) ds[j].cons
theorem RdCns.later {B B':Nat}{w w':World}{v:Value}{cs:List Cn}(h:RdCns B w v cs) (hb:Below B' w w') (hB:B≤B'):RdCns B w' v cs:=by
 rcases h with h |⟨b,off,cap,av,h1,h2,h3,h4,h5⟩
 ·exact .inl h
 ·refine .inr ⟨b,off,cap,av,h1,h2,Aj h3 hb.size,h4,fun j hj=> ?_⟩;have hB':b < B':=Aj h2 hB;obtain⟨c1,c2,c3⟩:=h5 j hj;exact⟨(hb.cell (p:=⟨b,off+j*2,none⟩) hB').trans c1,(hb.cell (p:=⟨b,off+j*2+1,none⟩) hB').trans c2,c3.later hb hB⟩
theorem RdCns.later' {B:Nat}{w w':World}{v:Value}{cs:List Cn}(h:RdCns B w v cs) (hb:Below w.heap.size w w'):RdCns w.heap.size w' v cs:=by
 rcases h with h |⟨b,off,cap,av,h1,h2,h3,h4,h5⟩
 ·exact .inl h
 ·refine .inr ⟨b,off,cap,av,h1,h3,Aj h3 hb.size,h4,fun j hj=> ?_⟩;obtain⟨c1,c2,c3⟩:=h5 j hj;exact⟨(hb.cell (p:=⟨b,off+j*2,none⟩) h3).trans c1,(hb.cell (p:=⟨b,off+j*2+1,none⟩) h3).trans c2,c3.later' hb⟩
theorem RdDts.later {B B':Nat}{w w':World}{v:Value}{ds:List Dt}(h:RdDts B w v ds) (hb:Below B' w w') (hB:B≤B'):RdDts B w' v ds:=by
 rcases h with h |⟨b,off,cap,cv,h1,h2,h3,h4,h5⟩
 ·exact .inl h
 ·refine .inr ⟨b,off,cap,cv,h1,h2,Aj h3 hb.size,h4,fun j hj=> ?_⟩;have hB':b < B':=Aj h2 hB;obtain⟨c1,c2,c3,c4⟩:=h5 j hj;exact⟨(hb.cell (p:=⟨b,off+j*3,none⟩) hB').trans c1,(hb.cell (p:=⟨b,off+j*3+1,none⟩) hB').trans c2,(hb.cell (p:=⟨b,off+j*3+2,none⟩) hB').trans c3,c4.later hb hB⟩
theorem RdDts.later' {B:Nat}{w w':World}{v:Value}{ds:List Dt}(h:RdDts B w v ds) (hb:Below w.heap.size w w'):RdDts w.heap.size w' v ds:=by
 rcases h with h |⟨b,off,cap,cv,h1,h2,h3,h4,h5⟩
 ·exact .inl h
 ·refine .inr ⟨b,off,cap,cv,h1,h3,Aj h3 hb.size,h4,fun j hj=> ?_⟩;obtain⟨c1,c2,c3,c4⟩:=h5 j hj;exact⟨(hb.cell (p:=⟨b,off+j*3,none⟩) h3).trans c1,(hb.cell (p:=⟨b,off+j*3+1,none⟩) h3).trans c2,(hb.cell (p:=⟨b,off+j*3+2,none⟩) h3).trans c3,c4.later' hb⟩
theorem RdCns.form {B:Nat}{w:World}{v:Value}{cs:List Cn}(h:RdCns B w v cs):∃a cap,v= .slice a cs.length cap:=by
 rcases h with ⟨rfl,a,cap,rfl⟩ |⟨b,off,cap,av,rfl,_⟩
 ·exact⟨_,_,rfl⟩
 ·exact⟨_,_,rfl⟩
theorem RdDts.form {B:Nat}{w:World}{v:Value}{cs:List Dt}(h:RdDts B w v cs):∃a cap,v= .slice a cs.length cap:=by
 rcases h with ⟨rfl,a,cap,rfl⟩ |⟨b,off,cap,av,rfl,_⟩
 ·exact⟨_,_,rfl⟩
 ·exact⟨_,_,rfl⟩
theorem RdCns.at_ {B:Nat}{w:World}{v:Value}{cs:List Cn}(h:RdCns B w v cs) {j:Nat}(hj:j < cs.length):∃b off cap av,v= .slice (some ⟨b,off,none⟩) cs.length cap∧b < B∧b < w.heap.size∧cs.length≤cap∧w.cell? ⟨b,off+j*2,none⟩=some (.string cs[j].name)∧w.cell? ⟨b,off+j*2+1,none⟩=some av∧RdTps B w av cs[j].args:=by
 rcases h with ⟨rfl,_⟩ |⟨b,off,cap,av,h1,h2,h3,h4,h5⟩
 ·simp at hj
 ·exact⟨b,off,cap,av j,h1,h2,h3,h4.2,h5 j hj⟩
theorem RdDts.at_ {B:Nat}{w:World}{v:Value}{ds:List Dt}(h:RdDts B w v ds) {j:Nat}(hj:j < ds.length):∃b off cap cv,v= .slice (some ⟨b,off,none⟩) ds.length cap∧b < B∧b < w.heap.size∧ds.length≤cap∧w.cell? ⟨b,off+j*3,none⟩=some (.string ds[j].name)∧w.cell? ⟨b,off+j*3+1,none⟩=some (.int .i64 ds[j].vars)∧w.cell? ⟨b,off+j*3+2,none⟩=some cv∧RdCns B w cv ds[j].cons:=by
 rcases h with ⟨rfl,_⟩ |⟨b,off,cap,cv,h1,h2,h3,h4,h5⟩
 ·simp at hj
 ·exact⟨b,off,cap,cv j,h1,h2,h3,h4.2,h5 j hj⟩
def wgC (c:Cn):Nat:=c.name.size+wgT.wgTs c.args
def C9:List Cn→Nat
 | []=>0
 |c::cs=>1+wgC c+C9 cs
def wgD (d:Dt):Nat:=d.name.size+C9 d.cons
def AR:List Dt→Nat
 | []=>0
 |d::ds=>1+wgD d+AR ds
theorem Eh {k:Cn}:∀ {ks:List Cn},k∈ks→wgC k+1≤C9 ks
 |x::xs,h=>by
  unfold C9;rcases List.mem_cons.1 h with rfl |h
  ·omega
  ·have:=Eh h;omega
theorem Dx {k:Dt}:∀ {ks:List Dt},k∈ks→wgD k+1≤AR ks
 |x::xs,h=>by
  unfold AR;rcases List.mem_cons.1 h with rfl |h
  ·omega
  ·have:=Dx h;omega
theorem Fa:∀ (ks:List Cn),ks.length≤C9 ks
 | []=>Ad _
 |x::xs=>by have:=Fa xs;unfold C9;simp only[List.length_cons];omega
theorem De:∀ (ks:List Dt),ks.length≤AR ks
 | []=>Ad _
 |x::xs=>by have:=De xs;unfold AR;simp only[List.length_cons];omega
def cnP (vars:Int) (c:Cn):Bool:=Bb c.name&& c.args.all fun t=>decide (AC t≤24)&& AW vars t
def dtP (d:Dt):Bool:=Bb d.name&& (inB d.vars 0 26&& (decide (d.cons.length≠0)&& d.cons.all (cnP d.vars)))
def By (ds:List Dt) (x:Nd):Bool:=ds.all dtP&& (decide (Ba x≤24)&& Ao x)
end Go.Proofs.YtifhcbeaiijkcaaGreat
end
section
namespace Go.Proofs.YtifhcbeaiijkcaaGreat
open Go.RowKit
open _root_.Go.World renaming alloc→Wa,setCell→Ws
open _root_.Go.Proofs.Tryz renaming prog→Pq
structure Tw (g:Nat) (r r':Option Nat) (w w':World):Prop where
 os:w'.os=w.os
 tape:w'.tape=w.tape
 output:w'.output=w.output
 size:w.heap.size≤w'.heap.size
 block:∀k,k < w.heap.size→k≠g→r≠some k→w'.heap[k]?=w.heap[k]?
 row:∀k,r'=some k→(r=some k∨w.heap.size≤k)∧k < w'.heap.size
 own:r≠some g→r'≠some g
theorem Tw.refl {g:Nat}{r:Option Nat}{w:World}(hr:∀k,r=some k→k < w.heap.size):Tw g r r w w:=⟨rfl,rfl,rfl,Ad _,fun _ _ _ _=>rfl,fun k h=>⟨.inl h,hr k h⟩,id⟩
theorem Tw.trans {g:Nat}{r r' r'':Option Nat}{a b c:World}(h:Tw g r r' a b) (k:Tw g r' r'' b c):Tw g r r'' a c:=
 ⟨k.os.trans h.os,k.tape.trans h.tape,k.output.trans h.output,Ar h.size k.size,fun i hi hg hr=>(k.block i (Aj hi h.size) hg (fun e=>by
   rcases(h.row i e).1 with e |e
   ·exact hr e
   ·omega)).trans (h.block i hi hg hr),
  fun i e=>⟨by
   rcases(k.row i e).1 with e |e
   ·exact(h.row i e).1
   ·exact .inr (Ar h.size e),(k.row i e).2⟩,fun e=>k.own (h.own e)⟩
theorem Tw.below {g:Nat}{r r':Option Nat}{w w':World}{B:Nat}(h:Tw g r r' w w') (hB:B≤w.heap.size) (hg:B≤g) (hr:∀k,r=some k→B≤k):Below B w w':=
 ⟨h.os,h.tape,h.output,h.size,fun k hk=>h.block k (Aj hk hB) (by omega) (fun e=>by have:=hr k e;omega)⟩
theorem Tw.of_below {g:Nat}{r:Option Nat}{w w':World}(h:Below w.heap.size w w') (hr:∀k,r=some k→k < w.heap.size):Tw g r r w w':=
 ⟨h.os,h.tape,h.output,h.size,fun k hk _ _=>h.block k hk,fun k e=>⟨.inl e,Aj (hr k e) h.size⟩,id⟩
theorem Tw.low {g:Nat}{r r':Option Nat}{w w':World}{B:Nat}(h:Tw g r r' w w') (hr:∀k,r=some k→B≤k) (hB:B≤w.heap.size):∀k,r'=some k→B≤k:=fun k e=>by
 rcases(h.row k e).1 with e |e
 ·exact hr k e
 ·omega
def Kp (X:Nat→Prop) (g:Nat) (r:Option Nat) (w:World) (b:Nat):Prop:=b≠g∧r≠some b∧b < w.heap.size∧ ¬X b
theorem Kp.later {X:Nat→Prop}{g:Nat}{r r':Option Nat}{w w':World}{b:Nat}(h:Kp X g r w b) (t:Tw g r r' w w'):Kp X g r' w' b:=
 ⟨h.1,fun e=>by
  rcases(t.row b e).1 with e |e
  ·exact h.2.1 e
  ·have:=h.2.2.1;omega,Aj h.2.2.1 t.size,h.2.2.2⟩
theorem Kp.cell {X:Nat→Prop}{g:Nat}{r r':Option Nat}{w w':World}{b o:Nat}(h:Kp X g r w b) (t:Tw g r r' w w'):w'.cell? ⟨b,o,none⟩=w.cell? ⟨b,o,none⟩:=An (t.block b h.2.2.1 h.1 h.2.1)
inductive Xl where
 |th (v:Vl)
 |sc (e:Env)
abbrev AB:Value:= .slice none 0 0
abbrev noP:Value:= .pointer none
abbrev eS:Str:=⟨#[]⟩
def thC (kind n:Int) (s:Str) (kv:Value) (name:Str) (x:Nd) (bv ev:Value):Array Value:=
 #[.int .i64 kind,.int .i64 n,.string s,kv,.string name,.int .i64 x.op,.int .i64 x.n,.string x.s,.string x.t,bv,ev]
def scC (name:Str) (tv up:Value):Array Value:= #[.string name,tv,up]
def PvAt (X:Nat→Prop) (g:Nat) (r:Option Nat) (w:World) (kv:Value) (n:Nat) (pv:Nat→Value):Prop:=
 (n=0∧ ∃a cap,kv= .slice a 0 cap)∨ ∃b off cap,kv= .slice (some ⟨b,off,none⟩) n cap∧Kp X g r w b∧(n≤maxLen∧n≤cap)∧ ∀j,j < n→w.cell? ⟨b,off+j,none⟩=some (pv j)
theorem PvAt.later {X:Nat→Prop}{g:Nat}{r r':Option Nat}{w w':World}{kv:Value}{n:Nat}{pv:Nat→Value}(h:PvAt X g r w kv n pv) (t:Tw g r r' w w'):PvAt X g r' w' kv n pv:=by
 rcases h with h |⟨b,off,cap,h1,h2,h3,h4⟩
 ·exact .inl h
 ·exact .inr ⟨b,off,cap,h1,h2.later t,h3,fun j hj=>(h2.cell t).trans (h4 j hj)⟩
inductive RdX (B:Nat) (X:Nat→Prop) (g:Nat) (r:Option Nat) (w:World):Value→Xl→Prop
 |int (b:Nat) (n:Int) (hb:Kp X g r w b) (hc:∀j,w.cell? ⟨b,j,none⟩= (thC 1 n eS AB eS Nd.zero AB noP)[j]?):RdX B X g r w (.pointer (some ⟨b,0,none⟩)) (.th (.int n))
 |con (b:Nat) (s:Str) (kv:Value) (vs:List Vl) (pv:Nat→Value) (hb:Kp X g r w b) (hc:∀j,w.cell? ⟨b,j,none⟩= (thC 2 0 s kv eS Nd.zero AB noP)[j]?)
   (hk:PvAt X g r w kv vs.length pv) (hv:∀j (h:j < vs.length),RdX B X g r w (pv j) (.th vs[j])):RdX B X g r w (.pointer (some ⟨b,0,none⟩)) (.th (.con s vs))
 |fn (b:Nat) (arg:Str) (body:Nd) (env:Env) (bv ev:Value) (hb:Kp X g r w b) (hc:∀j,w.cell? ⟨b,j,none⟩= (thC 3 0 eS AB arg body bv ev)[j]?)
   (hx:RdNs B w bv body.kids) (he:RdX B X g r w ev (.sc env)):RdX B X g r w (.pointer (some ⟨b,0,none⟩)) (.th (.fn arg eS body env))
 |rec_ (b sb:Nat) (arg self:Str) (body:Nd) (env:Env) (bv ev:Value) (hn:self≠eS) (hb:Kp X g r w b) (hc:∀j,w.cell? ⟨b,j,none⟩= (thC 3 0 eS AB arg body bv (.pointer (some ⟨sb,0,none⟩)))[j]?)
   (hs:Kp X g r w sb) (hd:∀j,w.cell? ⟨sb,j,none⟩= (scC self (.pointer (some ⟨b,0,none⟩)) ev)[j]?) (hx:RdNs B w bv body.kids) (he:RdX B X g r w ev (.sc env)):RdX B X g r w (.pointer (some ⟨b,0,none⟩)) (.th (.fn arg self body env))
 |nil:RdX B X g r w noP (.sc [])
 |cons (sb:Nat) (name:Str) (tv up:Value) (v:Vl) (e:Env) (hs:Kp X g r w sb) (hd:∀j,w.cell? ⟨sb,j,none⟩= (scC name tv up)[j]?) (ht:RdX B X g r w tv (.th v)) (hu:RdX B X g r w up (.sc e)):RdX B X g r w (.pointer (some ⟨sb,0,none⟩)) (.sc ((name,v)::e))
theorem RdX.later {B g:Nat}{X:Nat→Prop}{r r':Option Nat}{w w':World}{v:Value}{x:Xl}(h:RdX B X g r w v x) (t:Tw g r r' w w') (hb:Below B w w'):RdX B X g r' w' v x:=by
 induction h with
 |int b n hk hc=>exact .int b n (hk.later t) (fun j=>(hk.cell t).trans (hc j))
 |con b s kv vs pv h1 hc hk _ ih=>exact .con b s kv vs pv (h1.later t) (fun j=>(h1.cell t).trans (hc j)) (hk.later t) ih
 |fn b arg body env bv ev h1 hc hx _ ih=>exact .fn b arg body env bv ev (h1.later t) (fun j=>(h1.cell t).trans (hc j)) (hx.later hb (Ad _)) ih
 |rec_ b sb arg self body env bv ev hn h1 hc hs hd hx _ ih=>exact .rec_ b sb arg self body env bv ev hn (h1.later t) (fun j=>(h1.cell t).trans (hc j)) (hs.later t) (fun j=>(hs.cell t).trans (hd j)) (hx.later hb (Ad _)) ih
 |nil=>exact .nil
 |cons sb name tv up v e hs hd _ _ iht ihu=>exact .cons sb name tv up v e (hs.later t) (fun j=>(hs.cell t).trans (hd j)) iht ihu
theorem Kp.off {X Y:Nat→Prop}{g:Nat}{r:Option Nat}{w:World}{b:Nat}(h:Kp X g r w b) (hY:∀b,b < w.heap.size→ ¬X b→ ¬Y b):Kp Y g r w b:=⟨h.1,h.2.1,h.2.2.1,hY b h.2.2.1 h.2.2.2⟩
theorem RdX.off {B g:Nat}{X Y:Nat→Prop}{r:Option Nat}{w:World}{v:Value}{x:Xl}(h:RdX B X g r w v x) (hY:∀b,b < w.heap.size→ ¬X b→ ¬Y b):RdX B Y g r w v x:=by
 induction h with
 |int b n hk hc=>exact .int b n (hk.off hY) hc
 |con b s kv vs pv h1 hc hk _ ih=>
  refine .con b s kv vs pv (h1.off hY) hc ?_ ih;rcases hk with h |⟨b,off,cap,h1,h2,h3,h4⟩
  ·exact .inl h
  ·exact .inr ⟨b,off,cap,h1,h2.off hY,h3,h4⟩
 |fn b arg body env bv ev h1 hc hx _ ih=>exact .fn b arg body env bv ev (h1.off hY) hc hx ih
 |rec_ b sb arg self body env bv ev hn h1 hc hs hd hx _ ih=>exact .rec_ b sb arg self body env bv ev hn (h1.off hY) hc (hs.off hY) hd hx ih
 |nil=>exact .nil
 |cons sb name tv up v e hs hd _ _ iht ihu=>exact .cons sb name tv up v e (hs.off hY) hd iht ihu
theorem RdX.wrote {B g:Nat}{X:Nat→Prop}{r:Option Nat}{w w':World}{v:Value}{x:Xl}(h:RdX B X g r w v x) (q:Nat) (hq:X q) (hs:w.heap.size≤w'.heap.size) (hb:∀b,b < w.heap.size→b≠q→b≠g→w'.heap[b]?=w.heap[b]?) (hB:Below B w w'):RdX B X g r w' v x:=by
 have hk:∀b,Kp X g r w b→Kp X g r w' b∧ ∀o,w'.cell? ⟨b,o,none⟩=w.cell? ⟨b,o,none⟩:=fun b h=>⟨⟨h.1,h.2.1,Aj h.2.2.1 hs,h.2.2.2⟩,fun o=>An (hb b h.2.2.1 (fun e=>h.2.2.2 (by rw[e];exact hq)) h.1)⟩
 induction h with
 |int b n h hc=>exact .int b n (hk b h).1 (fun j=>((hk b h).2 j).trans (hc j))
 |con b s kv vs pv h1 hc hp _ ih=>
  refine .con b s kv vs pv (hk b h1).1 (fun j=>((hk b h1).2 j).trans (hc j)) ?_ ih;rcases hp with h |⟨b,off,cap,h1,h2,h3,h4⟩
  ·exact .inl h
  ·exact .inr ⟨b,off,cap,h1,(hk b h2).1,h3,fun j hj=>((hk b h2).2 _).trans (h4 j hj)⟩
 |fn b arg body env bv ev h1 hc hx _ ih=>exact .fn b arg body env bv ev (hk b h1).1 (fun j=>((hk b h1).2 j).trans (hc j)) (hx.later hB (Ad _)) ih
 |rec_ b sb arg self body env bv ev hn h1 hc hs2 hd hx _ ih=>exact .rec_ b sb arg self body env bv ev hn (hk b h1).1 (fun j=>((hk b h1).2 j).trans (hc j)) (hk sb hs2).1 (fun j=>((hk sb hs2).2 j).trans (hd j)) (hx.later hB (Ad _)) ih
 |nil=>exact .nil
 |cons sb name tv up v e hs2 hd _ _ iht ihu=>exact .cons sb name tv up v e (hk sb hs2).1 (fun j=>((hk sb hs2).2 j).trans (hd j)) iht ihu
def RwAt (X:Nat→Prop) (g:Nat) (r:Option Nat) (w:World) (v:Value) (n sz:Nat) (at_:Nat→Array Value):Prop:=
 (n=0∧ ∃a cap,v= .slice a 0 cap)∨ ∃b off cap,v= .slice (some ⟨b,off,none⟩) n cap∧Kp X g r w b∧(n≤maxLen∧n≤cap)∧ ∀j,j < n→(at_ j).size=sz∧ ∀i,i < sz→w.cell? ⟨b,off+j*sz+i,none⟩= (at_ j)[i]?
theorem RwAt.later {X:Nat→Prop}{g:Nat}{r r':Option Nat}{w w':World}{v:Value}{n sz:Nat}{at_:Nat→Array Value}(h:RwAt X g r w v n sz at_) (t:Tw g r r' w w'):RwAt X g r' w' v n sz at_:=by
 rcases h with h |⟨b,off,cap,h1,h2,h3,h4⟩
 ·exact .inl h
 ·exact .inr ⟨b,off,cap,h1,h2.later t,h3,fun j hj=>⟨(h4 j hj).1,fun i hi=>(h2.cell t).trans ((h4 j hj).2 i hi)⟩⟩
theorem RwAt.form {X:Nat→Prop}{g:Nat}{r:Option Nat}{w:World}{v:Value}{n sz:Nat}{at_:Nat→Array Value}(h:RwAt X g r w v n sz at_):∃a cap,v= .slice a n cap:=by
 rcases h with ⟨rfl,a,cap,rfl⟩ |⟨b,off,cap,rfl,_⟩
 ·exact⟨a,cap,rfl⟩
 ·exact⟨_,cap,rfl⟩
def svC (kind n:Int) (s:Str) (kv:Value) (x:Nd) (bv:Value) (arg self:Str) (ev:Value):Array Value:=
 #[.int .i64 kind,.int .i64 n,.string s,kv,.int .i64 x.op,.int .i64 x.n,.string x.s,.string x.t,bv,.string arg,.string self,ev]
def svN (name:Str) (c:Array Value):Array Value:= #[.string name]++c
inductive RdS (B:Nat) (X:Nat→Prop) (g:Nat) (r:Option Nat) (w:World):Array Value→Xl→Prop
 |int (n:Int):RdS B X g r w (svC 1 n eS AB Nd.zero AB eS eS AB) (.th (.int n))
 |con (s:Str) (kv:Value) (vs:List Vl) (cs:Nat→Array Value) (hk:RwAt X g r w kv vs.length 12 cs) (hv:∀j (h:j < vs.length),RdS B X g r w (cs j) (.th vs[j])):RdS B X g r w (svC 2 0 s kv Nd.zero AB eS eS AB) (.th (.con s vs))
 |fn (arg self:Str) (body:Nd) (env:Env) (bv ev:Value) (hx:RdNs B w bv body.kids) (he:RdS B X g r w #[ev] (.sc env)):RdS B X g r w (svC 3 0 eS AB body bv arg self ev) (.th (.fn arg self body env))
 |sc (env:Env) (ev:Value) (cs:Nat→Array Value) (hk:RwAt X g r w ev env.length 13 (fun j=>svN (env.reverse[j]?.getD (eS,.int 0)).1 (cs j))) (hv:∀j (h:j < env.reverse.length),RdS B X g r w (cs j) (.th env.reverse[j].2)):RdS B X g r w #[ev] (.sc env)
theorem RdS.later {B g:Nat}{X:Nat→Prop}{r r':Option Nat}{w w':World}{v:Array Value}{x:Xl}(h:RdS B X g r w v x) (t:Tw g r r' w w') (hb:Below B w w'):RdS B X g r' w' v x:=by
 induction h with
 |int n=>exact .int n
 |con s kv vs cs hk _ ih=>exact .con s kv vs cs (hk.later t) ih
 |fn arg self body env bv ev hx _ ih=>exact .fn arg self body env bv ev (hx.later hb (Ad _)) ih
 |sc env ev cs hk _ ih=>exact .sc env ev cs (hk.later t) ih
theorem RdS.size {B g:Nat}{X:Nat→Prop}{r:Option Nat}{w:World}{c:Array Value}{v:Vl}(h:RdS B X g r w c (.th v)):c.size=12:=by
 cases h <;> rfl
theorem GZ:∀ (ks:List Nd),Az ks=ks.all Ao
 | []=>rfl
 |k::ks=>by rw[Az,GZ ks];rfl
theorem Ux {ks:List Nd}{k:Nat}(h:k < ks.length) (e:Ao ks[k]=false):Az ks=false:=by
 rw[GZ,IZ];exact⟨_,As h,by rw[e];simp⟩
theorem Uy {ks:List Nd}(h:∀j (h:j < ks.length),Ao ks[j]=true):Az ks=true:=by
 rw[GZ,Be];intro x hx;obtain⟨j,hj,rfl⟩:=EH hx;exact h j hj
theorem Uz (x:Nd) (kv:Value) (B:Nat) (w:World) (hl:wgN x≤1048576) (hr:RdNs B w kv x.kids)
  (ih:∀ (j:Nat) (hj:j < x.kids.length) (kv:Value) (B:Nat) (W:World),RdNs B W kv x.kids[j].kids→Calls Pq 114 #[ndV x.kids[j] kv] W fun e w'=>e= .returned (.bool (Ao x.kids[j]))∧Below W.heap.size W w'):
  Calls Pq 174 #[ndV x kv,.int .i64 0] w fun e w'=>e= .returned (.bool (Az x.kids))∧Below w.heap.size w w':=by
 have HR:=Aa (fun(W:World) (hb:Below w.heap.size w W)=>hr.later' hb);have hwg:=Aw x;have hlen:=AU x.kids;have hks:x.kids.length≤1048576:=by omega
 obtain⟨ka,kc,rfl⟩:=hr.form;unfold ndV at ih ⊢;have IH:=Aa ih;clear hr ih hwg hlen hl;generalize x.op=xop at*;generalize x.n=xn at*;generalize x.s=xs at*;generalize x.t=xt at*;generalize x.kids=ks at*;go_enter Tryz.func174,Tryz.ntmps174;go_wp2_with fail;generalize hxx:w.alloc _=x0;obtain⟨bb,k1⟩:=Bx.alloc hxx;clear hxx;go_wp2
 go_loopw [5] (fun i wr=>∃k:Nat,k≤ks.length∧i= .int .i64 k∧Below w.heap.size w wr∧Bx wr w.heap.size #[.int .i64 xop,.int .i64 xn,.string xs,.string xt,.slice ka ks.length kc]∧Hid (∀j (h:j < ks.length),j < k→Ao ks[j]=true)) (fun i _=>ks.length - (intOf i).toNat)
 case atStart=>exact⟨0,Av _,rfl,bb,k1,Aa (fun j h hk=>absurd hk (Ay j))⟩
 case round=>
  clear bb k1;obtain⟨k,hk,rfl,bb,k1,hd⟩:=hrel;by_cases hlt:k < ks.length
  ·obtain⟨b,off,cap,kv,hv,hB,hbs,hcap,⟨c0,c1,c2,c3,c4⟩,hkr⟩:=(HR.out wr bb).at_ hlt;cases hv
   have hki:(k:Int) < (ks.length:Int):=by omega
   obtain⟨kva,kvc,rfl⟩:=hkr.form;have HK:=Aa hkr;have q1:=k1.2.1;clear hkr;go_wp2_with fail;clear q1 c0 c1 c2 c3 c4;refine(IH.out k hlt _ _ wr HK.out).mono ?_;rintro e w2 ⟨rfl,b2⟩;replace k1:=k1.below b2 k1.1;replace bb:=bb.trans (b2.mono bb.size);clear b2 HK;cases hp:Ao ks[k]with
   |true=>
    have hp':=Aa hp;clear hp;go_wp2;go_roundw
    case rel=>exact⟨k+1,hlt,by go_num,bb,k1,Aa (fun j h hj=>by
     by_cases e:j=k
     ·subst e;exact hp'.out
     ·exact hd.out j h (by omega))⟩
    case measure=>simp[intOf];omega
   |false=>
    have hp':=Aa (Ux hlt hp);clear hp;go_wp2;go_ret;exact⟨Ae hp'.out.symm,bb⟩
  ·obtain rfl:k=ks.length:=by omega
   have hy:=Aa (Uy (fun j hj=>hd.out j hj hj));have q1:=k1.2.1;go_wp2;go_ret;exact⟨Ae hy.out.symm,bb⟩
end Go.Proofs.YtifhcbeaiijkcaaGreat
end
section
namespace Go.Proofs.YtifhcbeaiijkcaaGreat
open _root_.Go.World renaming alloc→Wa,setCell→Ws
open _root_.Go.Proofs.Tryz renaming prog→Pq
theorem Gs:∀ (ks:List Nd),IW ks=ks.all Ca
 | []=>rfl
 |k::ks=>by rw[IW,Gs ks];rfl
theorem PA {ks:List Nd}{k:Nat}(h1:1≤k) (h:k < ks.length) (e:Ca ks[k]=false):AP ks=false:=by
 cases ks with
 |nil=>simp at h
 |cons y ys=>
  rw[AP,Gs];obtain⟨k,rfl⟩:∃m,k=m+1:=⟨k - 1,by omega⟩;have h2:k < ys.length:=by simpa using h
  have:ys.all Ca=false:=by
   rw[IZ];exact⟨_,As h2,by simpa using e⟩
  rw[this];simp
theorem PB {ks:List Nd}(hl:0 < ks.length) (h:∀j (hj:j < ks.length),1≤j→Ca ks[j]=true):AP ks=Ao ks[0]:=by
 cases ks with
 |nil=>simp at hl
 |cons y ys=>
  rw[AP,Gs];have:ys.all Ca=true:=by
   rw[Be];intro x hx;obtain⟨j,hj,rfl⟩:=EH hx;have:=h (j+1) (by simp;exact hj) (by omega)
   simpa using this
  rw[this];simp
theorem I7 (x:Nd):Ca x= (Cu x.op x.n x.s x.t x.kids.length&& Fd x.kids):=by cases x;rw[Ca];rfl
theorem RdNs.two {B:Nat}{w:World}{v:Value}{p e:Nd}(h:RdNs B w v [p,e]):∃b off cap kv0 kv1,v= .slice (some ⟨b,off,none⟩) 2 cap∧b < w.heap.size∧2≤cap∧NdAt w b off p kv0∧RdNs B w kv0 p.kids∧NdAt w b (off+5) e kv1∧RdNs B w kv1 e.kids:=by
 cases h with
 |row b off cap _ kv h1 h2 h3 h4 h5=>
  have c0:=h4 0 (by simp);have c1:=h4 1 (by simp);have k0:=h5 0 (by simp);have k1:=h5 1 (by simp);simp only[Nat.zero_mul,Nat.one_mul,Nat.add_zero,List.getElem_cons_zero,List.getElem_cons_succ]at c0 c1 k0 k1;exact⟨b,off,cap,kv 0,kv 1,rfl,h2,h3.2,c0,k0,c1,k1⟩
theorem I8 {ks:List Nd}(h:ks.length=2):∃p e,ks=[p,e]:=by
 match ks,h with
 | [p,e],_=>exact⟨p,e,rfl⟩
end Go.Proofs.YtifhcbeaiijkcaaGreat
end
section
namespace Go.Proofs.YtifhcbeaiijkcaaGreat
open Go.RowKit
open _root_.Go.World renaming alloc→Wa,setCell→Ws
open _root_.Go.Proofs.Tryz renaming prog→Pq
theorem PC (x:Nd) (kv:Value) (B:Nat) (w:World) (hl:wgN x≤1048576) (hr:RdNs B w kv x.kids)
  (ih:∀ (y:Nd) (kv:Value) (B:Nat) (W:World),wgN y < wgN x→RdNs B W kv y.kids→Calls Pq 114 #[ndV y kv] W fun e w'=>e= .returned (.bool (Ao y))∧Below W.heap.size W w'):
  Calls Pq 175 #[ndV x kv] w fun e w'=>e= .returned (.bool (decide (2≤x.kids.length)&& AP x.kids))∧Below w.heap.size w w':=by
 have HR:=Aa (fun(W:World) (hb:Below w.heap.size w W)=>hr.later' hb);have hwg:=Aw x;have hlen:=AU x.kids;have hks:x.kids.length≤1048576:=by omega
 obtain⟨ka,kc,rfl⟩:=hr.form;have IP:=Aa (fun(j:Nat) (hj:j < x.kids.length) (i:Nat) (hi:i < x.kids[j].kids.length) (kv:Value) (B:Nat) (W:World) (h:RdNs B W kv x.kids[j].kids[i].kids)=>(by
  have h1:=AT (As hj);have h2:=AT (As hi);have h3:=Aw x.kids[j];exact OC 1048577 x.kids[j].kids[i] kv B W (by omega) (by omega) h:Calls Pq 216 #[ndV x.kids[j].kids[i] kv] W fun e w'=>e= .returned (.bool (BG x.kids[j].kids[i]))∧Below W.heap.size W w'))
 have IE:=Aa (fun(j:Nat) (hj:j < x.kids.length) (i:Nat) (hi:i < x.kids[j].kids.length) (kv:Value) (B:Nat) (W:World) (h:RdNs B W kv x.kids[j].kids[i].kids)=>(by
  have h1:=AT (As hj);have h2:=AT (As hi);have h3:=Aw x.kids[j];exact ih x.kids[j].kids[i] kv B W (by omega) h:Calls Pq 114 #[ndV x.kids[j].kids[i] kv] W fun e w'=>e= .returned (.bool (Ao x.kids[j].kids[i]))∧Below W.heap.size W w'))
 have I0:=Aa (fun(hj:0 < x.kids.length) (kv:Value) (B:Nat) (W:World) (h:RdNs B W kv x.kids[0].kids)=>(by
  have h1:=AT (As hj);exact ih x.kids[0] kv B W (by omega) h:Calls Pq 114 #[ndV x.kids[0] kv] W fun e w'=>e= .returned (.bool (Ao x.kids[0]))∧Below W.heap.size W w'))
 clear ih hr hwg hlen hl;unfold ndV at IP IE I0 ⊢;generalize x.op=xop at*;generalize x.n=xn at*;generalize x.s=xs at*;generalize x.t=xt at*;generalize x.kids=ks at*;go_enter Tryz.func175,Tryz.ntmps175;go_wp2_with fail;generalize hxx:w.alloc _=x0;obtain⟨bb,k1⟩:=Bx.alloc hxx;clear hxx;go_wp2
 go_loopw [3] (fun i wr=>∃k:Nat,1≤k∧(k≤ks.length∨k=1)∧i= .int .i64 k∧Below w.heap.size w wr∧Bx wr w.heap.size #[.int .i64 xop,.int .i64 xn,.string xs,.string xt,.slice ka ks.length kc]∧Hid (∀j (h:j < ks.length),1≤j→j < k→Ca ks[j]=true)) (fun i _=>ks.length - (intOf i).toNat)
 case atStart=>exact⟨1,Ad _,.inr rfl,rfl,bb,k1,Aa (fun j h h1 hk=>by omega)⟩
 case round=>
  clear bb k1;obtain⟨k,h1k,hk,rfl,bb,k1,hd⟩:=hrel;by_cases hlt:k < ks.length
  ·have IPk:=IP.out k hlt;have IEk:=IE.out k hlt;have HN:=PA h1k hlt;have HY:∀j (h:j < ks.length),1≤j→j < k+1→Ca ks[k]=true→Ca ks[j]=true:=fun j h h1 h2 h3=>by
    by_cases e:j=k
    ·subst e;exact h3
    ·exact hd.out j h h1 (by omega)
   obtain⟨b,off,cap,kv,hv,hB,hbs,hcap,⟨c0,c1,c2,c3,c4⟩,hkr⟩:=(HR.out wr bb).at_ hlt;cases hv
   have hki:(k:Int) < (ks.length:Int):=by omega
   have HA:=I7 ks[k];obtain⟨kva,kvc,rfl⟩:=hkr.form;generalize Ca ks[k]=ay at*;generalize ks[k]=y at*;obtain⟨yo,yn,ys,yt,yk⟩:=y;dsimp only[Nd.op,Nd.n,Nd.s,Nd.t,Nd.kids]at c0 c1 c2 c3 c4 hkr HA IPk IEk;have HK:=Aa hkr;have HA:=Aa HA;have HN:=Aa HN;have HY:=Aa HY;have IPk:=Aa IPk;have IEk:=Aa IEk;have q1:=k1.2.1;clear hkr;by_cases o8:yo=8
   ·subst o8;by_cases n0:yn=0
    ·subst n0;by_cases hs:ys.toList=[]
     ·by_cases ht:yt.toList=[]
      ·by_cases h2:yk.length=2
       ·obtain⟨p,e,rfl⟩:=I8 h2;obtain⟨b2,o2,cp2,kv0,kv1,hv2,hB2,hcp2,⟨d0,d1,d2,d3,d4⟩,hk0,⟨e0,e1,e2,e3,e4⟩,hk1⟩:=HK.out.two;cases hv2
        have IPp:=Aa (IPk.out 0 (by simp));have IEe:=Aa (IEk.out 1 (by simp));simp only[List.getElem_cons_zero,List.getElem_cons_succ]at IPp IEe;clear h2;have H0:=Aa hk0;have H1:=Aa hk1;clear hk0 hk1;go_wp2_with fail;generalize hyy:Wa _ _=wy;obtain⟨by_,k2⟩:=Bx.alloc hyy;clear hyy q1 c0 c1 c2 c3 c4 d0 d1 d2 d3 d4 e0 e1 e2 e3 e4;have hsz:=bb.size;refine(IPp.out _ _ wy (H0.out.later' by_)).mono ?_;rintro e1 w2 ⟨rfl,b2⟩;replace k2:=k2.below b2 k2.1;replace b2:=by_.trans (b2.mono by_.size);cases hp:BG p with
        |false=>
         have hp':=Aa hp;clear hp;replace bb:=bb.trans (b2.mono hsz);clear b2;go_wp2;go_ret;exact⟨Ae (by rw[HN.out (by rw[HA.out];simp[Cu,Fd,hp'.out])];simp),bb⟩
        |true=>
         have hp':=Aa hp;clear hp;obtain⟨b3,o3,cp3,kv3,kv4,hv3,hB3,hcp3, -, -,⟨e0,e1,e2,e3,e4⟩,hk4⟩:=(HK.out.later' b2).two;cases hv3
         have H4:=Aa hk4;have q2:=k2.2.1;clear hk4 k2 hB3;go_wp2_with fail;clear q2 e0 e1 e2 e3 e4;refine(IEe.out _ _ w2 H4.out).mono ?_;rintro e1 w3 ⟨rfl,b3⟩;replace b2:=b2.trans (b3.mono b2.size);replace k1:=k1.below b2 k1.1;replace bb:=bb.trans (b2.mono hsz);clear b2 b3;cases hq:Ao e with
         |false=>
          have hq':=Aa hq;clear hq;go_wp2;go_ret;exact⟨Ae (by rw[HN.out (by rw[HA.out];simp[Cu,Fd,hq'.out])];simp),bb⟩
         |true=>
          have hq':=Aa hq;clear hq;have hay:ay=true:=by rw[HA.out];simp[Cu,Fd,hq'.out,hp'.out,Ap hs,Ap ht]
          have hay':=Aa (HY.out · · · · hay);clear hay;go_wp2;go_roundw
          case rel=>exact⟨k+1,by omega,.inl hlt,by go_num,bb,k1,Aa (fun j h h1 hj=>hay'.out j h h1 hj)⟩
          case measure=>simp[intOf];omega
       ·have h2n:¬((yk.length:Int)=2):=by omega
        go_wp2;go_ret;exact⟨Ae (by rw[HN.out (by rw[HA.out];simp[Cu,h2])];simp),bb.alloc bb.size _⟩
      ·go_wp2;go_ret;exact⟨Ae (by rw[HN.out (by rw[HA.out];simp[Cu,AM ht])];simp),bb.alloc bb.size _⟩
     ·go_wp2;go_ret;exact⟨Ae (by rw[HN.out (by rw[HA.out];simp[Cu,AM hs])];simp),bb.alloc bb.size _⟩
    ·go_wp2;go_ret;exact⟨Ae (by rw[HN.out (by rw[HA.out];simp[Cu,n0])];simp),bb.alloc bb.size _⟩
   ·go_wp2;go_ret;exact⟨Ae (by rw[HN.out (by rw[HA.out];simp[Cu,o8])];simp),bb.alloc bb.size _⟩
  ·have HY:=Aa (fun(hl:0 < ks.length)=>PB hl (fun j h h1=>hd.out j h h1 (by omega)));have q1:=k1.2.1;by_cases h2:2≤ks.length
   ·have h2i:(2:Int)≤ (ks.length:Int):=by omega
    have h0:0 < ks.length:=by omega
    obtain⟨b,off,cap,kv,hv,hB,hbs,hcap,⟨c0,c1,c2,c3,c4⟩,hkr⟩:=(HR.out wr bb).at_ h0;rw[Nat.zero_mul,Nat.add_zero]at c0 c1 c2 c3 c4;cases hv
    have H0:=Aa hkr;clear hkr;go_wp2_with fail;clear q1 c0 c1 c2 c3 c4;refine(I0.out h0 _ _ wr H0.out).mono ?_;rintro e1 w3 ⟨rfl,b3⟩;replace bb:=bb.trans (b3.mono bb.size);go_wp2;go_ret;exact⟨Ae (by rw[HY.out h0];simp[h2]),bb⟩
   ·have h2i:¬((2:Int)≤ (ks.length:Int)):=by omega
    go_wp2;go_ret;exact⟨Ae (by simp[h2]),bb⟩
theorem VN (x:Nd) (kv:Value) (B:Nat) (w:World) (hl:wgN x≤1048576) (hr:RdNs B w kv x.kids) (HE:Hid (Ao x= (if x.op=7 then decide (x.n=0)&& (noS x.s&& (noS x.t&& (decide (2≤x.kids.length)&& AP x.kids)))else Al x.op x.n x.s x.t x.kids.length&& Az x.kids)))
  (ES:Hid (∀ (W:World) (hb:Below w.heap.size w W),Calls Pq 174 #[ndV x kv,.int .i64 0] W fun e w'=>e= .returned (.bool (Az x.kids))∧Below W.heap.size W w'))
  (CA:Hid (∀ (W:World) (hb:Below w.heap.size w W),Calls Pq 175 #[ndV x kv] W fun e w'=>e= .returned (.bool (decide (2≤x.kids.length)&& AP x.kids))∧Below W.heap.size W w'))
  (ho:x.op=1):Calls Pq 114 #[ndV x kv] w fun e w'=>e= .returned (.bool (Ao x))∧Below w.heap.size w w':=by
 have hwg:=Aw x;have hlen:=AU x.kids;have hss:x.s.size≤1048576:=by omega
 have htt:x.t.size≤1048576:=by omega
 have hks:x.kids.length≤1048576:=by omega
 obtain⟨ka,kc,rfl⟩:=hr.form;unfold ndV at ES CA ⊢;clear hr hwg hlen hl;generalize x.op=xop at*;generalize x.n=xn at*;generalize x.s=xs at*;generalize x.t=xt at*;generalize Ao x=px at*;generalize x.kids=ks at*;subst ho;go_enter Tryz.func114,Tryz.ntmps114;by_cases ht:xt.toList=[]
 ·skip;by_cases hs:xs.toList=[]
  ·skip;by_cases k0:ks.length=0
   ·have k0b:((ks.length:Int)==0)=true:=by rw[BL];exact AN k0
    have hn0:Az ks=true:=by rw[List.eq_nil_of_length_eq_zero k0];rfl
    have k0':=Aa k0;clear k0;go_wp2_with fail;generalize hxx:Wa _ _=x0;obtain⟨bb,k1⟩:=Bx.alloc hxx;clear hxx;refine(Ei xn 0 1073741823 _).mono ?_;rintro e w3 ⟨rfl,rfl⟩;go_wp2;go_ret;exact⟨Ae (by rw[HE.out];simp[Al,Ap ht,Ap hs,k0'.out,hn0,inB,B9,Eo]),bb⟩
   ·have k0b:((ks.length:Int)==0)=false:=by rw[BL];exact AG k0
    have k0':=Aa k0;clear k0;go_wp2;go_ret;exact⟨Ae (by rw[HE.out];simp[Al,Ap ht,Ap hs,k0'.out]),(Ac _ _).alloc (Ad _) _⟩
  ·have hse:(ByteArray.toList xs).isEmpty=false:=by simp[hs]
   go_wp2;go_ret;exact⟨Ae (by rw[HE.out];simp[Al,Ap ht,AM hs]),(Ac _ _).alloc (Ad _) _⟩
 ·have hte:(ByteArray.toList xt).isEmpty=false:=by simp[ht]
  go_wp2;go_ret;exact⟨Ae (by rw[HE.out];simp[Al,AM ht]),(Ac _ _).alloc (Ad _) _⟩
theorem VO (x:Nd) (kv:Value) (B:Nat) (w:World) (hl:wgN x≤1048576) (hr:RdNs B w kv x.kids) (HE:Hid (Ao x= (if x.op=7 then decide (x.n=0)&& (noS x.s&& (noS x.t&& (decide (2≤x.kids.length)&& AP x.kids)))else Al x.op x.n x.s x.t x.kids.length&& Az x.kids)))
  (ES:Hid (∀ (W:World) (hb:Below w.heap.size w W),Calls Pq 174 #[ndV x kv,.int .i64 0] W fun e w'=>e= .returned (.bool (Az x.kids))∧Below W.heap.size W w'))
  (CA:Hid (∀ (W:World) (hb:Below w.heap.size w W),Calls Pq 175 #[ndV x kv] W fun e w'=>e= .returned (.bool (decide (2≤x.kids.length)&& AP x.kids))∧Below W.heap.size W w'))
  (ho:x.op=2):Calls Pq 114 #[ndV x kv] w fun e w'=>e= .returned (.bool (Ao x))∧Below w.heap.size w w':=by
 have hwg:=Aw x;have hlen:=AU x.kids;have hss:x.s.size≤1048576:=by omega
 have htt:x.t.size≤1048576:=by omega
 have hks:x.kids.length≤1048576:=by omega
 obtain⟨ka,kc,rfl⟩:=hr.form;unfold ndV at ES CA ⊢;clear hr hwg hlen hl;generalize x.op=xop at*;generalize x.n=xn at*;generalize x.s=xs at*;generalize x.t=xt at*;generalize Ao x=px at*;generalize x.kids=ks at*;subst ho;go_enter Tryz.func114,Tryz.ntmps114;by_cases n0:xn=0
 ·subst n0;by_cases ht:xt.toList=[]
  ·skip;by_cases k0:ks.length=0
   ·have k0b:((ks.length:Int)==0)=true:=by rw[BL];exact AN k0
    have hn0:Az ks=true:=by rw[List.eq_nil_of_length_eq_zero k0];rfl
    have k0':=Aa k0;clear k0;go_wp2_with fail;generalize hxx:Wa _ _=x0;obtain⟨bb,k1⟩:=Bx.alloc hxx;clear hxx;refine(Gi xs _ hss).mono ?_;rintro e w3 ⟨rfl,b3⟩;replace k1:=k1.below b3 k1.1;replace bb:=bb.trans (b3.mono bb.size);clear b3;go_wp2;go_ret;exact⟨Ae (by rw[HE.out];simp[Al,Ap ht,k0'.out,hn0,inB,B9,Eo]),bb⟩
   ·have k0b:((ks.length:Int)==0)=false:=by rw[BL];exact AG k0
    have k0':=Aa k0;clear k0;go_wp2;go_ret;exact⟨Ae (by rw[HE.out];simp[Al,Ap ht,k0'.out]),(Ac _ _).alloc (Ad _) _⟩
  ·have hte:(ByteArray.toList xt).isEmpty=false:=by simp[ht]
   go_wp2;go_ret;exact⟨Ae (by rw[HE.out];simp[Al,AM ht]),(Ac _ _).alloc (Ad _) _⟩
 ·have n0b:(xn !=0)=true:=by simp[n0]
  go_wp2;go_ret;exact⟨Ae (by rw[HE.out];simp[Al,n0]),(Ac _ _).alloc (Ad _) _⟩
theorem VP (x:Nd) (kv:Value) (B:Nat) (w:World) (hl:wgN x≤1048576) (hr:RdNs B w kv x.kids) (HE:Hid (Ao x= (if x.op=7 then decide (x.n=0)&& (noS x.s&& (noS x.t&& (decide (2≤x.kids.length)&& AP x.kids)))else Al x.op x.n x.s x.t x.kids.length&& Az x.kids)))
  (ES:Hid (∀ (W:World) (hb:Below w.heap.size w W),Calls Pq 174 #[ndV x kv,.int .i64 0] W fun e w'=>e= .returned (.bool (Az x.kids))∧Below W.heap.size W w'))
  (CA:Hid (∀ (W:World) (hb:Below w.heap.size w W),Calls Pq 175 #[ndV x kv] W fun e w'=>e= .returned (.bool (decide (2≤x.kids.length)&& AP x.kids))∧Below W.heap.size W w'))
  (ho:x.op=3):Calls Pq 114 #[ndV x kv] w fun e w'=>e= .returned (.bool (Ao x))∧Below w.heap.size w w':=by
 have hwg:=Aw x;have hlen:=AU x.kids;have hss:x.s.size≤1048576:=by omega
 have htt:x.t.size≤1048576:=by omega
 have hks:x.kids.length≤1048576:=by omega
 obtain⟨ka,kc,rfl⟩:=hr.form;unfold ndV at ES CA ⊢;clear hr hwg hlen hl;generalize x.op=xop at*;generalize x.n=xn at*;generalize x.s=xs at*;generalize x.t=xt at*;generalize Ao x=px at*;generalize x.kids=ks at*;subst ho;go_enter Tryz.func114,Tryz.ntmps114;by_cases n0:xn=0
 ·subst n0;by_cases ht:xt.toList=[]
  ·skip;by_cases k0:ks.length=1
   ·have k0b:((ks.length:Int)==1)=true:=by rw[E9];exact AN k0
    have k0':=Aa k0;clear k0;go_wp2_with fail;generalize hxx:Wa _ _=x0;obtain⟨bb,k1⟩:=Bx.alloc hxx;clear hxx;refine(Gi xs _ hss).mono ?_;rintro e w3 ⟨rfl,b3⟩;replace k1:=k1.below b3 k1.1;replace bb:=bb.trans (b3.mono bb.size);clear b3;cases qns:BC xs with
    |true=>
     have qns:=Aa qns;have q1:=k1.2.1;go_wp2_with fail;clear q1;refine(ES.out _ bb).mono ?_;rintro e w3 ⟨rfl,b3⟩;replace k1:=k1.below b3 k1.1;replace bb:=bb.trans (b3.mono bb.size);clear b3;go_wp2;go_ret;exact⟨Ae (by rw[HE.out];simp[Al,Ap ht,k0'.out,qns.out,inB,B9,Eo]),bb⟩
    |false=>
     have qns:=Aa qns;have q1:=k1.2.1;go_wp2;go_ret;exact⟨Ae (by rw[HE.out];simp[Al,Ap ht,k0'.out,qns.out]),bb⟩
   ·have k0b:((ks.length:Int)==1)=false:=by rw[E9];exact AG k0
    have k0':=Aa k0;clear k0;go_wp2;go_ret;exact⟨Ae (by rw[HE.out];simp[Al,Ap ht,k0'.out]),(Ac _ _).alloc (Ad _) _⟩
  ·have hte:(ByteArray.toList xt).isEmpty=false:=by simp[ht]
   go_wp2;go_ret;exact⟨Ae (by rw[HE.out];simp[Al,AM ht]),(Ac _ _).alloc (Ad _) _⟩
 ·have n0b:(xn !=0)=true:=by simp[n0]
  go_wp2;go_ret;exact⟨Ae (by rw[HE.out];simp[Al,n0]),(Ac _ _).alloc (Ad _) _⟩
theorem VQ (x:Nd) (kv:Value) (B:Nat) (w:World) (hl:wgN x≤1048576) (hr:RdNs B w kv x.kids) (HE:Hid (Ao x= (if x.op=7 then decide (x.n=0)&& (noS x.s&& (noS x.t&& (decide (2≤x.kids.length)&& AP x.kids)))else Al x.op x.n x.s x.t x.kids.length&& Az x.kids)))
  (ES:Hid (∀ (W:World) (hb:Below w.heap.size w W),Calls Pq 174 #[ndV x kv,.int .i64 0] W fun e w'=>e= .returned (.bool (Az x.kids))∧Below W.heap.size W w'))
  (CA:Hid (∀ (W:World) (hb:Below w.heap.size w W),Calls Pq 175 #[ndV x kv] W fun e w'=>e= .returned (.bool (decide (2≤x.kids.length)&& AP x.kids))∧Below W.heap.size W w'))
  (ho:x.op=4):Calls Pq 114 #[ndV x kv] w fun e w'=>e= .returned (.bool (Ao x))∧Below w.heap.size w w':=by
 have hwg:=Aw x;have hlen:=AU x.kids;have hss:x.s.size≤1048576:=by omega
 have htt:x.t.size≤1048576:=by omega
 have hks:x.kids.length≤1048576:=by omega
 obtain⟨ka,kc,rfl⟩:=hr.form;unfold ndV at ES CA ⊢;clear hr hwg hlen hl;generalize x.op=xop at*;generalize x.n=xn at*;generalize x.s=xs at*;generalize x.t=xt at*;generalize Ao x=px at*;generalize x.kids=ks at*;subst ho;go_enter Tryz.func114,Tryz.ntmps114;by_cases n0:xn=0
 ·subst n0;by_cases ht:xt.toList=[]
  ·skip;by_cases hs:xs.toList=[]
   ·skip;by_cases k0:ks.length=2
    ·have k0b:((ks.length:Int)==2)=true:=by rw[Bw];exact AN k0
     have k0':=Aa k0;clear k0;go_wp2_with fail;generalize hxx:Wa _ _=x0;obtain⟨bb,k1⟩:=Bx.alloc hxx;clear hxx;refine(ES.out _ bb).mono ?_;rintro e w3 ⟨rfl,b3⟩;replace k1:=k1.below b3 k1.1;replace bb:=bb.trans (b3.mono bb.size);clear b3;go_wp2;go_ret;exact⟨Ae (by rw[HE.out];simp[Al,Ap ht,Ap hs,k0'.out,inB,B9,Eo]),bb⟩
    ·have k0b:((ks.length:Int)==2)=false:=by rw[Bw];exact AG k0
     have k0':=Aa k0;clear k0;go_wp2;go_ret;exact⟨Ae (by rw[HE.out];simp[Al,Ap ht,Ap hs,k0'.out]),(Ac _ _).alloc (Ad _) _⟩
   ·have hse:(ByteArray.toList xs).isEmpty=false:=by simp[hs]
    go_wp2;go_ret;exact⟨Ae (by rw[HE.out];simp[Al,Ap ht,AM hs]),(Ac _ _).alloc (Ad _) _⟩
  ·have hte:(ByteArray.toList xt).isEmpty=false:=by simp[ht]
   go_wp2;go_ret;exact⟨Ae (by rw[HE.out];simp[Al,AM ht]),(Ac _ _).alloc (Ad _) _⟩
 ·have n0b:(xn !=0)=true:=by simp[n0]
  go_wp2;go_ret;exact⟨Ae (by rw[HE.out];simp[Al,n0]),(Ac _ _).alloc (Ad _) _⟩
theorem VS (x:Nd) (kv:Value) (B:Nat) (w:World) (hl:wgN x≤1048576) (hr:RdNs B w kv x.kids) (HE:Hid (Ao x= (if x.op=7 then decide (x.n=0)&& (noS x.s&& (noS x.t&& (decide (2≤x.kids.length)&& AP x.kids)))else Al x.op x.n x.s x.t x.kids.length&& Az x.kids)))
  (ES:Hid (∀ (W:World) (hb:Below w.heap.size w W),Calls Pq 174 #[ndV x kv,.int .i64 0] W fun e w'=>e= .returned (.bool (Az x.kids))∧Below W.heap.size W w'))
  (CA:Hid (∀ (W:World) (hb:Below w.heap.size w W),Calls Pq 175 #[ndV x kv] W fun e w'=>e= .returned (.bool (decide (2≤x.kids.length)&& AP x.kids))∧Below W.heap.size W w'))
  (ho:x.op=5):Calls Pq 114 #[ndV x kv] w fun e w'=>e= .returned (.bool (Ao x))∧Below w.heap.size w w':=by
 have hwg:=Aw x;have hlen:=AU x.kids;have hss:x.s.size≤1048576:=by omega
 have htt:x.t.size≤1048576:=by omega
 have hks:x.kids.length≤1048576:=by omega
 obtain⟨ka,kc,rfl⟩:=hr.form;unfold ndV at ES CA ⊢;clear hr hwg hlen hl;generalize x.op=xop at*;generalize x.n=xn at*;generalize x.s=xs at*;generalize x.t=xt at*;generalize Ao x=px at*;generalize x.kids=ks at*;subst ho;go_enter Tryz.func114,Tryz.ntmps114;by_cases n0:xn=0
 ·subst n0;by_cases ht:xt.toList=[]
  ·skip;by_cases k0:ks.length=2
   ·have k0b:((ks.length:Int)==2)=true:=by rw[Bw];exact AN k0
    have k0':=Aa k0;clear k0;go_wp2_with fail;generalize hxx:Wa _ _=x0;obtain⟨bb,k1⟩:=Bx.alloc hxx;clear hxx;refine(Gi xs _ hss).mono ?_;rintro e w3 ⟨rfl,b3⟩;replace k1:=k1.below b3 k1.1;replace bb:=bb.trans (b3.mono bb.size);clear b3;cases qns:BC xs with
    |true=>
     have qns:=Aa qns;have q1:=k1.2.1;go_wp2_with fail;clear q1;refine(ES.out _ bb).mono ?_;rintro e w3 ⟨rfl,b3⟩;replace k1:=k1.below b3 k1.1;replace bb:=bb.trans (b3.mono bb.size);clear b3;go_wp2;go_ret;exact⟨Ae (by rw[HE.out];simp[Al,Ap ht,k0'.out,qns.out,inB,B9,Eo]),bb⟩
    |false=>
     have qns:=Aa qns;have q1:=k1.2.1;go_wp2;go_ret;exact⟨Ae (by rw[HE.out];simp[Al,Ap ht,k0'.out,qns.out]),bb⟩
   ·have k0b:((ks.length:Int)==2)=false:=by rw[Bw];exact AG k0
    have k0':=Aa k0;clear k0;go_wp2;go_ret;exact⟨Ae (by rw[HE.out];simp[Al,Ap ht,k0'.out]),(Ac _ _).alloc (Ad _) _⟩
  ·have hte:(ByteArray.toList xt).isEmpty=false:=by simp[ht]
   go_wp2;go_ret;exact⟨Ae (by rw[HE.out];simp[Al,AM ht]),(Ac _ _).alloc (Ad _) _⟩
 ·have n0b:(xn !=0)=true:=by simp[n0]
  go_wp2;go_ret;exact⟨Ae (by rw[HE.out];simp[Al,n0]),(Ac _ _).alloc (Ad _) _⟩
theorem VT (x:Nd) (kv:Value) (B:Nat) (w:World) (hl:wgN x≤1048576) (hr:RdNs B w kv x.kids) (HE:Hid (Ao x= (if x.op=7 then decide (x.n=0)&& (noS x.s&& (noS x.t&& (decide (2≤x.kids.length)&& AP x.kids)))else Al x.op x.n x.s x.t x.kids.length&& Az x.kids)))
  (ES:Hid (∀ (W:World) (hb:Below w.heap.size w W),Calls Pq 174 #[ndV x kv,.int .i64 0] W fun e w'=>e= .returned (.bool (Az x.kids))∧Below W.heap.size W w'))
  (CA:Hid (∀ (W:World) (hb:Below w.heap.size w W),Calls Pq 175 #[ndV x kv] W fun e w'=>e= .returned (.bool (decide (2≤x.kids.length)&& AP x.kids))∧Below W.heap.size W w'))
  (ho:x.op=6):Calls Pq 114 #[ndV x kv] w fun e w'=>e= .returned (.bool (Ao x))∧Below w.heap.size w w':=by
 have hwg:=Aw x;have hlen:=AU x.kids;have hss:x.s.size≤1048576:=by omega
 have htt:x.t.size≤1048576:=by omega
 have hks:x.kids.length≤1048576:=by omega
 obtain⟨ka,kc,rfl⟩:=hr.form;unfold ndV at ES CA ⊢;clear hr hwg hlen hl;generalize x.op=xop at*;generalize x.n=xn at*;generalize x.s=xs at*;generalize x.t=xt at*;generalize Ao x=px at*;generalize x.kids=ks at*;subst ho;go_enter Tryz.func114,Tryz.ntmps114;by_cases n0:xn=0
 ·subst n0;by_cases k0:ks.length=2
  ·have k0b:((ks.length:Int)==2)=true:=by rw[Bw];exact AN k0
   have k0':=Aa k0;clear k0;go_wp2_with fail;generalize hxx:Wa _ _=x0;obtain⟨bb,k1⟩:=Bx.alloc hxx;clear hxx;refine(Gi xs _ hss).mono ?_;rintro e w3 ⟨rfl,b3⟩;replace k1:=k1.below b3 k1.1;replace bb:=bb.trans (b3.mono bb.size);clear b3;cases qns:BC xs with
   |true=>
    have qns:=Aa qns;have q1:=k1.2.1;go_wp2_with fail;clear q1;refine(Gi xt _ htt).mono ?_;rintro e w3 ⟨rfl,b3⟩;replace k1:=k1.below b3 k1.1;replace bb:=bb.trans (b3.mono bb.size);clear b3;cases qnt:BC xt with
    |true=>
     have qnt:=Aa qnt;have q1:=k1.2.1;go_wp2_with fail;clear q1;refine(ES.out _ bb).mono ?_;rintro e w3 ⟨rfl,b3⟩;replace k1:=k1.below b3 k1.1;replace bb:=bb.trans (b3.mono bb.size);clear b3;go_wp2;go_ret;exact⟨Ae (by rw[HE.out];simp[Al,k0'.out,qns.out,qnt.out,inB,B9,Eo]),bb⟩
    |false=>
     have qnt:=Aa qnt;have q1:=k1.2.1;go_wp2;go_ret;exact⟨Ae (by rw[HE.out];simp[Al,k0'.out,qns.out,qnt.out]),bb⟩
   |false=>
    have qns:=Aa qns;have q1:=k1.2.1;go_wp2;go_ret;exact⟨Ae (by rw[HE.out];simp[Al,k0'.out,qns.out]),bb⟩
  ·have k0b:((ks.length:Int)==2)=false:=by rw[Bw];exact AG k0
   have k0':=Aa k0;clear k0;go_wp2;go_ret;exact⟨Ae (by rw[HE.out];simp[Al,k0'.out]),(Ac _ _).alloc (Ad _) _⟩
 ·have n0b:(xn !=0)=true:=by simp[n0]
  go_wp2;go_ret;exact⟨Ae (by rw[HE.out];simp[Al,n0]),(Ac _ _).alloc (Ad _) _⟩
theorem VU (x:Nd) (kv:Value) (B:Nat) (w:World) (hl:wgN x≤1048576) (hr:RdNs B w kv x.kids) (HE:Hid (Ao x= (if x.op=7 then decide (x.n=0)&& (noS x.s&& (noS x.t&& (decide (2≤x.kids.length)&& AP x.kids)))else Al x.op x.n x.s x.t x.kids.length&& Az x.kids)))
  (ES:Hid (∀ (W:World) (hb:Below w.heap.size w W),Calls Pq 174 #[ndV x kv,.int .i64 0] W fun e w'=>e= .returned (.bool (Az x.kids))∧Below W.heap.size W w'))
  (CA:Hid (∀ (W:World) (hb:Below w.heap.size w W),Calls Pq 175 #[ndV x kv] W fun e w'=>e= .returned (.bool (decide (2≤x.kids.length)&& AP x.kids))∧Below W.heap.size W w'))
  (ho:x.op=7):Calls Pq 114 #[ndV x kv] w fun e w'=>e= .returned (.bool (Ao x))∧Below w.heap.size w w':=by
 have hwg:=Aw x;have hlen:=AU x.kids;have hss:x.s.size≤1048576:=by omega
 have htt:x.t.size≤1048576:=by omega
 have hks:x.kids.length≤1048576:=by omega
 obtain⟨ka,kc,rfl⟩:=hr.form;unfold ndV at ES CA ⊢;clear hr hwg hlen hl;generalize x.op=xop at*;generalize x.n=xn at*;generalize x.s=xs at*;generalize x.t=xt at*;generalize Ao x=px at*;generalize x.kids=ks at*;subst ho;go_enter Tryz.func114,Tryz.ntmps114;by_cases n0:xn=0
 ·subst n0;by_cases ht:xt.toList=[]
  ·skip;by_cases hs:xs.toList=[]
   ·skip;go_wp2_with fail;generalize hxx:Wa _ _=x0;obtain⟨bb,k1⟩:=Bx.alloc hxx;clear hxx;refine(CA.out _ bb).mono ?_;rintro e w3 ⟨rfl,b3⟩;replace k1:=k1.below b3 k1.1;replace bb:=bb.trans (b3.mono bb.size);clear b3;go_wp2;go_ret;exact⟨Ae (by rw[HE.out];simp[Al,Ap ht,Ap hs,inB,B9,Eo]),bb⟩
   ·have hse:(ByteArray.toList xs).isEmpty=false:=by simp[hs]
    go_wp2;go_ret;exact⟨Ae (by rw[HE.out];simp[Al,Ap ht,AM hs]),(Ac _ _).alloc (Ad _) _⟩
  ·have hte:(ByteArray.toList xt).isEmpty=false:=by simp[ht]
   go_wp2;go_ret;exact⟨Ae (by rw[HE.out];simp[Al,AM ht]),(Ac _ _).alloc (Ad _) _⟩
 ·have n0b:(xn !=0)=true:=by simp[n0]
  go_wp2;go_ret;exact⟨Ae (by rw[HE.out];simp[Al,n0]),(Ac _ _).alloc (Ad _) _⟩
theorem VV (x:Nd) (kv:Value) (B:Nat) (w:World) (hl:wgN x≤1048576) (hr:RdNs B w kv x.kids) (HE:Hid (Ao x= (if x.op=7 then decide (x.n=0)&& (noS x.s&& (noS x.t&& (decide (2≤x.kids.length)&& AP x.kids)))else Al x.op x.n x.s x.t x.kids.length&& Az x.kids)))
  (ES:Hid (∀ (W:World) (hb:Below w.heap.size w W),Calls Pq 174 #[ndV x kv,.int .i64 0] W fun e w'=>e= .returned (.bool (Az x.kids))∧Below W.heap.size W w'))
  (CA:Hid (∀ (W:World) (hb:Below w.heap.size w W),Calls Pq 175 #[ndV x kv] W fun e w'=>e= .returned (.bool (decide (2≤x.kids.length)&& AP x.kids))∧Below W.heap.size W w'))
  (ho:x.op=9):Calls Pq 114 #[ndV x kv] w fun e w'=>e= .returned (.bool (Ao x))∧Below w.heap.size w w':=by
 have hwg:=Aw x;have hlen:=AU x.kids;have hss:x.s.size≤1048576:=by omega
 have htt:x.t.size≤1048576:=by omega
 have hks:x.kids.length≤1048576:=by omega
 obtain⟨ka,kc,rfl⟩:=hr.form;unfold ndV at ES CA ⊢;clear hr hwg hlen hl;generalize x.op=xop at*;generalize x.n=xn at*;generalize x.s=xs at*;generalize x.t=xt at*;generalize Ao x=px at*;generalize x.kids=ks at*;subst ho;go_enter Tryz.func114,Tryz.ntmps114;by_cases n0:xn=0
 ·subst n0;by_cases ht:xt.toList=[]
  ·skip;by_cases hs:xs.toList=[]
   ·skip;by_cases k0:ks.length=3
    ·have k0b:((ks.length:Int)==3)=true:=by rw[IT];exact AN k0
     have k0':=Aa k0;clear k0;go_wp2_with fail;generalize hxx:Wa _ _=x0;obtain⟨bb,k1⟩:=Bx.alloc hxx;clear hxx;refine(ES.out _ bb).mono ?_;rintro e w3 ⟨rfl,b3⟩;replace k1:=k1.below b3 k1.1;replace bb:=bb.trans (b3.mono bb.size);clear b3;go_wp2;go_ret;exact⟨Ae (by rw[HE.out];simp[Al,Ap ht,Ap hs,k0'.out,inB,B9,Eo]),bb⟩
    ·have k0b:((ks.length:Int)==3)=false:=by rw[IT];exact AG k0
     have k0':=Aa k0;clear k0;go_wp2;go_ret;exact⟨Ae (by rw[HE.out];simp[Al,Ap ht,Ap hs,k0'.out]),(Ac _ _).alloc (Ad _) _⟩
   ·have hse:(ByteArray.toList xs).isEmpty=false:=by simp[hs]
    go_wp2;go_ret;exact⟨Ae (by rw[HE.out];simp[Al,Ap ht,AM hs]),(Ac _ _).alloc (Ad _) _⟩
  ·have hte:(ByteArray.toList xt).isEmpty=false:=by simp[ht]
   go_wp2;go_ret;exact⟨Ae (by rw[HE.out];simp[Al,AM ht]),(Ac _ _).alloc (Ad _) _⟩
 ·have n0b:(xn !=0)=true:=by simp[n0]
  go_wp2;go_ret;exact⟨Ae (by rw[HE.out];simp[Al,n0]),(Ac _ _).alloc (Ad _) _⟩
theorem VW (x:Nd) (kv:Value) (B:Nat) (w:World) (hl:wgN x≤1048576) (hr:RdNs B w kv x.kids) (HE:Hid (Ao x= (if x.op=7 then decide (x.n=0)&& (noS x.s&& (noS x.t&& (decide (2≤x.kids.length)&& AP x.kids)))else Al x.op x.n x.s x.t x.kids.length&& Az x.kids)))
  (ES:Hid (∀ (W:World) (hb:Below w.heap.size w W),Calls Pq 174 #[ndV x kv,.int .i64 0] W fun e w'=>e= .returned (.bool (Az x.kids))∧Below W.heap.size W w'))
  (CA:Hid (∀ (W:World) (hb:Below w.heap.size w W),Calls Pq 175 #[ndV x kv] W fun e w'=>e= .returned (.bool (decide (2≤x.kids.length)&& AP x.kids))∧Below W.heap.size W w'))
  (ho:x.op=15):Calls Pq 114 #[ndV x kv] w fun e w'=>e= .returned (.bool (Ao x))∧Below w.heap.size w w':=by
 have hwg:=Aw x;have hlen:=AU x.kids;have hss:x.s.size≤1048576:=by omega
 have htt:x.t.size≤1048576:=by omega
 have hks:x.kids.length≤1048576:=by omega
 obtain⟨ka,kc,rfl⟩:=hr.form;unfold ndV at ES CA ⊢;clear hr hwg hlen hl;generalize x.op=xop at*;generalize x.n=xn at*;generalize x.s=xs at*;generalize x.t=xt at*;generalize Ao x=px at*;generalize x.kids=ks at*;subst ho;go_enter Tryz.func114,Tryz.ntmps114;by_cases n0:xn=0
 ·subst n0;by_cases ht:xt.toList=[]
  ·skip;go_wp2_with fail;generalize hxx:Wa _ _=x0;obtain⟨bb,k1⟩:=Bx.alloc hxx;clear hxx;refine(GY xs _ hss).mono ?_;rintro e w3 ⟨rfl,b3⟩;replace k1:=k1.below b3 k1.1;replace bb:=bb.trans (b3.mono bb.size);clear b3;cases qcon:Bb xs with
   |true=>
    have qcon:=Aa qcon;have q1:=k1.2.1;go_wp2_with fail;clear q1;refine(ES.out _ bb).mono ?_;rintro e w3 ⟨rfl,b3⟩;replace k1:=k1.below b3 k1.1;replace bb:=bb.trans (b3.mono bb.size);clear b3;go_wp2;go_ret;exact⟨Ae (by rw[HE.out];simp[Al,Ap ht,qcon.out,inB,B9,Eo]),bb⟩
   |false=>
    have qcon:=Aa qcon;have q1:=k1.2.1;go_wp2;go_ret;exact⟨Ae (by rw[HE.out];simp[Al,Ap ht,qcon.out]),bb⟩
  ·have hte:(ByteArray.toList xt).isEmpty=false:=by simp[ht]
   go_wp2;go_ret;exact⟨Ae (by rw[HE.out];simp[Al,AM ht]),(Ac _ _).alloc (Ad _) _⟩
 ·have n0b:(xn !=0)=true:=by simp[n0]
  go_wp2;go_ret;exact⟨Ae (by rw[HE.out];simp[Al,n0]),(Ac _ _).alloc (Ad _) _⟩
theorem VX (x:Nd) (kv:Value) (B:Nat) (w:World) (hl:wgN x≤1048576) (hr:RdNs B w kv x.kids) (HE:Hid (Ao x= (if x.op=7 then decide (x.n=0)&& (noS x.s&& (noS x.t&& (decide (2≤x.kids.length)&& AP x.kids)))else Al x.op x.n x.s x.t x.kids.length&& Az x.kids)))
  (ES:Hid (∀ (W:World) (hb:Below w.heap.size w W),Calls Pq 174 #[ndV x kv,.int .i64 0] W fun e w'=>e= .returned (.bool (Az x.kids))∧Below W.heap.size W w'))
  (CA:Hid (∀ (W:World) (hb:Below w.heap.size w W),Calls Pq 175 #[ndV x kv] W fun e w'=>e= .returned (.bool (decide (2≤x.kids.length)&& AP x.kids))∧Below W.heap.size W w'))
  (ho:x.op=16):Calls Pq 114 #[ndV x kv] w fun e w'=>e= .returned (.bool (Ao x))∧Below w.heap.size w w':=by
 have hwg:=Aw x;have hlen:=AU x.kids;have hss:x.s.size≤1048576:=by omega
 have htt:x.t.size≤1048576:=by omega
 have hks:x.kids.length≤1048576:=by omega
 obtain⟨ka,kc,rfl⟩:=hr.form;unfold ndV at ES CA ⊢;clear hr hwg hlen hl;generalize x.op=xop at*;generalize x.n=xn at*;generalize x.s=xs at*;generalize x.t=xt at*;generalize Ao x=px at*;generalize x.kids=ks at*;subst ho;go_enter Tryz.func114,Tryz.ntmps114;by_cases n0:xn=0
 ·subst n0;by_cases ht:xt.toList=[]
  ·skip;by_cases hs:xs.toList=[]
   ·skip;by_cases k0:ks.length=1
    ·have k0b:((ks.length:Int)==1)=true:=by rw[E9];exact AN k0
     have k0':=Aa k0;clear k0;go_wp2_with fail;generalize hxx:Wa _ _=x0;obtain⟨bb,k1⟩:=Bx.alloc hxx;clear hxx;refine(ES.out _ bb).mono ?_;rintro e w3 ⟨rfl,b3⟩;replace k1:=k1.below b3 k1.1;replace bb:=bb.trans (b3.mono bb.size);clear b3;go_wp2;go_ret;exact⟨Ae (by rw[HE.out];simp[Al,Ap ht,Ap hs,k0'.out,inB,B9,Eo]),bb⟩
    ·have k0b:((ks.length:Int)==1)=false:=by rw[E9];exact AG k0
     have k0':=Aa k0;clear k0;go_wp2;go_ret;exact⟨Ae (by rw[HE.out];simp[Al,Ap ht,Ap hs,k0'.out]),(Ac _ _).alloc (Ad _) _⟩
   ·have hse:(ByteArray.toList xs).isEmpty=false:=by simp[hs]
    go_wp2;go_ret;exact⟨Ae (by rw[HE.out];simp[Al,Ap ht,AM hs]),(Ac _ _).alloc (Ad _) _⟩
  ·have hte:(ByteArray.toList xt).isEmpty=false:=by simp[ht]
   go_wp2;go_ret;exact⟨Ae (by rw[HE.out];simp[Al,AM ht]),(Ac _ _).alloc (Ad _) _⟩
 ·have n0b:(xn !=0)=true:=by simp[n0]
  go_wp2;go_ret;exact⟨Ae (by rw[HE.out];simp[Al,n0]),(Ac _ _).alloc (Ad _) _⟩
theorem VY (x:Nd) (kv:Value) (B:Nat) (w:World) (hl:wgN x≤1048576) (hr:RdNs B w kv x.kids) (HE:Hid (Ao x= (if x.op=7 then decide (x.n=0)&& (noS x.s&& (noS x.t&& (decide (2≤x.kids.length)&& AP x.kids)))else Al x.op x.n x.s x.t x.kids.length&& Az x.kids)))
  (ES:Hid (∀ (W:World) (hb:Below w.heap.size w W),Calls Pq 174 #[ndV x kv,.int .i64 0] W fun e w'=>e= .returned (.bool (Az x.kids))∧Below W.heap.size W w'))
  (CA:Hid (∀ (W:World) (hb:Below w.heap.size w W),Calls Pq 175 #[ndV x kv] W fun e w'=>e= .returned (.bool (decide (2≤x.kids.length)&& AP x.kids))∧Below W.heap.size W w'))
  (ho:x.op≠1∧x.op≠2∧x.op≠3∧x.op≠4∧x.op≠5∧x.op≠6∧x.op≠7∧x.op≠9∧x.op≠15∧x.op≠16):Calls Pq 114 #[ndV x kv] w fun e w'=>e= .returned (.bool (Ao x))∧Below w.heap.size w w':=by
 have hwg:=Aw x;have hlen:=AU x.kids;have hss:x.s.size≤1048576:=by omega
 have htt:x.t.size≤1048576:=by omega
 have hks:x.kids.length≤1048576:=by omega
 obtain⟨ka,kc,rfl⟩:=hr.form;unfold ndV at ES CA ⊢;clear hr hwg hlen hl;generalize x.op=xop at*;generalize x.n=xn at*;generalize x.s=xs at*;generalize x.t=xt at*;generalize Ao x=px at*;generalize x.kids=ks at*;obtain⟨o1,o2,o3,o4,o5,o6,o7,o9,o15,o16⟩:=ho;have x1:(xop !=1)=true:=by simp[o1]
 have x6:(xop !=6)=true:=by simp[o6]
 go_enter Tryz.func114,Tryz.ntmps114;by_cases n0:xn=0
 ·subst n0;by_cases ht:xt.toList=[]
  ·by_cases o10:10≤xop∧xop≤14
   ·obtain⟨o10a,o10b⟩:=o10;have hin:=fun(W:World)=>Ei xop 10 14 W;rw[show inB xop 10 14=true from IJ.2 ⟨o10a,o10b⟩]at hin;go_wp2_with fail;generalize hxx:Wa _ _=x0;obtain⟨bb,k1⟩:=Bx.alloc hxx;clear hxx;refine(hin _).mono ?_;rintro e w3 ⟨rfl,rfl⟩;clear hin;by_cases hs:xs.toList=[]
    ·skip;by_cases k0:ks.length=2
     ·have k0b:((ks.length:Int)==2)=true:=by rw[Bw];exact AN k0
      have k0':=Aa k0;clear k0;have q1:=k1.2.1;go_wp2_with fail;clear q1;refine(ES.out _ bb).mono ?_;rintro e w3 ⟨rfl,b3⟩;replace k1:=k1.below b3 k1.1;replace bb:=bb.trans (b3.mono bb.size);clear b3;go_wp2;go_ret;exact⟨Ae (by rw[HE.out];simp[Al,Ap ht,o1,o2,o3,o4,o5,o6,o7,o9,o15,o16,o10a,o10b,Ap hs,k0'.out,inB,B9,Eo]),bb⟩
     ·have k0b:((ks.length:Int)==2)=false:=by rw[Bw];exact AG k0
      have k0':=Aa k0;clear k0;have q1:=k1.2.1;go_wp2;go_ret;exact⟨Ae (by rw[HE.out];simp[Al,Ap ht,o1,o2,o3,o4,o5,o6,o7,o9,o15,o16,o10a,o10b,Ap hs,k0'.out]),bb⟩
    ·have hse:(ByteArray.toList xs).isEmpty=false:=by simp[hs]
     have q1:=k1.2.1;go_wp2;go_ret;exact⟨Ae (by rw[HE.out];simp[Al,Ap ht,o1,o2,o3,o4,o5,o6,o7,o9,o15,o16,o10a,o10b,AM hs]),bb⟩
   ·have hin:=fun(W:World)=>Ei xop 10 14 W;rw[show inB xop 10 14=false from To.2 o10]at hin;go_wp2_with fail;generalize hxx:Wa _ _=x0;obtain⟨bb,k1⟩:=Bx.alloc hxx;clear hxx;refine(hin _).mono ?_;rintro e w3 ⟨rfl,rfl⟩;clear hin;have q1:=k1.2.1;go_wp2;go_ret;exact⟨Ae (by rw[HE.out];simp[Al,Ap ht,o1,o2,o3,o4,o5,o6,o7,o9,o15,o16,o10]),bb⟩
  ·have hte:(ByteArray.toList xt).isEmpty=false:=by simp[ht]
   go_wp2;go_ret;exact⟨Ae (by rw[HE.out];simp[Al,AM ht,o1,o2,o3,o4,o5,o6,o7,o9,o15,o16]),(Ac _ _).alloc (Ad _) _⟩
 ·have n0b:(xn !=0)=true:=by simp[n0]
  go_wp2;go_ret;exact⟨Ae (by rw[HE.out];simp[Al,n0,o1,o2,o3,o4,o5,o6,o7,o9,o15,o16]),(Ac _ _).alloc (Ad _) _⟩
theorem G8 (x:Nd):Ao x= (if x.op=7 then decide (x.n=0)&& (noS x.s&& (noS x.t&& (decide (2≤x.kids.length)&& AP x.kids)))else Al x.op x.n x.s x.t x.kids.length&& Az x.kids):=by cases x;rw[Ao];rfl
theorem Ky:∀ (N:Nat) (x:Nd) (kv:Value) (B:Nat) (w:World),wgN x < N→wgN x≤1048576→RdNs B w kv x.kids→
  Calls Pq 114 #[ndV x kv] w fun e w'=>e= .returned (.bool (Ao x))∧Below w.heap.size w w'
 |0,x,kv,B,w,hN,hl,hr=>by omega
 |N+1,x,kv,B,w,hN,hl,hr=>by
  have ES:=Aa (fun(W:World) (hb:Below w.heap.size w W)=>Uz x kv _ W hl (hr.later' hb) (fun j hj kv B W h=>Ky N x.kids[j] kv B W (by have:=AT (As hj);have:=Aw x;omega) (by have:=AT (As hj);have:=Aw x;omega) h));have CA:=Aa (fun(W:World) (hb:Below w.heap.size w W)=>PC x kv _ W hl (hr.later' hb) (fun y kv B W hy h=>Ky N y kv B W (by omega) (by omega) h));have HE:=Aa (G8 x);by_cases o1:x.op=1
  ·exact VN x kv B w hl hr HE ES CA o1
  by_cases o2:x.op=2
  ·exact VO x kv B w hl hr HE ES CA o2
  by_cases o3:x.op=3
  ·exact VP x kv B w hl hr HE ES CA o3
  by_cases o4:x.op=4
  ·exact VQ x kv B w hl hr HE ES CA o4
  by_cases o5:x.op=5
  ·exact VS x kv B w hl hr HE ES CA o5
  by_cases o6:x.op=6
  ·exact VT x kv B w hl hr HE ES CA o6
  by_cases o7:x.op=7
  ·exact VU x kv B w hl hr HE ES CA o7
  by_cases o9:x.op=9
  ·exact VV x kv B w hl hr HE ES CA o9
  by_cases o15:x.op=15
  ·exact VW x kv B w hl hr HE ES CA o15
  by_cases o16:x.op=16
  ·exact VX x kv B w hl hr HE ES CA o16
  exact VY x kv B w hl hr HE ES CA ⟨o1,o2,o3,o4,o5,o6,o7,o9,o15,o16⟩
end Go.Proofs.YtifhcbeaiijkcaaGreat
end
