/- Parts of the proof of FnExactJudgeSame. -/
import Derived.Test.YtifhcbeaiijkcaaGreatRows
import Derived.Test.YtifhcbeaiijkcaaGreatJ01
import Derived.Deep.QuietTactic
import Derived.BigQuiet
import Derived.Test.YtifhcbeaiijkcaaGreatJ25
import Derived.Deep.RegionHeld3
import Derived.Test.YtifhcbeaiijkcaaGreatJ21
import Derived.Test.YtifhcbeaiijkcaaGreatJ19
import Derived.IntWalk
set_option linter.unusedVariables false
set_option linter.unusedSimpArgs false
set_option maxRecDepth 1000000
set_option maxHeartbeats 16000000
namespace Go.Proofs.YtifhcbeaiijkcaaGreat
open Go.RowKit
open _root_.Go.World renaming alloc→Wa,setCell→Ws
open _root_.Go.Proofs.Tryz renaming prog→Pq
theorem Ja {B1 B2:Nat}(va vb:Value) (xs ys:List Int) (w:World) (ha:Rd B1 .i64 w va xs) (hb:Rd B2 .i64 w vb ys):
  Calls Pq 43 #[va,vb] w fun e w'=>e= .returned (.bool (decide (xs=ys)))∧Still w w':=by
 have hx:=ha.len;have hy:=hb.len;unfold maxLen at hx hy;by_cases hl:xs.length=ys.length
 ·rcases ha with ⟨rfl,a,cap,rfl⟩ |⟨b,off,cap,rfl,hB,hbs,hm,hc⟩
  ·have hy0:ys=[]:=List.eq_nil_of_length_eq_zero (by simpa using hl.symm);subst hy0;rcases hb with ⟨_,a',cap',rfl⟩ |⟨b',off',cap',rfl,hB',hbs',hm',hc'⟩
   all_goals
    go_enter Tryz.func43,Tryz.ntmps43;go_wp2;refine FD 1 ?_;rw[FE];go_wp2;go_ret;exact⟨Ac (by simp),Still.refl _⟩
  ·rcases hb with ⟨rfl,a',cap',rfl⟩ |⟨b',off',cap',rfl,hB',hbs',hm',hc'⟩
   ·have hx0:xs=[]:=List.eq_nil_of_length_eq_zero (by simpa using hl);subst hx0;go_enter Tryz.func43,Tryz.ntmps43;go_wp2;refine FD 1 ?_;rw[FE];go_wp2;go_ret;exact⟨Ac (by simp),Still.refl _⟩
   ·have hne:((xs.length:Int) !=(ys.length:Int))=false:=by simp[hl]
    have HL:=Aa hl;clear hl;go_enter Tryz.func43,Tryz.ntmps43;go_wp2
    go_loopw [5] (fun i wr=>∃k n:Nat,k≤xs.length∧i= .int .i64 k∧wr=w.drewN n∧Hid (∀j,j < k→xs.getD j 0=ys.getD j 0)) (fun i _=>xs.length - (intOf i).toNat)
    case atStart=>exact⟨0,0,Ao _,rfl,rfl,fun j hj=>by omega⟩
    case round=>
     obtain⟨k,n,hk,rfl,rfl,hd⟩:=hrel;by_cases hlt:k < xs.length
     ·have c1:=hc k hlt;have c2:=hc' k (by rw[←HL.out];exact hlt);have hlt2:k < ys.length:=by rw[←HL.out];exact hlt
      clear hc hc';go_wp2;go_quiet (fail);go_wp2
      ·have h:(xs[k] !=ys[k])=true:=by assumption
       go_ret;exact⟨Ac (by simp only[G0]at h;symm;rw[Dr];rintro rfl;exact h rfl),⟨n+nq,by simp⟩⟩
      ·have h:(xs[k] !=ys[k])=false:=by assumption
       go_roundw
       case rel=>exact⟨k+1,n+nq,hlt,by go_num,rfl,Md HL.out hlt hd (by simp only[bne_eq_false_iff_eq]at h;simpa [List.getD,Ay hlt,Ay hlt2] using h)⟩
       case measure=>simp[intOf];omega
     ·go_wp2;go_ret;exact⟨Ac (by rw[Me HL.out (fun j hj=>hd j (by omega))];simp),⟨_,rfl⟩⟩
 ·have hne:((xs.length:Int) !=(ys.length:Int))=true:=by simp;omega
  have hv:(∃a n cap,va= .slice a n cap∧n=xs.length)∧(∃a n cap,vb= .slice a n cap∧n=ys.length):=by
   constructor
   ·rcases ha with ⟨rfl,a,cap,rfl⟩ |⟨b,off,cap,rfl,_⟩
    ·exact⟨_,_,_,rfl,rfl⟩
    ·exact⟨_,_,_,rfl,rfl⟩
   ·rcases hb with ⟨rfl,a,cap,rfl⟩ |⟨b,off,cap,rfl,_⟩
    ·exact⟨_,_,_,rfl,rfl⟩
    ·exact⟨_,_,_,rfl,rfl⟩
  obtain⟨⟨a1,n1,c1,rfl,rfl⟩,⟨a2,n2,c2,rfl,rfl⟩⟩:=hv;have hf:decide (xs=ys)=false:=by simp;intro h;exact hl (by rw[h])
  have HF:=Aa hf;clear hf ha hb hl;go_enter Tryz.func43,Tryz.ntmps43;go_wp2;go_ret;exact⟨Ac HF.out.symm,Still.refl _⟩
theorem ML {o p:O3}(h:(o.c !=p.c)=true):false=decide (o=p):=by symm;rw[Dr];rintro rfl;simp at h
theorem MM {o p:O3}(h:(o.n !=p.n)=true):false=decide (o=p):=by symm;rw[Dr];rintro rfl;simp at h
theorem MN {o p:O3}(h:(o.m !=p.m)=true):false=decide (o=p):=by symm;rw[Dr];rintro rfl;simp at h
theorem MO {o p:O3}(h:(o.c !=p.c)=false) (k:(o.n !=p.n)=false) (l:(o.m !=p.m)=false):true=decide (o=p):=by
 cases o;cases p;simp_all
theorem SF (o p:O3) (w:World):
  Calls Pq 193 #[.agg #[.int .i64 o.c,.int .i64 o.n,.int .i64 o.m],.agg #[.int .i64 p.c,.int .i64 p.n,.int .i64 p.m]] w fun e w'=>e= .returned (.bool (decide (o=p)))∧Below w.heap.size w w':=by
 go_enter Tryz.func193,Tryz.ntmps193;go_wp2
 all_goals go_ret
 all_goals refine⟨Ac ?_,((Ab _ _).alloc (Ad _) _).alloc (by simp) _⟩
 ·exact ML (by assumption)
 ·exact MM (by assumption)
 ·exact MN (by assumption)
 ·exact MO (by assumption) (by assumption) (by assumption)
theorem MP {α:Type}{xs ys:List α}{k:Nat}(hl:xs.length=ys.length) (hk:k < xs.length) (hk2:k < ys.length) (h:∀j,j < k→xs[j]?=ys[j]?) (he:xs[k]=ys[k]):∀j,j < k+1→xs[j]?=ys[j]?:=by
 intro j hj;by_cases e:j=k
 ·subst e;rw[Ay hk,Ay hk2,he]
 ·exact h j (by omega)
theorem MQ {α:Type}{xs ys:List α}(hl:xs.length=ys.length) (h:∀j,j < xs.length→xs[j]?=ys[j]?):xs=ys:=by
 refine Ke fun i=> ?_;by_cases hi:i < xs.length
 ·exact h i hi
 ·rw[FB (by omega),FB (by omega)]
theorem SG {B1 B2:Nat}(va vb:Value) (xs ys:List O3) (w:World) (ha:RdO B1 w va xs) (hb:RdO B2 w vb ys):
  Calls Pq 145 #[va,vb] w fun e w'=>e= .returned (.bool (decide (xs=ys)))∧Below w.heap.size w w':=by
 have hx:=ha.len;have hy:=hb.len;unfold maxLen at hx hy;have HA:=Aa ha;have HB:=Aa hb;obtain⟨a1,cap1,rfl⟩:=ha.form;obtain⟨a2,cap2,rfl⟩:=hb.form;clear ha hb;by_cases hl:xs.length=ys.length
 ·have hne:((xs.length:Int) !=(ys.length:Int))=false:=by simp[hl]
  have HL:=Aa hl;clear hl;go_enter Tryz.func145,Tryz.ntmps145;go_wp2
  go_loopw [5] (fun i wr=>∃k:Nat,k≤xs.length∧i= .int .i64 k∧Below w.heap.size w wr∧Hid (∀j,j < k→xs[j]?=ys[j]?)) (fun i _=>xs.length - (intOf i).toNat)
  case atStart=>exact⟨0,Ao _,rfl,Ab _ _,fun j hj=>by omega⟩
  case round=>
   obtain⟨k,hk,rfl,hb,hd⟩:=hrel;by_cases hlt:k < xs.length
   ·have hlt2:k < ys.length:=by rw[←HL.out];exact hlt
    obtain⟨b,off,cap',hs,hB,hbs,hcap,c0,c1,c2⟩:=RdO.at_ HA.out hlt;cases hs
    obtain⟨b',off',cap'',hs',hB',hbs',hcap',d0,d1,d2⟩:=RdO.at_ HB.out hlt2;cases hs'
    replace c0:=(hb.cell (p:=⟨b,off+k*3,none⟩) hbs).trans c0;replace c1:=(hb.cell (p:=⟨b,off+k*3+1,none⟩) hbs).trans c1;replace c2:=(hb.cell (p:=⟨b,off+k*3+2,none⟩) hbs).trans c2;replace d0:=(hb.cell (p:=⟨b',off'+k*3,none⟩) hbs').trans d0;replace d1:=(hb.cell (p:=⟨b',off'+k*3+1,none⟩) hbs').trans d1;replace d2:=(hb.cell (p:=⟨b',off'+k*3+2,none⟩) hbs').trans d2;have hbz:=hb.size;have hz1:b < wr.heap.size:=by omega
    have hz2:b' < wr.heap.size:=by omega
    have BB:=Aa hb;clear hb;obtain⟨q,hq⟩:∃q,decide (xs[k]=ys[k])=q:=⟨_,rfl⟩;have hc:=fun(W:World)=>SF xs[k] ys[k] W;rw[hq]at hc;have HC:=Aa hc;have HQ:=Aa hq;clear hc hq;go_wp2_with fail
    go_region_held3 (fun w'=>w'.cell? ⟨b,off+k*3,none⟩=some (.int .i64 xs[k].c)∧w'.cell? ⟨b,off+k*3+1,none⟩=some (.int .i64 xs[k].n)∧w'.cell? ⟨b,off+k*3+2,none⟩=some (.int .i64 xs[k].m)∧w'.cell? ⟨b',off'+k*3,none⟩=some (.int .i64 ys[k].c)∧w'.cell? ⟨b',off'+k*3+1,none⟩=some (.int .i64 ys[k].n)∧w'.cell? ⟨b',off'+k*3+2,none⟩=some (.int .i64 ys[k].m))
     (first | (go_split_ands;refine⟨?_,?_,?_,?_,?_,?_⟩ <;> (refine(b9.cell (by simp only[Ga];omega)).trans ?_;with_reducible assumption)) | (go_keep;done)) (first | (go_at_call 193;refine(HC.out _).mono ?_;rintro e w9 ⟨hu,b9⟩;subst hu))
    have B9:=Aa (BB.out.trans ((((Ab _ _).drew).trans b9).mono BB.out.size));clear b9 BB c0 c1 c2 d0 d1 d2 HC;cases q
    ·go_wp2;go_ret;exact⟨Ac (by symm;rw[Dr];rintro rfl;simpa using HQ.out),B9.out⟩
    ·go_wp2;go_roundw
     case rel=>exact⟨k+1,hlt,by go_num,B9.out,Aa (MP HL.out hlt hlt2 hd.out (by simpa using HQ.out))⟩
     case measure=>simp[intOf];omega
   ·go_wp2;go_ret;exact⟨Ac (by rw[MQ HL.out (fun j hj=>hd.out j (by omega))];simp),hb⟩
 ·have hne:((xs.length:Int) !=(ys.length:Int))=true:=by simp;omega
  have hf:decide (xs=ys)=false:=by simp;intro h;exact hl (by rw[h])
  have HF:=Aa hf;clear hf hl;go_enter Tryz.func145,Tryz.ntmps145;go_wp2;go_ret;exact⟨Ac HF.out.symm,Ab _ _⟩
theorem Qm {B:Nat}(f:Int) (v:Value) (os:List O3) (left:Int) (w:World) (hr:RdO B w v os) (h0:-1≤left) (h1:left≤4611686018427387904):
  Calls Pq 62 #[.agg #[.int .i64 f,v],.int .i64 left] w fun e w'=>e= .returned (.int .i64 (Ak os.length left))∧Below w.heap.size w w':=by
 have hr':=fun(w':World) (hb:Below w.heap.size w w')=>hr.below' hb;obtain⟨a,cap,rfl⟩:=hr.form;clear hr;have hge:=L0 os.length left;obtain⟨s,hs⟩:∃s,Ak os.length left=s:=⟨_,rfl⟩;have hz:=fun(W:World) (hb:Below w.heap.size w W)=>SE _ _ left W (hr' _ hb) h0 h1;rw[hs]at hge hz;rw[hs];have HZ:=Aa hz;clear hz hs hr';go_enter Tryz.func62,Tryz.ntmps62;go_wp2_with fail;refine(HZ.out _ ((Ab _ _).alloc (Ad _) _)).mono ?_;rintro e w1 ⟨rfl,rfl⟩;go_wp2
 all_goals go_ret
 all_goals exact⟨Ap (by omega),(Ab _ _).alloc (Ad _) _⟩
theorem Qn {B:Nat}(f:Int) (v:Value) (os:List O3) (w:World) (hr:RdO B w v os) (hn:os.length≤4294967296):
  Calls Pq 73 #[.agg #[.int .i64 f,v]] w fun e w'=>∃v',e= .returned (.agg #[.int .i64 f,v'])∧
   w'.ownsRow w.heap.size 194 3 v' os.length (By O3.enc os)∧Below w.heap.size w w':=by
 have hr':=fun(w':World) (hb:Below w.heap.size w w')=>hr.below' hb;obtain⟨a,cap,rfl⟩:=hr.form;clear hr;go_enter Tryz.func73,Tryz.ntmps73;go_wp2_with fail;generalize hx:((w.alloc _).alloc _).alloc _=x;obtain⟨bx,k1,k2,k3,sx⟩:=Jq hx;clear hx;refine(SH _ _ _ (hr' _ bx) hn).mono ?_;rintro e w1 ⟨v1,rfl,o1,b1⟩;obtain⟨a1,c1,rfl⟩:=AR o1;replace k1:=k1.below b1 k1.1;replace k2:=k2.below b1 k2.1;replace k3:=k3.below b1 k3.1;have q1:=k1.2.1;have q2:=k2.2.1;have q3:=k3.2.1;have f1:=k1.2.2;have f2:=k2.2.2;have f3:=k3.2.2;have y1:=k1.1;have y2:=k2.1;have y3:=k3.1;have HS:=Aa sx;clear k1 k2 k3 sx hr';have HO:=Aa o1;have b2:=bx.trans (b1.mono bx.size);clear o1 bx b1;go_wp2;refine Aq (v:= .agg #[.int .i64 f,.slice a1 os.length c1]) ?_ rfl ⟨_,rfl,?_,?_⟩
 ·simp[results,Tryz.results73,go_sem,q2]
 ·have hs:=HS.out;refine CS (base:=x.heap.size) ?_ (by omega)
  repeat(refine CE ?_ (by show _+1 < _;omega) _)
  exact HO.out
 ·repeat(refine Df ?_ (by show _≤_+1;omega) _)
  exact b2
theorem Qo {B1 B2:Nat}(f g:Int) (va vb:Value) (os ps:List O3) (w:World) (ha:RdO B1 w va os) (hb:RdO B2 w vb ps):
  Calls Pq 85 #[.agg #[.int .i64 f,va],.agg #[.int .i64 g,vb]] w fun e w'=>e= .returned (.bool (decide (f=g)&& decide (os=ps)))∧Below w.heap.size w w':=by
 have ha':=fun(w':World) (hb:Below w.heap.size w w')=>ha.below' hb;have hb':=fun(w':World) (h:Below w.heap.size w w')=>hb.below' h;obtain⟨a1,c1,rfl⟩:=ha.form;obtain⟨a2,c2,rfl⟩:=hb.form;clear ha hb;by_cases hf:f=g
 ·have hne:(f !=g)=false:=by simp[hf]
  have hq:=fun(W:World) (h:Below w.heap.size w W)=>SG _ _ _ _ W (ha' W h) (hb' W h);obtain⟨q,hqq⟩:∃q,decide (os=ps)=q:=⟨_,rfl⟩;rw[hqq]at hq ⊢;rw[show(decide (f=g)&& q)=q by simp[hf]];have HQ:=Aa hq;clear hq hqq hf ha' hb';go_enter Tryz.func85,Tryz.ntmps85;go_wp2_with fail;have bx:Below w.heap.size w ((w.alloc (.cells #[.int .i64 f,.slice a1 os.length c1] 130)).alloc (.cells #[.int .i64 g,.slice a2 ps.length c2] 130)):=((Ab _ _).alloc (Ad _) _).alloc (by simp) _;refine(HQ.out _ bx).mono ?_;rintro e w1 ⟨rfl,b1⟩;have B1:=Aa (bx.trans (b1.mono bx.size));clear bx b1;cases q
  all_goals go_wp2
  all_goals go_ret
  all_goals exact⟨rfl,B1.out⟩
 ·have hne:(f !=g)=true:=by simp[hf]
  rw[show(decide (f=g)&& decide (os=ps))=false by simp[hf]];go_enter Tryz.func85,Tryz.ntmps85;go_wp2;go_ret;exact⟨rfl,((Ab _ _).alloc (Ad _) _).alloc (by simp) _⟩
theorem Qp {B1 B2:Nat}(f:Int) (va vb:Value) (os:List O3) (w:World) (ha:RdO B1 w va os) (hb:RdO B2 w vb os):
  Calls Pq 85 #[.agg #[.int .i64 f,va],.agg #[.int .i64 f,vb]] w fun e w'=>e= .returned (.bool true)∧Below w.heap.size w w':=
 (Qo f f va vb os os w ha hb).mono fun e w' h=>⟨by rw[h.1];simp,h.2⟩
structure F2 where
 f:Int
 os:List O3
deriving DecidableEq
def EF (x:Int×Value):List Value:=[.int .i64 x.1,x.2]
theorem Jd (x:Int×Value):(EF x).length=2:=rfl
def FN (x:F2):Prop:=(-9223372036854775808≤x.f∧x.f≤9223372036854775807)∧ ∀o∈x.os,DB o
def Qq (B:Nat) (w:World) (fl:List (Int×Value)) (fs:List F2):Prop:=fl.length=fs.length∧ ∀j (h:j < fl.length) (h':j < fs.length),fl[j].1=fs[j].f∧RdO B w fl[j].2 fs[j].os
def RdF (B:Nat) (w:World) (v:Value) (fs:List F2):Prop:=∃fl,RdE EF 2 B w v fl∧Qq B w fl fs
section
variable {B B':Nat}{w w':World}{v:Value}{fs:List F2}
theorem RdF.below (h:RdF B w v fs) (hb:Below B' w w') (hB:B≤B'):RdF B w' v fs:=by
 obtain⟨fl,h1,h2,h3⟩:=h;exact⟨fl,h1.below hb hB,h2,fun j h h'=>⟨(h3 j h h').1,RdE.below (h3 j h h').2 hb hB⟩⟩
theorem RdF.below' (h:RdF B w v fs) (hb:Below w.heap.size w w'):RdF w.heap.size w' v fs:=by
 obtain⟨fl,h1,h2,h3⟩:=h;exact⟨fl,h1.below' hb,h2,fun j h h'=>⟨(h3 j h h').1,RdE.below' (h3 j h h').2 hb⟩⟩
theorem RdF.form (h:RdF B w v fs):∃a cap,v= .slice a fs.length cap:=by
 obtain⟨fl,h1,h2,h3⟩:=h;rw[←h2];exact h1.form
theorem RdF.len (h:RdF B w v fs):fs.length≤maxLen:=by
 obtain⟨fl,h1,h2,h3⟩:=h;rw[←h2];exact h1.len
theorem RdF.at_ (h:RdF B w v fs) {k:Nat}(hk:k < fs.length):∃b off cap lv,v= .slice (some ⟨b,off,none⟩) fs.length cap∧b < B∧b < w.heap.size∧fs.length≤cap∧
  w.cell? ⟨b,off+k*2,none⟩=some (.int .i64 fs[k].f)∧w.cell? ⟨b,off+k*2+1,none⟩=some lv∧RdO B w lv fs[k].os:=by
 obtain⟨fl,h1,h2,h3⟩:=h;have hk2:k < fl.length:=by omega
 obtain⟨b,off,cap,e1,e2,e3,e4,e5⟩:=RdE.at_ h1 hk2;obtain⟨e6,e7⟩:=h3 k hk2 hk;refine⟨b,off,cap,fl[k].2,by rw[←h2];exact e1,e2,e3,by omega,?_,e5 1 (by decide),e7⟩;rw[←e6];exact e5 0 (by decide)
end
def Blk (u v:Value):Prop:=∀x y,u.ownBlock=some x→v.ownBlock=some y→x≠y
def OwnF (base:Nat) (w:World) (v:Value) (fs:List F2):Prop:=∃fl:List (Int×Value),w.ownsRow base 130 2 v fs.length (By EF fl)∧fl.length=fs.length∧
 (∀j (h:j < fl.length) (h':j < fs.length),fl[j].1=fs[j].f∧w.ownsRow base 194 3 fl[j].2 fs[j].os.length (By O3.enc fs[j].os))∧(∀x∈fl,Blk v x.2)∧fl.Pairwise (fun x y=>Blk x.2 y.2)
theorem RdF.of_own {base:Nat}{w:World}{v:Value}{fs:List F2}(h:OwnF base w v fs):RdF w.heap.size w v fs:=by
 obtain⟨fl,h1,h2,h3,_⟩:=h;refine⟨fl,RdE.of_own Jd (by rw[h2];exact h1),h2,fun j a b=>⟨(h3 j a b).1,RdE.of_own O3.enc_len (h3 j a b).2⟩⟩
theorem OwnF.below {base:Nat}{w w':World}{v:Value}{fs:List F2}(h:OwnF base w v fs) (hb:Below w.heap.size w w'):OwnF base w' v fs:=by
 obtain⟨fl,h1,h2,h3,h4⟩:=h;exact⟨fl,Bm h1 hb (A5 h1),h2,fun j a b=>⟨(h3 j a b).1,Bm (h3 j a b).2 hb (A5 (h3 j a b).2)⟩,h4⟩
theorem OwnF.base {base base':Nat}{w:World}{v:Value}{fs:List F2}(h:OwnF base w v fs) (hb:base'≤base):OwnF base' w v fs:=by
 obtain⟨fl,h1,h2,h3,h4⟩:=h;exact⟨fl,CS h1 hb,h2,fun j a b=>⟨(h3 j a b).1,CS (h3 j a b).2 hb⟩,h4⟩
theorem OwnF.form {base:Nat}{w:World}{v:Value}{fs:List F2}(h:OwnF base w v fs):∃a cap,v= .slice a fs.length cap:=by
 obtain⟨fl,h1,_⟩:=h;exact AR h1
def tot (fs:List F2):Nat:=(fs.map (fun x=>x.os.length)).sum
theorem Qr {fs:List F2}{k:Nat}(h:k < fs.length):tot (fs.take (k+1))=tot (fs.take k)+fs[k].os.length:=by
 unfold tot;rw[←GT h,List.map_append,List.sum_append];simp
theorem Hr:∀ {fs:List F2}{x:F2},x∈fs→x.os.length≤tot fs:=by
 intro fs;induction fs with
 |nil=>intro x h;cases h
 |cons y fs ih=>
  intro x h;have e:tot (y::fs)=y.os.length+tot fs:=by simp[tot]
  rcases List.mem_cons.1 h with rfl |h
  ·omega
  ·have:=ih h;omega
def Dl (fs:List F2) (i:Nat) (o:O3):Bool:=
 let e:Int:=((fs.getD i ⟨0,[]⟩).os.length:Int) - 1
 if o.c=1 then AU o.n&& (o.m==0)
 else if o.c=2 then inB o.n 0 2999&& (o.m==0)
 else if o.c=3 then inB o.n 0 ((fs.getD i ⟨0,[]⟩).f - 1)&& (o.m==0)
 else if o.c=4 then(decide (0 < (i:Int))&& (o.n==0))&& (o.m==0)
 else if o.c=5 then inB o.n 1 ((fs.length:Int) - 1)&& (o.m==(fs.getD o.n.toNat ⟨0,[]⟩).f)
 else if o.c=8 then inB o.n 0 59&& inB o.m 0 20
 else if o.c=9 then inB o.n 0 59&& (o.m==0)
 else if o.c=10 then inB o.n 0 59&& inB o.m 0 e
 else if o.c=11 then AU o.n&& inB o.m 0 e
 else if o.c=18∨o.c=19 then inB o.n 0 e&& (o.m==0)
 else(inB o.c 1 21&& (o.n==0))&& (o.m==0)
def opG (len e f g i c n m:Int):Bool:=
 if c=1 then AU n&& (m==0)
 else if c=2 then inB n 0 2999&& (m==0)
 else if c=3 then inB n 0 (f - 1)&& (m==0)
 else if c=4 then(decide (0 < i)&& (n==0))&& (m==0)
 else if c=5 then inB n 1 (len - 1)&& (m==g)
 else if c=8 then inB n 0 59&& inB m 0 20
 else if c=9 then inB n 0 59&& (m==0)
 else if c=10 then inB n 0 59&& inB m 0 (e - 1)
 else if c=11 then AU n&& inB m 0 (e - 1)
 else if c=18∨c=19 then inB n 0 (e - 1)&& (m==0)
 else(inB c 1 21&& (n==0))&& (m==0)
theorem En (n:Int) (w:World):
  Calls Pq 180 #[.int .i64 n] w fun e w'=>e= .returned (.bool (inB n 0 59))∧w=w':=by
 go_enter Tryz.func180,Tryz.ntmps180;go_wp2_with (go_at_call 65;refine(AZ _ _ _ _).mono ?_;rintro e w' ⟨rfl,rfl⟩);go_ret;exact⟨rfl,rfl⟩
theorem Sr {B:Nat}(v:Value) (fs:List F2) (i:Nat) (o:O3) (w:World) (hr:RdF B w v fs) (hi:i < fs.length) (ho:DB o) (hfr:0≤fs[i].f∧fs[i].f≤20) (hn:fs.length≤60) (hm:fs[i].os.length≤3000):
  Calls Pq 137 #[v,.int .i64 i,.agg #[.int .i64 o.c,.int .i64 o.n,.int .i64 o.m]] w fun e w'=>e= .returned (.bool (Dl fs i o))∧Below w.heap.size w w':=by
 obtain⟨c,n,m⟩:=o;obtain⟨⟨hc0,hc1⟩,⟨hn0,hn1⟩,⟨hm0,hm1⟩⟩:=ho;dsimp only at hc0 hc1 hn0 hn1 hm0 hm1 ⊢;have hgi:fs.getD i ⟨0,[]⟩=fs[i]:=by rw[List.getD_eq_getElem?_getD,Ay hi];rfl
 have hil:(i:Int) < (fs.length:Int):=by omega
 have HR5:=Aa (fun(k:Nat) (hk:k < fs.length)=>hr.at_ hk);obtain⟨b,off,cap,lv,rfl,hB,hbs,hcap,q0,q1,ro⟩:=hr.at_ hi;obtain⟨la,lc,rfl⟩:=ro.form;have bx:Below w.heap.size w (w.alloc (.cells #[.int .i64 c,.int .i64 n,.int .i64 m] 194)):=(Ab _ _).alloc (Ad _) _;obtain⟨F,hF⟩:∃F,fs[i].f=F:=⟨_,rfl⟩;obtain⟨E,hE⟩:∃E,fs[i].os.length=E:=⟨_,rfl⟩;rw[hE]at hm q1;rw[hF]at q0 hfr;have hop:Dl fs i ⟨c,n,m⟩=opG (fs.length:Int) (E:Int) F (fs.getD n.toNat ⟨0,[]⟩).f (i:Int) c n m:=by
  unfold Dl opG;dsimp only;rw[hgi,hF,hE]
 rw[hop];obtain⟨G,hG⟩:∃G,(fs.getD n.toNat ⟨0,[]⟩).f=G:=⟨_,rfl⟩;rw[hG];have HG:=Aa hG;have e0:IntKind.i64.wrap ((E:Int) - 1)= (E:Int) - 1:=AX _ (by omega);have e1:IntKind.i64.wrap (F - 1)=F - 1:=AX _ (by omega);have e2:IntKind.i64.wrap ((fs.length:Int) - 1)= (fs.length:Int) - 1:=AX _ (by omega);have HW:=Aa (fun(a b c:Int) (W:World)=>(A8 a b c W).mono (fun e w' h=>And.intro h.1 h.2.symm));clear hr hgi hop hG hF hE ro;by_cases hk1:c=1
 ·subst hk1;obtain⟨q3,hq3⟩:∃q,AU n=q:=⟨_,rfl⟩;cases q3
  all_goals go_enter Tryz.func137,Tryz.ntmps137
  all_goals go_wp2_with (first | (go_at_call 77;refine(A8 _ _ _ _).mono ?_;simp only[hq3];rintro e w' ⟨rfl,rfl⟩) | (go_at_call 81;refine(DP _ _).mono ?_;simp only[hq3];rintro e w' ⟨rfl,rfl⟩))
  all_goals go_ret
  all_goals exact⟨Ac (by first | (simp[opG,hq3];done) | (simp_all[opG];done)),by first |exact bx |exact(Ab _ _).alloc (Ad _) _ |exact AM ((Ab _ _).alloc (Ad _) _) _⟩
 by_cases hk2:c=2
 ·subst hk2;obtain⟨q3,hq3⟩:∃q,inB n 0 2999=q:=⟨_,rfl⟩;cases q3
  all_goals go_enter Tryz.func137,Tryz.ntmps137
  all_goals go_wp2_with (first | (go_at_call 77;refine(A8 _ _ _ _).mono ?_;simp only[hq3];rintro e w' ⟨rfl,rfl⟩) | (go_at_call 81;refine(DP _ _).mono ?_;simp only[hq3];rintro e w' ⟨rfl,rfl⟩))
  all_goals go_ret
  all_goals exact⟨Ac (by first | (simp[opG,hq3];done) | (simp_all[opG];done)),by first |exact bx |exact(Ab _ _).alloc (Ad _) _ |exact AM ((Ab _ _).alloc (Ad _) _) _⟩
 by_cases hk3:c=3
 ·subst hk3;obtain⟨q3,hq3⟩:∃q,inB n 0 (F - 1)=q:=⟨_,rfl⟩;cases q3
  all_goals have HQ3:=Aa (fun(W:World)=>(by have:=HW.out n 0 (F - 1) W;rw[hq3]at this;exact this:Calls Pq 77 #[.int .i64 n,.int .i64 0,.int .i64 (F - 1)] W _))
  all_goals go_enter Tryz.func137,Tryz.ntmps137
  all_goals go_wp2_with fail
  all_goals go_quiet ((go_at_call 77;exact Az (HQ3.out _)))
  all_goals go_wp2
  all_goals go_ret
  all_goals exact⟨Ac (by first | (simp[opG,hq3];done) | (simp_all[opG];done)),by first |exact bx |exact(Ab _ _).alloc (Ad _) _ |exact AM ((Ab _ _).alloc (Ad _) _) _⟩
 by_cases hk4:c=4
 ·subst hk4
  all_goals go_enter Tryz.func137,Tryz.ntmps137
  all_goals go_wp2_with (first | (go_at_call 77;refine(A8 _ _ _ _).mono ?_;simp only[DH];rintro e w' ⟨rfl,rfl⟩) | (go_at_call 81;refine(DP _ _).mono ?_;simp only[DH];rintro e w' ⟨rfl,rfl⟩))
  all_goals go_ret
  all_goals exact⟨Ac (by first | (simp[opG,DH];done) | (simp_all[opG];done)),by first |exact bx |exact(Ab _ _).alloc (Ad _) _ |exact AM ((Ab _ _).alloc (Ad _) _) _⟩
 by_cases hk5:c=5
 ·subst hk5;obtain⟨q3,hq3⟩:∃q,inB n 1 ((fs.length:Int) - 1)=q:=⟨_,rfl⟩;cases q3
  ·have HQ3:=Aa (fun(W:World)=>(by have:=HW.out n 1 ((fs.length:Int) - 1) W;rw[hq3]at this;exact this:Calls Pq 77 #[.int .i64 n,.int .i64 1,.int .i64 ((fs.length:Int) - 1)] W _));go_enter Tryz.func137,Tryz.ntmps137;go_wp2_with fail;go_quiet ((go_at_call 77;exact Az (HQ3.out _)));go_wp2
   all_goals go_ret
   all_goals exact⟨Ac (by first | (simp[opG,hq3];done) | (simp_all[opG];done)),by first |exact bx |exact(Ab _ _).alloc (Ad _) _ |exact AM ((Ab _ _).alloc (Ad _) _) _⟩
  ·have hb5:=Ct.1 hq3;obtain⟨kn,rfl⟩:∃k:Nat,n= (k:Int):=⟨n.toNat,by omega⟩;have hkn:kn < fs.length:=by omega
   obtain⟨b',off',cap',lv',hs',_,_,_,c5,_,_⟩:=HR5.out kn hkn;cases hs'
   have hgg:=HG.out;rw[Dq,List.getD_eq_getElem?_getD,Ay hkn]at hgg;change fs[kn].f=G at hgg;rw[hgg]at c5;have hkl:(kn:Int) < (fs.length:Int):=by omega
   have hk0:(0:Int)≤ (kn:Int):=by omega
   clear hgg hb5;have HQ3:=Aa (fun(W:World)=>(by have:=HW.out (kn:Int) 1 ((fs.length:Int) - 1) W;rw[hq3]at this;exact this:Calls Pq 77 #[.int .i64 (kn:Int),.int .i64 1,.int .i64 ((fs.length:Int) - 1)] W _));go_enter Tryz.func137,Tryz.ntmps137;go_wp2_with fail;go_quiet ((go_at_call 77;exact Az (HQ3.out _)));go_wp2
   all_goals go_ret
   all_goals exact⟨Ac (by first | (simp[opG,hq3];done) | (simp_all[opG];done)),by first |exact bx |exact(Ab _ _).alloc (Ad _) _ |exact AM ((Ab _ _).alloc (Ad _) _) _⟩
 by_cases hk8:c=8
 ·subst hk8;obtain⟨q3,hq3⟩:∃q,inB n 0 59=q:=⟨_,rfl⟩;obtain⟨q4,hq4⟩:∃q,inB m 0 20=q:=⟨_,rfl⟩;cases q3
  all_goals cases q4
  all_goals go_enter Tryz.func137,Tryz.ntmps137
  all_goals go_wp2_with (first | (go_at_call 77;refine(A8 _ _ _ _).mono ?_;simp only[hq3,hq4];rintro e w' ⟨rfl,rfl⟩) | (go_at_call 81;refine(DP _ _).mono ?_;simp only[hq3,hq4];rintro e w' ⟨rfl,rfl⟩))
  all_goals go_ret
  all_goals exact⟨Ac (by first | (simp[opG,hq3,hq4];done) | (simp_all[opG];done)),by first |exact bx |exact(Ab _ _).alloc (Ad _) _ |exact AM ((Ab _ _).alloc (Ad _) _) _⟩
 by_cases hk9:c=9
 ·subst hk9;obtain⟨q3,hq3⟩:∃q,inB n 0 59=q:=⟨_,rfl⟩;cases q3
  all_goals go_enter Tryz.func137,Tryz.ntmps137
  all_goals go_wp2_with (first | (go_at_call 77;refine(A8 _ _ _ _).mono ?_;simp only[hq3];rintro e w' ⟨rfl,rfl⟩) | (go_at_call 81;refine(DP _ _).mono ?_;simp only[hq3];rintro e w' ⟨rfl,rfl⟩))
  all_goals go_ret
  all_goals exact⟨Ac (by first | (simp[opG,hq3];done) | (simp_all[opG];done)),by first |exact bx |exact(Ab _ _).alloc (Ad _) _ |exact AM ((Ab _ _).alloc (Ad _) _) _⟩
 by_cases hk10:c=10
 ·subst hk10;obtain⟨q3,hq3⟩:∃q,inB n 0 59=q:=⟨_,rfl⟩;obtain⟨q4,hq4⟩:∃q,inB m 0 ((E:Int) - 1)=q:=⟨_,rfl⟩;cases q3
  all_goals cases q4
  all_goals go_enter Tryz.func137,Tryz.ntmps137
  all_goals go_wp2_with (first | (go_at_call 77;refine(A8 _ _ _ _).mono ?_;simp only[hq3,hq4];rintro e w' ⟨rfl,rfl⟩) | (go_at_call 81;refine(DP _ _).mono ?_;simp only[hq3,hq4];rintro e w' ⟨rfl,rfl⟩))
  all_goals go_ret
  all_goals exact⟨Ac (by first | (simp[opG,hq3,hq4];done) | (simp_all[opG];done)),by first |exact bx |exact(Ab _ _).alloc (Ad _) _ |exact AM ((Ab _ _).alloc (Ad _) _) _⟩
 by_cases hk11:c=11
 ·subst hk11;obtain⟨q3,hq3⟩:∃q,AU n=q:=⟨_,rfl⟩;obtain⟨q4,hq4⟩:∃q,inB m 0 ((E:Int) - 1)=q:=⟨_,rfl⟩;cases q3
  all_goals cases q4
  all_goals go_enter Tryz.func137,Tryz.ntmps137
  all_goals go_wp2_with (first | (go_at_call 77;refine(A8 _ _ _ _).mono ?_;simp only[hq3,hq4];rintro e w' ⟨rfl,rfl⟩) | (go_at_call 81;refine(DP _ _).mono ?_;simp only[hq3,hq4];rintro e w' ⟨rfl,rfl⟩))
  all_goals go_ret
  all_goals exact⟨Ac (by first | (simp[opG,hq3,hq4];done) | (simp_all[opG];done)),by first |exact bx |exact(Ab _ _).alloc (Ad _) _ |exact AM ((Ab _ _).alloc (Ad _) _) _⟩
 by_cases hk18:c=18
 ·subst hk18;obtain⟨q3,hq3⟩:∃q,inB n 0 ((E:Int) - 1)=q:=⟨_,rfl⟩;cases q3
  all_goals go_enter Tryz.func137,Tryz.ntmps137
  all_goals go_wp2_with (first | (go_at_call 77;refine(A8 _ _ _ _).mono ?_;simp only[hq3];rintro e w' ⟨rfl,rfl⟩) | (go_at_call 81;refine(DP _ _).mono ?_;simp only[hq3];rintro e w' ⟨rfl,rfl⟩))
  all_goals go_ret
  all_goals exact⟨Ac (by first | (simp[opG,hq3];done) | (simp_all[opG];done)),by first |exact bx |exact(Ab _ _).alloc (Ad _) _ |exact AM ((Ab _ _).alloc (Ad _) _) _⟩
 by_cases hk19:c=19
 ·subst hk19;obtain⟨q3,hq3⟩:∃q,inB n 0 ((E:Int) - 1)=q:=⟨_,rfl⟩;cases q3
  all_goals go_enter Tryz.func137,Tryz.ntmps137
  all_goals go_wp2_with (first | (go_at_call 77;refine(A8 _ _ _ _).mono ?_;simp only[hq3];rintro e w' ⟨rfl,rfl⟩) | (go_at_call 81;refine(DP _ _).mono ?_;simp only[hq3];rintro e w' ⟨rfl,rfl⟩))
  all_goals go_ret
  all_goals exact⟨Ac (by first | (simp[opG,hq3];done) | (simp_all[opG];done)),by first |exact bx |exact(Ab _ _).alloc (Ad _) _ |exact AM ((Ab _ _).alloc (Ad _) _) _⟩
 obtain⟨q3,hq3⟩:∃q,inB c 1 21=q:=⟨_,rfl⟩;have d1:(c==(1:Int))=false:=by simp;omega
 have d2:(c==(2:Int))=false:=by simp;omega
 have d3:(c==(3:Int))=false:=by simp;omega
 have d4:(c==(4:Int))=false:=by simp;omega
 have d5:(c==(5:Int))=false:=by simp;omega
 have d8:(c==(8:Int))=false:=by simp;omega
 have d9:(c==(9:Int))=false:=by simp;omega
 have d10:(c==(10:Int))=false:=by simp;omega
 have d11:(c==(11:Int))=false:=by simp;omega
 have d18:(c==(18:Int))=false:=by simp;omega
 have d19:(c==(19:Int))=false:=by simp;omega
 cases q3
 all_goals go_enter Tryz.func137,Tryz.ntmps137
 all_goals go_wp2_with (first | (go_at_call 77;refine(A8 _ _ _ _).mono ?_;simp only[hq3];rintro e w' ⟨rfl,rfl⟩) | (go_at_call 81;refine(DP _ _).mono ?_;simp only[hq3];rintro e w' ⟨rfl,rfl⟩))
 all_goals go_ret
 all_goals exact⟨Ac (by first | (simp[opG,hq3,hk1,hk2,hk3,hk4,hk5,hk8,hk9,hk10,hk11,hk18,hk19];done) | (simp_all[opG];done)),by first |exact bx |exact(Ab _ _).alloc (Ad _) _ |exact AM ((Ab _ _).alloc (Ad _) _) _⟩
theorem Ss {B:Nat}(v:Value) (fs:List F2) (i:Nat) (o:O3) (w:World) (hr:RdF B w v fs) (hi:i < fs.length) (ho:DB o) (hfr:0≤fs[i].f∧fs[i].f≤20) (hn:fs.length≤60) (hm:fs[i].os.length≤3000):
  Calls Pq 128 #[v,.int .i64 i,.agg #[.int .i64 o.c,.int .i64 o.n,.int .i64 o.m]] w fun e w'=>e= .returned (.bool (Dl fs i o))∧Below w.heap.size w w':=by
 obtain⟨c,n,m⟩:=o;obtain⟨⟨hc0,hc1⟩,⟨hn0,hn1⟩,⟨hm0,hm1⟩⟩:=ho;dsimp only at hc0 hc1 hn0 hn1 hm0 hm1 ⊢;have hgi:fs.getD i ⟨0,[]⟩=fs[i]:=by rw[List.getD_eq_getElem?_getD,Ay hi];rfl
 have hil:(i:Int) < (fs.length:Int):=by omega
 have HR5:=Aa (fun(k:Nat) (hk:k < fs.length)=>hr.at_ hk);obtain⟨b,off,cap,lv,rfl,hB,hbs,hcap,q0,q1,ro⟩:=hr.at_ hi;obtain⟨la,lc,rfl⟩:=ro.form;have bx:Below w.heap.size w (w.alloc (.cells #[.int .i64 c,.int .i64 n,.int .i64 m] 194)):=(Ab _ _).alloc (Ad _) _;obtain⟨F,hF⟩:∃F,fs[i].f=F:=⟨_,rfl⟩;obtain⟨E,hE⟩:∃E,fs[i].os.length=E:=⟨_,rfl⟩;rw[hE]at hm q1;rw[hF]at q0 hfr;have hop:Dl fs i ⟨c,n,m⟩=opG (fs.length:Int) (E:Int) F (fs.getD n.toNat ⟨0,[]⟩).f (i:Int) c n m:=by
  unfold Dl opG;dsimp only;rw[hgi,hF,hE]
 rw[hop];obtain⟨G,hG⟩:∃G,(fs.getD n.toNat ⟨0,[]⟩).f=G:=⟨_,rfl⟩;rw[hG];have HG:=Aa hG;have e0:IntKind.i64.wrap ((E:Int) - 1)= (E:Int) - 1:=AX _ (by omega);have e1:IntKind.i64.wrap (F - 1)=F - 1:=AX _ (by omega);have e2:IntKind.i64.wrap ((fs.length:Int) - 1)= (fs.length:Int) - 1:=AX _ (by omega);have HW:=Aa (fun(a b c:Int) (W:World)=>(AZ a b c W).mono (fun e w' h=>And.intro h.1 h.2.symm));clear hr hgi hop hG hF hE ro;by_cases hk1:c=1
 ·subst hk1;obtain⟨q3,hq3⟩:∃q,AU n=q:=⟨_,rfl⟩;cases q3
  all_goals go_enter Tryz.func128,Tryz.ntmps128
  all_goals go_wp2_with (first | (go_at_call 65;refine(AZ _ _ _ _).mono ?_;simp only[hq3];rintro e w' ⟨rfl,rfl⟩) | (go_at_call 68;refine(Dd _ _).mono ?_;simp only[hq3];rintro e w' ⟨rfl,rfl⟩) | (go_at_call 180;refine(En _ _).mono ?_;simp only[hq3];rintro e w' ⟨rfl,rfl⟩))
  all_goals go_ret
  all_goals exact⟨Ac (by first | (simp[opG,hq3];done) | (simp_all[opG];done)),by first |exact bx |exact(Ab _ _).alloc (Ad _) _ |exact AM ((Ab _ _).alloc (Ad _) _) _⟩
 by_cases hk2:c=2
 ·subst hk2;obtain⟨q3,hq3⟩:∃q,inB n 0 2999=q:=⟨_,rfl⟩;cases q3
  all_goals go_enter Tryz.func128,Tryz.ntmps128
  all_goals go_wp2_with (first | (go_at_call 65;refine(AZ _ _ _ _).mono ?_;simp only[hq3];rintro e w' ⟨rfl,rfl⟩) | (go_at_call 68;refine(Dd _ _).mono ?_;simp only[hq3];rintro e w' ⟨rfl,rfl⟩) | (go_at_call 180;refine(En _ _).mono ?_;simp only[hq3];rintro e w' ⟨rfl,rfl⟩))
  all_goals go_ret
  all_goals exact⟨Ac (by first | (simp[opG,hq3];done) | (simp_all[opG];done)),by first |exact bx |exact(Ab _ _).alloc (Ad _) _ |exact AM ((Ab _ _).alloc (Ad _) _) _⟩
 by_cases hk3:c=3
 ·subst hk3;obtain⟨q3,hq3⟩:∃q,inB n 0 (F - 1)=q:=⟨_,rfl⟩;cases q3
  all_goals have HQ3:=Aa (fun(W:World)=>(by have:=HW.out n 0 (F - 1) W;rw[hq3]at this;exact this:Calls Pq 65 #[.int .i64 n,.int .i64 0,.int .i64 (F - 1)] W _))
  all_goals go_enter Tryz.func128,Tryz.ntmps128
  all_goals go_wp2_with fail
  all_goals go_quiet ((go_at_call 65;exact Az (HQ3.out _)))
  all_goals go_wp2
  all_goals go_ret
  all_goals exact⟨Ac (by first | (simp[opG,hq3];done) | (simp_all[opG];done)),by first |exact bx |exact(Ab _ _).alloc (Ad _) _ |exact AM ((Ab _ _).alloc (Ad _) _) _⟩
 by_cases hk4:c=4
 ·subst hk4
  all_goals go_enter Tryz.func128,Tryz.ntmps128
  all_goals go_wp2_with (first | (go_at_call 65;refine(AZ _ _ _ _).mono ?_;simp only[DH];rintro e w' ⟨rfl,rfl⟩) | (go_at_call 68;refine(Dd _ _).mono ?_;simp only[DH];rintro e w' ⟨rfl,rfl⟩) | (go_at_call 180;refine(En _ _).mono ?_;simp only[DH];rintro e w' ⟨rfl,rfl⟩))
  all_goals go_ret
  all_goals exact⟨Ac (by first | (simp[opG,DH];done) | (simp_all[opG];done)),by first |exact bx |exact(Ab _ _).alloc (Ad _) _ |exact AM ((Ab _ _).alloc (Ad _) _) _⟩
 by_cases hk5:c=5
 ·subst hk5;obtain⟨q3,hq3⟩:∃q,inB n 1 ((fs.length:Int) - 1)=q:=⟨_,rfl⟩;cases q3
  ·have HQ3:=Aa (fun(W:World)=>(by have:=HW.out n 1 ((fs.length:Int) - 1) W;rw[hq3]at this;exact this:Calls Pq 65 #[.int .i64 n,.int .i64 1,.int .i64 ((fs.length:Int) - 1)] W _));go_enter Tryz.func128,Tryz.ntmps128;go_wp2_with fail;go_quiet ((go_at_call 65;exact Az (HQ3.out _)));go_wp2
   all_goals go_ret
   all_goals exact⟨Ac (by first | (simp[opG,hq3];done) | (simp_all[opG];done)),by first |exact bx |exact(Ab _ _).alloc (Ad _) _ |exact AM ((Ab _ _).alloc (Ad _) _) _⟩
  ·have hb5:=Ct.1 hq3;obtain⟨kn,rfl⟩:∃k:Nat,n= (k:Int):=⟨n.toNat,by omega⟩;have hkn:kn < fs.length:=by omega
   obtain⟨b',off',cap',lv',hs',_,_,_,c5,_,_⟩:=HR5.out kn hkn;cases hs'
   have hgg:=HG.out;rw[Dq,List.getD_eq_getElem?_getD,Ay hkn]at hgg;change fs[kn].f=G at hgg;rw[hgg]at c5;have hkl:(kn:Int) < (fs.length:Int):=by omega
   have hk0:(0:Int)≤ (kn:Int):=by omega
   clear hgg hb5;have HQ3:=Aa (fun(W:World)=>(by have:=HW.out (kn:Int) 1 ((fs.length:Int) - 1) W;rw[hq3]at this;exact this:Calls Pq 65 #[.int .i64 (kn:Int),.int .i64 1,.int .i64 ((fs.length:Int) - 1)] W _));go_enter Tryz.func128,Tryz.ntmps128;go_wp2_with fail;go_quiet ((go_at_call 65;exact Az (HQ3.out _)));go_wp2
   all_goals go_ret
   all_goals exact⟨Ac (by first | (simp[opG,hq3];done) | (simp_all[opG];done)),by first |exact bx |exact(Ab _ _).alloc (Ad _) _ |exact AM ((Ab _ _).alloc (Ad _) _) _⟩
 by_cases hk8:c=8
 ·subst hk8;obtain⟨q3,hq3⟩:∃q,inB n 0 59=q:=⟨_,rfl⟩;obtain⟨q4,hq4⟩:∃q,inB m 0 20=q:=⟨_,rfl⟩;cases q3
  all_goals cases q4
  all_goals go_enter Tryz.func128,Tryz.ntmps128
  all_goals go_wp2_with (first | (go_at_call 65;refine(AZ _ _ _ _).mono ?_;simp only[hq3,hq4];rintro e w' ⟨rfl,rfl⟩) | (go_at_call 68;refine(Dd _ _).mono ?_;simp only[hq3,hq4];rintro e w' ⟨rfl,rfl⟩) | (go_at_call 180;refine(En _ _).mono ?_;simp only[hq3,hq4];rintro e w' ⟨rfl,rfl⟩))
  all_goals go_ret
  all_goals exact⟨Ac (by first | (simp[opG,hq3,hq4];done) | (simp_all[opG];done)),by first |exact bx |exact(Ab _ _).alloc (Ad _) _ |exact AM ((Ab _ _).alloc (Ad _) _) _⟩
 by_cases hk9:c=9
 ·subst hk9;obtain⟨q3,hq3⟩:∃q,inB n 0 59=q:=⟨_,rfl⟩;cases q3
  all_goals go_enter Tryz.func128,Tryz.ntmps128
  all_goals go_wp2_with (first | (go_at_call 65;refine(AZ _ _ _ _).mono ?_;simp only[hq3];rintro e w' ⟨rfl,rfl⟩) | (go_at_call 68;refine(Dd _ _).mono ?_;simp only[hq3];rintro e w' ⟨rfl,rfl⟩) | (go_at_call 180;refine(En _ _).mono ?_;simp only[hq3];rintro e w' ⟨rfl,rfl⟩))
  all_goals go_ret
  all_goals exact⟨Ac (by first | (simp[opG,hq3];done) | (simp_all[opG];done)),by first |exact bx |exact(Ab _ _).alloc (Ad _) _ |exact AM ((Ab _ _).alloc (Ad _) _) _⟩
 by_cases hk10:c=10
 ·subst hk10;obtain⟨q3,hq3⟩:∃q,inB n 0 59=q:=⟨_,rfl⟩;obtain⟨q4,hq4⟩:∃q,inB m 0 ((E:Int) - 1)=q:=⟨_,rfl⟩;cases q3
  all_goals cases q4
  all_goals go_enter Tryz.func128,Tryz.ntmps128
  all_goals go_wp2_with (first | (go_at_call 65;refine(AZ _ _ _ _).mono ?_;simp only[hq3,hq4];rintro e w' ⟨rfl,rfl⟩) | (go_at_call 68;refine(Dd _ _).mono ?_;simp only[hq3,hq4];rintro e w' ⟨rfl,rfl⟩) | (go_at_call 180;refine(En _ _).mono ?_;simp only[hq3,hq4];rintro e w' ⟨rfl,rfl⟩))
  all_goals go_ret
  all_goals exact⟨Ac (by first | (simp[opG,hq3,hq4];done) | (simp_all[opG];done)),by first |exact bx |exact(Ab _ _).alloc (Ad _) _ |exact AM ((Ab _ _).alloc (Ad _) _) _⟩
 by_cases hk11:c=11
 ·subst hk11;obtain⟨q3,hq3⟩:∃q,AU n=q:=⟨_,rfl⟩;obtain⟨q4,hq4⟩:∃q,inB m 0 ((E:Int) - 1)=q:=⟨_,rfl⟩;cases q3
  all_goals cases q4
  all_goals go_enter Tryz.func128,Tryz.ntmps128
  all_goals go_wp2_with (first | (go_at_call 65;refine(AZ _ _ _ _).mono ?_;simp only[hq3,hq4];rintro e w' ⟨rfl,rfl⟩) | (go_at_call 68;refine(Dd _ _).mono ?_;simp only[hq3,hq4];rintro e w' ⟨rfl,rfl⟩) | (go_at_call 180;refine(En _ _).mono ?_;simp only[hq3,hq4];rintro e w' ⟨rfl,rfl⟩))
  all_goals go_ret
  all_goals exact⟨Ac (by first | (simp[opG,hq3,hq4];done) | (simp_all[opG];done)),by first |exact bx |exact(Ab _ _).alloc (Ad _) _ |exact AM ((Ab _ _).alloc (Ad _) _) _⟩
 by_cases hk18:c=18
 ·subst hk18;obtain⟨q3,hq3⟩:∃q,inB n 0 ((E:Int) - 1)=q:=⟨_,rfl⟩;cases q3
  all_goals go_enter Tryz.func128,Tryz.ntmps128
  all_goals go_wp2_with (first | (go_at_call 65;refine(AZ _ _ _ _).mono ?_;simp only[hq3];rintro e w' ⟨rfl,rfl⟩) | (go_at_call 68;refine(Dd _ _).mono ?_;simp only[hq3];rintro e w' ⟨rfl,rfl⟩) | (go_at_call 180;refine(En _ _).mono ?_;simp only[hq3];rintro e w' ⟨rfl,rfl⟩))
  all_goals go_ret
  all_goals exact⟨Ac (by first | (simp[opG,hq3];done) | (simp_all[opG];done)),by first |exact bx |exact(Ab _ _).alloc (Ad _) _ |exact AM ((Ab _ _).alloc (Ad _) _) _⟩
 by_cases hk19:c=19
 ·subst hk19;obtain⟨q3,hq3⟩:∃q,inB n 0 ((E:Int) - 1)=q:=⟨_,rfl⟩;cases q3
  all_goals go_enter Tryz.func128,Tryz.ntmps128
  all_goals go_wp2_with (first | (go_at_call 65;refine(AZ _ _ _ _).mono ?_;simp only[hq3];rintro e w' ⟨rfl,rfl⟩) | (go_at_call 68;refine(Dd _ _).mono ?_;simp only[hq3];rintro e w' ⟨rfl,rfl⟩) | (go_at_call 180;refine(En _ _).mono ?_;simp only[hq3];rintro e w' ⟨rfl,rfl⟩))
  all_goals go_ret
  all_goals exact⟨Ac (by first | (simp[opG,hq3];done) | (simp_all[opG];done)),by first |exact bx |exact(Ab _ _).alloc (Ad _) _ |exact AM ((Ab _ _).alloc (Ad _) _) _⟩
 obtain⟨q3,hq3⟩:∃q,inB c 1 21=q:=⟨_,rfl⟩;have d1:(c==(1:Int))=false:=by simp;omega
 have d2:(c==(2:Int))=false:=by simp;omega
 have d3:(c==(3:Int))=false:=by simp;omega
 have d4:(c==(4:Int))=false:=by simp;omega
 have d5:(c==(5:Int))=false:=by simp;omega
 have d8:(c==(8:Int))=false:=by simp;omega
 have d9:(c==(9:Int))=false:=by simp;omega
 have d10:(c==(10:Int))=false:=by simp;omega
 have d11:(c==(11:Int))=false:=by simp;omega
 have d18:(c==(18:Int))=false:=by simp;omega
 have d19:(c==(19:Int))=false:=by simp;omega
 cases q3
 all_goals go_enter Tryz.func128,Tryz.ntmps128
 all_goals go_wp2_with (first | (go_at_call 65;refine(AZ _ _ _ _).mono ?_;simp only[hq3];rintro e w' ⟨rfl,rfl⟩) | (go_at_call 68;refine(Dd _ _).mono ?_;simp only[hq3];rintro e w' ⟨rfl,rfl⟩) | (go_at_call 180;refine(En _ _).mono ?_;simp only[hq3];rintro e w' ⟨rfl,rfl⟩))
 all_goals go_ret
 all_goals exact⟨Ac (by first | (simp[opG,hq3,hk1,hk2,hk3,hk4,hk5,hk8,hk9,hk10,hk11,hk18,hk19];done) | (simp_all[opG];done)),by first |exact bx |exact(Ab _ _).alloc (Ad _) _ |exact AM ((Ab _ _).alloc (Ad _) _) _⟩
end Go.Proofs.YtifhcbeaiijkcaaGreat
