/- Parts of the proof of FnFuel. -/
import Derived.Test.YtifhcbeaiijkcaaGreatZ06
import Derived.Test.YtifhcbeaiijkcaaGreatZ05
import Derived.Test.YtifhcbeaiijkcaaGreatRows
set_option linter.unusedVariables false
set_option linter.unusedSimpArgs false
set_option maxRecDepth 1000000
set_option maxHeartbeats 16000000
section
namespace Go.Proofs.YtifhcbeaiijkcaaGreat
open _root_.Go.World renaming alloc→Wa,setCell→Ws
open _root_.Go.Proofs.Tryz renaming prog→Pq
theorem Ef {x:Nd}(h:Ao x=true) (o:x.op≠7):Al x.op x.n x.s x.t x.kids.length=true∧ ∀k∈x.kids,Ao k=true:=by
 rw[G8,Ab o,AH,GZ,Be]at h;exact h
theorem GQ {x:Nd}(h:Ao x=true) (o:x.op=7):∃e az,x.kids=e::az∧Ao e=true∧ ∀a∈az,Ca a=true:=by
 rw[G8,Ag o]at h;simp only[AH,FO]at h;obtain⟨-, -, -,hl,hc⟩:=h;cases hk:x.kids with
 |nil=>rw[hk]at hl;simp at hl
 |cons e az=>
  rw[hk,AP,Gs,AH,Be]at hc;exact⟨e,az,rfl,hc.1,hc.2⟩
theorem Iw {x:Nd}(h:Ca x=true):∃p e,x.kids=[p,e]∧BG p=true∧Ao e=true:=by
 rw[I7]at h;simp only[Cu,AH,FO]at h;obtain⟨p,e,hk⟩:=I8 h.1.2.2.2.2;have h2:=h.2;rw[hk,Fd,AH]at h2;exact⟨p,e,hk,h2.1,h2.2⟩
theorem FC {x:Nd}(h:Ao x=true) (o:x.op=3∨x.op=16):∃a,x.kids=[a]∧Ao a=true:=by
 obtain⟨h1,h2⟩:=Ef h (by omega);have hl:x.kids.length=1:=by
  rcases o with o |o <;> (rw[o]at h1;simp[Al]at h1;exact h1.1)
 match hk:x.kids,hl with
 | [a],_=>exact⟨a,rfl,h2 a (by rw[hk];simp)⟩
theorem Cs {x:Nd}(h:Ao x=true) (o:x.op=4∨x.op=5∨x.op=6∨(10≤x.op∧x.op≤14)):∃a b,x.kids=[a,b]∧Ao a=true∧Ao b=true:=by
 obtain⟨h1,h2⟩:=Ef h (by omega);have hl:x.kids.length=2:=by
  have:(x.op=1)=False∧(x.op=2)=False∧(x.op=3)=False∧(x.op=16)=False:=by refine⟨?_,?_,?_,?_⟩ <;> (simp;omega)
  unfold Al at h1;simp only[this,Di]at h1;rcases o with o |o |o |o
  ·simp[o]at h1;exact h1.1
  ·simp[o]at h1;exact h1.1
  ·simp[o]at h1;exact h1.1
  ·rw[Ab (by omega),Ab (by omega),Ag (Or.inr o)]at h1;simp at h1;exact h1.1
 match hk:x.kids,hl with
 | [a,b],_=>exact⟨a,b,rfl,h2 a (by rw[hk];simp),h2 b (by rw[hk];simp)⟩
theorem Ix {x:Nd}(h:Ao x=true) (o:x.op=9):∃a b c,x.kids=[a,b,c]∧Ao a=true∧Ao b=true∧Ao c=true:=by
 obtain⟨h1,h2⟩:=Ef h (by omega);have hl:x.kids.length=3:=by rw[o]at h1;simp[Al]at h1;exact h1.1
 match hk:x.kids,hl with
 | [a,b,c],_=>exact⟨a,b,c,rfl,h2 a (by rw[hk];simp),h2 b (by rw[hk];simp),h2 c (by rw[hk];simp)⟩
theorem Iy {x:Nd}(h:Ao x=true):x.op=1∨x.op=2∨x.op=3∨x.op=4∨x.op=5∨x.op=6∨x.op=7∨x.op=9∨(10≤x.op∧x.op≤14)∨x.op=15∨x.op=16:=by
 by_cases o:x.op=7
 ·omega
 have h1:=(Ef h o).1;unfold Al at h1
 repeat' split at h1
 all_goals first |omega | (simp at h1)
theorem Nj {x:Nd}(h:Ao x=true) (o:x.op=1):EZ x.n=true:=by
 have:=(Ef h (by omega)).1;rw[o]at this;simp[Al,B9]at this;unfold EZ;rw[IJ];omega
theorem SI {x:Nd}(h:Ao x=true) (o:x.op=6):x.s≠eS:=by
 have:=(Ef h (by omega)).1;rw[o]at this;simp[Al]at this;intro e;have h2:=this.2.2.1;rw[e]at h2;exact absurd h2 (by decide)
inductive Good:Xl→Prop
 |int (n:Int) (h:EZ n=true):Good (.th (.int n))
 |con (s:Str) (vs:List Vl) (h:∀v∈vs,Good (.th v)):Good (.th (.con s vs))
 |fn (arg self:Str) (body:Nd) (env:Env) (h1:Ao body=true) (h2:wgN body≤1048576) (h3:Good (.sc env)):Good (.th (.fn arg self body env))
 |nil:Good (.sc [])
 |cons (s:Str) (v:Vl) (e:Env) (h1:Good (.th v)) (h2:Good (.sc e)):Good (.sc ((s,v)::e))
theorem Good.inv_con {s:Str}{vs:List Vl}(h:Good (.th (.con s vs))):∀v∈vs,Good (.th v):=by cases h with |con _ _ h=>exact h
theorem Good.inv_int {n:Int}(h:Good (.th (.int n))):EZ n=true:=by cases h with |int _ h=>exact h
theorem Good.inv_cons {s:Str}{v:Vl}{e:Env}(h:Good (.sc ((s,v)::e))):Good (.th v)∧Good (.sc e):=by cases h with |cons _ _ _ h1 h2=>exact⟨h1,h2⟩
theorem Good.look {s:Str}{v:Vl}:∀ {e:Env},Good (.sc e)→Go.Proofs.YtifhcbeaiijkcaaGreat.look e s=some v→Good (.th v)
 | [],_,h=>by simp[Go.Proofs.YtifhcbeaiijkcaaGreat.look]at h
 | (a,u)::e,hg,h=>by
  obtain⟨h1,h2⟩:=hg.inv_cons;unfold Go.Proofs.YtifhcbeaiijkcaaGreat.look at h;split at h
  ·cases h;exact h1
  ·exact Good.look h2 h
mutual
theorem GR:∀ (p:Nd) (v:Vl) (e e':Env),Good (.th v)→Good (.sc e)→Br p v e=some e'→Good (.sc e')
 | .mk op n s _ ks,v,e,e',hv,he,h=>by
  unfold Br at h;split at h
  ·cases h;exact he
  ·split at h
   ·cases h;exact .cons _ _ _ hv he
   ·split at h
    ·split at h
     ·split at h
      ·cases h;exact he
      ·cases h
     ·cases h
    ·split at h
     ·rename_i c vs;split at h
      ·exact Nk ks vs e e' hv.inv_con he h
      ·cases h
     ·cases h
theorem Nk:∀ (ks:List Nd) (vs:List Vl) (e e':Env),(∀v∈vs,Good (.th v))→Good (.sc e)→Bc ks vs e=some e'→Good (.sc e')
 | [],vs,e,e',hv,he,h=>by unfold Bc at h;cases h;exact he
 |k::ks,[],e,e',hv,he,h=>by unfold Bc at h;cases h
 |k::ks,v::vs,e,e',hv,he,h=>by
  unfold Bc at h;split at h
  ·rename_i e1 h1;exact Nk ks vs e1 e' (fun u hu=>hv u (List.mem_cons_of_mem _ hu)) (GR k v e e1 (hv v (List.mem_cons_self ..)) he h1) h
  ·cases h
end
theorem J2 (n:Int):EZ n=true↔ -1073741824≤n∧n≤1073741823:=by unfold EZ;exact IJ
theorem SJ (n:Int):EZ (Dp n)=true:=by
 rw[J2];unfold Dp;have h1:=Int.tmod_lt_of_pos n (show(0:Int) < 2147483648 by decide);have h2:-2147483648 < Int.tmod n 2147483648:=by
  have:=Int.tmod_lt_of_pos (-n) (show(0:Int) < 2147483648 by decide);rw[Int.neg_tmod]at this;omega
 dsimp only;split
 ·omega
 ·split <;> omega
theorem Gb (op a b:Int):EZ (Df op a b)=true:=by
 unfold Df
 repeat' split
 all_goals first |exact SJ _ |decide
def GoodR (r:Rs Vl):Prop:=∀v s,r= .ok v s→Good (.th v)
theorem Nl {E:Nd→Env→Es→Rs Vl}{env:Env}:∀ (ks:List Nd) (s:Es),(∀k∈ks,∀s,GoodR (E k env s))→ ∀vs s',Bd E env ks s= .ok vs s'→ ∀v∈vs,Good (.th v)
 | [],s,hE,vs,s',h=>by unfold Bd at h;cases h;simp
 |k::ks,s,hE,vs,s',h=>by
  unfold Bd at h;cases h1:E k env s with
  |bad c o=>rw[h1]at h;cases h
  |ok v s1=>
   rw[h1]at h;dsimp only[Rs.bind]at h;cases h2:Bd E env ks s1 with
   |bad c o=>rw[h2]at h;cases h
   |ok us s2=>
    rw[h2]at h;dsimp only[Rs.bind]at h;cases h
    intro u hu;rcases List.mem_cons.1 hu with rfl |hu
    ·exact hE k (List.mem_cons_self ..) s _ _ h1
    ·exact Nl ks s1 (fun k hk=>hE k (List.mem_cons_of_mem _ hk)) us _ h2 u hu
theorem Nm {E:Nd→Env→Es→Rs Vl}{env:Env}{v:Vl}(hv:Good (.th v)) (he:Good (.sc env)):∀ (az:List Nd) (s:Es),(∀a∈az,∀e s,Good (.sc e)→GoodR (E (a.kid 1) e s))→GoodR (A5 E env v az s)
 | [],s,hE=>fun u t h=>by unfold A5 at h;cases h
 |a::az,s,hE=>by
  unfold A5;split
  ·rename_i e h1;exact hE a (List.mem_cons_self ..) e s (GR _ _ _ _ hv he h1)
  ·exact Nm hv he az s (fun a ha=>hE a (List.mem_cons_of_mem _ ha))
theorem GoodR.bind {α:Type}{r:Rs α}{k:α→Es→Rs Vl}(h:∀a s,r= .ok a s→GoodR (k a s)):GoodR (r.bind k):=by
 cases r with
 |ok a s=>exact h a s rfl
 |bad c o=>exact fun v s h=>by cases h
theorem CV {x:Nd}{a b:Nd}(h:x.kids=[a,b]):x.kid 0=a∧x.kid 1=b:=by unfold Nd.kid;rw[h];exact⟨rfl,rfl⟩
theorem Iz (ar:Str→Option Nat):∀ (m:Nat) (x:Nd) (env:Env) (s:Es),Ao x=true→wgN x≤1048576→Good (.sc env)→GoodR (Ai ar m x env s)
 |0,x,env,s,hx,hw,he=>fun v s h=>by unfold Ai at h;cases h
 |m+1,x,env,s,hx,hw,he=>by
  unfold Ai;split
  ·exact fun v s h=>by cases h
  rename_i f hf;have ih:=Iz ar m;have hwx:=Aw x;have hkid:∀k∈x.kids,wgN k≤1048576:=fun k hk=>by have:=AT hk;omega
  unfold AF;by_cases h1:x.op=1
  ·rw[Ag h1];intro v s' h;cases h;exact .int _ (Nj hx h1)
  rw[Ab h1];by_cases h2:x.op=2
  ·rw[Ag h2];cases hlk:look env x.s with
   |some v=>intro u s' h;cases h;exact he.look hlk
   |none=>intro u s' h;cases h
  rw[Ab h2];by_cases h3:x.op=3
  ·rw[Ag h3];obtain⟨a,hk,ha⟩:=FC hx (.inl h3);have:x.kid 0=a:=by unfold Nd.kid;rw[hk];rfl
   intro u s' h;cases h;rw[this];exact .fn _ _ _ _ ha (hkid a (by rw[hk];simp)) he
  rw[Ab h3];by_cases h4:x.op=4
  ·rw[Ag h4];obtain⟨a,b,hk,ha,hb⟩:=Cs hx (.inl h4);obtain⟨e0,e1⟩:=CV hk;rw[e0,e1];refine GoodR.bind fun v s1 h=>GoodR.bind fun u s2 h'=> ?_;have gv:=ih _ _ _ ha (hkid a (by rw[hk];simp)) he _ _ h;have gu:=ih _ _ _ hb (hkid b (by rw[hk];simp)) he _ _ h';cases v with
   |fn arg self body env'=>
    unfold Cd;dsimp only;cases gv with
    |fn _ _ _ _ g1 g2 g3=>
     refine ih _ _ _ g1 g2 (.cons _ _ _ gu ?_);by_cases hs:self=ByteArray.empty
     ·rw[Ag hs];exact g3
     ·rw[Ab hs];exact .cons _ _ _ (.fn _ _ _ _ g1 g2 g3) g3
   |_=>intro u s' h;cases h
  rw[Ab h4];by_cases h6:x.op=6
  ·rw[Ag h6];obtain⟨a,b,hk,ha,hb⟩:=Cs hx (.inr (.inr (.inl h6)));obtain⟨e0,e1⟩:=CV hk;rw[e0,e1];exact ih _ _ _ hb (hkid b (by rw[hk];simp)) (.cons _ _ _ (.fn _ _ _ _ ha (hkid a (by rw[hk];simp)) he) he)
  rw[Ab h6];by_cases h7:x.op=7
  ·rw[Ag h7];obtain⟨e,az,hk,hne,haz⟩:=GQ hx h7;have e0:x.kid 0=e:=by unfold Nd.kid;rw[hk];rfl
   rw[e0,hk];refine GoodR.bind fun v s1 h=> ?_;have gv:=ih _ _ _ hne (hkid e (by rw[hk];simp)) he _ _ h;refine Nm gv he _ _ fun a ha e' s' he'=> ?_;obtain⟨p,b,hka,hp,hb⟩:=Iw (haz a ha);rw[(CV hka).2];refine ih _ _ _ hb ?_ he';have:=AT (k:=b) (ks:=a.kids) (by rw[hka];simp);have:=Aw a;have:=hkid a (by rw[hk];exact List.mem_cons_of_mem _ ha);omega
  rw[Ab h7];by_cases h15:x.op=15
  ·rw[Ag h15];refine GoodR.bind fun vs s1 h=> ?_;have hks:=(Ef hx h7).2;have gv:=Nl x.kids _ (fun k hk s=>ih k env s (hks k hk) (hkid k hk) he) vs s1 h;split
   ·intro u s' h;cases h;exact .con _ _ gv
   ·intro u s' h;cases h
  rw[Ab h15];have hops:=Iy hx;by_cases h16:x.op=16
  ·obtain⟨a,hk,ha⟩:=FC hx (.inr h16);have e0:x.kid 0=a:=by unfold Nd.kid;rw[hk];rfl
   rw[e0];refine GoodR.bind fun v s1 h=> ?_;have gv:=ih _ _ _ ha (hkid a (by rw[hk];simp)) he _ _ h;rw[Ab (by omega)];refine GoodR.bind fun b s2 h'=> ?_;rw[Ag h16];intro u s' h;cases h;exact gv
  by_cases h9:x.op=9
  ·obtain⟨a,b,c,hk,ha,hb,hc⟩:=Ix hx h9;have e0:x.kid 0=a∧x.kid 1=b∧x.kid 2=c:=by unfold Nd.kid;rw[hk];exact⟨rfl,rfl,rfl⟩
   rw[e0.1,e0.2.1,e0.2.2];refine GoodR.bind fun v s1 h=> ?_;rw[Ab (by omega)];refine GoodR.bind fun d s2 h'=> ?_;rw[Ab h16,Ag h9];split
   ·exact ih _ _ _ hb (hkid b (by rw[hk];simp)) he
   ·exact ih _ _ _ hc (hkid c (by rw[hk];simp)) he
  obtain⟨a,b,hk,ha,hb⟩:=Cs hx (by omega);obtain⟨e0,e1⟩:=CV hk;rw[e0,e1];refine GoodR.bind fun v s1 h=> ?_;have gv:=ih _ _ _ ha (hkid a (by rw[hk];simp)) he _ _ h;by_cases h5:x.op=5
  ·rw[Ag h5];exact ih _ _ _ hb (hkid b (by rw[hk];simp)) (.cons _ _ _ gv he)
  rw[Ab h5];refine GoodR.bind fun d s2 h'=> ?_;rw[Ab h16,Ab h9];refine GoodR.bind fun v2 s3 h''=>GoodR.bind fun d2 s4 h3'=> ?_;intro u s' h;cases h;exact .int _ (Gb _ _ _)
def Bn {α:Type}(q:α→Bool) (l:List α):Int:=match l.findIdx? q with |some k=>k |none=> -1
theorem DX {α:Type}{q:α→Bool}{l:List α}{k:Nat}(hk:k < l.length) (h:q l[k]=true) (hj:∀j (h:j < l.length),j < k→q l[j]=false):Bn q l=k:=by
 have:l.findIdx? q=some k:=KO.2 ⟨hk,h,fun j hlt=>by rw[hj j (by omega) hlt];simp⟩;unfold Bn;rw[this]
theorem DY {α:Type}{q:α→Bool}{l:List α}(hj:∀j (h:j < l.length),q l[j]=false):Bn q l= -1:=by
 have:l.findIdx? q=none:=Po.2 fun x hx=>by
  obtain⟨j,h,rfl⟩:=EH hx;exact hj j h
 unfold Bn;rw[this]
theorem Gu {α:Type}(q:α→Bool) (l:List α):(Bn q l= -1∧ ∀j (h:j < l.length),q l[j]=false)∨ ∃k,∃hk:k < l.length,Bn q l=k∧q l[k]=true∧ ∀j (h:j < l.length),j < k→q l[j]=false:=by
 cases h:l.findIdx? q with
 |none=>
  refine .inl ⟨by unfold Bn;rw[h],fun j hj=> ?_⟩;exact Po.1 h _ (As hj)
 |some k=>
  obtain⟨hk,h1,h2⟩:=KO.1 h;exact .inr ⟨k,hk,by unfold Bn;rw[h],h1,fun j hj hlt=>by simpa using h2 j hlt⟩
def isD (s:Str) (d:Dt):Bool:=decide (d.name=s)
def isC (s:Str) (c:Cn):Bool:=decide (c.name=s)
def dIx (ds:List Dt) (s:Str):Int:=Bn (isD s) ds
def cIx (cs:List Cn) (s:Str):Int:=Bn (isC s) cs
def EO (s:Str) (d:Dt):Bool:=decide (0≤cIx d.cons s)
def Bg (ds:List Dt) (s:Str):Int×Int:=match ds.findIdx? (EO s)with
 |some k=>(k,cIx (ds.getD k ⟨⟨#[]⟩,0,[]⟩).cons s)
 |none=>(-1, -1)
theorem LD {ds:List Dt}{s:Str}{k:Nat}(hk:k < ds.length) (h:0≤cIx ds[k].cons s) (hj:∀j (h:j < ds.length),j < k→ ¬0≤cIx ds[j].cons s):Bg ds s= ((k:Int),cIx ds[k].cons s):=by
 have:ds.findIdx? (EO s)=some k:=KO.2 ⟨hk,AN h,fun j hlt=>by
  have:=hj j (by omega) hlt;unfold EO;rw[AG this];simp⟩
 unfold Bg;rw[this];simp[List.getD,Bl hk]
theorem LE {ds:List Dt}{s:Str}(hj:∀j (h:j < ds.length),¬0≤cIx ds[j].cons s):Bg ds s= (-1, -1):=by
 have:ds.findIdx? (EO s)=none:=Po.2 fun x hx=>by
  obtain⟨j,h,rfl⟩:=EH hx;unfold EO;exact AG (hj j h)
 unfold Bg;rw[this]
theorem Ji (cs:List Cn) (s:Str):(cIx cs s= -1∧ ∀j (h:j < cs.length),cs[j].name≠s)∨ ∃k,∃hk:k < cs.length,cIx cs s=k∧cs[k].name=s∧ ∀j (h:j < cs.length),j < k→cs[j].name≠s:=by
 rcases Gu (isC s) cs with ⟨h1,h2⟩ |⟨k,hk,h1,h2,h3⟩
 ·exact .inl ⟨h1,fun j hj=>of_decide_eq_false (h2 j hj)⟩
 ·exact .inr ⟨k,hk,h1,of_decide_eq_true h2,fun j hj hlt=>of_decide_eq_false (h3 j hj hlt)⟩
theorem LF (cs:List Dt) (s:Str):(dIx cs s= -1∧ ∀j (h:j < cs.length),cs[j].name≠s)∨ ∃k,∃hk:k < cs.length,dIx cs s=k∧cs[k].name=s∧ ∀j (h:j < cs.length),j < k→cs[j].name≠s:=by
 rcases Gu (isD s) cs with ⟨h1,h2⟩ |⟨k,hk,h1,h2,h3⟩
 ·exact .inl ⟨h1,fun j hj=>of_decide_eq_false (h2 j hj)⟩
 ·exact .inr ⟨k,hk,h1,of_decide_eq_true h2,fun j hj hlt=>of_decide_eq_false (h3 j hj hlt)⟩
theorem Qr {cs:List Dt}{s:Str}{k:Nat}(hk:k < cs.length) (h:cs[k].name=s) (hj:∀j (h:j < cs.length),j < k→cs[j].name≠s):dIx cs s=k:=
 DX hk (AN h) fun j h1 h2=>AG (hj j h1 h2)
theorem Qs {cs:List Dt}{s:Str}(hj:∀j (h:j < cs.length),cs[j].name≠s):dIx cs s= -1:=DY fun j h=>AG (hj j h)
theorem Gv (ds:List Dt) (s:Str):(Bg ds s= (-1, -1)∧ ∀i (h:i < ds.length) k (hk:k < ds[i].cons.length),ds[i].cons[k].name≠s)∨ ∃i,∃hi:i < ds.length,∃k,∃hk:k < ds[i].cons.length,Bg ds s= ((i:Int),(k:Int))∧ds[i].cons[k].name=s∧(∀j (h:j < ds[i].cons.length),j < k→ds[i].cons[j].name≠s)∧ ∀j (h:j < ds.length),j < i→ ∀l (hl:l < ds[j].cons.length),ds[j].cons[l].name≠s:=by
 have neg:∀d:Dt,¬0≤cIx d.cons s→ ∀l (hl:l < d.cons.length),d.cons[l].name≠s:=fun d h=>by
  rcases Ji d.cons s with ⟨_,h2⟩ |⟨k,hk,h1,_⟩
  ·exact h2
  ·omega
 rcases Gu (EO s) ds with ⟨-,h2⟩ |⟨i,hi, -,h2,h3⟩
 ·have h2':=fun j h=>of_decide_eq_false (h2 j h);exact .inl ⟨LE h2',fun i h=>neg _ (h2' i h)⟩
 ·have h2':0≤cIx ds[i].cons s:=of_decide_eq_true h2;have h3':=fun j h hj=>of_decide_eq_false (h3 j h hj);have e:=LD hi h2' h3';rcases Ji ds[i].cons s with ⟨h,_⟩ |⟨k,hk,h4,h5,h6⟩
  ·omega
  ·exact .inr ⟨i,hi,k,hk,by rw[e,h4],h5,h6,fun j h hj=>neg _ (h3' j h hj)⟩
def arP (ds:List Dt) (s:Str):Option Nat:=match Bg ds s with
 | (i,k)=>if 0≤i then some ((((ds.getD i.toNat ⟨⟨#[]⟩,0,[]⟩).cons.getD k.toNat ⟨⟨#[]⟩,[]⟩).args).length)else none
theorem LG {ds:List Dt}{s:Str}{i k:Nat}(hi:i < ds.length) (hk:k < ds[i].cons.length) (h:Bg ds s= ((i:Int),(k:Int))):arP ds s=some ds[i].cons[k].args.length:=by
 unfold arP;rw[h];simp[List.getD,Bl hi,Bl hk]
theorem LH {ds:List Dt}{s:Str}(h:Bg ds s= (-1, -1)):arP ds s=none:=by
 unfold arP;rw[h];rfl
def At (q:Tp→Bool):Tp→Bool
 | .mk op n s ks=>q (.mk op n s ks)&& allTys q ks
where allTys (q:Tp→Bool):List Tp→Bool
 | []=>true
 |k::ks=>At q k&& allTys q ks
theorem Eu (q:Tp→Bool) (x:Tp):At q x= (q x&& At.allTys q x.kids):=by cases x;rfl
theorem DH (q:Tp→Bool):∀ (ks:List Tp),At.allTys q ks=ks.all (At q)
 | []=>rfl
 |k::ks=>by rw[At.allTys,DH q ks];rfl
def Bo (q:Tp→Bool) (ds:List Dt):Bool:=ds.all fun d=>d.cons.all fun c=>c.args.all (At q)
def Ch (ds:List Dt) (t:Tp):Bool:=!(decide (t.op=4)) || decide (0≤dIx ds t.s)
def EP (ds:List Dt) (s:Str):Int:=(ds.getD (dIx ds s).toNat ⟨⟨#[]⟩,0,[]⟩).vars
def Db (ds:List Dt) (t:Tp):Bool:=!(decide (t.op=4)) || decide ((t.kids.length:Int)=EP ds t.s)
def Bu:List Dt→Nat
 | []=>0
 |d::ds=>d.cons.length+Bu ds
def Hs (ds:List Dt):Prop:=(∀i (h:i < ds.length),dIx ds ds[i].name=i)∧ ∀i (h:i < ds.length) k (hk:k < ds[i].cons.length),Bg ds ds[i].cons[k].name= ((i:Int),(k:Int))
end Go.Proofs.YtifhcbeaiijkcaaGreat
end
section
namespace Go.Proofs.YtifhcbeaiijkcaaGreat
open Go.RowKit
open _root_.Go.World renaming alloc→Wa,setCell→Ws
open _root_.Go.Proofs.Tryz renaming prog→Pq
theorem OE (n:Int):Dp n=if 1073741823 < n.tmod 2147483648 then n.tmod 2147483648 - 2147483648 else if n.tmod 2147483648 < -1073741824 then n.tmod 2147483648+2147483648 else n.tmod 2147483648:=rfl
theorem G0 (op a b:Int):Df op a b=if op=10 then Dp (a+b)else if op=11 then Dp (a - b)else if op=12 then Dp (a*b)else if(op=13∧a < b)∨(op=14∧a=b)then 1 else 0:=by
 unfold Df;by_cases h1:op=10
 ·rw[Ag h1,Ag h1]
 rw[Ab h1,Ab h1];by_cases h2:op=11
 ·rw[Ag h2,Ag h2]
 rw[Ab h2,Ab h2];by_cases h3:op=12
 ·rw[Ag h3,Ag h3]
 rw[Ab h3,Ab h3];by_cases h4:op=13
 ·rw[Ag h4];simp[h4]
 rw[Ab h4];by_cases h5:op=14
 ·rw[Ag h5];simp[h5]
 ·rw[Ab h5];simp[h4,h5]
theorem OF (n:Int):-2147483648 < n.tmod 2147483648∧n.tmod 2147483648 < 2147483648:=by
 constructor
 ·have:=Int.lt_tmod_of_pos n (show(0:Int) < 2147483648 by omega);omega
 ·exact Int.tmod_lt_of_pos n (by omega)
theorem UV (n:Int) (w:World):
  Calls Pq 169 #[.int .i64 n] w fun e w'=>e= .returned (.int .i64 (Dp n))∧w=w':=by
 obtain⟨r,hr⟩:∃r,n.tmod 2147483648=r:=⟨_,rfl⟩;have hb:=OF n;rw[hr]at hb;obtain⟨h1,h2⟩:=hb;have hw:IntKind.i64.wrap r=r:=DV _ (by omega);have hR:Dp n=if 1073741823 < r then r - 2147483648 else if r < -1073741824 then r+2147483648 else r:=by rw[OE,hr]
 rcases Int.lt_or_le 1073741823 r with c1 |c1
 ·rw[Ag c1]at hR;have HR:=Aa hR;go_enter Tryz.func169,Tryz.ntmps169;go_wp2;go_ret;rw[HR.out];exact⟨rfl,rfl⟩
 ·rw[Ab (by omega)]at hR;rcases Int.lt_or_le r (-1073741824)with c2 |c2
  ·rw[Ag c2]at hR;have HR:=Aa hR;go_enter Tryz.func169,Tryz.ntmps169;go_wp2;go_ret;rw[HR.out];exact⟨rfl,rfl⟩
  ·rw[Ab (by omega)]at hR;have HR:=Aa hR;go_enter Tryz.func169,Tryz.ntmps169;go_wp2;go_ret;rw[HR.out];exact⟨rfl,rfl⟩
theorem UW (n:Int) (w:World):
  Calls Pq 217 #[.int .i64 n] w fun e w'=>e= .returned (.int .i64 (Dp n))∧w=w':=by
 obtain⟨r,hr⟩:∃r,n%2147483648=r:=⟨_,rfl⟩;have hb:0≤r∧r < 2147483648:=by omega
 obtain⟨h1,h2⟩:=hb;have hw:IntKind.i64.wrap (r - 2147483648)=r - 2147483648:=DV _ (by omega);have hR:Dp n=if 1073741823 < r then r - 2147483648 else r:=by
  rw[OE];have ht:n.tmod 2147483648=r∨n.tmod 2147483648=r - 2147483648:=by
   rw[Int.tmod_eq_emod];split
   ·left;omega
   ·right;rw[hr];rfl
  have hbd:=OF n;rcases ht with e |e
  ·rw[e];split
   ·rfl
   ·rw[Ab (by omega)]
  ·rw[e]at hbd ⊢;by_cases c:1073741823 < r
   ·rw[Ag c,Ab (by omega),Ab (by omega)]
   ·rw[Ab c,Ab (by omega),Ag (by omega)];omega
 rcases Int.lt_or_le 1073741823 r with c1 |c1
 ·rw[Ag c1]at hR;have HR:=Aa hR;go_enter Tryz.func217,Tryz.ntmps217;go_wp2;go_ret;rw[HR.out];exact⟨rfl,rfl⟩
 ·rw[Ab (by omega)]at hR;have HR:=Aa hR;go_enter Tryz.func217,Tryz.ntmps217;go_wp2;go_ret;rw[HR.out];exact⟨rfl,rfl⟩
theorem G5 (op a b:Int) (ha:-1073741824≤a∧a≤1073741823) (hb:-1073741824≤b∧b≤1073741823) (w:World):
  Calls Pq 109 #[.int .i64 op,.int .i64 a,.int .i64 b] w fun e w'=>e= .returned (.int .i64 (Df op a b))∧w=w':=by
 obtain⟨a1,a2⟩:=ha;obtain⟨b1,b2⟩:=hb;have HR:=Aa UV;have hm:-1152921504606846976≤a*b∧a*b≤1152921504606846976:=by
  have:(a*b).natAbs≤1073741824*1073741824:=by rw[Int.natAbs_mul];exact Nat.mul_le_mul (by omega) (by omega)
  omega
 have e1:IntKind.i64.wrap (a+b)=a+b:=DV _ (by omega);have e2:IntKind.i64.wrap (a - b)=a - b:=DV _ (by omega);have e3:IntKind.i64.wrap (a*b)=a*b:=DV _ (by omega);obtain⟨z,hz⟩:∃z,Df op a b=z:=⟨_,rfl⟩;have HZ:=Aa hz;rw[hz];by_cases c10:op=10
 ·subst c10;clear hz hm e2 e3;go_enter Tryz.func109,Tryz.ntmps109;go_wp2_with (go_at_call 169;refine(HR.out _ _).mono ?_;rintro e w' ⟨rfl,rfl⟩);go_ret;exact⟨AK (by rw[←HZ.out];simp[G0]),rfl⟩
 by_cases c11:op=11
 ·subst c11;clear hz hm e1 e3;go_enter Tryz.func109,Tryz.ntmps109;go_wp2_with (go_at_call 169;refine(HR.out _ _).mono ?_;rintro e w' ⟨rfl,rfl⟩);go_ret;exact⟨AK (by rw[←HZ.out];simp[G0]),rfl⟩
 by_cases c12:op=12
 ·subst c12;clear hz hm e1 e2;go_enter Tryz.func109,Tryz.ntmps109;go_wp2_with (go_at_call 169;refine(HR.out _ _).mono ?_;rintro e w' ⟨rfl,rfl⟩);go_ret;exact⟨AK (by rw[←HZ.out];simp[G0]),rfl⟩
 have n1:(op==10)=false:=by simp[c10]
 have n2:(op==11)=false:=by simp[c11]
 have n3:(op==12)=false:=by simp[c12]
 rw[G0]at hz;rw[Ab c10,Ab c11,Ab c12]at hz;by_cases c:(op=13∧a < b)∨(op=14∧a=b)
 ·rw[Ag c]at hz;subst hz;clear HZ;rcases c with ⟨rfl,c⟩ |⟨rfl,rfl⟩
  ·go_enter Tryz.func109,Tryz.ntmps109;go_wp2;go_ret;exact⟨rfl,rfl⟩
  ·go_enter Tryz.func109,Tryz.ntmps109;go_wp2;go_ret;exact⟨rfl,rfl⟩
 ·rw[Ab c]at hz;subst hz;clear HZ;by_cases c13:op=13
  ·subst c13;have c':¬a < b:=fun h=>c (.inl ⟨rfl,h⟩);go_enter Tryz.func109,Tryz.ntmps109;go_wp2;go_ret;exact⟨rfl,rfl⟩
  ·by_cases c14:op=14
   ·subst c14;have c':¬a=b:=fun h=>c (.inr ⟨rfl,h⟩);have c'':(a==b)=false:=by simp[c']
    go_enter Tryz.func109,Tryz.ntmps109;go_wp2;go_ret;exact⟨rfl,rfl⟩
   ·have n4:(op==13)=false:=by simp[c13]
    have n5:(op==14)=false:=by simp[c14]
    go_enter Tryz.func109,Tryz.ntmps109;go_wp2;go_ret;exact⟨rfl,rfl⟩
theorem UX (b:Bool) (w:World):Calls Pq 218 #[.bool b] w fun e w'=>e= .returned (.int .i64 (if b=true then 1 else 0))∧w=w':=by
 cases b with
 |true=>
  go_enter Tryz.func218,Tryz.ntmps218;go_wp2;go_ret;exact⟨rfl,rfl⟩
 |false=>
  go_enter Tryz.func218,Tryz.ntmps218;go_wp2;go_ret;exact⟨rfl,rfl⟩
theorem UY (op a b:Int) (ho:10≤op∧op≤14) (ha:-1073741824≤a∧a≤1073741823) (hb:-1073741824≤b∧b≤1073741823) (w:World):
  Calls Pq 178 #[.int .i64 op,.int .i64 a,.int .i64 b] w fun e w'=>e= .returned (.int .i64 (Df op a b))∧w=w':=by
 obtain⟨a1,a2⟩:=ha;obtain⟨b1,b2⟩:=hb;have HR:=Aa UW;have HB:=Aa UX;have hm:-1152921504606846976≤a*b∧a*b≤1152921504606846976:=by
  have:(a*b).natAbs≤1073741824*1073741824:=by rw[Int.natAbs_mul];exact Nat.mul_le_mul (by omega) (by omega)
  omega
 have e1:IntKind.i64.wrap (a+b)=a+b:=DV _ (by omega);have e2:IntKind.i64.wrap (a - b)=a - b:=DV _ (by omega);have e3:IntKind.i64.wrap (a*b)=a*b:=DV _ (by omega);obtain⟨z,hz⟩:∃z,Df op a b=z:=⟨_,rfl⟩;have HZ:=Aa (hz.symm.trans (G0 op a b));rw[hz];clear hz;by_cases c10:op=10
 ·subst c10;clear hm e2 e3;go_enter Tryz.func178,Tryz.ntmps178;go_wp2_with (go_at_call 217;refine(HR.out _ _).mono ?_;rintro e w' ⟨rfl,rfl⟩);go_ret;exact⟨AK (by rw[HZ.out];simp),rfl⟩
 by_cases c11:op=11
 ·subst c11;clear hm e1 e3;go_enter Tryz.func178,Tryz.ntmps178;go_wp2_with (go_at_call 217;refine(HR.out _ _).mono ?_;rintro e w' ⟨rfl,rfl⟩);go_ret;exact⟨AK (by rw[HZ.out];simp),rfl⟩
 by_cases c12:op=12
 ·subst c12;clear hm e1 e2;go_enter Tryz.func178,Tryz.ntmps178;go_wp2_with (go_at_call 217;refine(HR.out _ _).mono ?_;rintro e w' ⟨rfl,rfl⟩);go_ret;exact⟨AK (by rw[HZ.out];simp),rfl⟩
 clear hm e1 e2 e3;by_cases c13:op=13
 ·subst c13;by_cases h:a < b
  ·have hv:=Aa (show z=1 by rw[HZ.out];simp[h]);go_enter Tryz.func178,Tryz.ntmps178;go_wp2_with fail;refine(HB.out _ _).mono ?_;rintro e w' ⟨rfl,rfl⟩;go_wp2;go_ret;exact⟨AK (by rw[hv.out]),rfl⟩
  ·have hv:=Aa (show z=0 by rw[HZ.out];simp;omega);go_enter Tryz.func178,Tryz.ntmps178;go_wp2_with fail;refine(HB.out _ _).mono ?_;rintro e w' ⟨rfl,rfl⟩;go_wp2;go_ret;exact⟨AK (by rw[hv.out]),rfl⟩
 ·have c14:op=14:=by omega
  subst c14;by_cases h:a=b
  ·have hv:=Aa (show z=1 by rw[HZ.out];simp[h]);subst h;go_enter Tryz.func178,Tryz.ntmps178;go_wp2_with fail;refine(HB.out _ _).mono ?_;rintro e w' ⟨rfl,rfl⟩;go_wp2;go_ret;exact⟨AK (by rw[hv.out]),rfl⟩
  ·have hv:=Aa (show z=0 by rw[HZ.out];simp;omega);have hb:(a==b)=false:=by simp[h]
   go_enter Tryz.func178,Tryz.ntmps178;go_wp2_with fail;refine(HB.out _ _).mono ?_;rintro e w' ⟨rfl,rfl⟩;go_wp2;go_ret;exact⟨AK (by rw[hv.out]),rfl⟩
theorem Bx.st {w:World}{g:Nat}{cur:Array Value}(h:Bx w g cur) (i:Nat) (hi:i < cur.size) (u:Value):Bx (w.setCell ⟨g,i,none⟩ u) g (cur.setIfInBounds i u):=by
 refine⟨by rw[AS];exact h.1,fun j=> ?_,fun j=>by rw[World.frozen?_setCell];exact h.2.2 j⟩;by_cases hj:i=j
 ·subst hj;rw[Pr _ _ _ ((h.2.1 i).trans (IY hi))];simp[hi]
 ·rw[I1 _ _ _ _ (by intro he;injection he;exact hj (by assumption)),h.2.1 j,Array.getElem?_setIfInBounds_ne hj]
structure Ev (B g:Nat) (lv:Value) (w:World) (fuel code:Int) (out:List Int) (r:Option Nat):Prop where
 bx:∃ov,Bx w g #[lv,.int .i64 fuel,.int .i64 code,ov]∧w.ownsRow B 3 1 ov out.length (out.map (Value.int .i64))∧ov.ownBlock=r
 gB:B≤g∧B≤w.heap.size
 ne:r≠some g
theorem Ev.row {B g:Nat}{lv:Value}{w:World}{f c:Int}{o:List Int}{r:Option Nat}(h:Ev B g lv w f c o r):∀k,r=some k→B≤k∧k < w.heap.size:=fun k e=>by
 obtain⟨ov, -,h2,h3⟩:=h.bx;rw[←h3]at e;exact h2.lt k e
theorem Ev.lt {B g:Nat}{lv:Value}{w:World}{f c:Int}{o:List Int}{r:Option Nat}(h:Ev B g lv w f c o r):g < w.heap.size:=by
 obtain⟨ov,h1, -, -⟩:=h.bx;exact h1.1
theorem Ev.tw {B g:Nat}{lv:Value}{w w':World}{f c:Int}{o:List Int}{r r':Option Nat}(h:Ev B g lv w f c o r) (t:Tw g r r' w w'):Below B w w':=t.below h.gB.2 h.gB.1 (fun k e=>(h.row k e).1)
theorem Ev.refl {B g:Nat}{lv:Value}{w:World}{f c:Int}{o:List Int}{r:Option Nat}(h:Ev B g lv w f c o r):Tw g r r w w:=Tw.refl (fun k e=>(h.row k e).2)
theorem Ev.same {B g:Nat}{lv:Value}{w w':World}{f c:Int}{o:List Int}{r:Option Nat}(h:Ev B g lv w f c o r) (b:Below w.heap.size w w'):Ev B g lv w' f c o r∧Tw g r r w w':=by
 obtain⟨ov,h1,h2,h3⟩:=h.bx;exact⟨⟨⟨ov,h1.below b h1.1,CE h2 b (Cj h2),h3⟩,⟨h.gB.1,Ar h.gB.2 b.size⟩,h.ne⟩,Tw.of_below b (fun k e=>(h.row k e).2)⟩
theorem Tw.of_set {g:Nat}{r:Option Nat}{w:World}{i:Nat}{u:Value}(hr:∀k,r=some k→k < w.heap.size):Tw g r r w (w.setCell ⟨g,i,none⟩ u):=
 ⟨rfl,rfl,rfl,by rw[AS];exact Ad _,fun k _ hg _=>Below.heap_setCell _ _ _ _ hg,fun k e=>⟨.inl e,by rw[AS];exact hr k e⟩,id⟩
theorem Ev.setF {B g:Nat}{lv:Value}{w:World}{f c:Int}{o:List Int}{r:Option Nat}(h:Ev B g lv w f c o r) (f':Int):Ev B g lv (w.setCell ⟨g,1,none⟩ (.int .i64 f')) f' c o r∧Tw g r r w (w.setCell ⟨g,1,none⟩ (.int .i64 f')):=by
 obtain⟨ov,h1,h2,h3⟩:=h.bx;refine⟨⟨⟨ov,by simpa using h1.st 1 (by simp) (.int .i64 f'),h2.kept (grownBy.setCell w g 1 _) (.inr (by rw[h3];exact h.ne)),h3⟩,⟨h.gB.1,by rw[AS];exact h.gB.2⟩,h.ne⟩,Tw.of_set (fun k e=>(h.row k e).2)⟩
theorem Ev.setC {B g:Nat}{lv:Value}{w:World}{f c:Int}{o:List Int}{r:Option Nat}(h:Ev B g lv w f c o r) (c':Int):Ev B g lv (w.setCell ⟨g,2,none⟩ (.int .i64 c')) f c' o r∧Tw g r r w (w.setCell ⟨g,2,none⟩ (.int .i64 c')):=by
 obtain⟨ov,h1,h2,h3⟩:=h.bx;refine⟨⟨⟨ov,by simpa using h1.st 2 (by simp) (.int .i64 c'),h2.kept (grownBy.setCell w g 2 _) (.inr (by rw[h3];exact h.ne)),h3⟩,⟨h.gB.1,by rw[AS];exact h.gB.2⟩,h.ne⟩,Tw.of_set (fun k e=>(h.row k e).2)⟩
def ResI (B:Nat) (X:Nat→Prop) (g:Nat) (lv:Value) (res:Rs Vl) (tv:Value) (w:World) (r:Option Nat):Prop:=match res with
 | .ok v s=>RdX B X g r w tv (.th v)∧Ev B g lv w s.fuel 0 s.out r∧s.out.length+s.fuel≤4000∧Good (.th v)
 | .bad c o=>(c=1∨c=2)∧o.length≤4000∧ ∃f,Ev B g lv w f c o r
theorem FH {B g:Nat}{lv:Value}{w:World}{f:Int}{o:List Int}{r:Option Nat}(h:Ev B g lv w f 0 o r) (c:Int):
  Calls Pq 102 #[.pointer (some ⟨g,0,none⟩),.int .i64 c] w fun e w'=>(∃a,e= .returned (.pointer a))∧Ev B g lv w' f c o r∧Tw g r r w w':=by
 have S1:=Aa (fun(W:World) (cur:Array Value) (e:TypeId) (hx:(w.setCell ⟨g,2,none⟩ (.int .i64 c)).alloc (.cells cur e)=W)=>(by
  obtain⟨e1,t1⟩:=h.setC c;obtain⟨b2, -⟩:=Bx.alloc hx;obtain⟨e2,t2⟩:=e1.same b2;exact⟨e2,t1.trans t2⟩:Ev B g lv W f c o r∧Tw g r r w W))
 obtain⟨ov,h1, -, -⟩:=h.bx;have q1:=h1.2.1;have f1:=h1.2.2;clear h h1;go_enter Tryz.func102,Tryz.ntmps102;go_wp2_with fail;go_ret;exact⟨⟨_,rfl⟩,S1.out _ _ _ rfl⟩
def kdV:Vl→Int | .int _=>1 | .con _ _=>2 | .fn _ _ _ _=>3
def nmV:Vl→Int | .int n=>n |_=>0
def tgV:Vl→Str | .con s _=>s |_=>eS
def ksV:Vl→List Vl | .con _ vs=>vs |_=> []
theorem RdX.th_form {B g:Nat}{X:Nat→Prop}{r:Option Nat}{w:World}{tv:Value}{v:Vl}(h:RdX B X g r w tv (.th v)):∃b kv name x bv ev,tv= .pointer (some ⟨b,0,none⟩)∧Kp X g r w b∧(∀j,w.cell? ⟨b,j,none⟩= (thC (kdV v) (nmV v) (tgV v) kv name x bv ev)[j]?)∧
  ∃pv,PvAt X g r w kv (ksV v).length pv∧ ∀j (h:j < (ksV v).length),RdX B X g r w (pv j) (.th (ksV v)[j]):=by
 cases h with
 |int b n hk hc=>exact⟨b,_,_,_,_,_,rfl,hk,hc,fun _=>AB,.inl ⟨rfl,_,_,rfl⟩,fun j h=>absurd h (Ay j)⟩
 |con b s kv vs pv hk hc hp hv=>exact⟨b,kv,_,_,_,_,rfl,hk,hc,pv,hp,hv⟩
 |fn b arg body env bv ev hk hc _ _=>exact⟨b,_,_,_,_,_,rfl,hk,hc,fun _=>AB,.inl ⟨rfl,_,_,rfl⟩,fun j h=>absurd h (Ay j)⟩
 |rec_ b sb arg self body env bv ev _ hk hc _ _ _ _=>exact⟨b,_,_,_,_,_,rfl,hk,hc,fun _=>AB,.inl ⟨rfl,_,_,rfl⟩,fun j h=>absurd h (Ay j)⟩
def AsI (B g:Nat) (lv:Value) (v:Vl) (f:Int) (o:List Int) (r:Option Nat) (w:World) (e:Ending) (w':World):Prop:=e= .returned (.int .i64 (nmV v))∧Ev B g lv w' f (if kdV v=1 then 0 else 2) o r∧Tw g r r w w'
theorem DB {B g:Nat}{X:Nat→Prop}{lv:Value}{w:World}{f:Int}{o:List Int}{r:Option Nat}{tv:Value}{v:Vl}(h:Ev B g lv w f 0 o r) (ht:RdX B X g r w tv (.th v)):
  Calls Pq 108 #[.pointer (some ⟨g,0,none⟩),tv] w (AsI B g lv v f o r w):=by
 obtain⟨b,kv,name,x,bv,ev,rfl,hk,hc, -⟩:=ht.th_form;have H:=Aa h;have HF:=Aa (FH h 2);obtain⟨ov,h1, -, -⟩:=h.bx;have q1:=h1.2.1;clear h h1 ht;unfold thC at hc;generalize hnv:nmV v=nv at*;have NV:=Aa hnv;clear hnv;generalize tgV v=sv at*;by_cases k1:kdV v=1
 ·have K1:=Aa k1;rw[k1]at hc;clear k1;go_enter Tryz.func108,Tryz.ntmps108;go_wp2;go_ret;unfold AsI;rw[Ag K1.out,NV.out];exact⟨rfl,H.out,H.out.refl⟩
 ·have hkb:(kdV v !=1)=true:=by simpa using k1
  have K1:=Aa k1;have HC:=Aa (fun(W:World) (t:Tw g r r w W)=>(fun j=>(hk.cell t).trans (hc j):∀j,W.cell? ⟨b,j,none⟩=_));generalize hkd:kdV v=kd at*;have KD:=Aa hkd;clear k1 hkd;go_enter Tryz.func108,Tryz.ntmps108;go_wp2_with fail;refine HF.out.mono ?_;rintro e w2 ⟨⟨tv,rfl⟩,e2,t2⟩;have E2:=Aa e2;have T2:=Aa t2;have hc2:=HC.out w2 t2;clear q1 hc e2 t2;go_wp2;go_ret;unfold AsI;rw[KD.out,Ab K1.out,NV.out];exact⟨rfl,E2.out,T2.out⟩
theorem Gm {B g:Nat}{X:Nat→Prop}{lv:Value}{w:World}{f c:Int}{o:List Int}{r:Option Nat}(h:Ev B g lv w f c o r) (hX:∀b,X b→b < w.heap.size) (n:Int):
  Calls Pq 103 #[.int .i64 n] w fun e w'=>∃tv,e= .returned tv∧RdX B X g r w' tv (.th (.int n))∧Ev B g lv w' f c o r∧Tw g r r w w':=by
 have S1:=Aa (fun(W:World) (e:TypeId) (hx:w.alloc (.cells (thC 1 n eS AB eS Nd.zero AB noP) e)=W)=>(by
  obtain⟨b2,k2⟩:=Bx.alloc hx;obtain⟨e2,t2⟩:=h.same b2;refine⟨.int _ _ ⟨?_,fun e=> ?_,k2.1,fun e=> ?_⟩ k2.2.1,e2,t2⟩
  ·have:=h.lt;omega
  ·have:=(h.row _ e).2;omega
  ·have:=hX _ e;omega:RdX B X g r W (.pointer (some ⟨w.heap.size,0,none⟩)) (.th (.int n))∧Ev B g lv W f c o r∧Tw g r r w W))
 clear h;go_enter Tryz.func103,Tryz.ntmps103;go_wp2_with fail;go_ret;exact⟨_,rfl,S1.out _ _ rfl⟩
theorem Pg {B g:Nat}{X:Nat→Prop}{r:Option Nat}{w:World}:∀ (e1 e2:Env) (p:Value),RdX B X g r w p (.sc e1)→RdX B X g r w p (.sc e2)→e1.length=e2.length
 | [],e2,p,h1,h2=>by
  cases h1
  cases h2
  rfl
 |a::e1,e2,p,h1,h2=>by
  obtain⟨name,v⟩:=a;cases h1 with
  |cons sb _ tv up _ _ hs hd ht hu=>
   cases h2 with
   |cons _ name' tv' up' v' e'' hs' hd' ht' hu'=>
    have hup:up'=up:=by
     have a:=hd' 2;have b:=hd 2;rw[b]at a;simp only[scC]at a;injection a with a
     exact a.symm
    subst hup;simp only[List.length_cons];rw[Pg e1 e'' up' hu hu']
noncomputable def Gn (B:Nat) (X:Nat→Prop) (g:Nat) (r:Option Nat) (w:World) (p:Value):Nat:=@dite _ (∃e:Env,RdX B X g r w p (.sc e)) (Classical.propDecidable _) (fun h=>(Classical.choose h).length) (fun _=>0)
theorem Wh {B g:Nat}{X:Nat→Prop}{r:Option Nat}{w:World}{p:Value}{e:Env}(h:RdX B X g r w p (.sc e)):Gn B X g r w p=e.length:=by
 have hp:∃e:Env,RdX B X g r w p (.sc e):=⟨e,h⟩;have e1:Gn B X g r w p= (Classical.choose hp).length:=by unfold Gn;exact @dif_pos _ (Classical.propDecidable _) hp _ _ _
 rw[e1];exact Pg _ _ p (Classical.choose_spec hp) h
def LkR (B:Nat) (X:Nat→Prop) (g:Nat) (r:Option Nat) (w:World) (o:Option Vl) (e:Ending):Prop:=∃tv,e= .returned tv∧match o with |some v=>RdX B X g r w tv (.th v) |none=>tv= .pointer none
theorem Wi {B g:Nat}{X:Nat→Prop}{r:Option Nat}{w:World}{ev:Value}{env:Env}(s:Str) (h:RdX B X g r w ev (.sc env)):
  Calls Pq 104 #[ev,.string s] w fun e w'=>LkR B X g r w (look env s) e∧w'=w:=by
 have HL:=Aa (fun(p:Value) (e:Env) (h:RdX B X g r w p (.sc e))=>Wh h);have h:=Aa h;go_enter Tryz.func104,Tryz.ntmps104;go_wp2
 go_loop [0] (fun p=>∃e':Env,RdX B X g r w p (.sc e')∧Hid (look e' s=look env s)) (fun p=>Gn B X g r w p)
 case atStart=>exact⟨env,h.out,Aa rfl⟩
 case round=>
  obtain⟨e',hp,he⟩:=hrel;cases e' with
  |nil=>
   cases hp
   have hn:=Aa (he.out.symm.trans (rfl:look [] s=none));go_wp2;go_ret;refine⟨?_,rfl⟩;rw[hn.out];exact⟨_,rfl,rfl⟩
  |cons a e''=>
   obtain⟨name,v⟩:=a;have HP:=Aa hp;cases hp with
   |cons sb _ tv up _ _ hs hd ht hu=>
    have HT:=Aa ht;have HU:=Aa hu;have HLT:=Aa (show Gn B X g r w up < Gn B X g r w (.pointer (some ⟨sb,0,none⟩))by rw[HL.out _ _ HP.out,HL.out _ _ hu];simp);unfold scC at hd;clear hs ht hu;by_cases hn:name=s
    ·have hq:=Gh hn;have hy:=Aa (he.out.symm.trans (show look ((name,v)::e'') s=some v by unfold look;rw[Ag hn]));clear hn;go_wp2;go_ret;refine⟨?_,rfl⟩;rw[hy.out];exact⟨_,rfl,HT.out⟩
    ·have hq:=E7 hn;have hy:=Aa ((show look e'' s=look ((name,v)::e'') s by rw[look,Ab hn]).trans he.out);clear hn;go_wp2
     go_round
     case rel=>exact⟨e'',HU.out,hy⟩
     case measure=>exact HLT.out
def sv0:Array Value:= #[.int .i64 0,.int .i64 0,.string ⟨#[]⟩,.slice none 0 0,.int .i64 0,.int .i64 0,.string ⟨#[]⟩,.string ⟨#[]⟩,.slice none 0 0,.string ⟨#[]⟩,.string ⟨#[]⟩,.slice none 0 0]
def StR (B g:Nat) (lv:Value) (f c:Int) (o:List Int) (r:Option Nat) (w:World) (e:Ending) (w':World):Prop:=e= .returned (.agg sv0)∧Ev B g lv w' f (if c=0 then 2 else c) o r∧Tw g r r w w'
theorem Gp {B g:Nat}{lv:Value}{w:World}{f c:Int}{o:List Int}{r:Option Nat}(h:Ev B g lv w f c o r):Calls Pq 122 #[.pointer (some ⟨g,0,none⟩)] w (StR B g lv f c o r w):=by
 have HH:=Aa h;have S1:=Aa (fun(W:World) (cur:Array Value) (e:TypeId) (hx:(w.setCell ⟨g,2,none⟩ (.int .i64 2)).alloc (.cells cur e)=W)=>(by
  obtain⟨e1,t1⟩:=h.setC 2;obtain⟨b2,k2⟩:=Bx.alloc hx;obtain⟨e2,t2⟩:=e1.same b2;rw[AS]at k2;exact⟨e2,t1.trans t2,k2⟩:Ev B g lv W f 2 o r∧Tw g r r w W∧Bx W w.heap.size cur))
 have S0:=Aa (fun(W:World) (cur:Array Value) (e:TypeId) (hx:w.alloc (.cells cur e)=W)=>(by
  obtain⟨b2,k2⟩:=Bx.alloc hx;obtain⟨e2,t2⟩:=h.same b2;exact⟨e2,t2,k2⟩:Ev B g lv W f c o r∧Tw g r r w W∧Bx W w.heap.size cur))
 have hlt:=h.lt;have hne:w.heap.size≠g:=by omega
 obtain⟨ov,h1, -, -⟩:=h.bx;have q1:∀o j,(w.alloc o).cell? ⟨g,j,none⟩= #[lv,.int .i64 f,.int .i64 c,ov][j]?:=fun o j=>(Dk (p:=⟨g,j,none⟩) hlt).trans (h1.2.1 j);have f1:∀o j,(w.alloc o).frozen? ⟨g,j,none⟩=false:=fun o j=>(Pu (p:=⟨g,j,none⟩) hlt).trans (h1.2.2 j);clear h h1;by_cases hc:c=0
 ·subst hc;go_enter Tryz.func122,Tryz.ntmps122;go_wp2;generalize hz:Wa _ _=z;obtain⟨e1,t1,k1⟩:=S1.out _ _ _ hz;have c1:=k1.2.1;refine AA (v:= .agg sv0) ?_ rfl ⟨rfl,?_,t1⟩
  ·simp[results,Tryz.results122,go_sem,c1,sv0]
  ·rw[Ag rfl];exact e1
 ·have hcb:(c==0)=false:=by simpa using hc
  have HC:=Aa hc;clear hc;go_enter Tryz.func122,Tryz.ntmps122;go_wp2;generalize hz:Wa _ _=z;obtain⟨e1,t1,k1⟩:=S0.out _ _ _ hz;have c1:=k1.2.1;refine AA (v:= .agg sv0) ?_ rfl ⟨rfl,?_,t1⟩
  ·simp[results,Tryz.results122,go_sem,c1,sv0]
  ·rw[Ab HC.out];exact e1
theorem RdS.env_at {B g:Nat}{X:Nat→Prop}{r:Option Nat}{w:World}{ev:Value}{env:Env}(h:RdS B X g r w #[ev] (.sc env)):∃a cap,ev= .slice a env.length cap∧ ∀k (hk:k < env.reverse.length),∃b off,a=some ⟨b,off,none⟩ ∧Kp X g r w b∧env.length≤maxLen∧env.length≤cap∧
  w.cell? ⟨b,off+k*13,none⟩=some (.string env.reverse[k].1)∧ ∃c,RdS B X g r w c (.th env.reverse[k].2)∧ ∀i,i < 12→w.cell? ⟨b,off+k*13+ (i+1),none⟩=c[i]?:=by
 obtain⟨c,hc⟩:∃c:Array Value,#[ev]=c:=⟨_,rfl⟩;rw[hc]at h;obtain⟨x,hx⟩:∃x,Xl.sc env=x:=⟨_,rfl⟩;rw[hx]at h;cases h with
 |int=>cases hx
 |con=>cases hx
 |fn=>cases hx
 |sc env2 ev2 cs hk hv=>
  cases hx
  cases hc
  rcases hk with ⟨h0,a,cap,rfl⟩ |⟨b,off,cap,rfl,h2,h3,h4⟩
  ·exact⟨a,cap,by rw[h0],fun k hk=>by rw[KJ]at hk;omega⟩
  ·refine⟨_,cap,rfl,fun k hk=>⟨b,off,rfl,h2,h3.1,h3.2,?_,cs k,hv k hk,fun i hi=> ?_⟩⟩
   ·have:=(h4 k (by simpa using hk)).2 0 (by omega);dsimp only at this;rw[Nat.add_zero,Bl hk]at this;rw[this];unfold svN;rw[Ps (by show 0 < 1;omega)];rfl
   ·have:=(h4 k (by simpa using hk)).2 (i+1) (by omega);dsimp only at this;unfold svN at this;rw[Array.getElem?_append_right (by show 1≤i+1;omega)]at this;exact this
theorem RdS.th_form {B g:Nat}{X:Nat→Prop}{r:Option Nat}{w:World}{c:Array Value}{v:Vl}(h:RdS B X g r w c (.th v)):∃a1 c1 x a2 l2 c2 arg self a3 l3 c3,c=svC (kdV v) (nmV v) (tgV v) (.slice a1 (ksV v).length c1) x (.slice a2 l2 c2) arg self (.slice a3 l3 c3):=by
 obtain⟨y,hy⟩:∃y,Xl.th v=y:=⟨_,rfl⟩;rw[hy]at h;cases h with
 |int n=>cases hy;exact⟨_,_,_,_,_,_,_,_,_,_,_,rfl⟩
 |con s kv vs cs hk hv=>
  cases hy
  obtain⟨a,cap,rfl⟩:=hk.form;exact⟨_,_,_,_,_,_,_,_,_,_,_,rfl⟩
 |fn arg self body env bv ev hx he=>
  cases hy
  obtain⟨a,cap,rfl⟩:=hx.form;obtain⟨a3,c3,rfl,_⟩:=he.env_at;exact⟨_,_,_,_,_,_,_,_,_,_,_,rfl⟩
 |sc=>cases hy
theorem Bx.set12 {w:World}{g:Nat}{z0 z1 z2 z3 z4 z5 z6 z7 z8 z9 z10 z11:Value}(k:Bx w g #[z0,z1,z2,z3,z4,z5,z6,z7,z8,z9,z10,z11]) (a0 a1 a2 a3 a4 a5 a6 a7 a8 a9 a10 a11:Value):
  Bx ((((((((((((w.setCell ⟨g,0,none⟩ a0).setCell ⟨g,1,none⟩ a1).setCell ⟨g,2,none⟩ a2).setCell ⟨g,3,none⟩ a3).setCell ⟨g,4,none⟩ a4).setCell ⟨g,5,none⟩ a5).setCell ⟨g,6,none⟩ a6).setCell ⟨g,7,none⟩ a7).setCell ⟨g,8,none⟩ a8).setCell ⟨g,9,none⟩ a9).setCell ⟨g,10,none⟩ a10).setCell ⟨g,11,none⟩ a11) g #[a0,a1,a2,a3,a4,a5,a6,a7,a8,a9,a10,a11]∧w.grownBy ((((((((((((w.setCell ⟨g,0,none⟩ a0).setCell ⟨g,1,none⟩ a1).setCell ⟨g,2,none⟩ a2).setCell ⟨g,3,none⟩ a3).setCell ⟨g,4,none⟩ a4).setCell ⟨g,5,none⟩ a5).setCell ⟨g,6,none⟩ a6).setCell ⟨g,7,none⟩ a7).setCell ⟨g,8,none⟩ a8).setCell ⟨g,9,none⟩ a9).setCell ⟨g,10,none⟩ a10).setCell ⟨g,11,none⟩ a11) (some g):=by
 have:=((((((((((((k.st 0 (by simp) a0).st 1 (by simp) a1).st 2 (by simp) a2).st 3 (by simp) a3).st 4 (by simp) a4).st 5 (by simp) a5).st 6 (by simp) a6).st 7 (by simp) a7).st 8 (by simp) a8).st 9 (by simp) a9).st 10 (by simp) a10).st 11 (by simp) a11);exact⟨by simpa using this,(((((((((((grownBy.setCell w g 0 a0).trans' (grownBy.setCell _ g 1 a1)).trans' (grownBy.setCell _ g 2 a2)).trans' (grownBy.setCell _ g 3 a3)).trans' (grownBy.setCell _ g 4 a4)).trans' (grownBy.setCell _ g 5 a5)).trans' (grownBy.setCell _ g 6 a6)).trans' (grownBy.setCell _ g 7 a7)).trans' (grownBy.setCell _ g 8 a8)).trans' (grownBy.setCell _ g 9 a9)).trans' (grownBy.setCell _ g 10 a10)).trans' (grownBy.setCell _ g 11 a11)⟩
def LkS (B:Nat) (X:Nat→Prop) (g:Nat) (lv:Value) (f:Int) (o:List Int) (r:Option Nat) (w:World) (u:Option Vl) (e:Ending) (w':World):Prop:=Tw g r r w w'∧match u with
 |some v=>∃c,e= .returned (.agg c)∧RdS B X g r w' c (.th v)∧Ev B g lv w' f 0 o r
 |none=>e= .returned (.agg sv0)∧Ev B g lv w' f 2 o r
theorem Tt {env:Env}{s:Str}{k:Nat}(hk:k < env.reverse.length):look (env.drop (env.length - (k+1))) s=if env.reverse[k].1=s then some env.reverse[k].2 else look (env.drop (env.length - k)) s:=by
 rw[KJ]at hk;have h:env.length - (k+1) < env.length:=by omega
 rw[List.drop_eq_getElem_cons h,show env.length - (k+1)+1=env.length - k by omega];have e:env.reverse[k]'(by simpa using hk)=env[env.length - (k+1)]:=by rw[List.getElem_reverse];congr 1;omega
 rw[e];obtain⟨a,b⟩:=env[env.length - (k+1)];rfl
theorem TG (op n:Int) (s t:Str) (ks:List Nd) (v:Vl) (env:Env):Br (.mk op n s t ks) v env=if op=17 then some env else if op=18 then some ((s,v)::env)else if op=19 then(if kdV v=1∧nmV v=n then some env else none)else if kdV v=2∧tgV v=s∧(ksV v).length=ks.length then Bc ks (ksV v) env else none:=by
 unfold Br;by_cases h17:op=17
 ·rw[Ag h17,Ag h17]
 rw[Ab h17,Ab h17];by_cases h18:op=18
 ·rw[Ag h18,Ag h18]
 rw[Ab h18,Ab h18];by_cases h19:op=19
 ·rw[Ag h19,Ag h19];cases v <;> simp[kdV,nmV]
 rw[Ab h19,Ab h19];cases v <;> simp[kdV,tgV,ksV]
theorem NX (x:Nd) (v:Vl) (env:Env):Br x v env=if x.op=17 then some env else if x.op=18 then some ((x.s,v)::env)else if x.op=19 then(if kdV v=1∧nmV v=x.n then some env else none)else if kdV v=2∧tgV v=x.s∧(ksV v).length=x.kids.length then Bc x.kids (ksV v) env else none:=by
 cases x
 exact TG _ _ _ _ _ _ _
def TH (o:Option Env) (ks:List Nd) (vs:List Vl):Option Env:=match o with |some e=>Bc ks vs e |none=>none
theorem NY {ks:List Nd}{vs:List Vl}{k:Nat}(h1:k < ks.length) (h2:k < vs.length) (env:Env):Bc (ks.drop k) (vs.drop k) env=TH (Br ks[k] vs[k] env) (ks.drop (k+1)) (vs.drop (k+1)):=by
 rw[List.drop_eq_getElem_cons h1,List.drop_eq_getElem_cons h2,Bc];rfl
theorem Bx.allocD {w x:World}{cur:Array Value}{e:TypeId}{n:Nat}(h:(w.alloc (.cells cur e)).drewN n=x):Below w.heap.size w x∧Bx x w.heap.size cur:=by
 subst h;obtain⟨b1,k1⟩:=Bx.alloc (w:=w) (cur:=cur) (e:=e) rfl;have b2:Below (w.alloc (.cells cur e)).heap.size (w.alloc (.cells cur e)) ((w.alloc (.cells cur e)).drewN n):=Still.below ⟨n,rfl⟩ _;exact⟨b1.trans (b2.mono b1.size),k1.below b2 k1.1⟩
theorem PvAt.at_ {X:Nat→Prop}{g:Nat}{r:Option Nat}{w:World}{kv:Value}{n:Nat}{pv:Nat→Value}(h:PvAt X g r w kv n pv) {j:Nat}(hj:j < n):∃b off cap,kv= .slice (some ⟨b,off,none⟩) n cap∧Kp X g r w b∧n≤cap∧w.cell? ⟨b,off+j,none⟩=some (pv j):=by
 rcases h with ⟨h0,_⟩ |⟨b,off,cap,h1,h2,h3,h4⟩
 ·omega
 ·exact⟨b,off,cap,h1,h2,h3.2,h4 j hj⟩
theorem PvAt.form {X:Nat→Prop}{g:Nat}{r:Option Nat}{w:World}{kv:Value}{n:Nat}{pv:Nat→Value}(h:PvAt X g r w kv n pv):∃a cap,kv= .slice a n cap:=by
 rcases h with ⟨rfl,a,cap,rfl⟩ |⟨b,off,cap,rfl,_⟩
 ·exact⟨_,_,rfl⟩
 ·exact⟨_,_,rfl⟩
theorem PvAt.len {X:Nat→Prop}{g:Nat}{r:Option Nat}{w:World}{kv:Value}{n:Nat}{pv:Nat→Value}(h:PvAt X g r w kv n pv):n≤maxLen:=by
 rcases h with ⟨rfl,a,cap,rfl⟩ |⟨b,off,cap,_,_,h,_⟩
 ·simp
 ·exact h.1
theorem RdX.sc_form {B g:Nat}{X:Nat→Prop}{r:Option Nat}{w:World}{ev:Value}{e:Env}(h:RdX B X g r w ev (.sc e)):∃a,ev= .pointer a:=by
 cases h with
 |nil=>exact⟨_,rfl⟩
 |cons=>exact⟨_,rfl⟩
theorem RdX.th_ptr {B g:Nat}{X:Nat→Prop}{r:Option Nat}{w:World}{tv:Value}{v:Vl}(h:RdX B X g r w tv (.th v)):∃b,tv= .pointer (some ⟨b,0,none⟩):=by
 obtain⟨b,_,_,_,_,_,rfl,_⟩:=h.th_form;exact⟨b,rfl⟩
def MtR (B:Nat) (X:Nat→Prop) (g:Nat) (r:Option Nat) (w:World) (o:Option Env) (e:Ending) (w':World):Prop:=Below w.heap.size w w'∧ ∃ev,match o with |some env=>e= .returned (.tuple #[ev,.bool true])∧RdX B X g r w' ev (.sc env) |none=>e= .returned (.tuple #[ev,.bool false])
theorem RdX.lat {B g:Nat}{X:Nat→Prop}{r:Option Nat}{w w':World}{v:Value}{x:Xl}(h:RdX B X g r w v x) (b:Below w.heap.size w w') (hB:B≤w.heap.size) (hr:∀k,r=some k→k < w.heap.size):RdX B X g r w' v x:=h.later (Tw.of_below b hr) (b.mono hB)
theorem PvAt.below {X:Nat→Prop}{g:Nat}{r:Option Nat}{w w':World}{kv:Value}{n:Nat}{pv:Nat→Value}(h:PvAt X g r w kv n pv) (b:Below w.heap.size w w') (hr:∀k,r=some k→k < w.heap.size):PvAt X g r w' kv n pv:=h.later (Tw.of_below b hr)
theorem NZ (B:Nat) (X:Nat→Prop) (g:Nat) (r:Option Nat):∀ (N:Nat) (x:Nd) (kv tv ev:Value) (v:Vl) (env:Env) (w:World),wgN x < N→wgN x≤1048576→BG x=true→B≤w.heap.size→g < w.heap.size→(∀k,r=some k→k < w.heap.size)→(∀b,X b→b < w.heap.size)→RdNs B w kv x.kids→RdX B X g r w tv (.th v)→RdX B X g r w ev (.sc env)→
  Calls Pq 167 #[ndV x kv,tv,ev] w (MtR B X g r w (Br x v env))
 |0,x,kv,tv,ev,v,env,w,hN,hl,hp,hB,hg,hr,hX,hk,ht,he=>by omega
 |N+1,x,kv,tv,ev,v,env,w,hN,hl,hp,hB,hg,hr,hX,hk,ht,he=>by
  have hwg:=Aw x;have hlen:=AU x.kids;have hks:x.kids.length≤1048576:=by omega
  have hops:x.op=17∨x.op=18∨x.op=19∨x.op=20:=by
   rw[Gl,AH]at hp;have:=hp.2;unfold Bj at this;by_cases h17:x.op=17
   ·omega
   by_cases h18:x.op=18
   ·omega
   by_cases h19:x.op=19
   ·omega
   by_cases h20:x.op=20
   ·omega
   simp[h17,h18,h19,h20]at this
  have hpk:∀j (hj:j < x.kids.length),BG x.kids[j]=true:=fun j hj=>by
   rw[Gl,AH,Gk,Be]at hp;exact hp.1 _ (As hj)
  have IH:=Aa (fun(j:Nat) (hj:j < x.kids.length) (kv tv ev:Value) (v:Vl) (env:Env) (W:World) (hb:Below w.heap.size w W) (h1:RdNs B W kv x.kids[j].kids) (h2:RdX B X g r W tv (.th v)) (h3:RdX B X g r W ev (.sc env))=>(by
   have:=AT (As hj);exact NZ B X g r N x.kids[j] kv tv ev v env W (by omega) (by omega) (hpk j hj) (Ar hB hb.size) (Aj hg hb.size) (fun k e=>Aj (hr k e) hb.size) (fun b e=>Aj (hX b e) hb.size) h1 h2 h3:Calls Pq 167 #[ndV x.kids[j] kv,tv,ev] W (MtR B X g r W (Br x.kids[j] v env))))
  have KL:=Aa (fun(W:World) (hb:Below w.heap.size w W)=>hk.later (hb.mono hB) (Ad _));have TL:=Aa (fun(W:World) (hb:Below w.heap.size w W)=>ht.lat hb hB hr);have EL:=Aa (fun(W:World) (hb:Below w.heap.size w W)=>he.lat hb hB hr);have HE:=Aa (NX x v env);obtain⟨ka,kc,rfl⟩:=hk.form;obtain⟨tb,tkv,tnm,tx,tbv,tev,rfl,tk,tc,pv,hpv,hvs⟩:=ht.th_form;obtain⟨ta,tcp,rfl⟩:=hpv.form;have hvl:=hpv.len;obtain⟨ea,rfl⟩:=he.sc_form;unfold maxLen at hvl;unfold ndV;clear hN hl hp hk ht he hwg hlen hpk;generalize x.op=xop at*;generalize x.n=xn at*;generalize x.s=xs at*;generalize x.t=xt at*;generalize Br x v env=fx at*;generalize x.kids=ks at*;unfold thC at tc;have tc2:∀ (cur:Array Value) (e:TypeId),∀j,(w.alloc (.cells cur e)).cell? ⟨tb,j,none⟩= (thC (kdV v) (nmV v) (tgV v) (.slice ta (ksV v).length tcp) tnm tx tbv tev)[j]?:=fun cur e j=>(((Ac w.heap.size w).alloc (Ad _) (.cells cur e)).cell (p:=⟨tb,j,none⟩) tk.2.2.1).trans (tc j);rcases hops with o |o |o |o
  ·subst o;go_enter Tryz.func167,Tryz.ntmps167;go_wp2;go_ret2;have bb:Below w.heap.size w (w.alloc (.cells #[.int .i64 17,.int .i64 xn,.string xs,.string xt,.slice ka ks.length kc] 41)):=(Ac _ _).alloc (Ad _) _;refine⟨bb,.pointer ea,?_⟩;rw[show fx=some env by rw[HE.out];simp];exact⟨rfl,EL.out _ bb⟩
  ·subst o;go_enter Tryz.func167,Tryz.ntmps167;go_wp2;go_ret2;have b1:Below w.heap.size w (w.alloc (.cells #[.int .i64 18,.int .i64 xn,.string xs,.string xt,.slice ka ks.length kc] 41)):=(Ac _ _).alloc (Ad _) _;generalize hy0:w.alloc _=y0 at*;generalize hy1:y0.alloc _=y1 at*;have s0:y0.heap.size=w.heap.size+1:=by rw[←hy0,BM]
   obtain⟨b2,k2⟩:=Bx.alloc hy1;rw[s0]at k2;have bb:=b1.trans (b2.mono b1.size);refine⟨bb,.pointer (some ⟨w.heap.size+1,0,none⟩),?_⟩;rw[show fx=some ((xs,v)::env)by rw[HE.out];simp];refine⟨rfl,.cons (w.heap.size+1) xs (.pointer (some ⟨tb,0,none⟩)) (.pointer ea) v env ⟨?_,fun e=> ?_,k2.1,fun e=> ?_⟩ k2.2.1 (TL.out _ bb) (EL.out _ bb)⟩
   ·omega
   ·have:=hr _ e;omega
   ·have:=hX _ e;omega
  ·subst o;by_cases h1:kdV v=1
   ·by_cases h2:nmV v=xn
    ·have HF:=Aa (show fx=some env by rw[HE.out];simp[h1,h2]);rw[h1,h2]at tc2;have tc3:=tc2 #[.int .i64 19,.int .i64 xn,.string xs,.string xt,.slice ka ks.length kc] 41;unfold thC at tc3;clear tc2 tc h1 h2;go_enter Tryz.func167,Tryz.ntmps167;go_wp2_with fail;go_quiet (fail);go_wp2;go_ret2;have bb:Below w.heap.size w ((w.alloc (.cells #[.int .i64 19,.int .i64 xn,.string xs,.string xt,.slice ka ks.length kc] 41)).drewN nq):=(Bx.allocD (w:=w) rfl).1;refine⟨bb,.pointer ea,?_⟩;rw[HF.out];exact⟨rfl,EL.out _ bb⟩
    ·have HF:=Aa (show fx=none by rw[HE.out];simp[h2]);rw[h1]at tc2;have tc3:=tc2 #[.int .i64 19,.int .i64 xn,.string xs,.string xt,.slice ka ks.length kc] 41;unfold thC at tc3;have h2b:(nmV v==xn)=false:=by simpa using h2
     clear tc2 tc h1;generalize nmV v=nv at*;go_enter Tryz.func167,Tryz.ntmps167;go_wp2_with fail;go_quiet (fail);go_wp2;go_ret2;have bb:Below w.heap.size w ((w.alloc (.cells #[.int .i64 19,.int .i64 xn,.string xs,.string xt,.slice ka ks.length kc] 41)).drewN nq):=(Bx.allocD (w:=w) rfl).1;refine⟨bb,.pointer ea,?_⟩;rw[HF.out];rfl
   ·have HF:=Aa (show fx=none by rw[HE.out];simp[h1]);have tc3:=tc2 #[.int .i64 19,.int .i64 xn,.string xs,.string xt,.slice ka ks.length kc] 41;unfold thC at tc3;have h1b:(kdV v==1)=false:=by simpa using h1
    clear tc2 tc;generalize kdV v=kd at*;go_enter Tryz.func167,Tryz.ntmps167;go_wp2_with fail;go_quiet (fail);go_wp2;go_ret2;have bb:Below w.heap.size w ((w.alloc (.cells #[.int .i64 19,.int .i64 xn,.string xs,.string xt,.slice ka ks.length kc] 41)).drewN nq):=(Bx.allocD (w:=w) rfl).1;refine⟨bb,.pointer ea,?_⟩;rw[HF.out];rfl
  ·subst o;have HE2:=Aa (show fx=if kdV v=2∧tgV v=xs∧(ksV v).length=ks.length then Bc ks (ksV v) env else none by rw[HE.out];simp);by_cases h1:kdV v=2
   ·by_cases h2:tgV v=xs
    ·by_cases h3:(ksV v).length=ks.length
     ·have HF:=Aa (show fx=Bc ks (ksV v) env by rw[HE2.out,Ag ⟨h1,h2,h3⟩]);rw[h1,h2]at tc2;have tc3:=tc2 #[.int .i64 20,.int .i64 xn,.string xs,.string xt,.slice ka ks.length kc] 41;unfold thC at tc3;have h3b:(((ksV v).length:Int) !=(ks.length:Int))=false:=by simp[h3]
      have H3:=Aa h3;have T3:=Aa (show w.cell? ⟨tb,3,none⟩=some (.slice ta (ksV v).length tcp)from tc 3);clear tc2 tc h1 h2 h3;go_enter Tryz.func167,Tryz.ntmps167;go_wp2_with fail;go_quiet (fail);generalize hxx:World.drewN _ _=x0;obtain⟨bb,k1⟩:=Bx.allocD hxx;have q1:=k1.2.1;clear hxx tc3;go_wp2_with fail;clear q1;have e0:=EL.out _ bb
      go_loopw [2,71] (fun p i wr=>∃ (k:Nat) (a:Option Addr) (e':Env),k≤ks.length∧i= .int .i64 k∧p= .pointer a∧Below w.heap.size w wr∧Bx wr w.heap.size #[.int .i64 20,.int .i64 xn,.string xs,.string xt,.slice ka ks.length kc]∧RdX B X g r wr (.pointer a) (.sc e')∧Hid (Bc (ks.drop k) ((ksV v).drop k) e'=fx)) (fun _ i _=>ks.length - (intOf i).toNat)
      case atStart=>exact⟨0,ea,env,Av _,rfl,rfl,bb,k1,e0,Aa HF.out.symm⟩
      case round=>
       clear bb k1 e0;obtain⟨k,a,e',hk,rfl,rfl,bb,k1,he,hf⟩:=hrel;by_cases hlt:k < ks.length
       ·obtain⟨b,off,cap,kv,hv,hB',hbs,hcap,⟨c0,c1,c2,c3,c4⟩,hkr⟩:=(KL.out wr bb).at_ hlt;cases hv
        have hkv:k < (ksV v).length:=by rw[H3.out];exact hlt
        have hki:(k:Int) < (ks.length:Int):=by omega
        have hk0:(0:Int)≤ (k:Int):=by omega
        have hkvi:(k:Int) < ((ksV v).length:Int):=by omega
        obtain⟨kva,kvc,rfl⟩:=hkr.form;have HK:=Aa hkr;have HS:=Aa (NY hlt hkv e');obtain⟨pb,po,pcap,hpe,hpk,hpc,hpcell⟩:=hpv.at_ hkv;cases hpe
        have IHk:=Aa (IH.out k hlt);have HV:=Aa (fun(W:World) (hb:Below w.heap.size w W)=>(hvs k hkv).lat hb hB hr);obtain⟨pvb,hpvb⟩:=(hvs k hkv).th_ptr;rw[hpvb]at hpcell HV;clear hkr;generalize ks[k]=y at*;generalize (ksV v)[k]=u at*;go_wp2_with fail;generalize hyy:Wa _ _=wy;obtain⟨by_,k2⟩:=Bx.alloc hyy;clear hyy c0 c1 c2 c3 c4;have BY:=Aa (bb.trans (by_.mono bb.size));have HE3:=Aa (fun(W:World) (hb:Below wr.heap.size wr W)=>he.lat hb (Ar hB bb.size) (fun k e=>Aj (hr k e) bb.size));clear he;cases hfo:Br y u e' with
        |some ef=>
         have hS:∀W,Below wy.heap.size wy W→W.cell? ⟨wr.heap.size,0,none⟩=some (.int .i64 y.op)∧W.cell? ⟨wr.heap.size,1,none⟩=some (.int .i64 y.n)∧W.cell? ⟨wr.heap.size,2,none⟩=some (.string y.s)∧W.cell? ⟨wr.heap.size,3,none⟩=some (.string y.t)∧W.cell? ⟨wr.heap.size,4,none⟩=some (.slice kva y.kids.length kvc)∧W.cell? ⟨tb,3,none⟩=some (.slice (some ⟨pb,po,none⟩) (ksV v).length tcp)∧W.cell? ⟨pb,po+k,none⟩=some (.pointer (some ⟨pvb,0,none⟩)):=fun W hb=>
          ⟨(k2.below hb k2.1).2.1 0,(k2.below hb k2.1).2.1 1,(k2.below hb k2.1).2.1 2,(k2.below hb k2.1).2.1 3,(k2.below hb k2.1).2.1 4,((BY.out.trans (hb.mono BY.out.size)).cell (p:=⟨tb,3,none⟩) tk.2.2.1).trans T3.out,((BY.out.trans (hb.mono BY.out.size)).cell (p:=⟨pb,po+k,none⟩) hpk.2.2.1).trans hpcell⟩
         have HS0:=Aa hS;clear hS k2;refine wp_region_held_drew (S:=(fun W=>W.cell? ⟨wr.heap.size,0,none⟩=some (.int .i64 y.op)∧W.cell? ⟨wr.heap.size,1,none⟩=some (.int .i64 y.n)∧W.cell? ⟨wr.heap.size,2,none⟩=some (.string y.s)∧W.cell? ⟨wr.heap.size,3,none⟩=some (.string y.t)∧W.cell? ⟨wr.heap.size,4,none⟩=some (.slice kva y.kids.length kvc)∧W.cell? ⟨tb,3,none⟩=some (.slice (some ⟨pb,po,none⟩) (ksV v).length tcp)∧W.cell? ⟨pb,po+k,none⟩=some (.pointer (some ⟨pvb,0,none⟩)))) (by kernel_rfl) (by first | (dsimp only;exact HS0.out _ (Below.refl _ _).drew) | (exact HS0.out _ (Below.refl _ _).drew)) (fun hHeld=> ?_);generalize hxd:World.drew _=x1 at hHeld ⊢;have hd1:Below wy.heap.size wy x1:=by rw[←hxd];exact(Ac _ _).drew
         clear hxd;have bw1:=BY.out.trans (hd1.mono BY.out.size);have hz0:=bb.size;have bw2:=by_.trans (hd1.mono by_.size);refine tkH (i:=0) ?_;refine tkH (i:=1) ?_;refine tkH (i:=2) ?_;refine tkH (i:=3) ?_;refine tkH (i:=4) ?_;refine tkH (i:=5) ?_;refine tkH (i:=6) ?_;refine tkH (i:=7) ?_;refine tkH (i:=8) ?_;refine rdH (i:=9) (fun K hK=> ?_);go_simp;refine(IHk.out _ _ _ _ _ x1 bw1 (HK.out.later bw2 (Ar hB bb.size)) (HV.out x1 bw1) (HE3.out x1 bw2)).mono ?_;rintro e w6 ⟨b6,ev6,h6⟩;rw[hfo]at h6;obtain⟨rfl,h7⟩:=h6;have H7:=Aa h7;clear h7;obtain⟨a6,rfl⟩:=H7.out.sc_form;replace b6:=hd1.trans (b6.mono hd1.size);refine bkH hK (by first | (dsimp only;exact HS0.out _ b6) | (exact HS0.out _ b6)) (fun hHeld=> ?_);clear hK K;refine tkH (i:=10) ?_;refine tkH (i:=11) ?_;refine tkH (i:=12) ?_;refine tkH (i:=13) ?_;refine tkH (i:=14) ?_;refine Bs (by kernel_rfl) ?_ _;have bt:=BY.out.trans (b6.mono BY.out.size);replace k1:=(k1.below by_ k1.1).below b6 (Aj k1.1 by_.size);clear b6 hd1 bw1 bw2 by_ hpcell hpk bb;have hf2:=Aa (HS.out.symm.trans hf.out);rw[hfo]at hf2;have hf3:=Aa (show Bc (ks.drop (k+1)) ((ksV v).drop (k+1)) ef=fx from hf2.out);clear hf2;go_wp2;go_roundw
         case rel=>exact⟨k+1,a6,ef,hlt,by go_num,rfl,bt,k1,H7.out,hf3⟩
         case measure=>simp[intOf];omega
        |none=>
         have hS:∀W,Below wy.heap.size wy W→W.cell? ⟨wr.heap.size,0,none⟩=some (.int .i64 y.op)∧W.cell? ⟨wr.heap.size,1,none⟩=some (.int .i64 y.n)∧W.cell? ⟨wr.heap.size,2,none⟩=some (.string y.s)∧W.cell? ⟨wr.heap.size,3,none⟩=some (.string y.t)∧W.cell? ⟨wr.heap.size,4,none⟩=some (.slice kva y.kids.length kvc)∧W.cell? ⟨tb,3,none⟩=some (.slice (some ⟨pb,po,none⟩) (ksV v).length tcp)∧W.cell? ⟨pb,po+k,none⟩=some (.pointer (some ⟨pvb,0,none⟩)):=fun W hb=>
          ⟨(k2.below hb k2.1).2.1 0,(k2.below hb k2.1).2.1 1,(k2.below hb k2.1).2.1 2,(k2.below hb k2.1).2.1 3,(k2.below hb k2.1).2.1 4,((BY.out.trans (hb.mono BY.out.size)).cell (p:=⟨tb,3,none⟩) tk.2.2.1).trans T3.out,((BY.out.trans (hb.mono BY.out.size)).cell (p:=⟨pb,po+k,none⟩) hpk.2.2.1).trans hpcell⟩
         have HS0:=Aa hS;clear hS k2;refine wp_region_held_drew (S:=(fun W=>W.cell? ⟨wr.heap.size,0,none⟩=some (.int .i64 y.op)∧W.cell? ⟨wr.heap.size,1,none⟩=some (.int .i64 y.n)∧W.cell? ⟨wr.heap.size,2,none⟩=some (.string y.s)∧W.cell? ⟨wr.heap.size,3,none⟩=some (.string y.t)∧W.cell? ⟨wr.heap.size,4,none⟩=some (.slice kva y.kids.length kvc)∧W.cell? ⟨tb,3,none⟩=some (.slice (some ⟨pb,po,none⟩) (ksV v).length tcp)∧W.cell? ⟨pb,po+k,none⟩=some (.pointer (some ⟨pvb,0,none⟩)))) (by kernel_rfl) (by first | (dsimp only;exact HS0.out _ (Below.refl _ _).drew) | (exact HS0.out _ (Below.refl _ _).drew)) (fun hHeld=> ?_);generalize hxd:World.drew _=x1 at hHeld ⊢;have hd1:Below wy.heap.size wy x1:=by rw[←hxd];exact(Ac _ _).drew
         clear hxd;have bw1:=BY.out.trans (hd1.mono BY.out.size);have hz0:=bb.size;have bw2:=by_.trans (hd1.mono by_.size);refine tkH (i:=0) ?_;refine tkH (i:=1) ?_;refine tkH (i:=2) ?_;refine tkH (i:=3) ?_;refine tkH (i:=4) ?_;refine tkH (i:=5) ?_;refine tkH (i:=6) ?_;refine tkH (i:=7) ?_;refine tkH (i:=8) ?_;refine rdH (i:=9) (fun K hK=> ?_);go_simp;refine(IHk.out _ _ _ _ _ x1 bw1 (HK.out.later bw2 (Ar hB bb.size)) (HV.out x1 bw1) (HE3.out x1 bw2)).mono ?_;rintro e w6 ⟨b6,ev6,h6⟩;rw[hfo]at h6;obtain rfl:=h6;replace b6:=hd1.trans (b6.mono hd1.size);refine bkH hK (by first | (dsimp only;exact HS0.out _ b6) | (exact HS0.out _ b6)) (fun hHeld=> ?_);clear hK K;refine tkH (i:=10) ?_;refine tkH (i:=11) ?_;refine tkH (i:=12) ?_;refine tkH (i:=13) ?_;refine tkH (i:=14) ?_;refine Bs (by kernel_rfl) ?_ _;have bt:=BY.out.trans (b6.mono BY.out.size);replace k1:=(k1.below by_ k1.1).below b6 (Aj k1.1 by_.size);clear b6 hd1 bw1 bw2 by_ hpcell hpk bb;have hf2:=Aa (HS.out.symm.trans hf.out);rw[hfo]at hf2;have hf3:=Aa (show fx=none from hf2.out.symm);clear hf2;go_wp2;go_ret2;refine⟨bt,.pointer a,?_⟩;rw[hf3.out];rfl
       ·obtain rfl:k=ks.length:=by omega
        have hf2:=Aa (hf.out.symm.trans (by rw[Ff,Bc]:Bc (ks.drop ks.length) ((ksV v).drop ks.length) e'=some e'));have H4:=Aa (And.intro bb he);clear bb he;go_wp2;go_ret2;refine⟨H4.out.1,.pointer a,?_⟩;rw[hf2.out];exact⟨rfl,H4.out.2⟩
     ·have HF:=Aa (show fx=none by rw[HE2.out,Ab (fun h=>h3 h.2.2)]);rw[h1,h2]at tc2;have tc3:=tc2 #[.int .i64 20,.int .i64 xn,.string xs,.string xt,.slice ka ks.length kc] 41;unfold thC at tc3;have h3b:(((ksV v).length:Int) !=(ks.length:Int))=true:=by rw[bne_iff_ne];omega
      clear tc2 tc h1 h2 h3;go_enter Tryz.func167,Tryz.ntmps167;go_wp2_with fail;go_quiet (fail);go_wp2;go_ret2;have bb:Below w.heap.size w ((w.alloc (.cells #[.int .i64 20,.int .i64 xn,.string xs,.string xt,.slice ka ks.length kc] 41)).drewN nq):=(Bx.allocD (w:=w) rfl).1;refine⟨bb,.pointer ea,?_⟩;rw[HF.out];rfl
    ·have HF:=Aa (show fx=none by rw[HE2.out,Ab (fun h=>h2 h.2.1)]);rw[h1]at tc2;have tc3:=tc2 #[.int .i64 20,.int .i64 xn,.string xs,.string xt,.slice ka ks.length kc] 41;unfold thC at tc3;have h2b:=E7 h2;clear tc2 tc h1;generalize tgV v=sv at*;go_enter Tryz.func167,Tryz.ntmps167;go_wp2_with fail;go_quiet (fail);go_wp2;go_ret2;have bb:Below w.heap.size w ((w.alloc (.cells #[.int .i64 20,.int .i64 xn,.string xs,.string xt,.slice ka ks.length kc] 41)).drewN nq):=(Bx.allocD (w:=w) rfl).1;refine⟨bb,.pointer ea,?_⟩;rw[HF.out];rfl
   ·have HF:=Aa (show fx=none by rw[HE2.out,Ab (fun h=>h1 h.1)]);have tc3:=tc2 #[.int .i64 20,.int .i64 xn,.string xs,.string xt,.slice ka ks.length kc] 41;unfold thC at tc3;have h1b:(kdV v !=2)=true:=by simpa using h1
    clear tc2 tc;generalize kdV v=kd at*;go_enter Tryz.func167,Tryz.ntmps167;go_wp2_with fail;go_quiet (fail);go_wp2;go_ret2;have bb:Below w.heap.size w ((w.alloc (.cells #[.int .i64 20,.int .i64 xn,.string xs,.string xt,.slice ka ks.length kc] 41)).drewN nq):=(Bx.allocD (w:=w) rfl).1;refine⟨bb,.pointer ea,?_⟩;rw[HF.out];rfl
end Go.Proofs.YtifhcbeaiijkcaaGreat
end
