/- Parts of the proof of FnExactJudgeSame. -/
import Derived.Test.YtifhcbeaiijkcaaGreatJ09
import Derived.Test.YtifhcbeaiijkcaaGreatJ04
import Derived.Test.YtifhcbeaiijkcaaGreatJ05
import Derived.Test.YtifhcbeaiijkcaaGreatJ08
set_option linter.unusedVariables false
set_option linter.unusedSimpArgs false
set_option maxRecDepth 1000000
set_option maxHeartbeats 16000000
section
namespace Go.Proofs.YtifhcbeaiijkcaaGreat
open Go.RowKit
open _root_.Go.World renaming alloc→Wa,setCell→Ws
open _root_.Go.Proofs.Tryz renaming prog→Pq
mutual
def txV:Vl→ByteArray
 | .int n=>EC n
 | .con s ks=>if ks.isEmpty then s else(⟨#[40]⟩++BR s ks)++ ⟨#[41]⟩
 | .fn _ _ _ _=>⟨#[102,117,110]⟩
def BR (s:ByteArray):List Vl→ByteArray
 | []=>s
 |k::ks=>BR (s++ (⟨#[32]⟩++txV k)) ks
end
mutual
def lnV:Vl→Nat
 | .int n=>21
 | .con s ks=>s.size+DS ks+2
 | .fn _ _ _ _=>3
def DS:List Vl→Nat
 | []=>0
 |k::ks=>lnV k+1+DS ks
end
mutual
theorem Vg:∀u:Vl,(txV u).size≤lnV u
 | .int n=>by unfold txV lnV;exact P2 n
 | .con s ks=>by
  have:=Ix ks s;unfold txV lnV;split
  ·omega
  ·simp only[Fg]
   show 1+_+1≤_
   omega
 | .fn _ _ _ _=>by unfold txV lnV;exact Ad 3
theorem Ix:∀ (ks:List Vl) (s:ByteArray),(BR s ks).size≤s.size+DS ks
 | [],s=>by unfold BR DS;omega
 |k::ks,s=>by
  have:=Ix ks (s++ (⟨#[32]⟩++txV k));have:=Vg k;unfold BR DS;simp only[Fg]at*;have:(⟨#[32]⟩:ByteArray).size=1:=rfl;omega
end
theorem J1:∀ (ks:List Vl) (s:ByteArray),s.size≤ (BR s ks).size
 | [],s=>by unfold BR;omega
 |k::ks,s=>by
  have:=J1 ks (s++ (⟨#[32]⟩++txV k));unfold BR;simp only[Fg]at*;omega
theorem J2 {v:Vl}:∀ {ks:List Vl},v∈ks→lnV v+1≤DS ks
 |x::xs,h=>by
  unfold DS;rcases List.mem_cons.1 h with rfl |h
  ·omega
  ·have:=J2 h;omega
theorem Oa (u:Vl):DS (ksV u)≤lnV u:=by cases u <;> (unfold lnV ksV;simp[DS];try omega)
theorem RdTv.inv {A:Nat→Prop}{w:World}{u:Vl}{kv:Value}(h:RdTv A w u (vlC u kv)):∃cs,RwV A w kv (ksV u).length cs∧ ∀j (h:j < (ksV u).length),RdTv A w (ksV u)[j] (cs j):=by
 obtain⟨c,hc⟩:∃c,vlC u kv=c:=⟨_,rfl⟩;rw[hc]at h;cases h with
 |mk _ kv2 cs hk hv=>
  have:kv=kv2:=by have:=Bk (fun a:Array Value=>a[3]?) hc;exact Am this
  subst this;exact⟨cs,hk,hv⟩
theorem RdTv.all {A:Nat→Prop}{w w':World}{u:Vl}{c:Array Value}(h:RdTv A w u c) (b:Below w.heap.size w w'):RdTv A w' u c:=h.later fun q hq hl=>⟨hq,Ah hl b.size,b.block q hl⟩
theorem RwV.at_ {A:Nat→Prop}{w:World}{v:Value}{n:Nat}{cs:Nat→Array Value}(h:RwV A w v n cs) {k:Nat}(hk:k < n):∃b off cap,v= .slice (some ⟨b,off,none⟩) n cap∧b < w.heap.size∧n≤maxLen∧n≤cap∧
  w.cell? ⟨b,off+k*4,none⟩= (cs k)[0]?∧w.cell? ⟨b,off+k*4+1,none⟩= (cs k)[1]?∧w.cell? ⟨b,off+k*4+2,none⟩= (cs k)[2]?∧w.cell? ⟨b,off+k*4+3,none⟩= (cs k)[3]?:=by
 rcases h with ⟨h0,_⟩ |⟨b,off,cap,rfl,h2,h3,h4⟩
 ·omega
 ·exact⟨b,off,cap,rfl,h2.2,h3.1,h3.2,h4 k hk 0 (by omega),h4 k hk 1 (by omega),h4 k hk 2 (by omega),h4 k hk 3 (by omega)⟩
def VtR (w:World) (u:Vl) (e:Ending) (w':World):Prop:=e= .returned (.string (txV u))∧Below w.heap.size w w'
theorem J3 (A:Nat→Prop):∀ (N:Nat) (u:Vl) (kv:Value) (w:World),Ar u < N→Ar u≤4000→lnV u≤4611686018427387904→Good (.th u)→RdTv A w u (vlC u kv)→
  Calls Pq 18 #[.agg (vlC u kv)] w (VtR w u)
 |0,u,kv,w,hN,hc,hl,hg,hr=>by omega
 |N+1,.int n,kv,w,hN,hc,hl,hg,hr=>by
  obtain⟨a,c,rfl⟩:=hr.form;have hw:=(Hy n).1 hg.inv_int;have HD:=Aa (fun(W:World)=>P7 n W (by omega) (by omega));clear hr hg hw hN hc hl
  show Calls Pq 18 #[.agg #[.int .i64 1,.int .i64 n,.string eS,.slice a 0 c]] w _
  go_enter Tryz.func18,Tryz.ntmps18;go_wp2_with fail;generalize hx:w.alloc _=x;obtain⟨bx,k1⟩:=Bx.alloc hx;clear hx;refine(HD.out x).mono ?_;rintro e w1 ⟨rfl,rfl⟩;go_wp2;go_ret;exact⟨rfl,bx⟩
 |N+1,.fn a1 a2 a3 a4,kv,w,hN,hc,hl,hg,hr=>by
  obtain⟨a,c,rfl⟩:=hr.form;clear hr hg hN hc hl
  show Calls Pq 18 #[.agg #[.int .i64 3,.int .i64 0,.string eS,.slice a 0 c]] w _
  go_enter Tryz.func18,Tryz.ntmps18;go_wp2;generalize hx:w.alloc _=x;obtain⟨bx,k1⟩:=Bx.alloc hx;clear hx;go_ret;exact⟨rfl,bx⟩
 |N+1,.con s ks,kv,w,hN,hc,hl,hg,hr=>by
  have IH:=Aa (fun(j:Nat) (hj:j < ks.length) (kv2:Value) (W:World) (h:RdTv A W ks[j] (vlC ks[j] kv2))=>(by
   have:=Gj (An hj);have:=EA (.con s ks);have:=J2 (An hj);have:=Oa (.con s ks);simp only[ksV]at*;exact J3 A N ks[j] kv2 W (by omega) (by omega) (by omega) (hg.inv_con _ (An hj)) h:Calls Pq 18 #[.agg (vlC ks[j] kv2)] W (VtR W ks[j])))
  obtain⟨cs,hrw,hks⟩:=hr.inv;have HR:=Aa (fun(W:World) (b:Below w.heap.size w W)=>(hr.all b).inv);obtain⟨a,c,rfl⟩:=hr.form;have hlj:(BR s ks).size+2≤4611686018427387904:=by have:=Ix ks s;unfold lnV at hl;omega
  have HTX:=Aa (show txV (.con s ks)=if ks.isEmpty then s else(⟨#[40]⟩++BR s ks)++ ⟨#[41]⟩by unfold txV;rfl);have hln:ks.length≤4000:=by have:=EA (.con s ks);have:=Ir ks;simp only[ksV]at*;omega
  clear hrw hks cs hr hg hN hc hl
  show Calls Pq 18 #[.agg #[.int .i64 2,.int .i64 0,.string s,.slice a ks.length c]] w _
  simp only[ksV]at HR;obtain⟨tot,htot⟩:∃t,BR s ks=t:=⟨_,rfl⟩;rw[htot]at hlj HTX;have HTOT:=Aa htot;clear htot;go_enter Tryz.func18,Tryz.ntmps18;go_wp2
  go_loopw [3,20] (fun sx i wr=>∃ (k:Nat) (p:ByteArray),k≤ks.length∧i= .int .i64 k∧sx= .string p∧Hid (BR p (ks.drop k)=tot)∧Below w.heap.size w wr∧Bx wr w.heap.size #[.int .i64 2,.int .i64 0,.string s,.slice a ks.length c]) (fun _ i _=>ks.length - (intOf i).toNat)
  case atStart=>
   generalize hx:w.alloc _=x;obtain⟨bx,k1⟩:=Bx.alloc hx;exact⟨0,s,Ao _,rfl,rfl,Aa HTOT.out,bx,k1⟩
  case round=>
   obtain⟨k,p,hk,rfl,rfl,hj,bb,k1⟩:=hrel;by_cases hlt:k < ks.length
   ·obtain⟨cs,hrw,hks⟩:=HR.out wr bb;have hki:(k:Int) < (ks.length:Int):=by omega
    obtain⟨b,off,cap,hv,hb,hm,hcp,q0,q1,q2,q3⟩:=hrw.at_ hlt;cases hv
    have hkk:=hks k hlt;obtain⟨kv2,hkv⟩:=hkk.cells;rw[hkv]at q0 q1 q2 q3 hkk;obtain⟨ka2,kc2,rfl⟩:=hkk.form;have HKK:=Aa hkk;unfold vlC at q0 q1 q2 q3;have hj2:=Aa ((show BR p (ks.drop k)=BR (p++ (⟨#[32]⟩++txV ks[k])) (ks.drop (k+1))by rw[List.drop_eq_getElem_cons hlt,BR]).symm.trans hj.out);have hsz:(p++ (⟨#[32]⟩++txV ks[k])).size≤tot.size:=by rw[←hj2.out];exact J1 _ _
    have IHk:=Aa (fun(W:World) (bW:Below wr.heap.size wr W)=>IH.out k hlt _ W (HKK.out.all bW));obtain⟨T,hT⟩:∃T,txV ks[k]=T:=⟨_,rfl⟩;rw[hT]at hj2 hsz;have HT:=Aa hT;clear hrw hks hkk hkv hj hT;have e1:(⟨#[32]⟩:ByteArray).size=1:=rfl;simp only[Fg,e1]at hsz;have s1:(⟨#[32]⟩:ByteArray).size+T.size≤9223372036854775807:=by rw[e1];omega
    have s2:p.size+ ((⟨#[32]⟩:ByteArray)++T).size≤9223372036854775807:=by rw[Fg,e1];omega
    clear e1 hsz;have BB:=Aa bb;have K1:=Aa k1;clear bb k1;go_wp2_with fail;generalize hx:wr.alloc _=x;obtain⟨bx,k5⟩:=Bx.alloc hx;clear hx;refine(IHk.out x bx).mono ?_;rintro e w2 ⟨rfl,b2⟩;rw[HT.out];clear IHk IH HKK HT HR HTX;have NB:=Aa (BB.out.trans ((bx.trans (b2.mono bx.size)).mono BB.out.size));have NK:=Aa ((K1.out.below bx K1.out.1).below b2 (Ah K1.out.1 bx.size));clear bx b2 k5 q0 q1 q2 q3;go_wp2;go_roundw
    case rel=>exact⟨k+1,_,hlt,by go_num,rfl,hj2,NB.out,NK.out⟩
    case measure=>simp[intOf];omega
   ·obtain rfl:k=ks.length:=by omega
    have hki:¬((ks.length:Int) < (ks.length:Int)):=by omega
    obtain rfl:p=tot:=by have:=hj.out;rw[EO]at this;simpa [BR] using this
    have BB:=Aa bb;clear bb hj;have ck1:=k1.2.1;have yk1:=k1.1;by_cases he:ks.length=0
    ·have hgt:¬((0:Int) < (ks.length:Int)):=by omega
     have HP:Hid (p=s):=Aa (by
      have h0:=List.eq_nil_of_length_eq_zero he;have:=HTOT.out;rw[h0]at this
      simpa [BR] using this.symm)
     have HY:Hid (txV (.con s ks)=s):=Aa (by rw[HTX.out,List.eq_nil_of_length_eq_zero he];rfl);clear he;go_wp2;go_ret;exact⟨by rw[HY.out,HP.out];rfl,BB.out⟩
    ·have hgt:(0:Int) < (ks.length:Int):=by omega
     have HY:Hid (txV (.con s ks)= (⟨#[40]⟩++p)++ ⟨#[41]⟩):=Aa (by
      rw[HTX.out];cases ks with
      |nil=>exact absurd rfl he
      |cons=>rfl)
     have e1:(⟨#[40]⟩:ByteArray).size=1:=rfl;have e2:(⟨#[41]⟩:ByteArray).size=1:=rfl;have s3:(⟨#[40]⟩:ByteArray).size+p.size≤9223372036854775807:=by rw[e1];omega
     have s4:((⟨#[40]⟩:ByteArray)++p).size+ (⟨#[41]⟩:ByteArray).size≤9223372036854775807:=by rw[Fg,e1,e2];omega
     clear e1 e2 he;go_wp2;go_ret;exact⟨by rw[HY.out];rfl,BB.out⟩
end Go.Proofs.YtifhcbeaiijkcaaGreat
end
section
namespace Go.Proofs.YtifhcbeaiijkcaaGreat
open _root_.Go.World renaming alloc→Wa,setCell→Ws
open _root_.Go.Proofs.Tryz renaming prog→Pq
inductive TagG (p:Str→Prop):Xl→Prop
 |int (n:Int):TagG p (.th (.int n))
 |con (s:Str) (vs:List Vl) (hs:p s) (h:∀v∈vs,TagG p (.th v)):TagG p (.th (.con s vs))
 |fn (arg self:Str) (body:Nd) (env:Env) (h3:TagG p (.sc env)):TagG p (.th (.fn arg self body env))
 |nil:TagG p (.sc [])
 |cons (s:Str) (v:Vl) (e:Env) (h1:TagG p (.th v)) (h2:TagG p (.sc e)):TagG p (.sc ((s,v)::e))
section
variable {p:Str→Prop}
theorem TagG.inv_con {s:Str}{vs:List Vl}(h:TagG p (.th (.con s vs))):p s∧ ∀v∈vs,TagG p (.th v):=by cases h with |con _ _ hs h=>exact⟨hs,h⟩
theorem TagG.inv_cons {s:Str}{v:Vl}{e:Env}(h:TagG p (.sc ((s,v)::e))):TagG p (.th v)∧TagG p (.sc e):=by cases h with |cons _ _ _ h1 h2=>exact⟨h1,h2⟩
theorem TagG.look {s:Str}{v:Vl}:∀ {e:Env},TagG p (.sc e)→Go.Proofs.YtifhcbeaiijkcaaGreat.look e s=some v→TagG p (.th v)
 | [],_,h=>by simp[Go.Proofs.YtifhcbeaiijkcaaGreat.look]at h
 | (a,u)::e,hg,h=>by
  obtain⟨h1,h2⟩:=hg.inv_cons;unfold Go.Proofs.YtifhcbeaiijkcaaGreat.look at h;split at h
  ·cases h;exact h1
  ·exact TagG.look h2 h
mutual
theorem Ns:∀ (x:Nd) (v:Vl) (e e':Env),TagG p (.th v)→TagG p (.sc e)→BL x v e=some e'→TagG p (.sc e')
 | .mk op n s _ ks,v,e,e',hv,he,h=>by
  unfold BL at h;split at h
  ·cases h;exact he
  ·split at h
   ·cases h;exact .cons _ _ _ hv he
   ·split at h
    ·split at h
     ·split at h
      ·cases h;exact he
      ·cases h
     ·cases h
    ·split at h
     ·rename_i c vs;split at h
      ·exact Nt ks vs e e' hv.inv_con.2 he h
      ·cases h
     ·cases h
theorem Nt:∀ (ks:List Nd) (vs:List Vl) (e e':Env),(∀v∈vs,TagG p (.th v))→TagG p (.sc e)→Bh ks vs e=some e'→TagG p (.sc e')
 | [],vs,e,e',hv,he,h=>by unfold Bh at h;cases h;exact he
 |k::ks,[],e,e',hv,he,h=>by unfold Bh at h;cases h
 |k::ks,v::vs,e,e',hv,he,h=>by
  unfold Bh at h;split at h
  ·rename_i e1 h1;exact Nt ks vs e1 e' (fun u hu=>hv u (List.mem_cons_of_mem _ hu)) (Ns k v e e1 (hv v (List.mem_cons_self ..)) he h1) h
  ·cases h
end
def TagR (p:Str→Prop) (r:Rs Vl):Prop:=∀v s,r= .ok v s→TagG p (.th v)
theorem Nu {E:Nd→Env→Es→Rs Vl}{env:Env}:∀ (ks:List Nd) (s:Es),(∀k s,TagR p (E k env s))→ ∀vs s',Bn E env ks s= .ok vs s'→ ∀v∈vs,TagG p (.th v)
 | [],s,hE,vs,s',h=>by unfold Bn at h;cases h;simp
 |k::ks,s,hE,vs,s',h=>by
  unfold Bn at h;cases h1:E k env s with
  |bad c o=>rw[h1]at h;cases h
  |ok v s1=>
   rw[h1]at h;dsimp only[Rs.bind]at h;cases h2:Bn E env ks s1 with
   |bad c o=>rw[h2]at h;cases h
   |ok us s2=>
    rw[h2]at h;dsimp only[Rs.bind]at h;cases h
    intro u hu;rcases List.mem_cons.1 hu with rfl |hu
    ·exact hE k s _ _ h1
    ·exact Nu ks s1 hE us _ h2 u hu
theorem Nv {E:Nd→Env→Es→Rs Vl}{env:Env}{v:Vl}(hv:TagG p (.th v)) (he:TagG p (.sc env)):∀ (az:List Nd) (s:Es),(∀k e s,TagG p (.sc e)→TagR p (E k e s))→TagR p (Bi E env v az s)
 | [],s,hE=>fun u t h=>by unfold Bi at h;cases h
 |a::az,s,hE=>by
  unfold Bi;split
  ·rename_i e h1;exact hE _ e s (Ns _ _ _ _ hv he h1)
  ·exact Nv hv he az s hE
theorem TagR.bind {α:Type}{r:Rs α}{k:α→Es→Rs Vl}(h:∀a s,r= .ok a s→TagR p (k a s)):TagR p (r.bind k):=by
 cases r with
 |ok a s=>exact h a s rfl
 |bad c o=>exact fun v s h=>by cases h
theorem TagR.ok {v:Vl}{s:Es}(h:TagG p (.th v)):TagR p (.ok v s):=fun u s' e=>by cases e;exact h
theorem TagR.bad {c:Int}{o:List Int}:TagR p (.bad c o):=fun u s' e=>by cases e
theorem Nw {ar:Str→Option Nat}(hp:∀s n,ar s=some n→p s):∀ (m:Nat) (x:Nd) (env:Env) (s:Es),TagG p (.sc env)→TagR p (Ag ar m x env s)
 |0,x,env,s,he=>TagR.bad
 |m+1,x,env,s,he=>by
  unfold Ag;split
  ·exact TagR.bad
  rename_i f hf;have ih:=Nw hp m;unfold AI;by_cases h1:x.op=1
  ·rw[Af h1];exact TagR.ok (.int _)
  rw[Ae h1];by_cases h2:x.op=2
  ·rw[Af h2];cases hlk:look env x.s with
   |some v=>exact TagR.ok (he.look hlk)
   |none=>exact TagR.bad
  rw[Ae h2];by_cases h3:x.op=3
  ·rw[Af h3];exact TagR.ok (.fn _ _ _ _ he)
  rw[Ae h3];by_cases h4:x.op=4
  ·rw[Af h4];refine TagR.bind fun v s1 h=>TagR.bind fun u s2 h'=> ?_;have gv:=ih _ _ _ he _ _ h;have gu:=ih _ _ _ he _ _ h';cases v with
   |fn arg self body env'=>
    unfold Cw;dsimp only;have g3:TagG p (.sc env'):=by cases gv;assumption
    refine ih _ _ _ (.cons _ _ _ gu ?_);by_cases hs:self=ByteArray.empty
    ·rw[Af hs];exact g3
    ·rw[Ae hs];exact .cons _ _ _ gv g3
   |int n=>exact TagR.bad
   |con a b=>exact TagR.bad
  rw[Ae h4];by_cases h6:x.op=6
  ·rw[Af h6];exact ih _ _ _ (.cons _ _ _ (.fn _ _ _ _ he) he)
  rw[Ae h6];by_cases h7:x.op=7
  ·rw[Af h7];exact TagR.bind fun v s1 h=>Nv (ih _ _ _ he _ _ h) he _ _ (fun k e s h=>ih k e s h)
  rw[Ae h7];by_cases h15:x.op=15
  ·rw[Af h15];refine TagR.bind fun vs s1 h=> ?_;by_cases har:ar x.s=some x.kids.length
   ·rw[Af har];exact TagR.ok (.con _ _ (hp _ _ har) (Nu _ _ (fun k s=>ih k env s he) _ _ h))
   ·rw[Ae har];exact TagR.bad
  rw[Ae h15];refine TagR.bind fun v s1 h=> ?_;have gv:=ih _ _ _ he _ _ h;by_cases h5:x.op=5
  ·rw[Af h5];exact ih _ _ _ (.cons _ _ _ gv he)
  rw[Ae h5];refine TagR.bind fun a s2 h2=> ?_;by_cases h16:x.op=16
  ·rw[Af h16];exact TagR.ok gv
  rw[Ae h16];by_cases h9:x.op=9
  ·rw[Af h9];by_cases ha:a≠0
   ·rw[Af ha];exact ih _ _ _ he
   ·rw[Ae ha];exact ih _ _ _ he
  rw[Ae h9];exact TagR.bind fun v2 s3 _=>TagR.bind fun b s4 _=>TagR.ok (.int _)
end
mutual
theorem JU {M:Nat}:∀u:Vl,TagG (fun s=>s.size≤M) (.th u)→lnV u+2≤Ar u* (M+24)
 | .int n,h=>by unfold lnV Ar;omega
 | .con s ks,h=>by
  have h1:=Nx ks h.inv_con.2;have h2:=h.inv_con.1;have e:Ar (.con s ks)=1+Ar.countVs ks:=rfl;rw[e,Et];unfold lnV;omega
 | .fn _ _ _ _,h=>by unfold lnV Ar;omega
theorem Nx {M:Nat}:∀ks:List Vl,(∀v∈ks,TagG (fun s=>s.size≤M) (.th v))→DS ks+ks.length≤Ar.countVs ks* (M+24)
 | [],h=>by unfold DS;simp
 |k::ks,h=>by
  have h1:=JU k (h k (List.mem_cons_self ..));have h2:=Nx ks (fun v hv=>h v (List.mem_cons_of_mem _ hv));have e:Ar.countVs (k::ks)=Ar k+Ar.countVs ks:=rfl;rw[e,Et];unfold DS;simp only[List.length_cons];omega
end
end Go.Proofs.YtifhcbeaiijkcaaGreat
end
section
namespace Go.Proofs.YtifhcbeaiijkcaaGreat
open Go.RowKit
open _root_.Go.World renaming alloc→Wa,setCell→Ws
open _root_.Go.Proofs.Tryz renaming prog→Pq
theorem Ru {B g:Nat}{X:Nat→Prop}{lv:Value}{ds:List Dt}{ar:Str→Option Nat}{m f:Nat}{x:Nd}{kv ev:Value}{env:Env}{s:Es}{w:World}{r:Option Nat}(hf:s.fuel=f+1) (hm:f≤m) (P:Pre B X g lv ds x kv ev env s w r) (ho:x.op=1):
  Calls Pq 50 #[.pointer (some ⟨g,0,none⟩),ndV x kv,ev] w (Cj B X g lv (Ag ar (m+1) x env s) r w):=by
 have HE:=Aa ((Bv hf).trans (Mx (ar:=ar) (E:=Ag ar m) (env:=env) (s:=⟨f,s.out⟩) ho));have PP:=Aa P;have HO:=Aa ho;have HN:=Aa (LK P.np ho);have SZ:Hid (s.out.length+f+1≤4000):=Aa (by have:=P.sz;omega);obtain⟨ka,kc,rfl⟩:=P.rk.form;obtain⟨ea,rfl⟩:=P.re.sc_form;have hsz:=P.sz;rw[hf]at hsz;have hfl:f≤4000:=by omega
 have hx:=P.ev;rw[hf]at hx;obtain⟨ov,hb, -, -⟩:=hx.bx;have q0:∀ (cur:Array Value) (e:TypeId) j,(w.alloc (.cells cur e)).cell? ⟨g,j,none⟩= #[lv,.int .i64 ((f+1:Nat):Int),.int .i64 0,ov][j]?:=fun cur e j=>(((Ab w.heap.size w).alloc (Ad _) (.cells cur e)).cell (p:=⟨g,j,none⟩) hb.1).trans (hb.2.1 j);have f0:∀ (cur:Array Value) (e:TypeId) j,(w.alloc (.cells cur e)).frozen? ⟨g,j,none⟩=false:=fun cur e j=>(((Ab w.heap.size w).alloc (Ad _) (.cells cur e)).frozen (p:=⟨g,j,none⟩) hb.1).trans (hb.2.2 j);have hgw:g < w.heap.size:=hb.1;unfold ndV;rw[ho];have q1:=q0 #[.int .i64 1,.int .i64 x.n,.string x.s,.string x.t,.slice ka x.kids.length kc] 41;have f1:=f0 #[.int .i64 1,.int .i64 x.n,.string x.s,.string x.t,.slice ka x.kids.length kc] 41;have hne:w.heap.size≠g:=by omega
 clear P hx hb q0 f0 hsz ho hf;go_enter Tryz.func50,Tryz.ntmps50;go_wp2_with fail;generalize hW:Wa _ _=W1;have N1:=PP.out.start hW;clear hW q1 f1;have N1':=Aa N1;refine(F0 N1.ev (fun b e=>Ah (PP.out.hx b e) N1.tw.size) x.n).mono ?_;rintro e W2 ⟨tv,rfl,h2,e2,t2⟩;obtain⟨b2,rfl⟩:=h2.th_ptr;have H2:=Aa h2;have E2:=Aa e2;have T2:=Aa t2;clear h2 e2 t2 N1;go_wp2;go_ret;refine N1'.out.done T2.out ?_;rw[HE.out];exact⟨H2.out,E2.out,by have:=SZ.out;dsimp only;omega,.int _ HN.out⟩
theorem Rv {B g:Nat}{X:Nat→Prop}{lv:Value}{ds:List Dt}{ar:Str→Option Nat}{m f:Nat}{x:Nd}{kv ev:Value}{env:Env}{s:Es}{w:World}{r:Option Nat}(hf:s.fuel=f+1) (hm:f≤m) (P:Pre B X g lv ds x kv ev env s w r) (ho:x.op=2):
  Calls Pq 50 #[.pointer (some ⟨g,0,none⟩),ndV x kv,ev] w (Cj B X g lv (Ag ar (m+1) x env s) r w):=by
 have HE:=Aa ((Bv hf).trans (My (ar:=ar) (E:=Ag ar m) (env:=env) (s:=⟨f,s.out⟩) ho));have PP:=Aa P;have HO:=Aa ho;have SZ:Hid (s.out.length+f+1≤4000):=Aa (by have:=P.sz;omega);obtain⟨ka,kc,rfl⟩:=P.rk.form;obtain⟨ea,rfl⟩:=P.re.sc_form;have hsz:=P.sz;rw[hf]at hsz;have hfl:f≤4000:=by omega
 have hx:=P.ev;rw[hf]at hx;obtain⟨ov,hb, -, -⟩:=hx.bx;have q0:∀ (cur:Array Value) (e:TypeId) j,(w.alloc (.cells cur e)).cell? ⟨g,j,none⟩= #[lv,.int .i64 ((f+1:Nat):Int),.int .i64 0,ov][j]?:=fun cur e j=>(((Ab w.heap.size w).alloc (Ad _) (.cells cur e)).cell (p:=⟨g,j,none⟩) hb.1).trans (hb.2.1 j);have f0:∀ (cur:Array Value) (e:TypeId) j,(w.alloc (.cells cur e)).frozen? ⟨g,j,none⟩=false:=fun cur e j=>(((Ab w.heap.size w).alloc (Ad _) (.cells cur e)).frozen (p:=⟨g,j,none⟩) hb.1).trans (hb.2.2 j);have hgw:g < w.heap.size:=hb.1;unfold ndV;rw[ho];have q1:=q0 #[.int .i64 2,.int .i64 x.n,.string x.s,.string x.t,.slice ka x.kids.length kc] 41;have f1:=f0 #[.int .i64 2,.int .i64 x.n,.string x.s,.string x.t,.slice ka x.kids.length kc] 41;have hne:w.heap.size≠g:=by omega
 clear P hx hb q0 f0 hsz ho hf;go_enter Tryz.func50,Tryz.ntmps50;go_wp2_with fail;generalize hW:Wa _ _=W1;have N1:=PP.out.start hW;clear hW q1 f1;have N1':=Aa N1;refine(Vi x.s (PP.out.reW N1.tw)).mono ?_;rintro e W2 ⟨h2,rfl⟩;cases hl:look env x.s with
 |some v=>
  rw[hl]at h2;obtain⟨tv,rfl,h3⟩:=h2;obtain⟨b2,rfl⟩:=h3.th_ptr;have H3:=Aa h3;have HL:=Aa hl;clear hl h3 N1;go_wp2;go_ret;refine N1'.out.done N1'.out.ev.refl ?_;rw[HE.out,HL.out];exact⟨H3.out,N1'.out.ev,by have:=SZ.out;dsimp only;omega,PP.out.gd.look HL.out⟩
 |none=>
  rw[hl]at h2;obtain⟨tv,rfl,rfl⟩:=h2;have HL:=Aa hl;clear hl;go_wp2_with fail;refine(Fx N1.ev 2).mono ?_;rintro e W3 ⟨⟨a3,rfl⟩,e3,t3⟩;have E3:=Aa e3;have T3:=Aa t3;clear e3 t3 N1;go_wp2;go_ret;refine N1'.out.done T3.out ?_;rw[HE.out,HL.out];exact .bad (.inr rfl) (by have:=SZ.out;dsimp only;omega) E3.out
theorem Rw {B g:Nat}{X:Nat→Prop}{lv:Value}{ds:List Dt}{ar:Str→Option Nat}{m f:Nat}{x:Nd}{kv ev:Value}{env:Env}{s:Es}{w:World}{r:Option Nat}(hf:s.fuel=f+1) (hm:f≤m) (P:Pre B X g lv ds x kv ev env s w r) (ho:x.op=5) (IH:CT B g lv ds ar m):
  Calls Pq 50 #[.pointer (some ⟨g,0,none⟩),ndV x kv,ev] w (Cj B X g lv (Ag ar (m+1) x env s) r w):=by
 have HE:=Aa ((Bv hf).trans (ME (ar:=ar) (E:=Ag ar m) (env:=env) (s:=⟨f,s.out⟩) ho));have PP:=Aa P;have HO:=Aa ho;have IH:=Aa IH;obtain⟨ya,yb,hkk,hna,hnb⟩:=Cy P.np (.inr (.inl ho));have RK0:=P.rk;rw[hkk]at RK0;obtain⟨b,off,cap,kv0,kv1,hv,hbB,hcap,⟨c0,c1,c2,c3,c4⟩,hk0, -,hk1⟩:=RK0.two';subst hv;obtain⟨hbw,hbg⟩:=P.nb hbB;have HKK:=Aa hkk;have HM:=Aa (show ya∈x.kids∧yb∈x.kids from by rw[hkk];simp);have HK0:=Aa (show x.kid 0=ya by unfold Nd.kid;rw[hkk];rfl);have HK1:=Aa (show x.kid 1=yb by unfold Nd.kid;rw[hkk];rfl);have SZ:Hid (s.out.length+f+1≤4000):=Aa (by have:=P.sz;omega);obtain⟨k0a,k0c,rfl⟩:=hk0.form;have HKA:=Aa hk0;have hkl:x.kids.length=2:=by rw[hkk];rfl
 clear hkk RK0 hk0;obtain⟨ea,rfl⟩:=P.re.sc_form;have hsz:=P.sz;rw[hf]at hsz;have hfl:f≤4000:=by omega
 have hx:=P.ev;rw[hf]at hx;obtain⟨ov,hb, -, -⟩:=hx.bx;have q0:∀ (cur:Array Value) (e:TypeId) j,(w.alloc (.cells cur e)).cell? ⟨g,j,none⟩= #[lv,.int .i64 ((f+1:Nat):Int),.int .i64 0,ov][j]?:=fun cur e j=>(((Ab w.heap.size w).alloc (Ad _) (.cells cur e)).cell (p:=⟨g,j,none⟩) hb.1).trans (hb.2.1 j);have f0:∀ (cur:Array Value) (e:TypeId) j,(w.alloc (.cells cur e)).frozen? ⟨g,j,none⟩=false:=fun cur e j=>(((Ab w.heap.size w).alloc (Ad _) (.cells cur e)).frozen (p:=⟨g,j,none⟩) hb.1).trans (hb.2.2 j);have hgw:g < w.heap.size:=hb.1;unfold ndV;rw[ho];have q1:=q0 #[.int .i64 5,.int .i64 x.n,.string x.s,.string x.t,.slice (some ⟨b,off,none⟩) 2 cap] 41;have f1:=f0 #[.int .i64 5,.int .i64 x.n,.string x.s,.string x.t,.slice (some ⟨b,off,none⟩) 2 cap] 41;have hne:w.heap.size≠g:=by omega
 clear P hx hb q0 f0 hsz ho hf;have HMA:=Aa HM.out.1;have HK1B:=Aa hk1;clear hk1;go_enter Tryz.func50,Tryz.ntmps50;go_wp2_with fail;generalize hW:Wa _ _=W1;have N1:=PP.out.start hW;clear hW q1 f1;have N1':=Aa N1;have hka:=HKA.out.later (PP.out.ev.tw N1.tw) (Ad _);clear c0 c1 c2 c3 c4;refine(IH.out X ya _ _ env ⟨f,s.out⟩ W1 r hm (PP.out.sub N1.tw hna HMA.out (by have:=SZ.out;dsimp only;omega) N1.ev hka)).mono ?_;rintro e W2 ⟨a2,r2,rfl,t2,h2⟩;have T2:=Aa t2;clear N1 hka t2;cases hE1:Ag ar m ya env ⟨f,s.out⟩with
 |bad c o=>
  rw[hE1]at h2;obtain⟨hc,hol,f2,e2⟩:=h2;have HE1:=Aa hE1;have E2:=Aa e2;have HC:=Aa hc;have HOL:=Aa hol;have q2:=e2.cells.2.2;have hcb:(c !=0)=true:=by rcases hc with rfl |rfl <;> rfl
  clear hE1 e2 hc hol;go_wp2;go_ret;refine N1'.out.done T2.out ?_;rw[HE.out,HK0.out,HE1.out];exact .bad HC.out HOL.out E2.out
 |ok v s2=>
  rw[hE1]at h2;obtain⟨hx2,e2,hs2,hg2⟩:=h2;have HE1:=Aa hE1;have HX2:=Aa hx2;have E2:=Aa e2;have HS2:=Aa hs2;have HG2:=Aa hg2;have N2:=Aa (N1'.out.step T2.out e2);have q2:=e2.cells.2.2;have qb:=N2.out.bx.2.1;clear hE1 hx2 hs2 hg2;clear e2;go_wp2_with fail;have RK2:=PP.out.rkW N2.out.tw;rw[HKK.out]at RK2;obtain⟨b_,off_,cap_,kv0_,kv1_,hv_,hbB_, -, -, -,⟨d0,d1,d2,d3,d4⟩,hkb⟩:=RK2.two';cases hv_
  obtain⟨kba,kbc,rfl⟩:=hkb.form;have HKB:=Aa hkb;have hbW:=Ah hbB N2.out.ev.gB.2;have HQ:=Aa (fun(W':World) (r':Option Nat) (t:Tw g r2 r' W2 W')=>(by
   have k3:=N2.out.bx.tw t N2.out.ng N2.out.nb;have b3:=N2.out.ev.tw t;exact⟨k3.2.1 2,k3.2.1 4,(b3.cell (p:=⟨b,off+5,none⟩) hbB).trans d0,(b3.cell (p:=⟨b,off+5+1,none⟩) hbB).trans d1,(b3.cell (p:=⟨b,off+5+2,none⟩) hbB).trans d2,(b3.cell (p:=⟨b,off+5+3,none⟩) hbB).trans d3,(b3.cell (p:=⟨b,off+5+4,none⟩) hbB).trans d4⟩:W'.cell? ⟨w.heap.size,2,none⟩=some (.string x.s)∧W'.cell? ⟨w.heap.size,4,none⟩=some (.slice (some ⟨b,off,none⟩) 2 cap)∧W'.cell? ⟨b,off+5,none⟩=some (.int .i64 yb.op)∧W'.cell? ⟨b,off+5+1,none⟩=some (.int .i64 yb.n)∧W'.cell? ⟨b,off+5+2,none⟩=some (.string yb.s)∧W'.cell? ⟨b,off+5+3,none⟩=some (.string yb.t)∧W'.cell? ⟨b,off+5+4,none⟩=some (.slice kba yb.kids.length kbc)))
  have TB:=Aa (fun(W':World) (h:Below W2.heap.size W2 W')=>(Tw.of_below h (fun k e=>(N2.out.ev.row k e).2):Tw g r2 r2 W2 W'));clear q2 qb hkb d0 d1 d2 d3 d4;refine wp_region_held_drew (S:=(fun W'=>W'.cell? ⟨w.heap.size,2,none⟩=some (.string x.s)∧W'.cell? ⟨w.heap.size,4,none⟩=some (.slice (some ⟨b,off,none⟩) 2 cap)∧W'.cell? ⟨b,off+5,none⟩=some (.int .i64 yb.op)∧W'.cell? ⟨b,off+5+1,none⟩=some (.int .i64 yb.n)∧W'.cell? ⟨b,off+5+2,none⟩=some (.string yb.s)∧W'.cell? ⟨b,off+5+3,none⟩=some (.string yb.t)∧W'.cell? ⟨b,off+5+4,none⟩=some (.slice kba yb.kids.length kbc))) (by kernel_rfl) (by first | (dsimp only;exact HQ.out _ _ (TB.out _ (Below.refl _ _).drew)) | (exact HQ.out _ _ (TB.out _ (Below.refl _ _).drew))) (fun hHeld=> ?_);generalize hxd:World.drew _=x1 at hHeld ⊢;have hd1:Below W2.heap.size W2 x1:=by rw[←hxd];exact(Ab _ _).drew
  clear hxd;refine tkH (i:=0) ?_;refine tkH (i:=1) ?_;refine tkH (i:=2) ?_;refine tkH (i:=3) ?_;refine tkH (i:=4) ?_;refine tkH (i:=5) ?_;refine tkH (i:=6) ?_;refine tkH (i:=7) ?_;refine tkH (i:=8) ?_;refine tkH (i:=9) ?_;refine rdH (i:=10) (fun K hK=> ?_);go_simp;generalize hy0:Wa _ _=x2;obtain⟨b2,k2⟩:=Bx.alloc hy0;have hd2:=hd1.trans (b2.mono hd1.size);clear hy0;refine bkH hK (by first | (dsimp only;exact HQ.out _ _ (TB.out _ hd2)) | (exact HQ.out _ _ (TB.out _ hd2))) (fun hHeld=> ?_);clear hK K;have N4:=Aa (N2.out.same hd2);have P4:Pre B X g lv ds yb (.slice kba yb.kids.length kbc) (.pointer (some ⟨x1.heap.size,0,none⟩)) ((x.s,v)::env) s2 x2 r2:=
   ⟨hnb,by have:=AT HM.out.2;have:=Av x;have:=PP.out.wg;omega,.cons _ _ _ HG2.out PP.out.gd,HS2.out,HKB.out.later (N2.out.ev.tw (TB.out _ hd2)) (Ad _),
    .cons x1.heap.size x.s (.pointer a2) (.pointer ea) v env ⟨fun e=>by have:=N2.out.ev.lt;have:=hd1.size;omega,fun e=>by have:=(N2.out.ev.row _ e).2;have:=hd1.size;omega,k2.1,fun e=>by have:=PP.out.hx _ e;have:=N2.out.tw.size;have:=hd1.size;omega⟩ k2.2.1 (HX2.out.later (TB.out _ hd2) (N2.out.ev.tw (TB.out _ hd2))) (PP.out.reW N4.out.tw),N4.out.ev,PP.out.dtW N4.out.tw,fun b e=>Ah (PP.out.hx b e) N4.out.tw.size⟩
  have HLE:s2.fuel≤m:=At ((DF ar m ya env ⟨f,s.out⟩).2 v s2 HE1.out) hm;have P4:=Aa P4;have T4:=Aa (TB.out _ hd2);clear k2 b2 hd2 hd1;refine rdH (i:=11) (fun K hK=> ?_);go_simp;refine(IH.out X yb _ _ ((x.s,v)::env) s2 x2 r2 HLE P4.out).mono ?_;rintro e W5 ⟨a5,r5,rfl,t5,h5⟩;refine bkH hK (by first | (dsimp only;exact HQ.out _ _ (T4.out.trans t5)) | (exact HQ.out _ _ (T4.out.trans t5))) (fun hHeld=> ?_);clear hK K;have D5:=Aa (N4.out.done t5 h5);clear t5 h5;refine tkH (i:=12) ?_;refine A2 (by kernel_rfl) ?_ _;go_wp2;go_ret;rw[HE.out,HK0.out,HE1.out,HK1.out];exact D5.out
theorem Tryz.infoI9:(Tryz.prog.info? 3).map (fun i=>(i.zero,i.size,i.bytes))=some (some (.int .i64 0),1,8):=by kernel_rfl
theorem Rx {x:Option TypeInfo}{z:Value}{n m:Nat}(h:x.map (fun i=>(i.zero,i.size,i.bytes))=some (some z,n,m)):∃i,x=some i∧i.zero=some z∧i.size=n∧i.bytes=m:=by
 cases x with
 |none=>cases h
 |some i=>
  have:=Am h;exact⟨i,rfl,Bk (fun t=>t.1) this,Bk (fun t=>t.2.1) this,Bk (fun t=>t.2.2) this⟩
theorem Ry {B g:Nat}{X:Nat→Prop}{lv:Value}{ds:List Dt}{ar:Str→Option Nat}{m f:Nat}{x:Nd}{kv ev:Value}{env:Env}{s:Es}{w:World}{r:Option Nat}(hf:s.fuel=f+1) (hm:f≤m) (P:Pre B X g lv ds x kv ev env s w r) (ho:x.op=16) (IH:CT B g lv ds ar m):
  Calls Pq 50 #[.pointer (some ⟨g,0,none⟩),ndV x kv,ev] w (Cj B X g lv (Ag ar (m+1) x env s) r w):=by
 have HE:=Aa ((Bv hf).trans (MF (ar:=ar) (E:=Ag ar m) (env:=env) (s:=⟨f,s.out⟩) ho));have PP:=Aa P;have HO:=Aa ho;have IH:=Aa IH;obtain⟨ya,hkk,hna⟩:=Fp P.np (.inr ho);have RK0:=P.rk;rw[hkk]at RK0;obtain⟨b,off,cap,kv0,hv,hbB,hcap,⟨c0,c1,c2,c3,c4⟩,hk0⟩:=RK0.one;subst hv;obtain⟨hbw,hbg⟩:=P.nb hbB;have HKK:=Aa hkk;have HM:=Aa (show ya∈x.kids from by rw[hkk];simp);have HK0:=Aa (show x.kid 0=ya by unfold Nd.kid;rw[hkk];rfl);have SZ:Hid (s.out.length+f+1≤4000):=Aa (by have:=P.sz;omega);obtain⟨k0a,k0c,rfl⟩:=hk0.form;have HKA:=Aa hk0;have hkl:x.kids.length=1:=by rw[hkk];rfl
 clear hkk RK0 hk0;obtain⟨ea,rfl⟩:=P.re.sc_form;have hsz:=P.sz;rw[hf]at hsz;have hfl:f≤4000:=by omega
 have hx:=P.ev;rw[hf]at hx;obtain⟨ov,hb, -, -⟩:=hx.bx;have q0:∀ (cur:Array Value) (e:TypeId) j,(w.alloc (.cells cur e)).cell? ⟨g,j,none⟩= #[lv,.int .i64 ((f+1:Nat):Int),.int .i64 0,ov][j]?:=fun cur e j=>(((Ab w.heap.size w).alloc (Ad _) (.cells cur e)).cell (p:=⟨g,j,none⟩) hb.1).trans (hb.2.1 j);have f0:∀ (cur:Array Value) (e:TypeId) j,(w.alloc (.cells cur e)).frozen? ⟨g,j,none⟩=false:=fun cur e j=>(((Ab w.heap.size w).alloc (Ad _) (.cells cur e)).frozen (p:=⟨g,j,none⟩) hb.1).trans (hb.2.2 j);have hgw:g < w.heap.size:=hb.1;unfold ndV;rw[ho];have q1:=q0 #[.int .i64 16,.int .i64 x.n,.string x.s,.string x.t,.slice (some ⟨b,off,none⟩) 1 cap] 41;have f1:=f0 #[.int .i64 16,.int .i64 x.n,.string x.s,.string x.t,.slice (some ⟨b,off,none⟩) 1 cap] 41;have hne:w.heap.size≠g:=by omega
 clear P hx hb q0 f0 hsz ho hf;have HMA:=HM;obtain⟨i0,hi0,hz0,hz1,hz2⟩:=Rx Tryz.infoI9;go_enter Tryz.func50,Tryz.ntmps50;go_wp2_with fail;generalize hW:Wa _ _=W1;have N1:=PP.out.start hW;clear hW q1 f1;have N1':=Aa N1;have hka:=HKA.out.later (PP.out.ev.tw N1.tw) (Ad _);clear c0 c1 c2 c3 c4;refine(IH.out X ya _ _ env ⟨f,s.out⟩ W1 r hm (PP.out.sub N1.tw hna HMA.out (by have:=SZ.out;dsimp only;omega) N1.ev hka)).mono ?_;rintro e W2 ⟨a2,r2,rfl,t2,h2⟩;have T2:=Aa t2;clear N1 hka t2;cases hE1:Ag ar m ya env ⟨f,s.out⟩with
 |bad c o=>
  rw[hE1]at h2;obtain⟨hc,hol,f2,e2⟩:=h2;have HE1:=Aa hE1;have E2:=Aa e2;have HC:=Aa hc;have HOL:=Aa hol;have q2:=e2.cells.2.2;have hcb:(c !=0)=true:=by rcases hc with rfl |rfl <;> rfl
  clear hE1 e2 hc hol;go_wp2;go_ret;refine N1'.out.done T2.out ?_;rw[HE.out,HK0.out,HE1.out];exact .bad HC.out HOL.out E2.out
 |ok v s2=>
  rw[hE1]at h2;obtain⟨hx2,e2,hs2,hg2⟩:=h2;obtain⟨a2v,ha2⟩:=hx2.th_ptr;cases ha2
  have HE1:=Aa hE1;have HX2:=Aa hx2;have E2:=Aa e2;have HS2:=Aa hs2;have HG2:=Aa hg2;have N2:=Aa (N1'.out.step T2.out e2);have q2:=e2.cells.2.2;have qb:=N2.out.bx.2.1;clear hE1 hx2 hs2 hg2;have hai:=DT e2 HX2.out;clear e2;have HS3:Hid (s2.out.length+s2.fuel+1≤4000):=Lib.hid (by have:=EK HE1.out;have:=SZ.out;dsimp only at*;omega);have HNW:=Aa (Dk HG2.out);go_wp2_with fail;refine hai.mono ?_;rintro e W3 h3;clear q2 qb hai;unfold AsI at h3;obtain⟨rfl,e3,t3⟩:=h3;have T3:=Aa t3;by_cases hkd:kdV v=1
  ·rw[Af hkd]at e3;have N3:=Aa (N2.out.step t3 e3);have HA:=Aa (C9 s2 hkd);have HKD:=Aa hkd;have hnw:=HNW.out;generalize hnv:nmV v=nv at*;have HNV:=Aa hnv;have q3:=e3.cells.2.2;have qb:=N3.out.bx.2.1;clear hkd e3 t3 hnv;obtain⟨ov3,hb3,how,hrv⟩:=N3.out.ev.bx;have hap:=fun(v':Value) (w4:World) h1 h2 h3=>N3.out.ev.app (v':=v') (w4:=w4) (x:=nv) hb3 hrv h1 h2 h3;have HAP:=Aa hap;have q4:=hb3.2.1;have f4:=hb3.2.2;have hgW3:=hb3.1;obtain⟨oa,oc,rfl⟩:=AR how;have HB3:=Aa hb3;have HOW:=Aa how;have HRV:=Aa hrv;have hS3:=HS3.out;clear hap how hb3 q3 hrv;go_wp2_with (at_builtin;refine Dw rfl _ _ 29 rfl B 3 i0 (.int .i64 0) 1 8 Tryz.underlying29 hi0 hz0 hz1 hz2 rfl (by decide) _ _ _ rfl HOW.out #[_] rfl ?_ W3.heap.size rfl rfl ?_ ?_ ?_ ?_)
   ·rfl
   ·unfold maxLen;omega
   ·omega
   ·exact N3.out.ev.gB.2
   ·intro v' w4 ho4 hg4 hat;have A4:=Aa (HAP.out v' w4 (by simpa using ho4) hg4 hat);have hrv2:=HRV.out;have k4:=HB3.out.grown hg4 (by rw[hrv2];exact fun e=>N3.out.ev.ne e.symm);obtain⟨va,vc,rfl⟩:=AR ho4;have D4:=Lib.hid (N3.out.done (a:=some ⟨a2v,0,none⟩) (res:= .ok v ⟨s2.fuel,s2.out++ [nv]⟩) A4.out.2 ⟨HX2.out.later (T3.out.trans A4.out.2) (N2.out.ev.tw (T3.out.trans A4.out.2)),A4.out.1,by rw[List.length_append,List.length_singleton];dsimp only;omega,HG2.out⟩);have q5:=k4.2.1;have f5:=k4.2.2;have l5:=k4.1;clear ho4 hg4 hat k4 q4 f4 hrv2;go_wp2;go_ret;rw[HE.out,HK0.out,HE1.out];dsimp only[Rs.bind];rw[HA.out];exact D4.out
  ·rw[Ae hkd]at e3;have HA:=Aa (Da s2 hkd);have E3:=Aa e3;have q3:=e3.cells.2.2;have D3:=Aa (N2.out.done (X:=X) (a:=some ⟨a2v,0,none⟩) (res:= .bad 2 s2.out) T3.out (.bad (.inr rfl) (by have:=HS3.out;omega) e3));clear e3 t3 hkd;generalize nmV v=nv at*;go_wp2;go_ret;rw[HE.out,HK0.out,HE1.out];dsimp only[Rs.bind];rw[HA.out];exact D3.out
theorem Rz {B g:Nat}{X:Nat→Prop}{lv:Value}{ds:List Dt}{ar:Str→Option Nat}{m f:Nat}{x:Nd}{kv ev:Value}{env:Env}{s:Es}{w:World}{r:Option Nat}(hf:s.fuel=f+1) (hm:f≤m) (P:Pre B X g lv ds x kv ev env s w r) (ho:x.op=9) (IH:CT B g lv ds ar m):
  Calls Pq 50 #[.pointer (some ⟨g,0,none⟩),ndV x kv,ev] w (Cj B X g lv (Ag ar (m+1) x env s) r w):=by
 have HE:=Aa ((Bv hf).trans (MG (ar:=ar) (E:=Ag ar m) (env:=env) (s:=⟨f,s.out⟩) ho));have PP:=Aa P;have HO:=Aa ho;have IH:=Aa IH;obtain⟨ya,yb,yc,hkk,hna,hnb,hnc⟩:=Hw P.np ho;have RK0:=P.rk;rw[hkk]at RK0;obtain⟨b,off,cap,kv0,kv1,kv2,hv,hbB,hcap,⟨c0,c1,c2,c3,c4⟩,hk0, -,hk1, -,hk2⟩:=RK0.three;subst hv;obtain⟨hbw,hbg⟩:=P.nb hbB;have HKK:=Aa hkk;have HM:=Aa (show ya∈x.kids∧yb∈x.kids∧yc∈x.kids from by rw[hkk];simp);have HK0:=Aa (show x.kid 0=ya by unfold Nd.kid;rw[hkk];rfl);have HK1:=Aa (show x.kid 1=yb by unfold Nd.kid;rw[hkk];rfl);have HK2:=Aa (show x.kid 2=yc by unfold Nd.kid;rw[hkk];rfl);have SZ:Hid (s.out.length+f+1≤4000):=Aa (by have:=P.sz;omega);obtain⟨k0a,k0c,rfl⟩:=hk0.form;have HKA:=Aa hk0;have hkl:x.kids.length=3:=by rw[hkk];rfl
 clear hkk RK0 hk0;obtain⟨ea,rfl⟩:=P.re.sc_form;have hsz:=P.sz;rw[hf]at hsz;have hfl:f≤4000:=by omega
 have hx:=P.ev;rw[hf]at hx;obtain⟨ov,hb, -, -⟩:=hx.bx;have q0:∀ (cur:Array Value) (e:TypeId) j,(w.alloc (.cells cur e)).cell? ⟨g,j,none⟩= #[lv,.int .i64 ((f+1:Nat):Int),.int .i64 0,ov][j]?:=fun cur e j=>(((Ab w.heap.size w).alloc (Ad _) (.cells cur e)).cell (p:=⟨g,j,none⟩) hb.1).trans (hb.2.1 j);have f0:∀ (cur:Array Value) (e:TypeId) j,(w.alloc (.cells cur e)).frozen? ⟨g,j,none⟩=false:=fun cur e j=>(((Ab w.heap.size w).alloc (Ad _) (.cells cur e)).frozen (p:=⟨g,j,none⟩) hb.1).trans (hb.2.2 j);have hgw:g < w.heap.size:=hb.1;unfold ndV;rw[ho];have q1:=q0 #[.int .i64 9,.int .i64 x.n,.string x.s,.string x.t,.slice (some ⟨b,off,none⟩) 3 cap] 41;have f1:=f0 #[.int .i64 9,.int .i64 x.n,.string x.s,.string x.t,.slice (some ⟨b,off,none⟩) 3 cap] 41;have hne:w.heap.size≠g:=by omega
 clear P hx hb q0 f0 hsz ho hf;have HMA:=Aa HM.out.1;clear hk1 hk2;go_enter Tryz.func50,Tryz.ntmps50;go_wp2_with fail;generalize hW:Wa _ _=W1;have N1:=PP.out.start hW;clear hW q1 f1;have N1':=Aa N1;have hka:=HKA.out.later (PP.out.ev.tw N1.tw) (Ad _);clear c0 c1 c2 c3 c4;refine(IH.out X ya _ _ env ⟨f,s.out⟩ W1 r hm (PP.out.sub N1.tw hna HMA.out (by have:=SZ.out;dsimp only;omega) N1.ev hka)).mono ?_;rintro e W2 ⟨a2,r2,rfl,t2,h2⟩;have T2:=Aa t2;clear N1 hka t2;cases hE1:Ag ar m ya env ⟨f,s.out⟩with
 |bad c o=>
  rw[hE1]at h2;obtain⟨hc,hol,f2,e2⟩:=h2;have HE1:=Aa hE1;have E2:=Aa e2;have HC:=Aa hc;have HOL:=Aa hol;have q2:=e2.cells.2.2;have hcb:(c !=0)=true:=by rcases hc with rfl |rfl <;> rfl
  clear hE1 e2 hc hol;go_wp2;go_ret;refine N1'.out.done T2.out ?_;rw[HE.out,HK0.out,HE1.out];exact .bad HC.out HOL.out E2.out
 |ok v s2=>
  rw[hE1]at h2;obtain⟨hx2,e2,hs2,hg2⟩:=h2;obtain⟨a2v,ha2⟩:=hx2.th_ptr;cases ha2
  have HE1:=Aa hE1;have HX2:=Aa hx2;have E2:=Aa e2;have HS2:=Aa hs2;have HG2:=Aa hg2;have N2:=Aa (N1'.out.step T2.out e2);have q2:=e2.cells.2.2;have qb:=N2.out.bx.2.1;clear hE1 hx2 hs2 hg2;have hai:=DT e2 HX2.out;clear e2;have HS3:Hid (s2.out.length+s2.fuel+1≤4000):=Lib.hid (by have:=EK HE1.out;have:=SZ.out;dsimp only at*;omega);have HNW:=Aa (Dk HG2.out);go_wp2_with fail;refine hai.mono ?_;rintro e W3 h3;clear q2 qb hai;unfold AsI at h3;obtain⟨rfl,e3,t3⟩:=h3;have T3:=Aa t3;by_cases hkd:kdV v=1
  ·rw[Af hkd]at e3;have N3:=Aa (N2.out.step t3 e3);have HA:=Aa (C9 s2 hkd);have HKD:=Aa hkd;have hnw:=HNW.out;generalize hnv:nmV v=nv at*;have HNV:=Aa hnv;have q3:=e3.cells.2.2;have qb:=N3.out.bx.2.1;clear hkd e3 t3 hnv;by_cases h0:nv≠0
   ·have h0b:(nv !=0)=true:=by simpa using h0
    have h0:=Aa h0;have RK2:=PP.out.rkW N3.out.tw;rw[HKK.out]at RK2;obtain⟨b_,off_,cap_,kv0_,kv1_,kv2_,hv_,hbB_, -, -, -,⟨d0,d1,d2,d3,d4⟩,hkb, -, -⟩:=RK2.three;cases hv_
    obtain⟨kba,kbc,rfl⟩:=hkb.form;have HKB:=Aa hkb;have HLE:s2.fuel≤m:=At ((DF ar m ya env ⟨f,s.out⟩).2 v s2 HE1.out) hm;clear hkb RK2;go_wp2_with fail;clear d0 d1 d2 d3 d4 q3 qb;refine(IH.out X yb _ _ env s2 W3 r2 HLE (PP.out.sub N3.out.tw hnb HM.out.2.1 HS2.out N3.out.ev HKB.out)).mono ?_;rintro e W4 ⟨a4,r4,rfl,t4,h4⟩;have D4:=Aa (N3.out.done t4 h4);clear t4 h4;go_wp2;go_ret;rw[HE.out,HK0.out,HE1.out];dsimp only[Rs.bind];rw[HA.out];dsimp only;rw[Af h0.out,HK1.out];exact D4.out
   ·have h0':nv=0:=by omega
    have h0:=Aa h0';subst h0';have RK2:=PP.out.rkW N3.out.tw;rw[HKK.out]at RK2;obtain⟨b_,off_,cap_,kv0_,kv1_,kv2_,hv_,hbB_, -, -, -, -, -,⟨d0,d1,d2,d3,d4⟩,hkb⟩:=RK2.three;cases hv_
    obtain⟨kba,kbc,rfl⟩:=hkb.form;have HKB:=Aa hkb;have HLE:s2.fuel≤m:=At ((DF ar m ya env ⟨f,s.out⟩).2 v s2 HE1.out) hm;clear hkb RK2;go_wp2_with fail;clear d0 d1 d2 d3 d4 q3 qb;refine(IH.out X yc _ _ env s2 W3 r2 HLE (PP.out.sub N3.out.tw hnc HM.out.2.2 HS2.out N3.out.ev HKB.out)).mono ?_;rintro e W4 ⟨a4,r4,rfl,t4,h4⟩;have D4:=Aa (N3.out.done t4 h4);clear t4 h4;go_wp2;go_ret;rw[HE.out,HK0.out,HE1.out];dsimp only[Rs.bind];rw[HA.out];dsimp only;rw[Ae (fun h=>h rfl),HK2.out];exact D4.out
  ·rw[Ae hkd]at e3;have HA:=Aa (Da s2 hkd);have E3:=Aa e3;have q3:=e3.cells.2.2;have D3:=Aa (N2.out.done (X:=X) (a:=some ⟨a2v,0,none⟩) (res:= .bad 2 s2.out) T3.out (.bad (.inr rfl) (by have:=HS3.out;omega) e3));clear e3 t3 hkd;generalize nmV v=nv at*;go_wp2;go_ret;rw[HE.out,HK0.out,HE1.out];dsimp only[Rs.bind];rw[HA.out];exact D3.out
end Go.Proofs.YtifhcbeaiijkcaaGreat
end
