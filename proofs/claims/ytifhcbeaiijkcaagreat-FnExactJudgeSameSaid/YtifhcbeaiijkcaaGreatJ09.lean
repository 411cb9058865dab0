/- Parts of the proof of FnExactJudgeSame. -/
import Derived.Test.YtifhcbeaiijkcaaGreatJ05
import Derived.StillTail
import Derived.Test.YtifhcbeaiijkcaaGreatJ08
import Derived.Test.YtifhcbeaiijkcaaGreatJ01
import Derived.Test.YtifhcbeaiijkcaaGreatRows
import Derived.Laws.BytesArg
set_option linter.unusedVariables false
set_option linter.unusedSimpArgs false
set_option maxRecDepth 1000000
set_option maxHeartbeats 16000000
section
namespace Go.Proofs.YtifhcbeaiijkcaaGreat
open Go
open _root_.Go.World renaming alloc→Wa,setCell→Ws
open _root_.Go.Proofs.Tryz renaming prog→Pq
section
variable {P:Program}{ops:Array Oper}{Q:Exit→Act→World→Prop}{md:Region.Mode}{S:World→Prop}{n:Nat}
def CH (P:Program) (md:Region.Mode) (ops:Array Oper) (Q:Exit→Act→World→Prop) (S:World→Prop) (n:Nat):Nat→Array Bool→Act→World→Prop
 |0,listed,a,w=>Region.seqB md ops (ops.size - n) n listed=true∧wpList P ops Q (ops.toList.drop n) a w
 |f+1,listed,a,w=>Region.ready md ops listed≠ []∧ ∀i∈Region.ready md ops listed,i < n∧wpOp P ops Q i (fun a' w'=>S w'∧CH P md ops Q S n f (listed.setIfInBounds i true) a' w') a w
theorem LO:∀ (f:Nat) (listed:Array Bool) (a:Act) (w:World),CH P md ops Q S n f listed a w→wpAny P md ops Q (f+ (ops.size - n)) listed a w
 |0,listed,a,w,h=>by
  have:=wpAny_of_seq (md:=md) (ops:=ops) (Q':=Q) (ops.toList.drop n) n listed a w (fun j=>by simp[List.getElem?_drop]) (by simpa using h.1) h.2
  simpa using this
 |f+1,listed,a,w,h=>by
  rw[show f+1+ (ops.size - n)= (f+ (ops.size - n))+1 by omega];exact⟨fun h0=>absurd h0 h.1,fun i hi=>wpOp_mono (fun a' w' h'=>LO f _ a' w' h'.2) (h.2 i hi).2⟩
theorem Qz {i:Nat}{oi:Oper}{v:Value}(hi:ops[i]?=some oi) (hsel:∀ (j:Nat) (o:Oper) cs b,ops[j]?=some o→o.op≠ .select cs b)
  (hQ:∀c a w,Q (.panic c) (a.put oi.dst v) w→Q (.panic c) a w)
  (hs:Region.sinkB md ops n=true) (hc:Region.chainB md ops n=true) (hn:n < ops.size) (hin:i < n):
  ∀ (f:Nat) (listed:Array Bool) (a:Act) (w:World),HeadInv md ops n listed→
   (∀j oj,ops[j]?=some oj→j≠i→listed.getD j true=false→(∀e∈oj.after,Region.binds md e=true→e.on≠i)→oi.apart ops oj=true)→
   i∈Region.ready md ops listed→YieldsIf P ops S oi v a→S w→
   CH P md ops Q S n f (listed.setIfInBounds i true) (a.put oi.dst v) w→CH P md ops Q S n (f+1) listed a w:=by
 intro f;induction f with
 |zero=>
  intro listed a w inv _ hr hy hS H;have hun:=(mem_ready.1 hr).1;refine⟨fun h=>(by rw[h]at hr;cases hr),fun j hj=> ?_⟩;have hjn:j < n:=by
   rcases Nat.lt_or_ge j n with h |h
   ·exact h
   ·exact absurd hj (tail_waits hs hc hn inv _ i rfl hin hun j h)
  refine⟨hjn,?_⟩;by_cases hji:j=i
  ·subst hji;exact hy.wpOp hi hS ⟨hS,H⟩
  ·have:=seqB_ready H.1 j (ready_mono hj hji);omega
 |succ f ih=>
  intro listed a w inv hfree hr hy hS H;have hun:=(mem_ready.1 hr).1;refine⟨fun h=>(by rw[h]at hr;cases hr),fun j hj=> ?_⟩;have hjn:j < n:=by
   rcases Nat.lt_or_ge j n with h |h
   ·exact h
   ·exact absurd hj (tail_waits hs hc hn inv _ i rfl hin hun j h)
  refine⟨hjn,?_⟩;by_cases hji:j=i
  ·subst hji;exact hy.wpOp hi hS ⟨hS,H⟩
  ·have h1:=(H.2 j (ready_mono hj hji)).2;obtain⟨hjun,oj,hoj,hall⟩:=mem_ready.1 hj;have hnot:∀e∈oj.after,Region.binds md e=true→e.on≠i:=fun e he hb heq=>by
    have h1:=hall e he hb;rw[heq,getD_both hun]at h1;cases h1
   have h2:=wpOp_putIf hoj (hfree j oj hoj hji hjun hnot) (fun cs b=>hsel i oi cs b hi) (fun cs b=>hsel j oj cs b hoj) hQ hy h1;have hfree':∀k ok,ops[k]?=some ok→k≠i→(listed.setIfInBounds j true).getD k true=false→
     (∀e∈ok.after,Region.binds md e=true→e.on≠i)→oi.apart ops ok=true:=fun k ok hk hki hun hno=>by
    refine hfree k ok hk hki ?_ hno;by_cases hjk:j=k
    ·subst hjk;exact hjun
    ·rw[getD_set_ne true hjk]at hun;exact hun
   refine wpOp_mono (fun a' w' h3=>⟨h3.2.1,ih (listed.setIfInBounds j true) a' w' (inv.set hj hjn) hfree' (ready_mono hr (Ne.symm hji)) h3.1 h3.2.1 ?_⟩) h2;rw[Array.setIfInBounds_comm _ _ hji];exact h3.2.2
def Je (md:Region.Mode) (ops:Array Oper) (n:Nat) (listed:Array Bool):Bool:=
 decide (listed.size=ops.size)&& ((List.range ops.size).all (fun j=>!listed.getD j false || (match ops[j]? with |some o=>o.after.all fun e=>!Region.binds md e || listed.getD e.on false |none=>true))&&
  (List.range ops.size).all (fun t=>decide (t < n) || !listed.getD t true))
theorem QA {listed:Array Bool}(h:Je md ops n listed=true):HeadInv md ops n listed:=by
 simp only[Je,Cd,decide_eq_true_eq,BA,Ed,Bool.or_eq_true,IF]at h;obtain⟨h1,h2,h3⟩:=h;refine⟨h1,fun j oj hj hl e he hb=> ?_,fun t ht hts=> ?_⟩
 ·have hlt:j < ops.size:=(GX.1 hj).1;rcases h2 j hlt with h |h
  ·rw[h]at hl;cases hl
  ·rw[hj]at h;simp only[Array.all_eq_true',Bool.or_eq_true,IF]at h;rcases h e he with h |h
   ·rw[h]at hb;cases hb
   ·exact h
 ·rcases h3 t hts with h |h
  ·omega
  ·exact h
def Jf (md:Region.Mode) (ops:Array Oper) (n:Nat) (i:Nat) (listed:Array Bool):Bool:=
 Region.noSelect ops&& (Region.sinkB md ops n&& (Region.chainB md ops n&& (decide (n < ops.size)&& (decide (i < n)&& Je md ops n listed))))
theorem QB {i:Nat}{oi:Oper}{v:Value}{fuel:Nat}{listed:Array Bool}{a:Act}{w:World}(hi:ops[i]?=some oi)
  (hs:Jf md ops n i listed=true) (hf:Region.free md ops listed i=true) (hr:(Region.ready md ops listed).contains i=true)
  (hQ:∀c a w,Q (.panic c) (a.put oi.dst v) w→Q (.panic c) a w) (hy:YieldsIf P ops S oi v a) (hS:S w)
  (h:CH P md ops Q S n fuel (listed.setIfInBounds i true) (a.put oi.dst v) w):CH P md ops Q S n (fuel+1) listed a w:=by
 simp only[Jf,Cd,decide_eq_true_eq]at hs;obtain⟨h1,h2,h3,h4,h5,h6⟩:=hs;exact Qz hi (Region.noSelect_spec h1) hQ h2 h3 h4 h5 fuel listed a w (QA h6) (Region.free_spec hi hf) (by simpa using hr) hy hS h
def AllReadyT (P:Program) (md:Region.Mode) (ops:Array Oper) (Q:Exit→Act→World→Prop) (S:World→Prop) (n:Nat) (fuel:Nat) (listed:Array Bool) (a:Act) (w:World) (rs:List Nat):Prop:=
 ∀i∈rs,wpOp P ops Q i (fun a' w'=>S w'∧CH P md ops Q S n fuel (listed.setIfInBounds i true) a' w') a w
theorem AllReadyT.nil {fuel:Nat}{listed:Array Bool}{a:Act}{w:World}:AllReadyT P md ops Q S n fuel listed a w []:=fun _ h=>by cases h
theorem AllReadyT.cons {fuel:Nat}{listed:Array Bool}{a:Act}{w:World}{i:Nat}{o:Oper}{rs:List Nat}(ho:ops[i]?=some o)
  (h:∀K':Act→World→Prop,Shut (∀a w,S w→(S w→CH P md ops Q S n fuel (listed.setIfInBounds i true) a w)→K' a w)→if Region.wanted o (yielded ops a.tmps)=true then Oper.wp P o a w K' Q else K' (a.put o.dst undef) w)
  (hs:AllReadyT P md ops Q S n fuel listed a w rs):AllReadyT P md ops Q S n fuel listed a w (i::rs):=fun j hj=>by
 rcases List.mem_cons.1 hj with rfl |hj
 ·exact wpOp_step ho (fun K' hK=>h K' (fun a w hS hW=>hK a w ⟨hS,hW hS⟩))
 ·exact hs j hj
theorem Gv {rs:List Nat}{fuel:Nat}{listed:Array Bool}{a:Act}{w:World}(hr:Region.ready md ops listed=rs) (hne:(rs≠ [])∧ ∀i∈rs,i < n)
  (h:AllReadyT P md ops Q S n fuel listed a w rs):CH P md ops Q S n (fuel+1) listed a w:=⟨hr▸hne.1,fun i hi=>⟨hne.2 i (hr▸hi),h i (hr▸hi)⟩⟩
theorem CM {listed:Array Bool}{a:Act}{w:World}(hr:Region.seqB md ops (ops.size - n) n listed=true) (h:wpList P ops Q (ops.toList.drop n) a w):CH P md ops Q S n 0 listed a w:=⟨hr,h⟩
theorem CQ (n:Nat) {id:Nat}{a:Act}{w:World}(hm:P.follows .mixedOrders=true) (hn:decide (n≤ops.size)=true) (hS:S w.drew)
  (h:S w.drew→CH P .any ops Q S n n (Array.replicate ops.size false) a w.drew):(Code.region id ops true).wp P Q a w:=by
 have hn':n≤ops.size:=by simpa using hn
 refine wp_region_any hm ?_;have:=LO _ _ _ _ (h hS);rw[show n+ (ops.size - n)=ops.size by omega]at this;exact this
end
section
variable {P:Program}{ops:Array Oper}{Q:Exit→Act→World→Prop}{md:Region.Mode}{S:World→Prop}{n:Nat}
theorem tkT {i:Nat}{oi:Oper}{v:Value}{fuel:Nat}{listed:Array Bool}{a a':Act}{w:World}(h:CH P md ops Q S n fuel (listed.setIfInBounds i true) a' w) (hi:ops[i]?=some oi:=by (simp only[List.getElem?_toArray,List.getElem?_cons_succ,List.getElem?_cons_zero];rfl))
  (hs:Jf md ops n i listed=true:=by kernel_rfl) (hf:Region.free md ops listed i=true:=by kernel_rfl) (hr:(Region.ready md ops listed).contains i=true:=by kernel_rfl)
  (hQ:∀c a w,Q (.panic c) (a.put oi.dst v) w→Q (.panic c) a w:=by exact fun _ _ _ h=>h) (hy:YieldsIf P ops S oi v a:=by exact Or.inl ⟨by rfl,by (intro w hSw;(try dsimp only at hSw);go_simp;(try with_reducible rfl))⟩) (hS:S w:=by assumption)
  (ha:a.put oi.dst v=a':=by first | (simp only[Act.put,List.setIfInBounds_toArray,List.set_cons_zero,List.set_cons_succ];done) | (simp only[Act.put,List.setIfInBounds_toArray,List.set_cons_zero,List.set_cons_succ];rfl) |rfl):CH P md ops Q S n (fuel+1) listed a w:=by
 subst ha;exact QB hi hs hf hr hQ hy hS h
theorem bkT {fuel:Nat}{listed:Array Bool}{a a':Act}{w:World}{K:Act→World→Prop}(hK:Shut (∀a w,S w→(S w→CH P md ops Q S n fuel listed a w)→K a w)) (hS:S w) (h:S w→CH P md ops Q S n fuel listed a' w)
  (ha:a=a':=by first | (simp only[Act.put,List.setIfInBounds_toArray,List.set_cons_zero,List.set_cons_succ];done) | (simp only[Act.put,List.setIfInBounds_toArray,List.set_cons_zero,List.set_cons_succ];rfl) |rfl):K a w:=by
 subst ha;exact hK.out _ _ hS h
theorem rdT {i:Nat}{o:Oper}{fuel:Nat}{listed:Array Bool}{a:Act}{w:World}(h:∀K':Act→World→Prop,Shut (∀a w,S w→(S w→CH P md ops Q S n fuel (listed.setIfInBounds i true) a w)→K' a w)→if Region.wanted o (yielded ops a.tmps)=true then Oper.wp P o a w K' Q else K' (a.put o.dst undef) w)
  (hr:Region.ready md ops listed=[i]:=by kernel_rfl) (hn:i < n:=by decide) (ho:ops[i]?=some o:=by (simp only[List.getElem?_toArray,List.getElem?_cons_succ,List.getElem?_cons_zero];rfl)):CH P md ops Q S n (fuel+1) listed a w:=
 Gv hr (by simpa using hn) (AllReadyT.cons ho h AllReadyT.nil)
end
end Go.Proofs.YtifhcbeaiijkcaaGreat
end
section
namespace Go.Proofs.YtifhcbeaiijkcaaGreat
open Go.RowKit
open _root_.Go.World renaming alloc→Wa,setCell→Ws
open _root_.Go.Proofs.Tryz renaming prog→Pq
theorem Ir:∀ks:List Vl,ks.length≤Ar.countVs ks
 | []=>Ao _
 |x::xs=>by
  unfold Ar.countVs;have:=Ir xs;have:=EA x;simp only[List.length_cons];omega
def ShR (w:World) (u:Vl) (e:Ending) (w':World):Prop:=Below w.heap.size w w'∧ ∃kv,e= .returned (.agg (vlC u kv))∧RdTv (fun b=>w.heap.size≤b) w' u (vlC u kv)
theorem ShR.leaf {w w':World}{u:Vl}(hb:Below w.heap.size w w') (h:ksV u=[]):ShR w u (.returned (.agg (vlC u (.slice none 0 0)))) w':=
 ⟨hb,_,rfl,.mk u _ (fun _=> #[]) (.inl ⟨by rw[h];rfl,_,_,rfl⟩) (fun j hj=>by rw[h]at hj;exact absurd hj (Aw j))⟩
theorem Nj (B g:Nat) (X:Nat→Prop) (r:Option Nat):∀ (N:Nat) (u:Vl) (tv:Value) (w:World),Ar u < N→Ar u≤4000→B≤w.heap.size→g < w.heap.size→(∀k,r=some k→k < w.heap.size)→RdX B X g r w tv (.th u)→
  Calls Pq 52 #[tv] w (ShR w u)
 |0,u,tv,w,hN,hc,hB,hg,hr,ht=>by omega
 |N+1,u,tv,w,hN,hc,hB,hg,hr,ht=>by
  obtain⟨ti,hi,hz0,hz1,hz2⟩:=info_parts Tryz.infoVl;have IH:=Aa (fun(j:Nat) (hj:j < (ksV u).length) (tv:Value) (W:World) (b:Below w.heap.size w W) (h:RdX B X g r W tv (.th (ksV u)[j]))=>(by
   have:=Gj (An hj);have:=EA u;have:=b.size;exact Nj B g X r N (ksV u)[j] tv W (by omega) (by omega) (by omega) (by omega) (fun k e=>by have:=hr k e;omega) h:Calls Pq 52 #[tv] W (ShR W (ksV u)[j])))
  have hlen:(ksV u).length≤4000:=by have:=EA u;have:=Ir (ksV u);omega
  by_cases hk3:kdV u=3
  ·have HF:=Aa (Nr hk3);obtain⟨tb,tkv,tnm,tx,tbv,tev,rfl,tk,tc,pv,hpv,hvs⟩:=ht.th_form;unfold thC at tc;rw[hk3]at tc;have tl:=tk.2.2.1;clear hpv hvs ht IH hN hc hlen hk3;have c0:∀o,(w.alloc o).cell? ⟨tb,0,none⟩=some (.int .i64 3):=fun o=>(Fh (p:=⟨tb,0,none⟩) tl).trans (tc 0);clear tc;go_enter Tryz.func52,Tryz.ntmps52;go_wp2;generalize hx:w.alloc _=x;obtain⟨bx,k1⟩:=Bx.alloc hx;have q2:=k1.2.1;obtain⟨a,s2,body,env,rfl⟩:=HF.out;refine Aq (v:= .agg #[.int .i64 3,.int .i64 0,.string ⟨#[]⟩,.slice none 0 0]) ?_ rfl (ShR.leaf (u:= .fn a s2 body env) bx rfl);simp[results,Tryz.results52,go_sem,q2]
  ·have HK:=Aa hk3;have hk1:kdV u=1∨kdV u=2:=by cases u with
    |int=>exact .inl rfl
    |con=>exact .inr rfl
    |fn=>exact absurd rfl hk3
   obtain⟨tb,tkv,tnm,tx,tbv,tev,rfl,tk,tc,pv,hpv,hvs⟩:=ht.th_form;have HP:=Aa (fun(W:World) (b:Below w.heap.size w W)=>hpv.below b hr);have HV:=Aa (fun(W:World) (b:Below w.heap.size w W) (j:Nat) (h:j < (ksV u).length)=>(hvs j h).lat b hB hr);obtain⟨ta,tcp,rfl⟩:=hpv.form;have tl:=tk.2.2.1;have hq:(kdV u==3)=false:=by simpa using hk3
   have TC:=Aa tc;have hb1:∀o j,(w.alloc o).cell? ⟨tb,j,none⟩= (thC (kdV u) (nmV u) (tgV u) (.slice ta (ksV u).length tcp) tnm tx tbv tev)[j]?:=fun o j=>(Fh (p:=⟨tb,j,none⟩) tl).trans (tc j);unfold thC at hb1;clear hpv hvs ht hN hc hk3 tc;have HVC:Hid (∀kv:Value,vlC u kv= #[.int .i64 (kdV u),.int .i64 (nmV u),.string (tgV u),kv]):=Aa (fun kv=>rfl);go_enter Tryz.func52,Tryz.ntmps52;go_wp2_with fail;generalize hxx:w.alloc _=x0;obtain⟨bx,k1⟩:=Bx.alloc hxx;have hb2:=hb1 (.cells #[.int .i64 0,.int .i64 0,.string ⟨#[]⟩,.slice none 0 0] 60);rw[hxx]at hb2;have sx0:x0.heap.size=w.heap.size+1:=by rw[←hxx,Bo]
   clear hxx hb1;have sx:=bx.size;refine wp_region_held_drew (S:=(fun w'=>∀j,w'.cell? ⟨tb,j,none⟩= #[.int .i64 (kdV u),.int .i64 (nmV u),.string (tgV u),.slice ta (ksV u).length tcp,.string tnm,.int .i64 tx.op,.int .i64 tx.n,.string tx.s,.string tx.t,tbv,tev][j]?)) (by kernel_rfl) (by first | (dsimp only;exact hb2) | (exact hb2)) (fun hHeld=> ?_);refine tkH (i:=0) ?_;refine tkH (i:=1) ?_;refine tkH (i:=2) ?_;refine tkH (i:=3) ?_;refine tkH (i:=4) ?_;refine tkH (i:=5) ?_;refine tkH (i:=6) ?_;refine tkH (i:=7) ?_;refine tkH (i:=8) ?_;refine tkH (i:=9) ?_;refine tkH (i:=10) ?_;refine tkH (i:=11) ?_;refine tkH (i:=12) ?_;generalize hxd:x0.drew=x1 at hHeld;have hd:Below x0.heap.size x0 x1:=by rw[←hxd];exact(Ab _ _).drew
   replace k1:=k1.below hd k1.1;replace bx:=bx.trans (hd.mono bx.size);have s1:x1.heap.size=w.heap.size+1:=by rw[←hxd,←sx0];rfl
   clear hxd hd hb2;refine rdH (i:=13) (fun K hK=> ?_);go_simp;generalize hy:x1.alloc _=x2;obtain⟨b2,k2⟩:=Bx.alloc hy;refine bkH hK (by first | (dsimp only;exact(fun j=>(b2.cell (p:=⟨tb,j,none⟩) (by dsimp only;have:=bx.size;omega)).trans (hHeld j))) | (exact(fun j=>(b2.cell (p:=⟨tb,j,none⟩) (by dsimp only;have:=bx.size;omega)).trans (hHeld j)))) (fun hHeld=> ?_);clear hK K;rw[s1]at k2;replace k1:=k1.below b2 k1.1;have q2:=k2.2.1;have f2:=k2.2.2;have y2:=k2.1;have S0:∀x3,((((x2.setCell ⟨w.heap.size+1,0,none⟩ (.int .i64 (kdV u))).setCell ⟨w.heap.size+1,1,none⟩ (.int .i64 (nmV u))).setCell ⟨w.heap.size+1,2,none⟩ (.string (tgV u))).setCell ⟨w.heap.size+1,3,none⟩ (.slice none 0 0))=x3→Shw w x3 u 0 (.slice none 0 0):=fun x3 e=>by
    subst e;refine⟨?_,?_,?_,[],fun _=> #[],⟨by simp,.inl ⟨rfl,rfl⟩⟩,fun j hj=>absurd hj (Aw j),fun j _ hj=>absurd hj (Aw j)⟩
    ·repeat(with_reducible refine Df ?_ (by exact AJ _) _)
     exact bx.trans (b2.mono bx.size)
    ·refine Bx.grown k1 (row:=some (w.heap.size+1)) ?_ (fun e=>by have:=Am e;omega)
     (repeat(with_reducible refine grownBy.trans ?_ (grownBy.setCell _ _ _ _)));with_reducible exact grownBy.refl _ _
    ·have:=(((k2.st 0 (by simp) (.int .i64 (kdV u))).st 1 (by simp) (.int .i64 (nmV u))).st 2 (by simp) (.string (tgV u))).st 3 (by simp) (.slice none 0 0)
     simpa [vlC] using this
   have S0:=Aa S0;have HX2:=Aa (fun j=>(hHeld j:x2.cell? ⟨tb,j,none⟩=_));refine rdH (i:=14) (fun K hK=> ?_);go_simp;refine bkH hK (by first | (dsimp only;(intro j;(repeat(rw[World.cell?_setCell_other _ _ _ _ (by intro he;injection he;omega)]));exact HX2.out j)) | ((intro j;(repeat(rw[World.cell?_setCell_other _ _ _ _ (by intro he;injection he;omega)]));exact HX2.out j))) (fun hHeld=> ?_);clear hK K;refine A2 (by kernel_rfl) ?_ _;go_wp2;generalize hz:Ws (Ws _ _ _) _ _=z;have SZ:=S0.out _ hz;clear hz hHeld S0 HX2 k1 k2 q2 f2 y2 b2 bx s1 sx0 sx
   go_loopw [30] (fun i wr=>∃ (k:Nat) (kv:Value),k≤ (ksV u).length∧i= .int .i64 k∧Shw w wr u k kv) (fun i _=>(ksV u).length - (intOf i).toNat)
   case atStart=>exact⟨0,_,Ao _,rfl,SZ⟩
   case round=>
    clear SZ;obtain⟨k,kv,hk,rfl,hs⟩:=hrel;obtain⟨va,vc,rfl⟩:=hs.form;by_cases hlt:k < (ksV u).length
    ·obtain⟨pb,po,pcap,hpe,hpk,hpc,hpcell⟩:=(HP.out wr hs.bb).at_ hlt;cases hpe
     have hki:(k:Int) < ((ksV u).length:Int):=by omega
     have hu:=HV.out wr hs.bb k hlt;obtain⟨pvb,hpvb⟩:=hu.th_ptr;rw[hpvb]at hpcell;have HU:=Aa hu;have HPV:=Aa hpvb;clear hu hpvb;have HS:=Aa hs;clear hs;go_wp2_with fail;refine CQ 6 (S:=(fun w'=>∀j,w'.cell? ⟨w.heap.size+1,j,none⟩= #[.int .i64 (kdV u),.int .i64 (nmV u),.string (tgV u),.slice va k vc][j]?)) (by kernel_rfl) (by kernel_rfl) (by first | (dsimp only;exact HS.out.bt.2.1) | (exact HS.out.bt.2.1)) (fun hHeld=> ?_);refine tkT (i:=0) ?_;refine tkT (i:=1) ?_;refine tkT (i:=2) ?_;generalize hxd:wr.drew=x1 at hHeld;have hd:Below wr.heap.size wr x1:=by rw[←hxd];exact(Ab _ _).drew
     have h1:=HS.out.same hd;clear hxd;have hvk:∀q,(Value.slice va k vc).ownBlock=some q→q < x1.heap.size:=by
      obtain⟨ps,cs,ho, -⟩:=h1.row;exact A5 ho
     have hw2:w.heap.size+2≤x1.heap.size:=by have:=h1.bt.1;omega
     have HH1:=Aa h1;refine rdT (i:=3) (fun K hK=> ?_);go_simp;refine(IH.out k hlt _ x1 h1.bb (by rw[←HPV.out];exact HV.out x1 h1.bb k hlt)).mono ?_;rintro e w2 ⟨b2,kv2,rfl,c2⟩;have h2:=HH1.out.same b2;obtain⟨ka2,kc2,rfl⟩:=c2.form;unfold vlC;refine bkT hK (by first | (dsimp only;exact h2.bt.2.1) | (exact h2.bt.2.1)) (fun hHeld=> ?_);clear hK K;refine rdT (i:=4) (fun K hK=> ?_);go_simp;generalize hy:w2.alloc _=w3;obtain⟨b3,k3⟩:=Bx.alloc hy;have h3:=h2.same b3;refine bkT hK (by first | (dsimp only;exact h3.bt.2.1) | (exact h3.bt.2.1)) (fun hHeld=> ?_);clear hK K;refine Gv (rs:=[5]) (by kernel_rfl) (by simp) ?_;refine AllReadyT.cons (by (simp only[List.getElem?_toArray,List.getElem?_cons_succ,List.getElem?_cons_zero];rfl)) (fun K hK=> ?_) AllReadyT.nil;rw[Af (by rfl)];obtain⟨ps,hps,hnext⟩:=h3.app hlt (M:=x1.heap.size) hvk (by have:=b2.size;have:=b3.size;omega) hw2 (c2.later fun q hq hl=>⟨hq,Ah hl b3.size,b3.block q hl⟩);refine It _ _ 58 rfl (w.heap.size+2) 60 ti (.agg #[.int .i64 0,.int .i64 0,.string ⟨#[]⟩,.slice none 0 0]) 4 56 Tryz.underlying58 hi hz0 hz1 hz2 rfl (by decide) _ _ _ rfl hps (vlC (ksV u)[k] (.slice ka2 (ksV (ksV u)[k]).length kc2)) rfl ?_ w2.heap.size rfl ?_ ?_ ?_ ?_ ?_
     ·simp[Value.oneCell',vlC]
     ·exact k3.2.1
     ·unfold maxLen;omega
     ·omega
     ·have:=b2.size;have:=b3.size;omega
     ·intro v4 w4 o4 g4 alt;obtain⟨a4,c4,rfl⟩:=AR o4;have HN:=Aa (hnext _ w4 o4 g4 (by
       rcases alt with e |e
       ·exact .inl e
       ·exact .inr ⟨_,e,Ad _⟩))
      have K4:=h3.bt.grown g4 (fun e=>by have:=hps.lt _ e.symm;omega);unfold vlC at K4;have q4:=K4.2.1;have f4:=K4.2.2;have y4:=K4.1;refine hK.out _ _ (by first | (dsimp only;exact q4) | (exact q4)) (fun hHeld=> ?_);clear hK K
      try simp only[Act.put,List.setIfInBounds_toArray,List.set_cons_zero,List.set_cons_succ]
      clear h1 h2 h3 HH1 K4 hnext hps alt o4 g4 b2 b3 k3 c2 hd;refine CM (by kernel_rfl) ?_;dsimp only[List.drop];go_wp2;go_roundw
      case rel=>exact⟨k+1,_,hlt,by go_num,HN.out⟩
      case measure=>simp[intOf];omega
    ·obtain rfl:k= (ksV u).length:=by omega
     have hki:¬(((ksV u).length:Int) < ((ksV u).length:Int)):=by omega
     have k1:=hs.bo;have k2:=hs.bt;unfold vlC at k2;have HS:=Aa hs;clear hs;have fk1:=k1.2.2;have fk2:=k2.2.2;have ck1:=k1.2.1;have yk1:=k1.1;have ck2:=k2.2.1;have yk2:=k2.1;have hne:w.heap.size≠w.heap.size+1:=by omega
     go_wp2;have k5:=((((HS.out.bo.st 0 (by simp) (.int .i64 (kdV u))).st 1 (by simp) (.int .i64 (nmV u))).st 2 (by simp) (.string (tgV u))).st 3 (by simp) (.slice va (ksV u).length vc)).2.1;have hb5:wr.grownBy ((((wr.setCell ⟨w.heap.size,0,none⟩ (.int .i64 (kdV u))).setCell ⟨w.heap.size,1,none⟩ (.int .i64 (nmV u))).setCell ⟨w.heap.size,2,none⟩ (.string (tgV u))).setCell ⟨w.heap.size,3,none⟩ (.slice va (ksV u).length vc)) (some w.heap.size):=by
      (repeat(with_reducible refine grownBy.trans ?_ (grownBy.setCell _ _ _ _)));with_reducible exact grownBy.refl _ _
     refine Aq (v:= .agg (vlC u (.slice va (ksV u).length vc))) ?_ rfl ⟨?_,_,rfl,HS.out.done.later fun q hq hl=>⟨by omega,Ah hl hb5.size,hb5.block q hl (fun e=>by have:=Am e;omega)⟩⟩
     ·simp[results,Tryz.results52,go_sem,k5,vlC]
     ·exact HS.out.bb.trans (Below.of_grown hb5 (by have:=HS.out.bb.size;omega) (fun q e=>by have:=Am e;omega))
def dig (n:Nat):UInt8:=UInt8.ofNat (48+n)
def AQ:Nat→Nat→List UInt8
 |0,_=> []
 |f+1,n=>if n < 10 then [dig n]else AQ f (n/10)++ [dig (n%10)]
theorem DX {f n:Nat}(h:n < 10):AQ (f+1) n=[dig n]:=by rw[AQ,Af h]
theorem FL {f n:Nat}(h:¬n < 10):AQ (f+1) n=AQ f (n/10)++ [dig (n%10)]:=by rw[AQ,Ae h]
theorem PY:∀ (f g n:Nat),n < 10^ (f+1)→n < 10^ (g+1)→AQ (f+1) n=AQ (g+1) n:=by
 intro f;induction f with
 |zero=>intro g n h1 h2;rw[DX (by simpa using h1),DX (by simpa using h1)]
 |succ f ih=>
  intro g n h1 h2;by_cases h:n < 10
  ·rw[DX h,DX h]
  ·rw[FL h,FL h];cases g with
   |zero=>simp at h2;omega
   |succ g=>rw[ih g (n/10) (by rw[Nat.pow_succ]at h1;omega) (by rw[Nat.pow_succ]at h2;omega)]
theorem EU:∀ (f n:Nat),(AQ f n).length≤f:=by
 intro f;induction f with
 |zero=>intro n;simp[AQ]
 |succ f ih=>
  intro n;by_cases h:n < 10
  ·rw[DX h];simp
  ·rw[FL h];have:=ih (n/10);simp;omega
def Fk (n:Int):List UInt8:=if n < 0 then 45::AQ 20 n.natAbs else AQ 20 n.natAbs
def st (l:List UInt8):ByteArray:=⟨l.toArray⟩
def EC (n:Int):ByteArray:=st (Fk n)
theorem DK (l:List UInt8):(st l).size=l.length:=by simp[st,ByteArray.size]
theorem FM (a b:List UInt8):st a++st b=st (a++b):=by
 unfold st;rw[ByteArray.mk_append_mk]
theorem PZ (n:Int):(Fk n).length≤21:=by
 unfold Fk;have:=EU 20 n.natAbs;split
 ·simp;omega
 ·omega
theorem P2 (n:Int):(EC n).size≤21:=by unfold EC;rw[DK];exact PZ n
theorem Lo {n:Nat}:Fk (n:Int)=AQ 20 n:=by unfold Fk;rw[Ae (by omega)];rfl
theorem Lp {n:Nat}(h:0 < n):Fk (-(n:Int))=45::AQ 20 n:=by unfold Fk;rw[Af (by omega),show(-(n:Int)).natAbs=n by omega]
theorem P3 {n:Nat}(h:¬n < 10) (hn:n < 10^ 20):AQ 20 n=AQ 20 (n/10)++ [dig (n%10)]:=by
 rw[FL h,PY 18 19 (n/10) (by omega) (by omega)]
theorem I7 (l:List UInt8):(⟨#[45]⟩:ByteArray)++st l=st (45::l):=FM [45] l
theorem I8 {n:Nat}(h:n < 10):Utf8.encode (48+ (n:Int))=st [dig n]:=by
 obtain rfl |rfl |rfl |rfl |rfl |rfl |rfl |rfl |rfl |rfl:n=0∨n=1∨n=2∨n=3∨n=4∨n=5∨n=6∨n=7∨n=8∨n=9:=by omega
 all_goals rfl
theorem Hm:∀ (f n:Nat) (w:World),n < 10^ (f+1)→f≤30→n≤9223372036854775807→
  Calls Pq 59 #[.int .i64 n] w fun e w'=>e= .returned (.string (st (AQ (f+1) n)))∧w=w':=by
 intro f;induction f with
 |zero=>
  intro n w h1 h2 h3;have h1':n < 10:=by simpa using h1
  have HD:=Aa (show Utf8.encode (48+ (n:Int))=st (AQ (0+1) n)by rw[DX h1',I8 h1']);clear h1;have e0:decide ((n:Int) < 0)=false:=by simp
  have e1:decide ((n:Int) < 10)=true:=by simp;omega
  go_enter Tryz.func59,Tryz.ntmps59;go_wp2;go_ret;exact⟨by rw[←HD.out];rfl,rfl⟩
 |succ f ih=>
  intro n w h1 h2 h3;by_cases h10:n < 10
  ·have HD:=Aa (show Utf8.encode (48+ (n:Int))=st (AQ (f+1+1) n)by rw[DX h10,I8 h10]);clear h1 ih;have e0:decide ((n:Int) < 0)=false:=by simp
   have e1:decide ((n:Int) < 10)=true:=by simp;omega
   go_enter Tryz.func59,Tryz.ntmps59;go_wp2;go_ret;exact⟨by rw[←HD.out];rfl,rfl⟩
  ·have HC:=Aa (ih (n/10) w (by rw[Nat.pow_succ]at h1;omega) (by omega) (by omega));have hs:(st (AQ (f+1) (n/10))).size≤31:=by rw[DK];have:=EU (f+1) (n/10);omega
   obtain⟨m,hm⟩:∃m,n/10=m:=⟨_,rfl⟩;obtain⟨d,hd⟩:∃d,n%10=d:=⟨_,rfl⟩;have hd10:d < 10:=by omega
   have he:=I8 hd10;have hst:st (AQ (f+1) m)++Utf8.encode (48+ (d:Int))=st (AQ (f+1+1) n):=by rw[he,FM,FL h10,hm,hd]
   have hes:(Utf8.encode (48+ (d:Int))).size≤1:=by rw[he,DK];simp
   have hq:(n:Int)/10= (m:Int):=by omega
   have hr:(n:Int)%10= (d:Int):=by omega
   rw[hm]at HC hs;obtain⟨S,hS⟩:∃S,st (AQ (f+1) m)=S:=⟨_,rfl⟩;rw[hS]at HC hs hst;have HST:=Aa hst;have HQ:=Aa hq;clear h1 ih hm hd he hst hS hq;have e0:decide ((n:Int) < 0)=false:=by simp
   have e1:decide ((n:Int) < 10)=false:=by simp;omega
   have HR:=Aa hr;clear hr;go_enter Tryz.func59,Tryz.ntmps59;go_wp2_with fail;rw[HQ.out];refine HC.out.mono ?_;rintro e w' ⟨rfl,rfl⟩;have hr:=HR.out;go_wp2;go_ret;exact⟨by rw[←HST.out];rfl,rfl⟩
theorem P6:∀ (f m:Nat) (w:World),m < 10^ (f+1)→f≤30→0 < m→m≤9223372036854775808→
  Calls Pq 59 #[.int .i64 (-(m:Int))] w fun e w'=>e= .returned (.string (st (45::AQ (f+1) m)))∧w=w':=by
 intro f;induction f with
 |zero=>
  intro m w h1 h2 hm0 h3;have h10:m < 10:=by simpa using h1
  have HC:=Aa (Hm 0 m w h1 (by omega) (by omega));have hs:(st (AQ (0+1) m)).size≤31:=by rw[DK];have:=EU (0+1) m;omega
  have hst:(⟨#[45]⟩:ByteArray)++st (AQ (0+1) m)=st (45::AQ (0+1) m):=I7 _;obtain⟨S,hS⟩:∃S,st (AQ (0+1) m)=S:=⟨_,rfl⟩;rw[hS]at HC hs hst;have HST:=Aa hst;clear hS hst h1;have e1:decide ((m:Int) < 10)=true:=by simp;omega
  have hsz:(⟨#[45]⟩:ByteArray).size+S.size≤9223372036854775807:=by show 1+S.size≤_;omega
  go_enter Tryz.func59,Tryz.ntmps59;go_wp2_with fail;refine HC.out.mono ?_;rintro e w' ⟨rfl,rfl⟩;go_wp2;go_ret;exact⟨by rw[←HST.out];rfl,rfl⟩
 |succ f ih=>
  intro m w h1 h2 hm0 h3;by_cases h10:m < 10
  ·have HC:=Aa (Hm 0 m w (by simpa using h10) (by omega) (by omega));have hs:(st (AQ (0+1) m)).size≤31:=by rw[DK];have:=EU (0+1) m;omega
   have hst:(⟨#[45]⟩:ByteArray)++st (AQ (0+1) m)=st (45::AQ (f+1+1) m):=by rw[I7,DX h10,DX h10]
   obtain⟨S,hS⟩:∃S,st (AQ (0+1) m)=S:=⟨_,rfl⟩;rw[hS]at HC hs hst;have HST:=Aa hst;clear hS hst h1 ih;have e1:decide ((m:Int) < 10)=true:=by simp;omega
   have hsz:(⟨#[45]⟩:ByteArray).size+S.size≤9223372036854775807:=by show 1+S.size≤_;omega
   go_enter Tryz.func59,Tryz.ntmps59;go_wp2_with fail;refine HC.out.mono ?_;rintro e w' ⟨rfl,rfl⟩;go_wp2;go_ret;exact⟨by rw[←HST.out];rfl,rfl⟩
  ·have HC:=Aa (ih (m/10) w (by rw[Nat.pow_succ]at h1;omega) (by omega) (by omega) (by omega));have HN:=Aa (Hm 0 (m%10) w (by simp;omega) (by omega) (by omega));have hs:(st (45::AQ (f+1) (m/10))).size≤32:=by rw[DK];have:=EU (f+1) (m/10);simp;omega
   have hs2:(st (AQ (0+1) (m%10))).size≤32:=by rw[DK];have:=EU (0+1) (m%10);omega
   have hst:st (45::AQ (f+1) (m/10))++st (AQ (0+1) (m%10))=st (45::AQ (f+1+1) m):=by rw[FM,FL h10,DX (f:=0) (n:=m%10) (by omega)];rfl
   obtain⟨S,hS⟩:∃S,st (45::AQ (f+1) (m/10))=S:=⟨_,rfl⟩;obtain⟨T,hT⟩:∃T,st (AQ (0+1) (m%10))=T:=⟨_,rfl⟩;rw[hS]at HC hs hst;rw[hT]at HN hs2 hst;have HST:=Aa hst;have HQ:=Aa (show(m:Int)/10= ((m/10:Nat):Int)by omega);have HR:=Aa (show(m:Int)%10= ((m%10:Nat):Int)by omega);clear hS hT hst h1 ih;have e1:decide ((m:Int) < 10)=false:=by simp;omega
   go_enter Tryz.func59,Tryz.ntmps59;go_wp2_with fail;rw[HQ.out];refine HC.out.mono ?_;rintro e w' ⟨rfl,rfl⟩;go_wp2_with fail;rw[HR.out];refine HN.out.mono ?_;rintro e w' ⟨rfl,rfl⟩;go_wp2;go_ret;exact⟨by rw[←HST.out];rfl,rfl⟩
theorem P7 (n:Int) (w:World) (h0:-9223372036854775808≤n) (h1:n≤9223372036854775807):
  Calls Pq 59 #[.int .i64 n] w fun e w'=>e= .returned (.string (EC n))∧w=w':=by
 by_cases hn:0≤n
 ·obtain⟨m,rfl⟩:=Int.eq_ofNat_of_zero_le hn;have:=Hm 19 m w (by omega) (by omega) (by omega);unfold EC;rw[Lo];exact this
 ·obtain⟨m,hm⟩:∃m:Nat,n= -(m:Int):=⟨n.natAbs,by omega⟩;subst hm;have:=P6 19 m w (by omega) (by omega) (by omega) (by omega);unfold EC;rw[Lp (by omega)];exact this
def ED (r:Nat):List UInt8:=if r=0 then []else AQ 20 r
theorem Lq {r:Nat}(h:0 < r) (hr:r < 10^ 20):ED r=ED (r/10)++ [dig (r%10)]:=by
 unfold ED;rw[Ae (by omega)];by_cases h10:r < 10
 ·rw[Af (by omega),DX h10,show r%10=r by omega];rfl
 ·rw[Ae (by omega),P3 h10 hr]
theorem P8 {d:Nat}(h:d < 10):strOfNums [48+ (d:Int)]=st [dig d]:=by
 obtain rfl |rfl |rfl |rfl |rfl |rfl |rfl |rfl |rfl |rfl:d=0∨d=1∨d=2∨d=3∨d=4∨d=5∨d=6∨d=7∨d=8∨d=9:=by omega
 all_goals rfl
theorem I9 {d:Nat}(h:d < 10) (w:World):(convert 54 9 (.slice (some ⟨w.heap.size,0,none⟩) 1 1)).run Pq (w.alloc (.cells #[.int .u8 (48+ (d:Int))] 5))= .ok (.string (st [dig d])) (w.alloc (.cells #[.int .u8 (48+ (d:Int))] 5)):=by
 rw[←P8 h];exact run_convert_bytes_arg (P:=Pq) _ 54 5 Tryz.underlying54 Tryz.underlying5 w.heap.size 0 1 1 [48+ (d:Int)] rfl (fun i hi=>by
  obtain rfl:i=0:=by omega
  rw[J7 _ _ _ _ rfl];rfl) 9 Tryz.underlying9
theorem P9 (m:Nat) (w:World) (h0:0 < m) (h1:m≤9223372036854775807):
  Calls Pq 70 #[.int .i64 m] w fun e w'=>e= .returned (.string (st (AQ 20 m)))∧Below w.heap.size w w':=by
 have HZ:=Aa (show ED m=AQ 20 m by unfold ED;rw[Ae (by omega)]);have hlen:=EU 20 m;obtain⟨D,hD⟩:∃D,AQ 20 m=D:=⟨_,rfl⟩;rw[hD]at hlen HZ ⊢;clear hD;have e0:((m:Int)==0)=false:=by simp;omega
 have e3:decide ((m:Int) < 0)=false:=by simp
 go_enter Tryz.func70,Tryz.ntmps70;go_wp2
 go_loopw [0,4] (fun i t wr=>∃ (r:Nat) (acc:List UInt8),i= .int .i64 r∧t= .string (st acc)∧r≤9223372036854775807∧Hid (ED r++acc=D)∧Below w.heap.size w wr) (fun i _ _=>(intOf i).toNat)
 case atStart=>exact⟨m,[],rfl,rfl,h1,Aa (by rw[List.append_nil];exact HZ.out),Ab _ _⟩
 case round=>
  obtain⟨r,acc,rfl,rfl,hr,hacc,hb⟩:=hrel;have hal:acc.length≤20:=by have:=Bk List.length hacc.out;rw[Bl]at this;omega
  by_cases hr0:0 < r
  ·have e1:((r:Int) !=0)=true:=by simp;omega
   obtain⟨d,hd⟩:∃d,r%10=d:=⟨_,rfl⟩;have hd10:d < 10:=by omega
   have hq:(r:Int)%10= (d:Int):=by omega
   have HDS:=Aa (Lq hr0 (by omega));have HD:=Aa hd;clear hd;have hconv:=I9 hd10 wr;have e2:decide ((d:Int) < 0)=false:=by simp
   have hsz:(st [dig d]).size+ (st acc).size≤9223372036854775807:=by rw[DK,DK];simp;omega
   have hbb:=(hb.alloc (by exact hb.size) (.cells #[.int .u8 (48+ (d:Int))] 5));have HR2:=Aa (show(r:Int)/10= ((r/10:Nat):Int)by omega);have HBB:=Aa hbb;clear hb hbb;go_wp2;go_roundw
   case rel=>exact⟨r/10,[dig d]++acc,by rw[HR2.out],by rw[FM],by omega,Aa (by rw[←hacc.out,HDS.out,HD.out,GW]),HBB.out⟩
   case measure=>simp[intOf];omega
  ·obtain rfl:r=0:=by omega
   have HA:=Aa (show acc=D from hacc.out);clear hacc;go_wp2;go_ret;exact⟨by rw[←HA.out];rfl,hb⟩
theorem Qa (m:Nat) (w:World) (h0:0 < m) (h1:m≤9223372036854775808):
  Calls Pq 70 #[.int .i64 (-(m:Int))] w fun e w'=>e= .returned (.string (st (45::AQ 20 m)))∧Below w.heap.size w w':=by
 have HZ:=Aa (show ED m=AQ 20 m by unfold ED;rw[Ae (by omega)]);have hlen:=EU 20 m;obtain⟨D,hD⟩:∃D,AQ 20 m=D:=⟨_,rfl⟩;rw[hD]at hlen HZ ⊢;clear hD;have e0:(-(m:Int)==0)=false:=by simp;omega
 have e3:decide (-(m:Int) < 0)=true:=by simp;omega
 go_enter Tryz.func70,Tryz.ntmps70;go_wp2
 go_loopw [0,4] (fun i t wr=>∃ (r:Nat) (acc:List UInt8),i= .int .i64 (-(r:Int))∧t= .string (st acc)∧r≤9223372036854775808∧Hid (ED r++acc=D)∧Below w.heap.size w wr) (fun i _ _=>(-(intOf i)).toNat)
 case atStart=>exact⟨m,[],rfl,rfl,h1,Aa (by rw[List.append_nil];exact HZ.out),Ab _ _⟩
 case round=>
  obtain⟨r,acc,rfl,rfl,hr,hacc,hb⟩:=hrel;have hal:acc.length≤20:=by have:=Bk List.length hacc.out;rw[Bl]at this;omega
  by_cases hr0:0 < r
  ·have e1:(-(r:Int) !=0)=true:=by simp;omega
   obtain⟨d,hd⟩:∃d,r%10=d:=⟨_,rfl⟩;have hd10:d < 10:=by omega
   have hq:(r:Int)%10= (d:Int):=by omega
   have HDS:=Aa (Lq hr0 (by omega));have HD:=Aa hd;clear hd;have e2:decide ((d:Int) < 0)=false:=by simp
   have hsz:(st [dig d]).size+ (st acc).size≤9223372036854775807:=by rw[DK,DK];simp;omega
   have HR2:=Aa (show(r:Int)/10= ((r/10:Nat):Int)by omega);by_cases hd0:0 < d
   ·have hconv:=I9 hd10 wr;have hbb:=(hb.alloc (by exact hb.size) (.cells #[.int .u8 (48+ (d:Int))] 5));have HBB:=Aa hbb;clear hb hbb;go_wp2;go_roundw
    case rel=>exact⟨r/10,[dig d]++acc,by rw[HR2.out],by rw[FM],by omega,Aa (by rw[←hacc.out,HDS.out,HD.out,GW]),HBB.out⟩
    case measure=>simp[intOf];omega
   ·obtain rfl:d=0:=by omega
    have hconv:(convert 54 9 (.slice (some ⟨wr.heap.size,0,none⟩) 1 1)).run Pq (wr.alloc (.cells #[.int .u8 48] 5))= .ok (.string (st [dig 0])) (wr.alloc (.cells #[.int .u8 48] 5)):=I9 hd10 wr;have hbb:=(hb.alloc (by exact hb.size) (.cells #[.int .u8 48] 5));have HBB:=Aa hbb;clear hb hbb;go_wp2;go_roundw
    case rel=>exact⟨r/10,[dig 0]++acc,by rw[HR2.out],by rw[FM],by omega,Aa (by rw[←hacc.out,HDS.out,HD.out,GW]),HBB.out⟩
    case measure=>simp[intOf];omega
  ·obtain rfl:r=0:=by omega
   have HA:=Aa (show acc=D from hacc.out);have hsz:(⟨#[45]⟩:ByteArray).size+ (st acc).size≤9223372036854775807:=by rw[DK];show 1+acc.length≤_;omega
   clear hacc;go_wp2;go_ret;exact⟨by rw[←HA.out,←I7];rfl,hb⟩
theorem Qb (n:Int) (w:World) (h0:-9223372036854775808≤n) (h1:n≤9223372036854775807):
  Calls Pq 70 #[.int .i64 n] w fun e w'=>e= .returned (.string (EC n))∧Below w.heap.size w w':=by
 by_cases hz:n=0
 ·subst hz;go_enter Tryz.func70,Tryz.ntmps70;go_wp2;go_ret;exact⟨rfl,Ab _ _⟩
 by_cases hn:0≤n
 ·obtain⟨m,rfl⟩:=Int.eq_ofNat_of_zero_le hn;have:=P9 m w (by omega) (by omega);unfold EC;rw[Lo];exact this
 ·obtain⟨m,hm⟩:∃m:Nat,n= -(m:Int):=⟨n.natAbs,by omega⟩;subst hm;have:=Qa m w (by omega) (by omega);unfold EC;rw[Lp (by omega)];exact this
end Go.Proofs.YtifhcbeaiijkcaaGreat
end
