/- Parts of the proof of FnExactJudgeSame. -/
import Derived.Test.YtifhcbeaiijkcaaGreatJ32
import Derived.Test.YtifhcbeaiijkcaaGreatJ08
import Derived.Test.YtifhcbeaiijkcaaGreatJ04
set_option linter.unusedVariables false
set_option linter.unusedSimpArgs false
set_option maxRecDepth 1000000
set_option maxHeartbeats 16000000
section
namespace Go.Proofs.YtifhcbeaiijkcaaGreat
open Go.RowKit
open _root_.Go.World renaming alloc→Wa,setCell→Ws
open _root_.Go.Proofs.Tryz renaming prog→Pq
theorem Ev.grown {B g b:Nat}{lv:Value}{W W':World}{f c:Int}{o:List Int}{r:Option Nat}(h:Ev B g lv W f c o r) (hg:W.grownBy W' (some b)) (h1:b≠g) (h2:r≠some b):Ev B g lv W' f c o r:=by
 obtain⟨ov,hb,how,hr⟩:=h.bx;exact⟨⟨ov,hb.grown hg (fun e=>h1 (Am e).symm),how.kept hg (.inr (by rw[hr];exact h2)),hr⟩,⟨h.gB.1,At h.gB.2 hg.size⟩,h.ne⟩
theorem Tw.grown {g b:Nat}{r r':Option Nat}{w W W':World}(t:Tw g r r' w W) (hg:W.grownBy W' (some b)) (hb:w.heap.size≤b):Tw g r r' w W':=
 ⟨hg.os.trans t.os,hg.tape.trans t.tape,hg.output.trans t.output,At t.size hg.size,fun k hk h1 h2=>(hg.block k (Ah hk t.size) (fun e=>by have:=Am e;omega)).trans (t.block k hk h1 h2),fun k e=>⟨(t.row k e).1,Ah (t.row k e).2 hg.size⟩,t.own⟩
theorem Q3 {B g:Nat}{X:Nat→Prop}{lv:Value}{f:Int}{o:List Int}{r:Option Nat}{w:World}{ev:Value}{env:Env}(s:Str) (h:Ev B g lv w f 0 o r) (he:RdS B X g r w #[ev] (.sc env)) (hn:env.length≤4294967296):
  Calls Pq 119 #[.pointer (some ⟨g,0,none⟩),ev,.string s] w (LkS B X g lv f o r w (look env s)):=by
 have HE:=Aa (fun(W:World) (b:Below w.heap.size w W)=>(⟨(h.same b).1,(h.same b).2,he.later (h.same b).2 (b.mono h.gB.2)⟩:Ev B g lv W f 0 o r∧Tw g r r w W∧RdS B X g r W #[ev] (.sc env)));obtain⟨ea,ec,rfl,hat0⟩:=he.env_at;have HAT:=Aa hat0;clear hat0;clear h he;go_enter Tryz.func119,Tryz.ntmps119;go_wp2
 go_loopw [7] (fun i wr=>∃k:Nat,k≤env.length∧i= .int .i64 ((k:Int) - 1)∧Hid (look (env.drop (env.length - k)) s=look env s)∧Below w.heap.size w wr∧Bx wr w.heap.size sv0) (fun i _=>((intOf i)+1).toNat)
 case atStart=>
  generalize hx:w.alloc _=x;obtain⟨bx,k1⟩:=Bx.alloc hx;exact⟨env.length,Ad _,by go_num,Aa (by rw[FC];rfl),bx,k1⟩
 case round=>
  obtain⟨k,hk,rfl,hl,bb,k1⟩:=hrel;unfold sv0 at k1;cases k with
  |zero=>
   have hl2:Hid (look env s=none):=Aa (by have:=hl.out;rw[Nat.sub_zero,EO]at this;exact this.symm);obtain⟨h1,t1, -⟩:=HE.out wr bb;have HK1:=Aa k1;have hgw:=h1.lt;have T1:=Aa t1;have HST:=Aa (F7 h1);have HR1:=Aa h1;have hwg:g≠w.heap.size:=fun e=>by have:=HE.out w (Ab _ _);have:=this.1.lt;omega
   clear h1 t1 k1;go_wp2_with fail;refine HST.out.mono ?_;rintro e w5 ⟨rfl,h5,t5⟩;rw[Af rfl]at h5;have K5:=Aa (Bx.tw HK1.out t5 (Ne.symm hwg) (fun e=>by have:=(HE.out w (Ab _ _)).1.row _ e;omega));have c5:=K5.out.2.1;have f5:=K5.out.2.2;have y5:=K5.out.1;have H5:=Aa h5;have T5:=Aa (T1.out.trans t5);clear h5 t5;unfold sv0;go_wp2;generalize hz:Ws (Ws _ _ _) _ _=z;obtain⟨k9,g9⟩:=Bx.set12 K5.out (.int .i64 0) (.int .i64 0) (.string ⟨#[]⟩) (.slice none 0 0) (.int .i64 0) (.int .i64 0) (.string ⟨#[]⟩) (.string ⟨#[]⟩) (.slice none 0 0) (.string ⟨#[]⟩) (.string ⟨#[]⟩) (.slice none 0 0);rw[hz]at k9 g9;have c9:=k9.2.1;refine Aq (v:= .agg sv0) ?_ rfl ⟨T5.out.grown g9 (Ad _),?_⟩
   ·simp[results,Tryz.results119,go_sem,c9,sv0]
   ·rw[hl2.out];exact⟨rfl,H5.out.grown g9 (Ne.symm hwg) (fun e=>by have:=(HE.out w (Ab _ _)).1.row _ e;omega)⟩
  |succ k=>
   rw[show((k+1:Nat):Int) - 1= (k:Int)by omega];have hkr:k < env.reverse.length:=by rw[J9];omega
   obtain⟨h1,t1,he1⟩:=HE.out wr bb;obtain⟨b,off,rfl,hkp,hm,hcp,q0,c,hc,hcc⟩:=HAT.out k hkr;replace q0:=(bb.cell (p:=⟨b,off+k*13,none⟩) hkp.2.2.1).trans q0;replace hcc:=fun i hi=>(bb.cell (p:=⟨b,off+k*13+ (i+1),none⟩) hkp.2.2.1).trans (hcc i hi);have hstep:=Q2 (s:=s) hkr;have hki:(k:Int) < (env.length:Int):=by omega
   have hk0:(0:Int)≤ (k:Int):=by omega
   have HC:=Aa hc;obtain⟨a1,c1,x,a2,l2,c2,arg,self,a3,l3,c3,rfl⟩:=hc.th_form;generalize env.reverse[k]=en at*;obtain⟨nm,v⟩:=en;dsimp only at q0 hstep HC hcc;clear hc he1;by_cases hnm:nm=s
   ·have hq:=Dz hnm;have hl2:Hid (look env s=some v):=Aa (hl.out.symm.trans (hstep.trans (Af hnm)));clear hnm hstep hl;have hcells:∀i,i < 12→wr.cell? ⟨b,off+k*13+ (i+1),none⟩= (svC (kdV v) (nmV v) (tgV v) (.slice a1 (ksV v).length c1) x (.slice a2 l2 c2) arg self (.slice a3 l3 c3))[i]?:=hcc;have d0:=hcells 0 (by omega);have d1:=hcells 1 (by omega);have d2:=hcells 2 (by omega);have d3:=hcells 3 (by omega);have d4:=hcells 4 (by omega);have d5:=hcells 5 (by omega);have d6:=hcells 6 (by omega);have d7:=hcells 7 (by omega);have d8:=hcells 8 (by omega);have d9:=hcells 9 (by omega);have d10:=hcells 10 (by omega);have d11:=hcells 11 (by omega);have HK1:=Aa k1;have H1:=Aa h1;have T1:=Aa t1;have ck1:=k1.2.1;have fk1:=k1.2.2;have yk1:=k1.1;have hgw:g≠w.heap.size:=fun e=>by have:=(HE.out w (Ab _ _)).1.lt;omega
    have hrw:r≠some w.heap.size:=fun e=>by have:=(HE.out w (Ab _ _)).1.row _ e;omega
    unfold svC at d0 d1 d2 d3 d4 d5 d6 d7 d8 d9 d10 d11;have HB:=Aa bb;clear hcc hcells k1 h1 t1 bb;go_wp2;generalize hz:Ws (Ws _ _ _) _ _=z;obtain⟨k9,g9⟩:=Bx.set12 HK1.out (.int .i64 (kdV v)) (.int .i64 (nmV v)) (.string (tgV v)) (.slice a1 (ksV v).length c1) (.int .i64 x.op) (.int .i64 x.n) (.string x.s) (.string x.t) (.slice a2 l2 c2) (.string arg) (.string self) (.slice a3 l3 c3);rw[hz]at k9 g9;have c9:=k9.2.1;have T9:=T1.out.grown g9 (Ad _);have H9:=H1.out.grown g9 (Ne.symm hgw) hrw;refine Aq (v:= .agg (svC (kdV v) (nmV v) (tgV v) (.slice a1 (ksV v).length c1) x (.slice a2 l2 c2) arg self (.slice a3 l3 c3))) ?_ rfl ⟨T9,?_⟩
    ·simp[results,Tryz.results119,go_sem,c9,svC]
    ·rw[hl2.out];exact⟨_,rfl,HC.out.later T9 ((HE.out w (Ab _ _)).1.tw T9),H9⟩
   ·have hq:=Em hnm;have hl2:Hid (look (env.drop (env.length - k)) s=look env s):=Aa ((hstep.trans (Ae hnm)).symm.trans hl.out);have HB:=Aa bb;have HK1:=Aa k1;clear hnm hstep hl hcc bb k1 h1 t1;go_wp2;go_roundw
    case rel=>exact⟨k,by omega,by go_num,hl2,HB.out,HK1.out⟩
    case measure=>simp[intOf]
theorem Tryz.infoNm:(Tryz.prog.info? 229).map (fun i=>(i.zero,i.size,i.bytes))=some (some (.agg #[.string ⟨#[]⟩,.int .i64 0,.int .i64 0,.string ⟨#[]⟩,.slice none 0 0,.int .i64 0,.int .i64 0,.string ⟨#[]⟩,.string ⟨#[]⟩,.slice none 0 0,.string ⟨#[]⟩,.string ⟨#[]⟩,.slice none 0 0]),13,200):=by kernel_rfl
theorem Om {P:Program}{w:World}{ops:Array Oper}{rest:List Oper}{o:Oper}{a:Act}{Q:Exit→Act→World→Prop}(hgd:o.guard=none) (s x:Operand) (t:TypeId)
  (ho:o.op= .call {callee:= .builtin .append,args:= #[s,x],argTypes:= #[t,t]})
  (e:TypeId) (i:TypeInfo) (ht:P.underlying t=some (.slice e)) (hi:P.info? e=some i)
  (g c:Nat) (ad:Option Addr) (hs:a.eval s= .slice (some ⟨g,0,none⟩) 0 0) (hx:a.eval x= .slice ad 0 c)
  (h:wpList P ops Q rest (a.put o.dst (.slice (some ⟨g,0,none⟩) 0 0)) w):wpList P ops Q (o::rest) a w:=by
 refine wpList_plain hgd fun _ hK=> ?_;have hrun:(Builtin.append_ #[t,t] o.type #[.slice (some ⟨g,0,none⟩) 0 0,.slice ad 0 c]).run P w= .ok (.slice (some ⟨g,0,none⟩) 0 0) w:=by
  cases ad with
  |none=>simp[Builtin.append_,run_underlying ht,sizeOf,typeInfo,hi,Builtin.lenOf,Builtin.firstCells,storeCells]
  |some p=>simp[Builtin.append_,run_underlying ht,sizeOf,typeInfo,hi,Builtin.lenOf,Builtin.firstCells,storeCells,loadCells,loadCellsFrom]
 unfold Oper.wp execOp;simp only[ho,resolve,invoke,builtin,Sem.run_bind,Sem.run_pure,Result.andThen_ok,List.map_toArray,List.map_cons,List.map_nil,hs,hx,hrun];exact hK _ _ h
def Ci (n sz:Nat) (at_:Nat→Array Value):List Value:=(List.range (n*sz)).map fun j=>((at_ (j/sz))[j%sz]?).getD (.int .i64 0)
theorem CG (n sz:Nat) (at_:Nat→Array Value):(Ci n sz at_).length=n*sz:=by simp[Ci]
theorem Ex {n sz:Nat}{at_:Nat→Array Value}(hsz:∀j,j < n→(at_ j).size=sz) {j i:Nat}(hj:j < n) (hi:i < sz):(Ci n sz at_)[j*sz+i]?= (at_ j)[i]?:=by
 have hlt:j*sz+i < n*sz:=by
  have:(j+1)*sz≤n*sz:=Er _ hj;rw[Et]at this;omega
 have h1:(j*sz+i)/sz=j:=by rw[Iz,Nat.mul_add_div (by omega),Nat.div_eq_of_lt hi,Nat.add_zero]
 have h2:(j*sz+i)%sz=i:=by rw[Iz,Nat.mul_add_mod,Nat.mod_eq_of_lt hi]
 unfold Ci;rw[GS,List.getElem?_range hlt];simp only[Option.map_some,h1,h2];rw[J8 (by rw[hsz j hj];exact hi)];rfl
theorem G3 {n sz:Nat}{at_:Nat→Array Value}(hsz:∀j,j < n→(at_ j).size=sz) {k:Nat}(hk:k < n*sz):∃j i,j < n∧i < sz∧k=j*sz+i:=by
 have h0:0 < sz:=by
  rcases Fy sz with h |h
  ·rw[h]at hk;omega
  ·exact h
 exact⟨k/sz,k%sz,Nat.div_lt_of_lt_mul (by rw[Iz];exact hk),Nat.mod_lt _ h0,by rw[Iz];exact(Nat.div_add_mod k sz).symm⟩
theorem On {n sz:Nat}{at_:Nat→Array Value}(hsz:∀j,j < n→(at_ j).size=sz) (h:∀j,j < n→ ∀u∈ (at_ j).toList,u.oneCell'=true):∀u∈Ci n sz at_,u.oneCell'=true:=by
 intro u hu;obtain⟨k,hk,rfl⟩:=DG hu;rw[CG]at hk;obtain⟨j,i,hj,hi,rfl⟩:=G3 hsz hk;have:=Ex hsz hj hi;rw[Ay (by rw[CG];exact hk)]at this;refine h j hj _ ?_;rw[J8 (by rw[hsz j hj];exact hi)]at this;rw[Am this];exact Array.getElem_mem_toList _
theorem RdS.one {B g:Nat}{X:Nat→Prop}{r:Option Nat}{w:World}{c:Array Value}{v:Vl}(h:RdS B X g r w c (.th v)):∀u∈c.toList,u.oneCell'=true:=by
 obtain⟨a1,c1,x,a2,l2,c2,arg,self,a3,l3,c3,rfl⟩:=h.th_form;simp[svC,Value.oneCell']
def FormS (c:Array Value):Prop:=∃kd n s a1 l1 c1 x a2 l2 c2 arg self a3 l3 c3,c=svC kd n s (.slice a1 l1 c1) x (.slice a2 l2 c2) arg self (.slice a3 l3 c3)
theorem FormS.zero:FormS sv0:=⟨0,0,⟨#[]⟩,none,0,0,Nd.zero,none,0,0,⟨#[]⟩,⟨#[]⟩,none,0,0,rfl⟩
theorem RdS.formS {B g:Nat}{X:Nat→Prop}{r:Option Nat}{w:World}{c:Array Value}{v:Vl}(h:RdS B X g r w c (.th v)):FormS c:=by
 obtain⟨a1,c1,x,a2,l2,c2,arg,self,a3,l3,c3,rfl⟩:=h.th_form;exact⟨_,_,_,_,_,_,_,_,_,_,_,_,_,_,_,rfl⟩
def BdS (B:Nat) (X:Nat→Prop) (g:Nat) (r:Option Nat) (w:World) (env:Env) (name:Str) (c:Array Value) (e:Ending) (w':World):Prop:=∃a cap,e= .returned (.slice a (env.length+1) cap)∧Below w.heap.size w w'∧ ∀v,RdS B X g r w c (.th v)→RdS B X g r w' #[.slice a (env.length+1) cap] (.sc ((name,v)::env))
theorem RdS.env_row {B g:Nat}{X:Nat→Prop}{r:Option Nat}{w:World}{ev:Value}{env:Env}(h:RdS B X g r w #[ev] (.sc env)):∃cs:Nat→Array Value,RwAt X g r w ev env.length 13 (fun j=>svN (env.reverse[j]?.getD (eS,.int 0)).1 (cs j))∧ ∀j (h:j < env.reverse.length),RdS B X g r w (cs j) (.th env.reverse[j].2):=by
 obtain⟨c,hc⟩:∃c:Array Value,#[ev]=c:=⟨_,rfl⟩;rw[hc]at h;obtain⟨x,hx⟩:∃x,Xl.sc env=x:=⟨_,rfl⟩;rw[hx]at h;cases h with
 |int=>cases hx
 |con=>cases hx
 |fn=>cases hx
 |sc env2 ev2 cs hk hv=>
  cases hx
  cases hc
  exact⟨cs,hk,hv⟩
theorem Oo {B g:Nat}{X:Nat→Prop}{r:Option Nat}{w w':World}{env:Env}{name:Str}{v:Vl}{ev':Value}{cs:Nat→Array Value}{cv:Array Value}{base:Nat}{e:TypeId}
  (hb:Below w.heap.size w w') (hB:B≤w.heap.size) (hg:g < w.heap.size) (hr:∀k,r=some k→k < w.heap.size) (hX:∀k,X k→k < w.heap.size) (hbase:w.heap.size≤base)
  (hcs:∀j (h:j < env.reverse.length),RdS B X g r w (cs j) (.th env.reverse[j].2)) (hcv:RdS B X g r w cv (.th v))
  (ho:w'.ownsRow base e 13 ev' (env.length+1) (Ci env.length 13 (fun j=>svN (env.reverse[j]?.getD (eS,.int 0)).1 (cs j))++ (svN name cv).toList)):RdS B X g r w' #[ev'] (.sc ((name,v)::env)):=by
 have hsz:∀j,j < env.length→(svN (env.reverse[j]?.getD (eS,.int 0)).1 (cs j)).size=13:=fun j hj=>by
  have:=(hcs j (by simpa using hj)).size;unfold svN;rw[Array.size_append,this];rfl
 have hsv:(svN name cv).size=13:=by unfold svN;rw[Array.size_append,hcv.size];rfl
 have t:Tw g r r w w':=Tw.of_below hb hr;have hBB:Below B w w':=hb.mono hB;refine .sc ((name,v)::env) ev' (fun j=>if j < env.length then cs j else cv) ?_ (fun j hj=> ?_)
 ·rcases ho.2 with ⟨rfl,h0⟩ |⟨q,cap,cu,rfl,hbq,hgg,hn,hm,hc,ht⟩
  ·omega
  ·have hq:=(ho.lt q rfl);refine .inr ⟨q,0,cap,rfl,⟨by omega,fun e=>by have:=hr q e;omega,hq.2,fun e=>by have:=hX q e;omega⟩,⟨by simp only[List.length_cons];omega,hn⟩,fun j hj=> ?_⟩;simp only[List.length_cons]at hj;have hcell:∀i,i < 13→w'.cell? ⟨q,0+j*13+i,none⟩= (Ci env.length 13 (fun j=>svN (env.reverse[j]?.getD (eS,.int 0)).1 (cs j))++ (svN name cv).toList)[j*13+i]?:=fun i hi=>by
    rw[BS,Fe w' q _ cu _ (0,0) hgg,←ht,DU,Af (by omega),Array.getElem?_toList]
   by_cases hlt:j < env.length
   ·have e1:(List.reverse ((name,v)::env))[j]?=env.reverse[j]?:=by rw[List.reverse_cons,Ff (by simpa using hlt)]
    dsimp only;rw[e1,Af hlt];refine⟨hsz j hlt,fun i hi=> ?_⟩;rw[hcell i hi,Ff (by rw[CG];omega)];exact Ex hsz hlt hi
   ·obtain rfl:j=env.length:=by omega
    have e1:(List.reverse ((name,v)::env))[env.length]?=some (name,v):=by rw[List.reverse_cons,EN (by simp)];simp
    dsimp only;rw[e1,Ae hlt];refine⟨hsv,fun i hi=> ?_⟩;rw[hcell i hi,EN (by rw[CG];omega),CG,show env.length*13+i - env.length*13=i by omega,Array.getElem?_toList];rfl
 ·have hj2:=hj;simp only[J9,List.length_cons]at hj2;by_cases hlt:j < env.length
  ·rw[Af hlt];have e1:(List.reverse ((name,v)::env))[j]'(by simpa using hj)=env.reverse[j]'(by simpa using hlt):=by
    simp only[List.reverse_cons];rw[IB (by simpa using hlt)]
   rw[e1];exact(hcs j (by simpa using hlt)).later t hBB
  ·obtain rfl:j=env.length:=by omega
   rw[Ae hlt];have e1:(List.reverse ((name,v)::env))[env.length]'(by simp)= (name,v):=by
    simp only[List.reverse_cons];rw[Ka (by simp)];simp
   rw[e1];exact hcv.later t hBB
theorem Oq {name:Str}{c:Array Value}(h:∀u∈c.toList,u.oneCell'=true):∀u∈ (svN name c).toList,u.oneCell'=true:=by
 intro u hu;unfold svN at hu;rw[Array.toList_append,IC]at hu;rcases hu with hu |hu
 ·simp only[List.mem_cons,List.not_mem_nil,or_false]at hu;rw[hu];rfl
 ·exact h u hu
theorem Ot {c:Array Value}(h:FormS c):∀u∈c.toList,u.oneCell'=true:=by
 obtain⟨kd,n,s,a1,l1,c1,x,a2,l2,c2,arg,self,a3,l3,c3,rfl⟩:=h;simp[svC,Value.oneCell']
theorem AG {w:World}(o o2:Obj):Below w.heap.size w ((w.alloc o).alloc o2):=((Ab _ _).alloc (Ad _) _).alloc (by simp) _
theorem Kk {w w1:World}{cur:Array Value}{e:TypeId}{o:Obj}(hg:((w.alloc (.cells cur e)).alloc o).grownBy w1 (some (w.heap.size+1))):Bx w1 w.heap.size cur:=by
 have k1:=(Bx.alloc (w:=w) (cur:=cur) (e:=e) rfl).2;exact(k1.below ((Ab _ _).alloc (Ad _) o) k1.1).grown hg (fun e=>by have:=Am e;omega)
theorem FF {B g:Nat}{X:Nat→Prop}{r:Option Nat}{w:World}{ev:Value}{env:Env}(name:Str) {c:Array Value}(he:RdS B X g r w #[ev] (.sc env)) (hc:FormS c) (hn:env.length≤4294967296)
  (hB:B≤w.heap.size) (hg:g < w.heap.size) (hr:∀k,r=some k→k < w.heap.size) (hX:∀k,X k→k < w.heap.size):
  Calls Pq 121 #[ev,.string name,.agg c] w (BdS B X g r w env name c):=by
 obtain⟨cs,hrow,hcs⟩:=he.env_row;have H1:=Aa (Ot hc);have HEND:=Aa (fun(w':World) (e:TypeId) (ev':Value) (hb:Below w.heap.size w w') (ho:w'.ownsRow w.heap.size e 13 ev' (env.length+1) (Ci env.length 13 (fun j=>svN (env.reverse[j]?.getD (eS,.int 0)).1 (cs j))++ (svN name c).toList)) (v:Vl) (hcv:RdS B X g r w c (.th v))=>Oo hb hB hg hr hX (Ad _) hcs hcv ho);have hsz:∀j,j < env.length→((fun j=>svN (env.reverse[j]?.getD (eS,.int 0)).1 (cs j)) j).size=13:=fun j hj=>by
  have:=(hcs j (by simpa using hj)).size;dsimp only;unfold svN;rw[Array.size_append,this];rfl
 have ONE:=Aa (On hsz (fun j hj=>Oq (hcs j (by simpa using hj)).one));have LEN:=Aa (CG env.length 13 (fun j=>svN (env.reverse[j]?.getD (eS,.int 0)).1 (cs j)));have SZ:=Aa hsz;obtain⟨kd,n,s,a1,l1,c1,x,a2,l2,c2,arg,self,a3,l3,c3,rfl⟩:=hc;obtain⟨i0,hi,hz0,hz1,hz2⟩:=info_parts Tryz.infoNm;clear hcs hsz he;rcases hrow with ⟨h0,a,cap,rfl⟩ |⟨b,off,cap,rfl,hk,hm,hat⟩
 ·have hl:Ci env.length 13 (fun j=>svN (env.reverse[j]?.getD (eS,.int 0)).1 (cs j))=[]:=by rw[h0];rfl
  rw[hl]at HEND;have H0:=Aa h0;rw[h0]at HEND;clear h0 ONE LEN SZ hl;unfold svC at HEND H1 ⊢;have OWN:=Aa (fun(o:Obj)=>(FR (w:=w.alloc o) (base:=w.heap.size) (g:=w.heap.size+1) (e:=229) (by simp) (AJ _):((w.alloc o).alloc (.cells #[] 229)).ownsRow w.heap.size 229 13 (.slice (some ⟨w.heap.size+1,0,none⟩) 0 0) 0 []));go_enter Tryz.func121,Tryz.ntmps121;go_wp2_with (first | (at_builtin;refine Om rfl _ _ 104 rfl 229 i0 Tryz.underlying104 hi (w.heap.size+1) _ _ rfl rfl ?_) | (at_builtin;refine Dw rfl _ _ 104 rfl w.heap.size 229 i0 _ 13 200 Tryz.underlying104 hi hz0 hz1 hz2 rfl (by decide) _ _ _ rfl (OWN.out _) #[_,_,_,_,_,_,_,_,_,_,_,_,_] rfl ?_ (w.heap.size+2) ?_ rfl ?_ ?_ ?_ ?_))
  ·simp[Value.oneCell']
  ·unfold maxLen;omega
  ·omega
  ·intro v' w4 ho4 hg4 hat;have hb4:Below w.heap.size w w4:=Below.grown_at (AG _ _) hg4 (by simp;omega) (AJ _);obtain⟨va,vc,rfl⟩:=AR ho4;have HO:=Aa ho4;clear ho4 hg4 hat;go_wp2;go_ret;unfold BdS;rw[H0.out];exact⟨va,vc,rfl,hb4,fun v hv=>HEND.out _ _ _ hb4 HO.out v hv⟩
 ·have HAT:=Aa hat;have HCELL:=Aa (fun(W:World) (hb:Below w.heap.size w W) (j:Nat) (u:Value) (hj:(Ci env.length 13 (fun j=>svN (env.reverse[j]?.getD (eS,.int 0)).1 (cs j)))[j]?=some u)=>(by
   have hjl:j < env.length*13:=by
    rw[←LEN.out];exact(Oi.1 hj).1
   obtain⟨j1,i1,h1,h2,rfl⟩:=G3 SZ.out hjl;have h3:=Ex SZ.out h1 h2;rw[hj]at h3;have hadd:(⟨b,off,none⟩:Addr).add (j1*13+i1)=⟨b,off+ (j1*13+i1),none⟩:=by unfold Addr.add;split <;> simp_all
   rw[hadd,←Dp];exact((hb.cell (p:=⟨b,off+j1*13+i1,none⟩) hk.2.2.1).trans ((HAT.out j1 h1).2 i1 h2)).trans h3.symm:W.cell? ((⟨b,off,none⟩:Addr).add j)=some u))
  have hlen:=LEN.out;have hone:=ONE.out;generalize (Ci env.length 13 (fun j=>svN (env.reverse[j]?.getD (eS,.int 0)).1 (cs j)))=xs at*;clear hat hk;unfold svC at HEND H1 ⊢;have OWN:=Aa (fun(o:Obj)=>(FR (w:=w.alloc o) (base:=w.heap.size) (g:=w.heap.size+1) (e:=229) (by simp) (AJ _):((w.alloc o).alloc (.cells #[] 229)).ownsRow w.heap.size 229 13 (.slice (some ⟨w.heap.size+1,0,none⟩) 0 0) 0 []));go_enter Tryz.func121,Tryz.ntmps121;go_wp2_with (at_builtin;refine wpList_append_own _ rfl _ _ 104 rfl w.heap.size 229 i0 _ 13 200 Tryz.underlying104 hi hz0 hz1 hz2 rfl (by decide) _ 0 [] rfl (OWN.out _) ⟨b,off,none⟩ env.length cap xs rfl hlen (HCELL.out _ (AG _ _)) hone ?_ ?_ ?_ ?_)
  ·omega
  ·omega
  ·intro v' w1 ho hg1 hat1;have hb1:Below w.heap.size w w1:=Below.grown_at (AG _ _) hg1 (by simp;omega) (AJ _);have HO1:=Aa ho;obtain⟨va,vc,rfl⟩:=AR ho;have hsz1:=hb1.size;have kb:=(Kk hg1).2.1;have HKB:=Aa ((Kk hg1).1);clear ho hg1 hat1;go_wp2_with (at_builtin;refine Dw rfl _ _ 104 rfl w.heap.size 229 i0 _ 13 200 Tryz.underlying104 hi hz0 hz1 hz2 rfl (by decide) _ _ _ rfl HO1.out #[_,_,_,_,_,_,_,_,_,_,_,_,_] rfl ?_ w1.heap.size rfl rfl ?_ ?_ ?_ ?_)
   ·simp[Value.oneCell']
   ·unfold maxLen;omega
   ·omega
   ·exact hsz1
   ·intro v' w4 ho4 hg4 hat;have hb4:Below w.heap.size w w4:=Below.grown hb1 hg4 hsz1 (fun k hk=>(HO1.out.lt k hk).1);obtain⟨ua,uc,rfl⟩:=AR ho4;have HO:=Aa ho4;clear ho4 hg4 hat;go_wp2;go_ret;exact⟨ua,uc,rfl,hb4,fun v hv=>HEND.out _ _ _ hb4 HO.out v hv⟩
end Go.Proofs.YtifhcbeaiijkcaaGreat
end
section
namespace Go.Proofs.YtifhcbeaiijkcaaGreat
open _root_.Go.World renaming alloc→Wa,setCell→Ws
open _root_.Go.Proofs.Tryz renaming prog→Pq
inductive Lim (N:Nat):Xl→Prop
 |int (n:Int):Lim N (.th (.int n))
 |con (s:Str) (vs:List Vl) (h:∀v∈vs,Lim N (.th v)):Lim N (.th (.con s vs))
 |fn (arg self:Str) (body:Nd) (env:Env) (h:Lim N (.sc env)):Lim N (.th (.fn arg self body env))
 |sc (env:Env) (h1:env.length≤N) (h2:∀p∈env,Lim N (.th p.2)):Lim N (.sc env)
theorem Lim.mono {N M:Nat}{x:Xl}(h:Lim N x) (hM:N≤M):Lim M x:=by
 induction h with
 |int n=>exact .int n
 |con s vs _ ih=>exact .con s vs ih
 |fn arg self body env _ ih=>exact .fn arg self body env ih
 |sc env h1 _ ih=>exact .sc env (by omega) ih
theorem Lim.inv_con {N:Nat}{s:Str}{vs:List Vl}(h:Lim N (.th (.con s vs))):∀v∈vs,Lim N (.th v):=by cases h with |con _ _ h=>exact h
theorem Lim.inv_fn {N:Nat}{a s:Str}{b:Nd}{e:Env}(h:Lim N (.th (.fn a s b e))):Lim N (.sc e):=by cases h with |fn _ _ _ _ h=>exact h
theorem Lim.inv_sc {N:Nat}{e:Env}(h:Lim N (.sc e)):e.length≤N∧ ∀p∈e,Lim N (.th p.2):=by cases h with |sc _ h1 h2=>exact⟨h1,h2⟩
theorem Lim.bind {N M:Nat}{e:Env}{s:Str}{v:Vl}(h:Lim N (.sc e)) (hv:Lim M (.th v)) (hN:N+1≤M):Lim M (.sc ((s,v)::e)):=by
 obtain⟨h1,h2⟩:=h.inv_sc;refine .sc _ (by simp only[List.length_cons];omega) fun p hp=> ?_;rcases List.mem_cons.1 hp with rfl |hp
 ·exact hv
 ·exact(h2 p hp).mono (by omega)
theorem Lim.look {N:Nat}{s:Str}{v:Vl}:∀ {e:Env},Lim N (.sc e)→Go.Proofs.YtifhcbeaiijkcaaGreat.look e s=some v→Lim N (.th v)
 | [],_,h=>by simp[Go.Proofs.YtifhcbeaiijkcaaGreat.look]at h
 | (a,u)::e,hg,h=>by
  obtain⟨h1,h2⟩:=hg.inv_sc;unfold Go.Proofs.YtifhcbeaiijkcaaGreat.look at h;split at h
  ·cases h;exact h2 _ (List.mem_cons_self ..)
  ·exact Lim.look (.sc e (by simp only[List.length_cons]at h1;omega) fun p hp=>h2 p (List.mem_cons_of_mem _ hp)) h
def Ic (N:Nat) (e:Env):Prop:=∀p∈e,Lim N (.th p.2)
mutual
theorem Jv (N:Nat):∀ (p:Nd) (v:Vl) (e e':Env),Lim N (.th v)→Ic N e→BL p v e=some e'→e'.length≤e.length+wgN p+1∧Ic N e'
 | .mk op n s t0 ks,v,e,e',hv,he,h=>by
  unfold BL at h;split at h
  ·cases h;exact⟨by omega,he⟩
  ·split at h
   ·cases h
    refine⟨by simp only[List.length_cons];omega,fun p hp=> ?_⟩;rcases List.mem_cons.1 hp with rfl |hp
    ·exact hv
    ·exact he p hp
   ·split at h
    ·split at h
     ·split at h
      ·cases h;exact⟨by omega,he⟩
      ·cases h
     ·cases h
    ·split at h
     ·rename_i c vs;split at h
      ·have:=L9 N ks vs e e' hv.inv_con he h;refine⟨?_,this.2⟩;have h2:=this.1;have:=Av (.mk op n s t0 ks);simp only[Nd.s,Nd.t,Nd.kids]at this;omega
      ·cases h
     ·cases h
theorem L9 (N:Nat):∀ (ks:List Nd) (vs:List Vl) (e e':Env),(∀v∈vs,Lim N (.th v))→Ic N e→Bh ks vs e=some e'→e'.length≤e.length+wgN.wgNs ks∧Ic N e'
 | [],vs,e,e',hv,he,h=>by unfold Bh at h;cases h;exact⟨by omega,he⟩
 |k::ks,[],e,e',hv,he,h=>by unfold Bh at h;cases h
 |k::ks,v::vs,e,e',hv,he,h=>by
  unfold Bh at h;split at h
  ·rename_i e1 h1;have h2:=Jv N k v e e1 (hv v (List.mem_cons_self ..)) he h1;have h3:=L9 N ks vs e1 e' (fun u hu=>hv u (List.mem_cons_of_mem _ hu)) h2.2 h;refine⟨?_,h3.2⟩;have:=h3.1;have:=h2.1;unfold wgN.wgNs;omega
  ·cases h
end
def A3 (f:Nat):Nat:=(4000 - f)*1048576
theorem QZ {f g:Nat}(h:g≤f):A3 f≤A3 g:=Er _ (by omega)
theorem E0 {f g:Nat}(h:g < f) (hf:f≤4000):A3 f+1048576≤A3 g:=by
 unfold A3;have:(4000 - f+1)*1048576≤ (4000 - g)*1048576:=Er _ (by omega);omega
theorem CI (f:Nat):A3 f≤4194304000:=by unfold A3;have:(4000 - f)*1048576≤4000*1048576:=Er _ (by omega);omega
theorem Lim.fuel {f g:Nat}{x:Xl}(h:Lim (A3 f) x) (hg:g≤f):Lim (A3 g) x:=h.mono (QZ hg)
def LimR {α:Type}(p:Nat→α→Prop) (f0 t:Nat) (r:Rs α):Prop:=match r with
 | .ok a s=>s.fuel < f0∧s.out.length+s.fuel≤t∧p s.fuel a
 | .bad c o=>(c=1∨c=2)∧o.length≤t
theorem LimR.mono {α:Type}{p:Nat→α→Prop}{f0 t f1 t1:Nat}{r:Rs α}(h:LimR p f0 t r) (h1:f0≤f1) (h2:t≤t1):LimR p f1 t1 r:=by
 cases r with
 |ok a s=>exact⟨by have:=h.1;omega,by have:=h.2.1;omega,h.2.2⟩
 |bad c o=>exact⟨h.1,by have:=h.2;omega⟩
theorem LimR.bind {α β:Type}{p:Nat→α→Prop}{q:Nat→β→Prop}{f0 t f1 t1:Nat}{r:Rs α}{k:α→Es→Rs β}(h:LimR p f0 t r) (ht:t≤t1) (hk:∀a s,r= .ok a s→s.fuel < f0→s.out.length+s.fuel≤t→p s.fuel a→LimR q f1 t1 (k a s)):LimR q f1 t1 (r.bind k):=by
 cases r with
 |ok a s=>exact hk a s rfl h.1 h.2.1 h.2.2
 |bad c o=>exact⟨h.1,by have:=h.2;omega⟩
def pV (f:Nat) (v:Vl):Prop:=Lim (A3 f) (.th v)
def pVs (f:Nat) (vs:List Vl):Prop:=∀v∈vs,Lim (A3 f) (.th v)
theorem Ie (v:Vl) (s:Es):LimR (fun _ _=>True) (s.fuel+1) (s.out.length+s.fuel) (Co v s):=by
 cases v with
 |int n=>exact⟨by omega,Ad _,trivial⟩
 |_=>exact⟨.inr rfl,Eu _ _⟩
def If (E:Nd→Env→Es→Rs Vl):Prop:=∀x env s,Aj x=true→wgN x≤1048576→Good (.sc env)→Lim (A3 s.fuel) (.sc env)→s.fuel≤4000→LimR pV s.fuel (s.out.length+s.fuel) (E x env s)
theorem Ma {E:Nd→Env→Es→Rs Vl}(hE:If E) {env:Env}(hg:Good (.sc env)):∀ (ks:List Nd) (s:Es),(∀k∈ks,Aj k=true∧wgN k≤1048576)→Lim (A3 s.fuel) (.sc env)→s.fuel≤4000→LimR pVs (s.fuel+1) (s.out.length+s.fuel) (Bn E env ks s)
 | [],s=>fun hk hl hf=>⟨Cp _,Ad _,fun v h=>by simp at h⟩
 |k::ks,s=>fun hk hl hf=>by
  unfold Bn;have h1:=hE k env s (hk k (List.mem_cons_self ..)).1 (hk k (List.mem_cons_self ..)).2 hg hl hf;refine h1.bind (Ad _) fun v s1 _ h2 h3 h4=> ?_;have h5:=Ma hE hg ks s1 (fun k hk'=>hk k (List.mem_cons_of_mem _ hk')) (hl.fuel (by omega)) (by omega);refine(h5.mono (f1:=s.fuel+1) (by omega) h3).bind (Ad _) fun vs s2 e2 h6 h7 h8=> ?_;rw[e2]at h5;refine⟨h6,h7,fun u hu=> ?_⟩;rcases List.mem_cons.1 hu with rfl |hu
  ·exact Lim.fuel h4 (by have:=h5.1;omega)
  ·exact h8 u hu
theorem Mb {E:Nd→Env→Es→Rs Vl}(hE:If E) {env:Env}{v:Vl}(hg:Good (.sc env)) (hv:Good (.th v)) {f:Nat}(hf:f < 4000) (hl:Lim (A3 (f+1)) (.sc env)):∀ (az:List Nd) (s:Es),(∀a∈az,Cm a=true∧wgN a≤1048576)→Lim (A3 s.fuel) (.th v)→s.fuel≤f→LimR pV (f+1) (s.out.length+s.fuel) (Bi E env v az s)
 | [],s=>fun hk hlv hs=>⟨.inr rfl,Eu _ _⟩
 |a::az,s=>fun hk hlv hs=>by
  unfold Bi;have ha:=hk a (List.mem_cons_self ..);obtain⟨p,b,hka,hp,hb⟩:=Hv ha.1;have hwa:=Av a;have hwp:=AT (k:=p) (ks:=a.kids) (by rw[hka];simp);have hwb:=AT (k:=b) (ks:=a.kids) (by rw[hka];simp);split
  ·rename_i e h1;rw[(CZ hka).1]at h1;rw[(CZ hka).2];have h2:=Jv (A3 s.fuel) p v env e hlv (hl.fuel (g:=s.fuel) (by omega)).inv_sc.2 h1;have h3:=hl.inv_sc.1;have h4:=E0 (f:=f+1) (g:=s.fuel) (by omega) (by omega);exact(hE b e s hb (by omega) (Gu _ _ _ _ hv hg h1) (.sc e (by have:=h2.1;omega) h2.2) (by omega)).mono (by omega) (Ad _)
  ·exact Mb hE hg hv hf hl az s (fun a ha=>hk a (List.mem_cons_of_mem _ ha)) hlv hs
theorem Q0 {E:Nd→Env→Es→Rs Vl}(hE:If E) {f x:Vl}{s:Es}{g:Nat}(gf:Good (.th f)) (gx:Good (.th x)) (hs:s.fuel < g) (hg:g≤4000) (hf:Lim (A3 g) (.th f)) (hx:Lim (A3 s.fuel) (.th x)):LimR pV (s.fuel+1) (s.out.length+s.fuel) (Cw E f x s):=by
 cases f with
 |fn arg self body env=>
  unfold Cw;have hst:=E0 hs hg;obtain⟨h1,h2⟩:=hf.inv_fn.inv_sc;cases gf with
  |fn _ _ _ _ g1 g2 g3=>
   refine(hE body _ s g1 g2 (.cons _ _ _ gx ?_) ?_ (by omega)).mono (by omega) (Ad _)
   ·by_cases hs:self=ByteArray.empty
    ·rw[Af hs];exact g3
    ·rw[Ae hs];exact .cons _ _ _ (.fn _ _ _ _ g1 g2 g3) g3
   ·have hfs:=hf.fuel (g:=s.fuel) (by omega);by_cases hs:self=ByteArray.empty
    ·rw[Af hs];exact hf.inv_fn.bind hx (by omega)
    ·rw[Ae hs];exact(hf.inv_fn.bind (M:=A3 g+1) (hf.mono (by omega)) (by omega)).bind hx (by omega)
 |_=>exact⟨.inr rfl,Eu _ _⟩
theorem Mc (ar:Str→Option Nat):∀m,If (Ag ar m)
 |0=>fun x env s hx hw he hl hf=>⟨.inl rfl,Eu _ _⟩
 |m+1=>fun x env s hx hw he hl hf4=>by
  unfold Ag;split
  ·exact⟨.inl rfl,Eu _ _⟩
  rename_i f hf;rw[hf]at hl;rw[hf];replace hl:Lim (A3 (f+1)) (.sc env):=hl;have ih:=Mc ar m;have gd:=Hz ar m;have hwx:=Av x;have hkid:∀k∈x.kids,wgN k≤1048576:=fun k hk=>by have:=AT hk;omega
  have hle:Lim (A3 f) (.sc env):=hl.fuel (by omega);have hst:=E0 (f:=f+1) (g:=f) (by omega) (by omega);unfold AI;by_cases h1:x.op=1
  ·rw[if_pos h1];exact⟨Nat.lt_succ_self _,by dsimp only;omega,.int _⟩
  rw[Ae h1];by_cases h2:x.op=2
  ·rw[Af h2];cases hlk:look env x.s with
   |some v=>exact⟨Nat.lt_succ_self _,by dsimp only;omega,hle.look hlk⟩
   |none=>exact⟨.inr rfl,by dsimp only;omega⟩
  rw[Ae h2];by_cases h3:x.op=3
  ·rw[if_pos h3];exact⟨Nat.lt_succ_self _,by dsimp only;omega,.fn _ _ _ _ hle⟩
  rw[Ae h3];by_cases h4:x.op=4
  ·rw[Af h4];obtain⟨a,b,hk,ha,hb⟩:=Cy hx (.inl h4);obtain⟨e0,e1⟩:=CZ hk;rw[e0,e1];have ka:=hkid a (by rw[hk];simp);have kb:=hkid b (by rw[hk];simp);refine(ih a env ⟨f,s.out⟩ ha ka he hle (by dsimp only;omega)).bind (by dsimp only;omega) fun v s1 q1 l1 t1 p1=> ?_;refine(ih b env s1 hb kb he (hle.fuel (by dsimp only at l1;omega)) (by dsimp only at l1;omega)).bind (by dsimp only at t1;omega) fun u s2 q2 l2 t2 p2=> ?_;exact(Q0 ih (gd _ _ _ ha ka he _ _ q1) (gd _ _ _ hb kb he _ _ q2) l2 (by dsimp only at l1;omega) p1 p2).mono (by dsimp only at l1;omega) (by dsimp only at t1;omega)
  rw[Ae h4];by_cases h6:x.op=6
  ·rw[Af h6];obtain⟨a,b,hk,ha,hb⟩:=Cy hx (.inr (.inr (.inl h6)));obtain⟨e0,e1⟩:=CZ hk;rw[e0,e1];have ka:=hkid a (by rw[hk];simp);have kb:=hkid b (by rw[hk];simp);exact(ih b _ ⟨f,s.out⟩ hb kb (.cons _ _ _ (.fn _ _ _ _ ha ka he) he) (hl.bind (M:=A3 f) (.fn _ _ _ _ hle) (by omega)) (by dsimp only;omega)).mono (by dsimp only;omega) (by dsimp only;omega)
  rw[Ae h6];by_cases h7:x.op=7
  ·rw[Af h7];obtain⟨e,az,hk,hne,haz⟩:=Gt hx h7;have e0:x.kid 0=e:=by unfold Nd.kid;rw[hk];rfl
   rw[e0,hk];have ke:=hkid e (by rw[hk];simp);refine(ih e env ⟨f,s.out⟩ hne ke he hle (by dsimp only;omega)).bind (by dsimp only;omega) fun v s1 q1 l1 t1 p1=> ?_;exact(Mb ih he (gd _ _ _ hne ke he _ _ q1) (by omega) hl az s1 (fun a ha=>⟨haz a ha,hkid a (by rw[hk];exact List.mem_cons_of_mem _ ha)⟩) p1 (by dsimp only at l1;omega)).mono (Nat.le_refl _) (by dsimp only at t1;omega)
  rw[Ae h7];by_cases h15:x.op=15
  ·rw[Af h15];have hks:=(Ei hx h7).2;refine(Ma ih he x.kids ⟨f,s.out⟩ (fun k hk=>⟨hks k hk,hkid k hk⟩) hle (by dsimp only;omega)).bind (by dsimp only;omega) fun vs s1 q1 l1 t1 p1=> ?_;split
   ·exact⟨l1,by dsimp only at t1;omega,.con _ _ p1⟩
   ·exact⟨.inr rfl,by dsimp only at t1;omega⟩
  rw[Ae h15];have hops:=Hx hx;by_cases h16:x.op=16
  ·obtain⟨a,hk,ha⟩:=Fp hx (.inr h16);have e0:x.kid 0=a:=by unfold Nd.kid;rw[hk];rfl
   rw[e0];have ka:=hkid a (by rw[hk];simp);refine(ih a env ⟨f,s.out⟩ ha ka he hle (by dsimp only;omega)).bind (by dsimp only;omega) fun v s1 q1 l1 t1 p1=> ?_;rw[Ae (by omega)];refine(Ie v s1).bind (by dsimp only at t1;omega) fun d s2 q2 l2 t2 _=> ?_;rw[Af h16];exact⟨by dsimp only at l1 ⊢;omega,by dsimp only at t1 ⊢;simp only[List.length_append,List.length_singleton];omega,Lim.fuel p1 (by dsimp only;omega)⟩
  by_cases h9:x.op=9
  ·obtain⟨a,b,c,hk,ha,hb,hc⟩:=Hw hx h9;have e0:x.kid 0=a∧x.kid 1=b∧x.kid 2=c:=by unfold Nd.kid;rw[hk];exact⟨rfl,rfl,rfl⟩
   rw[e0.1,e0.2.1,e0.2.2];refine(ih a env ⟨f,s.out⟩ ha (hkid a (by rw[hk];simp)) he hle (by dsimp only;omega)).bind (by dsimp only;omega) fun v s1 q1 l1 t1 p1=> ?_;rw[Ae (by omega)];refine(Ie v s1).bind (by dsimp only at t1;omega) fun d s2 q2 l2 t2 _=> ?_;rw[Ae h16,Af h9];split
   ·exact(ih b env s2 hb (hkid b (by rw[hk];simp)) he (hle.fuel (by dsimp only at l1;omega)) (by dsimp only at l1;omega)).mono (by dsimp only at l1;omega) (by dsimp only at t1;omega)
   ·exact(ih c env s2 hc (hkid c (by rw[hk];simp)) he (hle.fuel (by dsimp only at l1;omega)) (by dsimp only at l1;omega)).mono (by dsimp only at l1;omega) (by dsimp only at t1;omega)
  obtain⟨a,b,hk,ha,hb⟩:=Cy hx (by omega);obtain⟨e0,e1⟩:=CZ hk;rw[e0,e1];have ka:=hkid a (by rw[hk];simp);have kb:=hkid b (by rw[hk];simp);refine(ih a env ⟨f,s.out⟩ ha ka he hle (by dsimp only;omega)).bind (by dsimp only;omega) fun v s1 q1 l1 t1 p1=> ?_;by_cases h5:x.op=5
  ·rw[Af h5];exact(ih b _ s1 hb kb (.cons _ _ _ (gd _ _ _ ha ka he _ _ q1) he) (hl.bind (M:=A3 s1.fuel) p1 (by have:=E0 (f:=f+1) (g:=s1.fuel) (by dsimp only at l1;omega) (by omega);omega)) (by dsimp only at l1;omega)).mono (by dsimp only at l1;omega) (by dsimp only at t1;omega)
  rw[Ae h5];refine(Ie v s1).bind (by dsimp only at t1;omega) fun d s2 q2 l2 t2 _=> ?_;rw[Ae h16,Ae h9];refine(ih b env s2 hb kb he (hle.fuel (by dsimp only at l1;omega)) (by dsimp only at l1;omega)).bind (by dsimp only at t1;omega) fun v2 s3 q3 l3 t3 _=> ?_;refine(Ie v2 s3).bind (by dsimp only at t1;omega) fun d2 s4 q4 l4 t4 _=> ?_;exact⟨by dsimp only at l1 ⊢;omega,by dsimp only at t1 ⊢;omega,.int _⟩
theorem Q1 {ar:Str→Option Nat}{m:Nat}{x:Nd}{env:Env}{s s':Es}{v:Vl}(hx:Aj x=true) (hw:wgN x≤1048576) (hg:Good (.sc env)) (hl:Lim (A3 s.fuel) (.sc env)) (hf:s.out.length+s.fuel≤4000) (h:Ag ar m x env s= .ok v s'):Good (.th v)∧Lim (A3 s'.fuel) (.th v)∧s'.fuel < s.fuel∧s'.out.length+s'.fuel≤4000:=by
 have h1:=Mc ar m x env s hx hw hg hl (by omega);rw[h]at h1;exact⟨Hz ar m x env s hx hw hg v s' h,h1.2.2,h1.1,by have:=h1.2.1;omega⟩
end Go.Proofs.YtifhcbeaiijkcaaGreat
end
