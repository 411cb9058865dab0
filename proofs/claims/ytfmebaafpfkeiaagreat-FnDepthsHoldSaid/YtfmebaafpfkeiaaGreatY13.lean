/- Parts of the proof of FnDepthsHold, FnEnds, FnMeant, FnMovedWhenever, FnSizes. -/
import Derived.Test.YtfmebaafpfkeiaaGreatY12
import Derived.Maps.AppendAt
import Derived.Deep.RegionHeld3
import Derived.Deep.DrawnRows
import Derived.Deep.AppendLies
import Derived.Test.YtfmebaafpfkeiaaGreatY11
import Derived.StillTailTactics
import Derived.OwnWalk
set_option linter.unusedVariables false
set_option linter.unusedSimpArgs false
set_option maxRecDepth 1000000
set_option maxHeartbeats 16000000
section
namespace Go.Proofs.YtfmebaafpfkeiaaGreat
open Go.RowKit
theorem Iu {ws:List Int}{p j:Nat}{ks:List Int}(h:j < p) (hp:p≤ws.length):(ov ws p ks).getD j 0=ws.getD j 0:=by
 unfold ov;rw[List.getD_eq_getElem?_getD,List.getElem?_append_left (by simp;omega),List.getElem?_take,if_pos h,List.getD_eq_getElem?_getD]
theorem Na {ws:List Int}{p j:Nat}{ks:List Int}(h:j < ks.length) (hp:p≤ws.length):(ov ws p ks).getD (p+j) 0=ks.getD j 0:=by
 have hl:(ws.take p).length=p:=by simp;omega
 unfold ov;rw[List.getD_eq_getElem?_getD,List.getElem?_append_right (by omega),hl,List.getElem?_append_left (by omega),List.getD_eq_getElem?_getD]
 congr 2
 omega
theorem Nb {ws ws':List Int}{nx nx':Nat}(hlow:∀j,j < nx→ws'.getD j 0=ws.getD j 0) (hh:hOk (ws'.getD nx 0)=true) (hnx:nx'=nx+1+hK (ws'.getD nx 0)):
  ∀ (f f' p:Nat) (ps:List Nat),places ws nx f p=some ps→p≤nx→nx - p≤f→nx' - p≤f'→places ws' nx' f' p=some (ps++ [nx]):=by
 have hend:∀f' p,p=nx→nx' - p≤f'→places ws' nx' f' p=some [nx]:=by
  intro f' p hp hf;subst hp;obtain⟨g,rfl⟩:∃g,f'=g+1:=⟨f' - 1,by omega⟩;rw[DK (by omega) hh (by omega),C7 (by omega)];rfl
 intro f;induction f with
 |zero=>
  intro f' p ps h hp hf hf';rw[C7 (by omega)]at h;cases h
  exact hend f' p (by omega) hf'
 |succ f ih=>
  intro f' p ps h hp hf hf';by_cases hlt:p < nx
  ·by_cases hb:hOk (ws.getD p 0)=true∧p+1+hK (ws.getD p 0)≤nx
   ·rw[DK hlt hb.1 hb.2]at h;obtain⟨r,hr,rfl⟩:=Option.map_eq_some_iff.1 h;obtain⟨g,rfl⟩:∃g,f'=g+1:=⟨f' - 1,by omega⟩;have e:=hlow p hlt;rw[DK (by omega) (by rw[e];exact hb.1) (by rw[e];omega),e,ih g _ r hr (by omega) (by omega) (by omega)];rfl
   ·rw[Ey hlt hb]at h;cases h
  ·rw[C7 hlt]at h;cases h
   exact hend f' p (by omega) hf'
theorem Nc (f:Bool) (tag:Int) (m:Nat) (h0:0≤tag) (h1:tag≤3000) (h2:m≤20):hOk (An f tag m)=true∧Ce (An f tag m)=f∧Az (An f tag m)=tag∧hK (An f tag m)=m:=by
 have k1:Cv (An f tag m)=m:=by unfold Cv An;split <;> omega
 have k2:Az (An f tag m)=tag:=by unfold Az An;split <;> omega
 refine⟨FJ.2 ⟨?_,?_,by omega,by omega⟩,?_,k2,?_⟩
 ·unfold An;split <;> omega
 ·unfold An;split <;> omega
 ·unfold Ce An;cases f
  ·simp;omega
  ·simp;omega
 ·unfold hK;rw[k1];simp
structure Putd (ws:List Int) (h b n:Nat) (f:Bool) (tag:Int) (ks:List Int) (P:Put):Prop where
 ws_:P.ws=ov ws n (An f tag ks.length::ks)
 next:P.next= ((n+1+ks.length:Nat):Int)
 at_:P.at_= (n:Int)
 ok:P.ok=true
 tag0:0≤tag∧tag≤3000
 kids:ks.length≤20
 fit:n+1+ks.length≤b+h
 right:heapOk P.ws h b P.next=true
theorem Vi {ws:List Int}{h b n:Int}{f:Bool}{tag:Int}{ks:List Int}(hk:(BG ws h b n f tag ks).ok=true):
  ∃ (h' b' n':Nat) (ps:List Nat),h=h'∧b=b'∧n=n'∧Right ws h' b' n' ps∧Putd ws h' b' n' f tag ks (BG ws h b n f tag ks):=by
 by_cases hc:heapOk ws h b n=true∧inB tag 0 3000=true∧ks.length≤20∧n+ (1+ks.length)≤b+h
 ·obtain⟨h1,h2,h3,h4⟩:=hc;obtain⟨h',b',n',ps,rfl,rfl,rfl,hR⟩:=Right.of h1;refine⟨h',b',n',ps,rfl,rfl,rfl,hR,?_⟩;have h2':=Aw.1 h2;rw[P6 h1 h2 h3 h4]at hk ⊢;split at hk
  ·rename_i h5;rw[if_pos h5];exact⟨rfl,by dsimp only;omega,rfl,rfl,h2',h3,by omega,h5⟩
  ·cases hk
 ·rw[P5 hc]at hk;cases hk
theorem Vj {ws:List Int}{h b n:Int}{f:Bool}{tag:Int}{ks:List Int}(hk:(BG ws h b n f tag ks).ok=false):BG ws h b n f tag ks=⟨ws,n,0,false⟩:=by
 unfold BG at hk ⊢;split at hk
 ·cases hk
 ·rename_i h;rw[if_neg h]
theorem Putd.block {ws:List Int}{h b n:Nat}{f:Bool}{tag:Int}{ks:List Int}{P:Put}{ps:List Nat}(hP:Putd ws h b n f tag ks P) (hR:Right ws h b n ps):
  Lq P.ws h b P.next P.at_=some n∧Ce (P.ws.getD n 0)=f∧Az (P.ws.getD n 0)=tag∧Ae P.ws n=ks:=by
 obtain⟨t0,t1,t2,t3⟩:=Nc f tag ks.length hP.tag0.1 hP.tag0.2 hP.kids;have hnl:=hR.n_le;have hfr:=hR.frame.len;have hb0:=hR.frame.n0;have hbb:=hR.frame.base;have hfit:=hP.fit;have e0:P.ws.getD n 0=An f tag ks.length:=by
  rw[hP.ws_];exact Na (ws:=ws) (p:=n) (j:=0) (ks:=An f tag ks.length::ks) (by simp) (by omega)
 rw[e0];refine⟨?_,t1,t2,?_⟩
 ·unfold Lq;rw[if_pos hP.right,hP.next,hP.at_];have hp:Bw P.ws ((b:Int)).toNat (((n+1+ks.length:Nat):Int)).toNat=some (ps++ [n]):=by
   unfold Bw;rw[Int.toNat_natCast,Int.toNat_natCast];exact Nb (ws:=ws) (nx:=n) (fun j hj=>by rw[hP.ws_];exact Iu hj (by omega)) (by rw[e0];exact t0) (by rw[e0,t3]) _ _ _ _ hR.some hb0 (Nat.le_refl _) (Nat.le_refl _)
  rw[hp];have hm:(n:Int)∈Ax (ps++ [n]):=by simp[Ax]
  simp only[hm,if_true,Int.toNat_natCast]
 ·unfold Ae;rw[e0,t3,hP.ws_];unfold ov;have hl:(ws.take n).length=n:=by simp;omega
  rw[List.drop_append,hl,List.drop_eq_nil_of_le (by omega),List.nil_append,show n+1 - n=1 by omega,List.cons_append,List.drop_succ_cons,List.drop_zero,List.take_left]
theorem Right.okB {ws:List Int}{h b n:Nat}{ps:List Nat}(hR:Right ws h b n ps):heapOk ws h b n=true:=by
 have hF:Bg ws h b n=true:=by
  unfold Bg;rw[decide_eq_true_eq];have F:=hR.frame;have f1:=F.h0;have f2:=F.h1;have f3:=F.len;have f4:=F.base;have f5:=F.n0;have f6:=F.n1;omega
 rw[Gz hF hR.some];exact hR.fit
section
variable {P:Program}(w:World)
end
theorem Fq {P:Program}{w:World}{ops:Array Oper}{rest:List Oper}{o:Oper}{a:Act}{Q:Exit→Act→World→Prop}(hgd:o.guard=none) (s x:Operand) (t:TypeId)
  (ho:o.op= .call {callee:= .builtin .append,args:= #[s,x],argTypes:= #[t,t]})
  (base:Nat) (e:TypeId) (i:TypeInfo) (z:Value) (size bytes:Nat) (ht:P.underlying t=some (.slice e)) (hi:P.info? e=some i) (hz:i.zero=some z)
  (hsize:i.size=size) (hby:i.bytes=bytes) (hzs:z.cells.size=size) (hsz:0 < size)
  (v:Value) (n:Nat) (xs:List Value) (hs:a.eval s=v) (hown:w.ownsRow base e size v n xs) (us:Array Value) (hus:us.size=size) (h1:∀u∈us.toList,u.oneCell'=true)
  (H:Nat) (hH:w.heap.size=H) (hx:a.eval x= .slice (some ⟨H,0,none⟩) 1 1)
  (h63:n+1≤maxLen) (hbytes:(n+1)*bytes≤140737488355328) (hbase:base≤w.heap.size)
  (h:∀v' w',w'.ownsRow base e size v' (n+1) (xs++us.toList)→w.grownBy w' v.ownBlock→(v'.ownBlock=v.ownBlock∨v'.ownBlock=some (H+1))→wpList P ops Q rest (a.put o.dst v') w'):
  wpList P ops Q (o::rest) a (w.alloc (.cells us e)):=by
 subst hH;refine wpList_plain hgd fun K hK=> ?_;obtain⟨v',w',hrun,h2,h3,_,h5⟩:=run_append_own_at (P:=P) (w.alloc (.cells us e)) base t o.type e i z size bytes ht hi hz hsize hby hzs hsz v n xs (hown.alloc _) ⟨w.heap.size,0,none⟩ 1 1 us.toList (by simp[hus]) (by
  intro j u hj;have hadd:(⟨w.heap.size,0,none⟩:Addr).add j=⟨w.heap.size,j,none⟩:=by unfold Addr.add;split <;> simp_all
  rw[hadd,World.cell?_alloc_at _ _ _ _ rfl]
  simpa using hj) h1 h63 hbytes (by simp;omega)
 unfold Oper.wp execOp;simp only[ho,resolve,invoke,builtin,Sem.run_bind,Sem.run_pure,Result.andThen_ok,List.map_toArray,List.map_cons,List.map_nil,hs,hx,hrun];exact hK _ _ (h v' w' h2 ((World.grownBy_alloc w _ _).trans' h3) (by simpa using h5))
theorem Hl {base:Nat}{e:TypeId}{w:World}{a:Option Addr}{cap n:Nat}{xs:List Value}(h:w.ownsRow base e 1 (.slice a n cap) n xs) (j:Nat) (hj:j < n):∃g,a=some ⟨g,0,none⟩ ∧w.cell? ⟨g,j,none⟩=xs[j]?:=by
 rcases h.2 with ⟨hv,_⟩ |⟨g,cap',cur,hv,_⟩
 ·injection hv with _ h2 _
  omega
 ·cases hv
  exact⟨g,rfl,AN h j hj⟩
theorem P7 {x:World}{o:Obj}{p:Addr}(h:p.block < x.heap.size):(x.alloc o).cell? p=x.cell? p:=((Below.refl x.heap.size x).alloc (Nat.le_refl _) o).cell h
def cellAt (w:World) (p:Addr):Value:=(w.cell? p).getD undef
def Has (w:World) (p:Addr):Prop:=∃u,w.cell? p=some u
theorem Has.drew {w:World}{p:Addr}(h:Has w p):Has w.drew p:=h
theorem Has.alloc {w:World}{p:Addr}(h:Has w p) (hp:p.block < w.heap.size) (o:Obj):Has (w.alloc o) p:=by
 obtain⟨u,hu⟩:=h;exact⟨u,(P7 hp).trans hu⟩
theorem Has.grown {w w':World}{p:Addr}{row:Option Nat}(h:Has w p) (hg:w.grownBy w' row) (hp:p.block < w.heap.size) (hne:some p.block≠row):Has w' p:=by
 obtain⟨u,hu⟩:=h;exact⟨u,(hg.cell_far p hp hne).trans hu⟩
theorem Has.setCell {w:World}{p:Addr}(h:Has w p) (q:Addr) (x:Value):Has (w.setCell q x) p:=by
 obtain⟨u,hu⟩:=h;obtain⟨v,hv⟩:=cell?_setCell_some (w:=w) (p:=q) (x:=x) (q:=p) (v:=u) hu;exact⟨v,hv⟩
theorem Below.grown_at {B g:Nat}{w0 w w':World}(hb:Below B w0 w) (hg:w.grownBy w' (some g)) (hB:B≤w.heap.size) (hr:B≤g):Below B w0 w':=
 hb.grown hg hB (fun k hk=>by cases hk;exact hr)
theorem M9 (f:Bool) (tag:Int) (m:Nat) (w:World) (h0:0≤tag) (h1:tag≤3000) (h2:m≤20):
  Calls Tryz.prog 229 #[.bool f,.int .i64 tag,.int .i64 m] w fun e w'=>e= .returned (.int .i64 (An f tag m))∧w'=w:=by
 have HI:=Lib.hid (fun(n:Int) (h:0≤n) (h':n≤1000000)=>(show BT n=2*n+1 from if_pos (Aw.2 ⟨by omega,by omega⟩)));cases f
 ·have HD:=Lib.hid (show An false tag m=2* (2* (64*tag+m))+1 by simp[An]);go_enter Tryz.func229,Tryz.ntmps229;go_wp2_with (go_at_call 158;refine(Fo _ _).mono ?_;rw[HI.out _ (by omega) (by omega)];rintro e w' ⟨rfl,rfl⟩);go_ret;exact⟨DQ HD.out.symm,rfl⟩
 ·have HD:=Lib.hid (show An true tag m=2* (2* (64*tag+m)+1)+1 by simp[An]);go_enter Tryz.func229,Tryz.ntmps229;go_wp2_with (go_at_call 158;refine(Fo _ _).mono ?_;rw[HI.out _ (by omega) (by omega)];rintro e w' ⟨rfl,rfl⟩);go_ret;exact⟨DQ HD.out.symm,rfl⟩
theorem AS {w x:World}{A B:Array Value}{e f:TypeId}(h:(w.alloc (.cells A e)).alloc (.cells B f)=x):
  Below w.heap.size w x∧Bx x w.heap.size A∧Bx x (w.heap.size+1) B∧x.heap.size=w.heap.size+2:=by
 obtain⟨b1,k1⟩:=Bx.alloc (w:=w) (cur:=A) (e:=e) rfl;obtain⟨b2,k2⟩:=Bx.alloc (w:=w.alloc (.cells A e)) (cur:=B) (e:=f) rfl;have s1:(w.alloc (.cells A e)).heap.size=w.heap.size+1:=by simp
 rw[s1]at k2 b2;subst h;exact⟨b1.trans (b2.mono (by omega)),k1.below b2 (by omega),k2,by simp⟩
theorem Gy {B:Nat}(v:Value) (zs:List Int) (h b nx:Int) (w:World) (hr:Rd B .i64 w v zs) (hn:zs.length≤4294967296):
  Calls Tryz.prog 66 #[.agg #[v,.int .i64 h,.int .i64 b,.int .i64 nx]] w fun e w'=>∃v',e= .returned (.agg #[v',.int .i64 h,.int .i64 b,.int .i64 nx])∧
   w'.ownsRow w.heap.size 3 1 v' zs.length (zs.map (Value.int .i64))∧Below w.heap.size w w':=by
 have hr':=fun(w':World) (hb:Below w.heap.size w w')=>hr.below' hb;obtain⟨a,cap,rfl⟩:=hr.form;clear hr;go_enter Tryz.func66,Tryz.ntmps66;go_wp2_with fail;generalize hx:(w.alloc _).alloc _=x;obtain⟨bx,k1,k2,sx⟩:=AS hx;clear hx;have q1:=k1.2.1;have y1:=k1.1;go_wp2_with fail;refine(Ft _ _ _ (hr' _ bx) hn).mono ?_;rintro e w1 ⟨v1,rfl,o1,b1⟩;obtain⟨a1,c1,rfl⟩:=AC o1;clear q1 y1;replace k1:=k1.below b1 k1.1;replace k2:=k2.below b1 k2.1;have q1:=k1.2.1;have q2:=k2.2.1;have f1:=k1.2.2;have f2:=k2.2.2;have y1:=k1.1;have y2:=k2.1;have HS:=Lib.hid sx;clear k1 k2 sx hr';have HO:=Lib.hid o1;have b2:=bx.trans (b1.mono bx.size);clear o1 bx b1;go_wp2;refine bodyPost_ret (v:= .agg #[.slice a1 zs.length c1,.int .i64 h,.int .i64 b,.int .i64 nx]) ?_ rfl ⟨_,rfl,?_,?_⟩
 ·simp[results,Tryz.results66,go_sem,q2]
 ·have hs:=HS.out;refine AR (base:=x.heap.size) ?_ (by omega)
  repeat(refine ownsRow_setCell_below ?_ (by dsimp only;omega) _)
  exact HO.out
 ·repeat(refine Below.setCell ?_ (by dsimp only;omega) _)
  exact b2
theorem Bx.set {w:World}{g:Nat}{cur:Array Value}(h:Bx w g cur) (i:Nat) (hi:i < cur.size) (u:Value):Bx (w.setCell ⟨g,i,none⟩ u) g (cur.setIfInBounds i u):=by
 refine⟨by rw[World.size_setCell];exact h.1,fun j=> ?_,fun j=>by rw[World.frozen?_setCell];exact h.2.2 j⟩;by_cases hj:i=j
 ·subst hj;rw[World.cell?_setCell_same _ _ _ ((h.2.1 i).trans (Array.getElem?_eq_getElem hi))];simp[hi]
 ·rw[World.cell?_setCell_other _ _ _ _ (by intro he;injection he;exact hj (by assumption)),h.2.1 j,Array.getElem?_setIfInBounds_ne hj]
theorem grownBy.row {w w':World}{g:Nat}(cs:Array Value) (h:w.setRow g cs=w'):w.grownBy w' (some g):=by
 subst h;exact⟨rfl,rfl,rfl,by simp,fun k _ hne=>setRow_other w g k cs (by intro h;exact hne (by rw[h]))⟩
def Kept2 (w w':World) (g gr:Nat):Prop:=w.heap.size≤w'.heap.size∧ ∀i,i < w.heap.size→i≠g→i≠gr→w'.heap[i]?=w.heap[i]?
theorem Kept2.grown {a b c:World}{g gr:Nat}{row:Option Nat}(h:Kept2 a b g gr) (k:b.grownBy c row) (hr:row=some g∨row=some gr):Kept2 a c g gr:=
 ⟨Nat.le_trans h.1 k.size,fun i hi h1 h2=>(k.block i (Nat.lt_of_lt_of_le hi h.1) (by rcases hr with e |e <;> (rw[e];intro hh;have:=Option.some.inj hh;omega))).trans (h.2 i hi h1 h2)⟩
theorem Kept2.drew (w:World) (g gr:Nat):Kept2 w w.drew g gr:=⟨Nat.le_refl _,fun i _ _ _=>rfl⟩
theorem Y1 {base B g:Nat}(v vk:Value) (ws ks:List Int) (h b:Int) (n:Nat) (f:Bool) (tag:Int) (w:World) (kb:Bx w g #[v,.int .i64 h,.int .i64 b,.int .i64 n])
  (ho:w.ownsRow base 3 1 v ws.length (ws.map (Value.int .i64))) (hg:base≤g) (hne:some g≠v.ownBlock) (rk:Rd B .i64 w vk ks) (hB:B≤base) (h0:0≤tag) (h1:tag≤3000) (h2:ks.length≤20) (hfit:n+1+ks.length≤ws.length) (hlen:ws.length≤6000):
  Calls Tryz.prog 142 #[.pointer (some ⟨g,0,none⟩),.bool f,.int .i64 tag,vk] w fun e w'=>e= .returned (.int .i64 n)∧
   w'.ownsRow base 3 1 v ws.length ((ov ws n (An f tag ks.length::ks)).map (Value.int .i64))∧Bx w' g #[v,.int .i64 h,.int .i64 b,.int .i64 (n+ (1+ks.length))]∧Below base w w'∧ ∀gr,v.ownBlock=some gr→Kept2 w w' g gr:=by
 obtain⟨a,cap,rfl⟩:=AC ho;obtain⟨ka,kc,rfl⟩:=rk.form;rcases ho.2 with ⟨hv,_⟩ |⟨gr,cap',cur',hv,_⟩
 ·injection hv;omega
 cases hv
 have hbg:base≤gr:=(ho.lt gr rfl).1;have hcap:ws.length≤cap:=by obtain⟨_,_,_,_,h⟩:=Hk ho;exact h
 have q1:=kb.2.1;have f1:=kb.2.2;have y1:=kb.1;have hnn:(n:Int) < (ws.length:Int):=by omega
 have hgr:¬g=gr:=fun h=>hne (by rw[h];rfl);have hgr':¬gr=g:=fun h=>hgr h.symm;obtain⟨i0,hi,hz0,hz1,hz2⟩:=info_parts Tryz.infoI2;have hhd:=Hj f tag ks.length h0 h1 h2;obtain⟨hd,hhe⟩:∃hd,An f tag ks.length=hd:=⟨_,rfl⟩;have hC:=fun(w:World)=>M9 f tag ks.length w h0 h1 h2;rw[hhe]at hC hhd ⊢;obtain⟨hd0,hd1⟩:=hhd;have HC:=Lib.hid hC;clear hC hhe;generalize hwd:w.drew=w2;have bd:Below w.heap.size w w2:=by rw[←hwd];exact(Below.refl _ _).drew
 have k2:=kb.below bd y1;have bb:=bd.mono (show base≤w.heap.size by omega);have o2:=Al ho bd (Af ho);have o3:=Eh o2 n (by omega) (.int .i64 hd);rw[←List.map_set,Li _ (by omega)]at o3;have k3:=k2.grown (grownBy.setCell w2 gr n (.int .i64 hd)) (fun h=>hgr (Option.some.inj h));have bb3:=bb.setCell (p:=⟨gr,n,none⟩) hbg (.int .i64 hd);have r3:=rk.below bb3 hB;have c1:=AN o2 n (by omega);rw[List.getElem?_map,List.getElem?_eq_getElem (by omega),Option.map_some]at c1;have c2:=Cy o2 n;have q2:=k2.2.1;have f2:=k2.2.2;have q3:=k3.2.1;have kp:=(Kept2.drew w g gr);rw[hwd]at kp;have KP:=Lib.hid (kp.grown (grownBy.setCell w2 gr n (.int .i64 hd)) (.inr rfl));clear kp;have HW:=Lib.hid hwd;have O3:=Lib.hid o3;have K3:=Lib.hid k3;have B3:=Lib.hid bb3;have R3:=Lib.hid r3;clear kb ho k2 bb bd o2 o3 k3 bb3 r3 rk hwd;by_cases hk:ks.length=0
 ·have hkn:ks=[]:=List.eq_nil_of_length_eq_zero hk;subst hkn;by_cases hcp:cap=n+1
  ·subst hcp;go_enter Tryz.func142,Tryz.ntmps142;go_wp2_with fail
   go_still_tail 11,(by kernel_rfl)
   still_call (HC.out _)
   repeat still_step
   try refine wpStill_nil ?_
   change wpList _ _ _ _ _ w.drew;rw[HW.out];go_wp2_with ((with_reducible (show wpList _ _ _ (⟨_,.call ⟨.builtin .copy,_,_⟩,_,_,_,_⟩::_) _ _));refine wpList_copy_nothing rfl _ _ 27 27 rfl 3 Tryz.underlying27 (by kernel_rfl) _ _ _ _ _ _ rfl rfl (Nat.zero_min _) ?_);have o4:=O3.out;have k4:=K3.out;have bb4:=B3.out;have q4:=k4.2.1;have f4:=k4.2.2;have K4:=Lib.hid k4;have O4:=Lib.hid o4;have B4:=Lib.hid bb4;clear k4 o4 bb4;go_wp2;go_ret;exact⟨rfl,ownsRow_setCell_other O4.out (by intro h;exact hgr' (Option.some.inj h)) _,K4.out.set 3 (by simp) _,B4.out.setCell hg _,fun r hr=>by cases hr;exact KP.out.grown (grownBy.setCell _ g 3 _) (.inl rfl)⟩
  ·go_enter Tryz.func142,Tryz.ntmps142;go_wp2_with fail
   go_still_tail 11,(by kernel_rfl)
   still_call (HC.out _)
   repeat still_step
   try refine wpStill_nil ?_
   change wpList _ _ _ _ _ w.drew;rw[HW.out];go_wp2_with ((with_reducible (show wpList _ _ _ (⟨_,.call ⟨.builtin .copy,_,_⟩,_,_,_,_⟩::_) _ _));refine wpList_copy_nothing rfl _ _ 27 27 rfl 3 Tryz.underlying27 (by kernel_rfl) _ _ _ _ _ _ rfl rfl (Nat.zero_min _) ?_);have o4:=O3.out;have k4:=K3.out;have bb4:=B3.out;have q4:=k4.2.1;have f4:=k4.2.2;have K4:=Lib.hid k4;have O4:=Lib.hid o4;have B4:=Lib.hid bb4;clear k4 o4 bb4;go_wp2;go_ret;exact⟨rfl,ownsRow_setCell_other O4.out (by intro h;exact hgr' (Option.some.inj h)) _,K4.out.set 3 (by simp) _,B4.out.setCell hg _,fun r hr=>by cases hr;exact KP.out.grown (grownBy.setCell _ g 3 _) (.inl rfl)⟩
 ·have hcp:¬cap=n+1:=by omega
  have hka:∃ad,ka=some ad:=by
   rcases R3.out with ⟨h,_⟩ |⟨_,_,_,h,_⟩
   ·exact absurd (by rw[h];rfl) hk
   ·injection h with h;exact⟨_,h⟩
  obtain⟨ad,rfl⟩:=hka;have hnews:=(R3.out.news (Below.refl _ _)).2;obtain⟨cur,hc,hcl,_,_⟩:=Hk O3.out;have HN:=Lib.hid hnews;have HCU:=Lib.hid hc;clear hnews hc;go_enter Tryz.func142,Tryz.ntmps142;go_wp2_with fail
  go_still_tail 11,(by kernel_rfl)
  still_call (HC.out _)
  repeat still_step
  try refine wpStill_nil ?_
  change wpList _ _ _ _ _ w.drew;rw[HW.out];go_wp2_with ((with_reducible (show wpList _ _ _ (⟨_,.call ⟨.builtin .copy,_,_⟩,_,_,_,_⟩::_) _ _));refine wpList_copy_own rfl _ _ 27 27 rfl 3 Tryz.underlying27 (by kernel_rfl) gr (n+1) _ _ ad _ _ rfl rfl cur.toArray 3 HCU.out (ks.map (Value.int .i64)) (by rw[List.length_map];exact(Nat.min_eq_left (by omega)).symm) HN.out (by rw[List.size_toArray,List.length_map];omega) (Jb _ _) ?_;generalize hw4:World.setRow _ _ _=w4;have g4:=grownBy.row _ hw4;have hh4:w4.heap[gr]?=some (.cells (splice cur (n+1) (ks.map (Value.int .i64))).toArray 3 (0,0)):=(by rw[←hw4,setRow_heap _ gr _ _ _ _ HCU.out];simp[splice]);have k4:=K3.out.grown g4 (fun h=>hgr (Option.some.inj h));have q4:=k4.2.1;have f4:=k4.2.2;have K4:=Lib.hid k4;have H4:=Lib.hid hh4;have G4:=Lib.hid g4;clear k4 hh4 g4 hw4);have o4:=Lm O3.out cur HCU.out (n+1) (ks.map (Value.int .i64)) H4.out (by simp;omega);rw[show splice ((ov ws n [hd]).map (Value.int .i64)) (n+1) (ks.map (Value.int .i64))= (ov ws n (hd::ks)).map (Value.int .i64)by rw[Ll];exact congrArg _ (Lj _ _ _ _ (by omega)).symm]at o4;have bb4:=B3.out.trans (Below.of_grown (B:=base) G4.out (by have:=B3.out.size;omega) (fun k h=>by cases h;exact hbg));have O4:=Lib.hid o4;have B4:=Lib.hid bb4;clear o4 bb4;go_ret;exact⟨rfl,ownsRow_setCell_other O4.out (by intro h;exact hgr' (Option.some.inj h)) _,K4.out.set 3 (by simp) _,B4.out.setCell hg _,fun r hr=>by cases hr;exact(KP.out.grown G4.out (.inr rfl)).grown (grownBy.setCell _ g 3 _) (.inl rfl)⟩
structure Seen (w:World) (base gn go gr N cap:Nat) (ov:Value) (o:List Nat):Prop where
 bn:Bx w gn #[.slice (some ⟨gr,0,none⟩) N cap]
 bo:Bx w go #[ov]
 on:w.ownsRow base 3 1 (.slice (some ⟨gr,0,none⟩) N cap) N ((A7 o N).map (Value.int .i64))
 oo:w.ownsRow base 3 1 ov o.length (o.map ofN)
 ap:∀k,ov.ownBlock=some k→k≠gn∧k≠go∧k≠gr
structure Apart (base gn go gr:Nat):Prop where
 a:base≤gn
 b:base≤go
 c:gn≠go
 d:gr≠gn
 e:gr≠go
theorem Seen.below {w w':World}{base gn go gr N cap:Nat}{ov:Value}{o:List Nat}(h:Seen w base gn go gr N cap ov o) (hb:Below w.heap.size w w'):Seen w' base gn go gr N cap ov o:=
 ⟨h.bn.below hb h.bn.1,h.bo.below hb h.bo.1,Al h.on hb (Af h.on),Al h.oo hb (Af h.oo),h.ap⟩
theorem Px {B base gn go gr N cap:Nat}(hA:Apart base gn go gr) (ov v:Value) (ps o:List Nat) (xs:List Int) (w:World) (hS:Seen w base gn go gr N cap ov o) (hr:Rd B .i64 w v xs) (hB:B≤base)
  (ho:Bo ps o) (hx:xs.all (Ai ps)=true) (hp:∀p∈ps,p < N) (hN:N≤6000) (hpl:ps.length≤6000) (hxl:xs.length≤4294967296):
  Calls Tryz.prog 145 #[v,.pointer (some ⟨gn,0,none⟩),.pointer (some ⟨go,0,none⟩)] w fun e w'=>e= .returned (.tuple #[])∧(∃ov',Seen w' base gn go gr N cap ov' (seeL o xs))∧Below base w w':=by
 obtain⟨a,c,rfl⟩:=hr.form;obtain⟨i0,hi,hz0,hz1,hz2⟩:=info_parts Tryz.infoI2;have RK:=Lib.hid (fun(W:World) (hb:Below base w W)=>hr.below hb hB);clear hr;go_enter Tryz.func145,Tryz.ntmps145;have hA1:=hA.a;have hA2:=hA.b;have hA3:=hA.c;have hA4:=hA.d;have hA5:=hA.e;have hA3':¬go=gn:=fun h=>hA3 h.symm;clear hA;go_wp2
 go_loopw [9] (fun i wr=>∃ (k:Nat) (ov':Value),k≤xs.length∧i= .int .i64 k∧Seen wr base gn go gr N cap ov' (seeL o (xs.take k))∧Below base w wr) (fun i _=>xs.length - (intOf i).toNat)
 case atStart=>exact⟨0,ov,Nat.zero_le _,rfl,hS,Below.refl _ _⟩
 case round=>
  clear hS;obtain⟨k,ov',hk,rfl,hS,hb⟩:=hrel;by_cases hlt:k < xs.length
  ·rcases RK.out _ hb with ⟨h',_⟩ |⟨bl,off,c',hv,_,hbs,_,hc⟩
   ·rw[h']at hlt;simp at hlt
   cases hv
   have c0:=hc k hlt;have hx1:=KE hx hlt;have hoS:=FS ho (YB k hx);have hst:=YA (o:=o) hlt;obtain⟨S,hSe⟩:∃S,seeL o (xs.take k)=S:=⟨_,rfl⟩;obtain⟨x,hxx⟩:∃x,xs.getD k 0=x:=⟨_,rfl⟩;rw[hSe]at hS hoS hst;rw[hxx]at c0 hx1 hst;have hSl:S.length≤6000:=Nat.le_trans (nodup_len S ps hoS.1 hoS.2) hpl;have HST:=Lib.hid hst;clear hst hSe hxx hc;have hkx:(k:Int) < (xs.length:Int):=by omega
   by_cases hev:x%2=0
   ·obtain⟨p,hpp,hpx⟩:=GR hx1 hev;have hpN:=hp p hpp;have HX:=Lib.hid hpx;have hpe:(x/2).toNat=p:=by omega
    have HSW:=Lib.hid (show seeW S x=if p∈S then S else S++ [p]by unfold seeW;rw[if_pos hev,hpe]);have e1:(x%2==0)=true:=by simp;omega
    have cn:=AN hS.on p hpN;rw[List.getElem?_map,List.getElem?_eq_getElem (by rw[DR];exact hpN),Option.map_some,show(A7 S N)[p]'(by rw[DR];exact hpN)=numOf S p by simp[A7]]at cn;have fn:=Cy hS.on p;have q1:=hS.bn.2.1;have y1:=hS.bn.1;clear hpx hpe;by_cases hin:p∈S
    ·have hm:=(OW hin).1;obtain⟨m,hmm⟩:∃m,numOf S p=m:=⟨_,rfl⟩;rw[hmm]at cn hm;have HS:=Lib.hid hS;have HIN:=Lib.hid hin;have HB:=Lib.hid hb;clear hmm hS hin hb;have hpi:(p:Int) < (N:Int):=by omega
     go_wp2_with (first | (go_at_call 72;refine(ET _ _).mono ?_;rw[←HX.out];rintro e w' ⟨rfl,rfl⟩) | (go_at_call 71;refine(Be _ _).mono ?_;rintro e w' ⟨rfl,rfl⟩));go_roundw
     case rel=>exact⟨k+1,ov',hlt,by go_num,by rw[HST.out,HSW.out,if_pos HIN.out];exact HS.out,HB.out⟩
     case measure=>simp[intOf];omega
    ·rw[OX hin]at cn;have on3:=Eh hS.on p hpN (.int .i64 S.length);rw[←List.map_set,YI hin hpN]at on3;have g3:=grownBy.setCell wr gr p (.int .i64 S.length);have bn3:=hS.bn.grown g3 (fun h=>hA4 (Option.some.inj h).symm);have bo3:=hS.bo.grown g3 (fun h=>hA5 (Option.some.inj h).symm);have oo3:=ownsRow_setCell_other (a:=⟨gr,p,none⟩) hS.oo (fun h=>(hS.ap _ h).2.2 rfl) (.int .i64 S.length);have hb3:=hb.setCell (p:=⟨gr,p,none⟩) (hS.on.lt gr rfl).1 (.int .i64 S.length);have hap:=hS.ap;obtain⟨oa,oc,rfl⟩:=AC hS.oo;have q2:=hS.bo.2.1;have y2:=hS.bo.1;have y3:=(hS.on.lt gr rfl).2;have ON:=Lib.hid on3;have BN:=Lib.hid bn3;have BO:=Lib.hid bo3;have OO:=Lib.hid oo3;have HB:=Lib.hid hb3;have AP:=Lib.hid hap;have HIN:=Lib.hid hin;have hpi:(p:Int) < (N:Int):=by omega
     have nz:=hb.size;clear hS hb on3 g3 bn3 bo3 oo3 hb3 hap hin;go_wp2_with (first | (go_at_call 72;refine(ET _ _).mono ?_;rw[←HX.out];rintro e w' ⟨rfl,rfl⟩) | (go_at_call 71;refine(Be _ _).mono ?_;rintro e w' ⟨rfl,rfl⟩) | (at_builtin;refine Fq rfl _ _ 27 rfl base 3 i0 (.int .i64 0) 1 8 Tryz.underlying27 hi hz0 hz1 hz2 rfl (by decide) _ _ _ rfl OO.out #[_] rfl ?_ wr.heap.size (World.size_setCell _ _ _) rfl ?_ ?_ ?_ ?_))
     ·rfl
     ·unfold maxLen;omega
     ·omega
     ·simp;omega
     ·intro v' w4 ho4 hg4 hat4;have wz:(wr.setCell ⟨gr,p,none⟩ (.int .i64 S.length)).heap.size=wr.heap.size:=by simp
      have ha4:∀k,v'.ownBlock=some k→k≠gn∧k≠go∧k≠gr:=by
       intro k hk;rcases hat4 with h |h
       ·exact AP.out k (h▸hk)
       ·rw[h]at hk;have:=Option.some.inj hk;omega
      have on4:=ON.out.kept hg4 (.inr (fun h=>by have:=AP.out _ h.symm;exact this.2.2 rfl));have bn4:=BN.out.grown hg4 (fun h=>(AP.out _ h.symm).1 rfl);have bo4:=BO.out.grown hg4 (fun h=>(AP.out _ h.symm).2.1 rfl);have hb4:=HB.out.trans (Below.of_grown (B:=base) hg4 (by rw[wz];omega) (fun k hk=>(OO.out.lt k hk).1));have S5:Seen (w4.setCell ⟨go,0,none⟩ v') base gn go gr N cap v' (seeL o (xs.take (k+1))):=by
       rw[HST.out,HSW.out,if_neg HIN.out];refine⟨bn4.grown (grownBy.setCell w4 go 0 v') (fun h=>hA3 (Option.some.inj h)),bo4.set 0 (by simp) v',ownsRow_setCell_other (a:=⟨go,0,none⟩) on4 (fun h=>hA5 (Option.some.inj h)) v',?_,ha4⟩;refine ownsRow_setCell_other (a:=⟨go,0,none⟩) ?_ (fun h=>(ha4 _ h).2.1 rfl) v'
       simpa [ofN] using ho4
      have B5:Below base w (w4.setCell ⟨go,0,none⟩ v'):=hb4.setCell hA2 v';have q5:=bo4.2.1;have f5:=bo4.2.2;have hv5:∃a c,v'= .slice a (S.length+1) c:=AC ho4;obtain⟨a5,c5,rfl⟩:=hv5;have HS5:=Lib.hid S5;have HB5:=Lib.hid B5;clear S5 B5 bn4 on4 bo4 hb4 ha4 hat4 hg4 ho4 wz q1 q2;go_wp2;go_roundw
      case rel=>exact⟨k+1,_,hlt,by go_num,HS5.out,HB5.out⟩
      case measure=>simp[intOf];omega
   ·have e1:(x%2==0)=false:=by simp;omega
    have HSW:=Lib.hid (show seeW S x=S by unfold seeW;rw[if_neg hev]);have HS:=Lib.hid hS;have HB:=Lib.hid hb;clear hev hS hb;go_wp2_with (first | (go_at_call 72;refine(ET _ _).mono ?_;rintro e w' ⟨rfl,rfl⟩) | (go_at_call 71;refine(Be _ _).mono ?_;rintro e w' ⟨rfl,rfl⟩));go_roundw
    case rel=>exact⟨k+1,ov',hlt,by go_num,by rw[HST.out,HSW.out];exact HS.out,HB.out⟩
    case measure=>simp[intOf];omega
  ·obtain rfl:k=xs.length:=by omega
   rw[List.take_of_length_le (Nat.le_refl _)]at hS;have HS:=Lib.hid hS;have HB:=Lib.hid hb;clear hS hb;go_wp2
   go_end0
   exact⟨rfl,⟨ov',HS.out⟩,HB.out⟩
theorem Yk (xs:List Value) (N:Nat) (h:xs.length=N):Cn (fun _=>Value.int .i64 (-1)) xs N= (A7 [] N).map (Value.int .i64):=by
 rw[OH _ _ _ h,YF,List.map_replicate];refine List.ext_getElem (by simp) fun i h1 h2=>by simp
theorem OM {B:Nat}(v vr:Value) (ws rs:List Int) (h b n:Nat) (ps:List Nat) (w:World) (hR:Right ws h b n ps) (hr:Rd B .i64 w v ws) (hw:Au ws) (hq:Rd B .i64 w vr rs) (hx:rs.all (Ai ps)=true) (hrl:rs.length≤4294967296):
  Calls Tryz.prog 69 #[.agg #[v,.int .i64 h,.int .i64 b,.int .i64 n],vr] w fun e w'=>∃ov nv,e= .returned (.tuple #[ov,nv])∧w'.ownsRow w.heap.size 3 1 ov (Ao ws rs).length ((Ao ws rs).map ofN)∧
   Rd w'.heap.size .i64 w' nv (A7 (Ao ws rs) ws.length)∧Below w.heap.size w w':=by
 obtain⟨i0,hi,hz0,hz1,hz2⟩:=info_parts Tryz.infoI2;have hN0:=hR.n_le;have hNz:0 < ws.length:=by have:=hR.frame.len;have:=hR.frame.h0;omega
 obtain⟨hN1,hN2⟩:=hN0;have hbl:=fun(B:Nat) (W:World) (p:Nat) (hp:p∈ps) (hr:Rd B .i64 W v ws)=>F5 v ws h b n p W hr hw (hR.at_ hp).2.2.1 (Nat.le_trans (hR.at_ hp).2.2.2.1 hN1) (by omega);have HBL:=Lib.hid hbl;have hpN:∀p∈ps,p < ws.length:=fun p hp=>Nat.lt_of_lt_of_le (hR.at_ hp).2.1 hN1;have hpl:ps.length≤6000:=by have:=hR.len;omega
 have RW:=Lib.hid (fun(W:World) (hb:Below w.heap.size w W)=>hr.below' hb);have RQ:=Lib.hid (fun(W:World) (hb:Below w.heap.size w W)=>hq.below' hb);have HRi:=Lib.hid hR;have HPN:=Lib.hid hpN;have HXR:=Lib.hid hx;have hkl:=fun(p:Nat)=>Lg ws p;have HKL:=Lib.hid hkl;obtain⟨a,cap,rfl⟩:=hr.form;obtain⟨qa,qc,rfl⟩:=hq.form;clear hr hq hw hbl hR hpN hx hkl;go_enter Tryz.func69,Tryz.ntmps69;go_wp2_with (refine wpList_make_full _ rfl (.tmp 17) (.tmp 17) 27 rfl (w.heap.size+1) 3 i0 (.int .i64 0) 1 Tryz.underlying27 hi hz0 hz1 .i64 .i64 _ _ ws.length rfl rfl rfl rfl ?_ ?_ ?_ ?_)
 ·rw[hz2];omega
 ·unfold maxLen;omega
 ·simp
 ·intro w1 hown hgrow;generalize hx:((w.alloc _).alloc _).alloc _=x at hgrow;have hoo:x.ownsRow (w.heap.size+1) 3 1 (.slice (some ⟨w.heap.size+1,0,none⟩) 0 0) 0 []:=by
   rw[←hx];exact(EO (by simp) (by simp)).alloc _
  obtain⟨bx,k1,_,k3,sx⟩:=Vw hx;have b1:Below w.heap.size w w1:=bx.trans (Below.of_grown hgrow (by omega) (fun k hk=>by cases hk));have k11:=k1.grown hgrow (fun h=>by cases h);have k13:=k3.grown hgrow (fun h=>by cases h);have oo1:=hoo.kept hgrow (.inr (fun h=>by cases h));obtain⟨xs,hown,hlen⟩:∃xs,w1.ownsRow (w.heap.size+1) 3 1 (.slice (some ⟨w.heap.size+1+1+1,0,none⟩) ws.length ws.length) ws.length xs∧xs.length=ws.length:=⟨_,hown,by simpa using hown.1⟩;have HL:=Lib.hid hlen;have hg1:=(hown.lt _ rfl).2;obtain⟨gr,hgr⟩:∃gr,w.heap.size+1+1+1=gr:=⟨_,rfl⟩;rw[hgr]at hown hg1 ⊢;obtain⟨go,hgo⟩:∃go,w.heap.size+2=go:=⟨_,rfl⟩;rw[hgo]at k13;have hgo':w.heap.size+1+1=go:=hgo;have e1:w.heap.size+1 < go:=by omega
  have e2:go < gr:=by omega
  clear hgrow hlen hoo bx k1 k3 hx sx;go_wp2;generalize hx:w1.alloc _=x1;obtain⟨bx,k2⟩:=Bx.alloc hx;have z1:=bx.size;have k21:=k11.below bx k11.1;have k23:=k13.below bx k13.1;have oo2:=Al oo1 bx (Af oo1);have on2:=Al hown bx (Af hown);have b2:=b1.trans (bx.mono b1.size);obtain⟨gn,hgn⟩:∃gn,w1.heap.size=gn:=⟨_,rfl⟩;rw[hgn]at k2 ⊢;have e3:gr < gn:=by omega
  have e4:gn < x1.heap.size:=k2.1;have HGO:=Lib.hid hgo;have HGR:=Lib.hid hgr;have HGN:=Lib.hid hgn;have K21:=Lib.hid k21;have K23:=Lib.hid k23;have K2:=Lib.hid k2;have OO2:=Lib.hid oo2;have ON2:=Lib.hid on2;have B2:=Lib.hid b2;clear hx bx k11 k13 oo1 hown b1 hgo hgr hgn hgo' k21 k23 oo2 on2 b2 hg1;clear k2
  go_loopw [21] (fun i wr=>∃k:Nat,k≤ws.length∧i= .int .i64 k∧wr.ownsRow (w.heap.size+1) 3 1 (.slice (some ⟨gr,0,none⟩) ws.length ws.length) ws.length (Cn (fun _=>Value.int .i64 (-1)) xs k)∧
   Bx wr w.heap.size #[.slice a ws.length cap,.int .i64 h,.int .i64 b,.int .i64 n]∧Bx wr go #[.slice (some ⟨w.heap.size+1,0,none⟩) 0 0]∧Bx wr gn #[.slice (some ⟨gr,0,none⟩) ws.length ws.length]∧
   wr.ownsRow (w.heap.size+1) 3 1 (.slice (some ⟨w.heap.size+1,0,none⟩) 0 0) 0 []∧Below w.heap.size w wr) (fun i _=>ws.length - (intOf i).toNat)
  case atStart=>exact⟨0,Nat.zero_le _,rfl,by rw[OG];exact ON2.out,K21.out,K23.out,K2.out,OO2.out,B2.out⟩
  case round=>
   clear K21 K23 K2 OO2 ON2 B2;obtain⟨k,hk,rfl,hon,k1,k3,k2,hoo,hb⟩:=hrel;by_cases hlt:k < ws.length
   ·have c1:=AN hon k hlt;rw[OJ _ _ _ (by rw[HL.out];exact hlt)]at c1;have f1:=Cy hon k;have on3:=Eh hon k hlt (.int .i64 (-1));rw[OI (fun _=>Value.int .i64 (-1)) xs k (by rw[HL.out];exact hlt)]at on3;have g3:=grownBy.setCell wr gr k (.int .i64 (-1));have k13:=k1.grown g3 (fun h=>by have:=Option.some.inj h;omega);have k33:=k3.grown g3 (fun h=>by have:=Option.some.inj h;omega);have k23:=k2.grown g3 (fun h=>by have:=Option.some.inj h;omega);have oo3:=hoo.kept g3 (.inr (fun h=>absurd (Option.some.inj h) (by show ¬(w.heap.size+1=gr);omega)));have b3:=hb.setCell (p:=⟨gr,k,none⟩) (by dsimp only;omega) (.int .i64 (-1));have q2:=k2.2.1;have hki:(k:Int) < (ws.length:Int):=by omega
    have K13:=Lib.hid k13;have K33:=Lib.hid k33;have K23:=Lib.hid k23;have OO3:=Lib.hid oo3;have ON3:=Lib.hid on3;have B3:=Lib.hid b3;clear k13 k33 k23 oo3 on3 b3 g3 hon hoo hb k1 k2 k3;go_wp2;go_roundw
    case rel=>exact⟨k+1,hlt,by go_num,ON3.out,K13.out,K33.out,K23.out,OO3.out,B3.out⟩
    case measure=>simp[intOf];omega
   ·obtain rfl:k=ws.length:=by omega
    rw[Yk _ _ HL.out]at hon;have hA:Apart (w.heap.size+1) gn go gr:=⟨by omega,by omega,by omega,by omega,by omega⟩;have hS:Seen wr (w.heap.size+1) gn go gr ws.length ws.length (.slice (some ⟨w.heap.size+1,0,none⟩) 0 0) []:=⟨k2,k3,hon,hoo,fun k h=>by have e:w.heap.size+1=k:=Option.some.inj h;subst e;exact⟨by omega,by omega,by omega⟩⟩;have HC:=Lib.hid (Px (B:=w.heap.size) hA _ (.slice qa rs.length qc) ps [] rs wr hS (RQ.out _ hb) (by omega) (GS ps) HXR.out HPN.out (by omega) hpl hrl);have K1:=Lib.hid k1;have HB:=Lib.hid hb;clear hA hS hon hoo k1 k2 k3 hb;go_wp2_with fail;refine HC.out.mono ?_;rintro e w2 ⟨rfl,⟨ov,hS⟩,b2⟩;have k1:=K1.out.below b2 (by omega);have b4:=HB.out.trans (b2.mono (by have:=HB.out.size;omega));have hoS:=FS (GS ps) HXR.out;have hbf:bfs ws (ws.length - 0) 0 (seeL [] rs)=Ao ws rs:=rfl;obtain⟨S0,hS0⟩:∃S0,seeL [] rs=S0:=⟨_,rfl⟩;rw[hS0]at hS hoS hbf;have K4:=Lib.hid k1;have S4:=Lib.hid hS;have O4:=Lib.hid hoS;have F4:=Lib.hid hbf;have B4:=Lib.hid b4;clear hS hoS hbf k1 b4 b2 K1 HB hS0 HC;go_wp2
    go_loopw [10] (fun t wr=>∃ (i:Nat) (ov':Value) (S:List Nat),t= .int .i64 i∧i≤S.length∧Seen wr (w.heap.size+1) gn go gr ws.length ws.length ov' S∧Bo ps S∧Hid (bfs ws (ws.length - i) i S=Ao ws rs)∧
     Bx wr w.heap.size #[.slice a ws.length cap,.int .i64 h,.int .i64 b,.int .i64 n]∧Below w.heap.size w wr) (fun t _=>ws.length - (intOf t).toNat)
    case atStart=>exact⟨0,ov,S0,rfl,Nat.zero_le _,S4.out,O4.out,F4.out,K4.out,B4.out⟩
    case round=>
     clear S4 O4 F4 K4 B4;obtain⟨i,ov',S,rfl,hiS,hS,hO,hf,k1,hb⟩:=hrel;have hSl:=HRi.out.ord_len hO;obtain⟨oa,oc,rfl⟩:=AC hS.oo;by_cases hlt:i < S.length
     ·have hpm:S.getD i 0∈ps:=hO.2 _ (FL hlt);have co:=Hl hS.oo i hlt;have hf':=hf.out;rw[show ws.length - i= (ws.length - (i+1))+1 by omega,Fl hlt]at hf';have hO':=HRi.out.see hO hlt;obtain⟨oad,rfl,co⟩:=co;rw[List.getElem?_map,List.getElem?_eq_getElem hlt,Option.map_some,show S[i]=S.getD i 0 by simp[List.getD,List.getElem?_eq_getElem hlt]]at co;obtain⟨p,hpp⟩:∃p,S.getD i 0=p:=⟨_,rfl⟩;rw[hpp]at hpm co hf' hO';have q1:=k1.2.1;have q3:=hS.bo.2.1;have hii:(i:Int) < (S.length:Int):=by omega
      have q10:=q1 0;have q11:=q1 1;have q12:=q1 2;have q13:=q1 3;have q30:=q3 0;simp at q10 q11 q12 q13 q30;have lg:=(hS.oo.lt oad rfl).2;have lo:=hS.bo.1;have l1:=k1.1;have S3:=Lib.hid hS;have K3:=Lib.hid k1;have B3:=Lib.hid hb;have F3:=Lib.hid hf';have O3:=Lib.hid hO';have OO:=Lib.hid hO;clear hS hO hf k1 hb hf' hO' hpp q1 q3;go_wp2_with fail
      go_region_held3 (fun w'=>w'.cell? ⟨w.heap.size,0,none⟩=some (.slice a ws.length cap)∧w'.cell? ⟨w.heap.size,1,none⟩=some (.int .i64 h)∧w'.cell? ⟨w.heap.size,2,none⟩=some (.int .i64 b)∧w'.cell? ⟨w.heap.size,3,none⟩=some (.int .i64 n)∧
       w'.cell? ⟨go,0,none⟩=some (.slice (some ⟨oad,0,none⟩) S.length oc)∧w'.cell? ⟨oad,i,none⟩=some (ofN p)) (first | (go_split_ands;refine⟨?_,?_,?_,?_,?_,?_⟩ <;> (refine(b5.cell (by simp only[World.size_drew];omega)).trans ?_;with_reducible assumption)) | (go_keep;done)) (first | (go_at_call 74;refine(HBL.out _ _ p hpm (RW.out _ (by exact B3.out.drew))).mono ?_;rintro e w5 ⟨u,hu,ru,b5⟩;subst hu))
      obtain⟨ua,uc,rfl⟩:=ru.form;have b5':Below wr.heap.size wr w5:=((Below.refl _ _).drew).trans b5;have S5:=S3.out.below b5';have k5:=K3.out.below b5' K3.out.1;have B5:=B3.out.trans (b5'.mono B3.out.size);have z3:=b5'.size;have hA:Apart (w.heap.size+1) gn go gr:=⟨by omega,by omega,by omega,by omega,by omega⟩;have HC:=Lib.hid (Px (B:=w.heap.size) hA _ (.slice ua (Ae ws p).length uc) ps S (Ae ws p) w5 S5 ru (by omega) OO.out (HRi.out.at_ hpm).2.2.2.2 HPN.out (by omega) hpl (by have:=HKL.out p;omega));have K5:=Lib.hid k5;have B5':=Lib.hid B5;have z5:=b5.size;clear hA S5 k5 B5 b5 b5' ru S3 K3 B3 q10 q11 q12 q13 q30 co;go_wp2_with fail;refine HC.out.mono ?_;rintro e w6 ⟨rfl,⟨ov6,hS6⟩,b6⟩;have K6:=Lib.hid (K5.out.below b6 (by omega));have B6:=Lib.hid (B5'.out.trans (b6.mono (by have:=B5'.out.size;omega)));have S6:=Lib.hid hS6;clear hS6 b6 K5 B5' HC;go_wp2;go_roundw
      case rel=>exact⟨i+1,ov6,seeL S (Ae ws p),by go_num,by have:=F3.out;exact YE hlt,S6.out,O3.out,F3.out,K6.out,B6.out⟩
      case measure=>simp[intOf];omega
     ·obtain rfl:i=S.length:=by omega
      have hfe:=hf.out;rw[Fm (Nat.lt_irrefl _)]at hfe;subst hfe;have q3:=hS.bo.2.1;have q2:=hS.bn.2.1;have OO:=Lib.hid hS.oo;have ON:=Lib.hid hS.on;have HB:=Lib.hid hb;clear hS hO hf k1 hb;go_wp2_with fail;go_quiet (fail);go_wp2;go_ret2;refine⟨_,_,rfl,AR (base:=w.heap.size+1) (Al OO.out (below_drewN (Below.refl _ _) _) (Af OO.out)) (by omega),?_,below_drewN HB.out _⟩;have o:=Al ON.out (below_drewN (Below.refl _ wr) nq) (Af ON.out);have o':(wr.drewN nq).ownsRow (w.heap.size+1) 3 1 (.slice (some ⟨gr,0,none⟩) ws.length ws.length) (A7 (Ao ws rs) ws.length).length ((A7 (Ao ws rs) ws.length).map (Value.int .i64)):=by rw[DR];exact o
      exact Rd.of_own o'
def AX (ws:List Int) (b:Nat) (q:List Nat):List Nat:=(List.range q.length).map fun j=>b+ (raw ws (q.take j)).length
theorem I2 (ws:List Int) (b:Nat) (q:List Nat):(AX ws b q).length=q.length:=by simp[AX]
theorem YM (ws:List Int) (b:Nat) (q:List Nat) (p:Nat):AX ws b (q++ [p])=AX ws b q++ [b+ (raw ws q).length]:=by
 unfold AX;rw[List.length_append,List.length_singleton,List.range_succ,List.map_append]
 congr 1
 ·refine List.map_congr_left fun j hj=> ?_;rw[List.take_append_of_le_length (Nat.le_of_lt (List.mem_range.1 hj))]
 ·simp
theorem O9 {ws:List Int}{b:Nat}{q:List Nat}{j:Nat}(h:j < q.length):(AX ws b q)[j]?=some (b+ (raw ws (q.take j)).length):=by simp[AX,h]
theorem YN {B7 B9 g7 g9:Nat}(pv nv:Value) (ws:List Int) (b':Nat) (o ps:List Nat) (x:Int) (N:Nat) (w:World) (k9:Bx w g9 #[pv]) (k7:Bx w g7 #[nv]) (rp:Rd B9 .i64 w pv (Ax (AX ws b' o))) (rn:Rd B7 .i64 w nv (A7 o N))
  (hx:Ai ps x=true) (ho:x%2=0→(x/2).toNat∈o) (hN:∀p∈ps,p < N) (hN6:N≤6000) (hle:∀p,Cp ws b' o p≤6000) (hol:o.length≤6000):
  Calls Tryz.prog 143 #[.int .i64 x,.pointer (some ⟨g9,0,none⟩),.pointer (some ⟨g7,0,none⟩)] w fun e w'=>e= .returned (.int .i64 (mv ws b' o x))∧Still w w':=by
 by_cases hev:x%2=0
 ·obtain⟨p,hpp,hpx⟩:=GR hx hev;have hpe:(x/2).toNat=p:=by omega
  have hpo:=ho hev;rw[hpe]at hpo;have hpN:=hN p hpp;have HX:=Lib.hid hpx;have e1:(x%2==0)=true:=by simp;omega
  have hidx:=List.idxOf_lt_length_of_mem hpo;have hnw:numOf o p= (o.idxOf p:Int):=by unfold numOf;rw[if_pos hpo]
  have hmv:mv ws b' o x=2* ((Cp ws b' o p:Nat):Int):=by unfold mv;rw[if_pos hev,hpe]
  have hna:=hle p;rcases rn with ⟨h',_⟩ |⟨bn,offn,cn',rfl,_,_,_,hcn⟩
  ·have:=congrArg List.length h';rw[DR,List.length_nil]at this;omega
  rcases rp with ⟨h',_⟩ |⟨bp,offp,cp',rfl,_,_,_,hcp⟩
  ·have:=congrArg List.length h';rw[De,I2,List.length_nil]at this;omega
  rw[DR]at hcn k7;rw[De,I2]at hcp k9;have c1:=hcn p hpN;rw[OV hpN,hnw]at c1;have c2:=hcp (o.idxOf p) hidx;rw[J4,List.getD_eq_getElem?_getD,O9 hidx]at c2;change _=some (Value.int .i64 ((Cp ws b' o p:Nat):Int))at c2;obtain⟨i,hi⟩:∃i,o.idxOf p=i:=⟨_,rfl⟩;obtain⟨m,hm⟩:∃m,Cp ws b' o p=m:=⟨_,rfl⟩;rw[hi]at c1 c2 hidx;rw[hm]at c2 hmv hna;rw[hmv];have hil:(i:Int) < (o.length:Int):=by omega
  have hpi:(p:Int) < (N:Int):=by omega
  have q9:=k9.2.1;have q7:=k7.2.1;have HR:=Lib.hid (fun(W:World)=>(by have:=(ET x W).mono (fun e w' h=>And.intro h.1 h.2.symm);rw[←HX.out]at this;exact this:Calls Tryz.prog 72 #[.int .i64 x] W _));have hrw:=fun(W:World)=>(I5 (m:Int) W).mono (fun e w' h=>And.intro h.1 h.2.symm);rw[show Du (m:Int)=2* (m:Int)by unfold Du inB;rw[if_pos (by simp;omega)]]at hrw;have HW:=Lib.hid hrw;clear k9 k7 hcn hcp hx ho hN hle hpp hpo hpe hnw hmv hi hm hrw hpx;go_enter Tryz.func143,Tryz.ntmps143;go_wp2_with (go_at_call 71;refine(Be _ _).mono ?_;rintro e w' ⟨rfl,rfl⟩);go_quiet (first | (go_at_call 72;exact Calls.quiet_of_same (HR.out _)) | (go_at_call 144;exact Calls.quiet_of_same (HW.out _)));go_wp2;go_ret;exact⟨rfl,⟨nq,rfl⟩⟩
 ·have e1:(x%2==0)=false:=by simp;omega
  have hmv:mv ws b' o x=x:=by unfold mv;rw[if_neg hev]
  rw[hmv];clear k9 k7 rp rn hx ho hN hle hmv;go_enter Tryz.func143,Tryz.ntmps143;go_wp2_with (go_at_call 71;refine(Be _ _).mono ?_;rintro e w' ⟨rfl,rfl⟩);go_ret;exact⟨rfl,Still.refl _⟩
def dig (n:Nat):UInt8:=UInt8.ofNat (48+n)
def AK:Nat→Nat→List UInt8
 |0,_=> []
 |f+1,n=>if n < 10 then [dig n]else AK f (n/10)++ [dig (n%10)]
theorem Fw {f n:Nat}(h:n < 10):AK (f+1) n=[dig n]:=by rw[AK,if_pos h]
theorem Ji {f n:Nat}(h:¬n < 10):AK (f+1) n=AK f (n/10)++ [dig (n%10)]:=by rw[AK,if_neg h]
theorem Fx:∀ (f n:Nat),(AK f n).length≤f:=by
 intro f;induction f with
 |zero=>intro n;simp[AK]
 |succ f ih=>
  intro n;by_cases h:n < 10
  ·rw[Fw h];simp
  ·rw[Ji h];have:=ih (n/10);simp;omega
def Ch (n:Int):List UInt8:=if n < 0 then 45::AK 20 n.natAbs else AK 20 n.natAbs
def st (l:List UInt8):ByteArray:=⟨l.toArray⟩
def Cq (n:Int):ByteArray:=st (Ch n)
theorem Dx (l:List UInt8):(st l).size=l.length:=by simp[st,ByteArray.size]
theorem CC (a b:List UInt8):st a++st b=st (a++b):=by
 unfold st;rw[ByteArray.mk_append_mk]
theorem Hs (n:Int):(Ch n).length≤21:=by
 unfold Ch;have:=Fx 20 n.natAbs;split
 ·simp;omega
 ·omega
theorem Ht (n:Int):(Cq n).size≤21:=by unfold Cq;rw[Dx];exact Hs n
theorem QP {n:Nat}:Ch (n:Int)=AK 20 n:=by unfold Ch;rw[if_neg (by omega)];rfl
theorem QQ {n:Nat}(h:0 < n):Ch (-(n:Int))=45::AK 20 n:=by unfold Ch;rw[if_pos (by omega),show(-(n:Int)).natAbs=n by omega]
theorem LI (l:List UInt8):(⟨#[45]⟩:ByteArray)++st l=st (45::l):=CC [45] l
def wordTxt (o:List Nat) (x:Int):List UInt8:=if x%2=0 then [32,64]++Ch (numOf o (x/2).toNat)else [32]++Ch (x/2)
def wordsTxt (o:List Nat) (xs:List Int):List UInt8:=xs.flatMap (wordTxt o)
def FW (X:Int):List UInt8:=if Ce X then [102,117,110,32]else [99,111,110,32]
def Co (ws:List Int) (o:List Nat) (p:Nat):List UInt8:=FW (ws.getD p 0)++Ch (Az (ws.getD p 0))++ (wordsTxt o (Ae ws p)++ [10])
def shapeL (ws:List Int) (o:List Nat) (rs:List Int):List UInt8:=(wordsTxt o rs++ [10])++o.flatMap (Co ws o)
def CU (ws:List Int) (h b n:Int) (rs:List Int):ByteArray:=if AW ws h b n rs then st (shapeL ws (Ao ws rs) rs)else st []
theorem ZT (o:List Nat) (x:Int):(wordTxt o x).length≤23:=by
 unfold wordTxt;split
 ·have:=Hs (numOf o (x/2).toNat);simp only[List.length_append,List.length_cons,List.length_nil];omega
 ·have:=Hs (x/2);simp only[List.length_append,List.length_cons,List.length_nil];omega
theorem Pz {α:Type}{f:α→List UInt8}{m:Nat}(h:∀x,(f x).length≤m):∀xs:List α,(xs.flatMap f).length≤m*xs.length:=by
 intro xs;induction xs with
 |nil=>simp
 |cons x xs ih=>
  rw[List.flatMap_cons,List.length_append,List.length_cons,Nat.mul_succ];have:=h x;omega
theorem I6 (o:List Nat) (xs:List Int):(wordsTxt o xs).length≤23*xs.length:=Pz (ZT o) xs
theorem ZU (X:Int):(FW X).length=4:=by unfold FW;split <;> rfl
theorem ZV (ws:List Int) (o:List Nat) (p:Nat):(Co ws o p).length≤1500:=by
 unfold Co;have h1:=I6 o (Ae ws p);have h2:=Lg ws p;have h3:=Hs (Az (ws.getD p 0));have h4:=ZU (ws.getD p 0);simp only[List.length_append,List.length_cons,List.length_nil];omega
theorem PA {α:Type}(f:α→List UInt8) (d:α) (xs:List α) (k:Nat) (h:k < xs.length):(xs.take (k+1)).flatMap f= (xs.take k).flatMap f++f (xs.getD k d):=by
 rw[←List.take_append_getElem h,List.flatMap_append,List.getD_eq_getElem?_getD,List.getElem?_eq_getElem h];simp
theorem PB {α:Type}(xs:List α) (k:Nat):(xs.take k).length≤xs.length:=by rw[List.length_take];omega
def Cl (o:List Nat) (xs:List Int):Prop:=∀x∈xs,x%2=0→(x/2).toNat∈o
theorem Cl.mono {o:List Nat}{xs:List Int}(h:Cl o xs) (t:List Nat):Cl (o++t) xs:=fun x hx he=>List.mem_append_left _ (h x hx he)
theorem ZW {o:List Nat}{x:Int}(h:x%2=0):(x/2).toNat∈seeW o x:=by
 unfold seeW;rw[if_pos h];split
 ·assumption
 ·simp
theorem PC:∀ (xs:List Int) (o:List Nat),Cl (seeL o xs) xs:=by
 intro xs;induction xs with
 |nil=>intro o x hx;cases hx
 |cons y xs ih=>
  intro o x hx he
  show(x/2).toNat∈seeL (seeW o y) xs
  rcases List.mem_cons.1 hx with rfl |hx
  ·obtain⟨t,ht⟩:=I1 xs (seeW o x);rw[ht];exact List.mem_append_left _ (ZW he)
  ·exact ih _ x hx he
theorem ZX {ws:List Int}:∀ (f i:Nat) (o:List Nat),∃t,bfs ws f i o=o++t:=by
 intro f;induction f with
 |zero=>intro i o;exact⟨[],by simp[bfs]⟩
 |succ f ih=>
  intro i o;by_cases hi:i < o.length
  ·rw[Fl hi];obtain⟨t,ht⟩:=ih (i+1) (seeL o (Ae ws (o.getD i 0)));obtain⟨u,hu⟩:=I1 (Ae ws (o.getD i 0)) o;exact⟨u++t,by rw[ht,hu,List.append_assoc]⟩
  ·rw[Fm hi];exact⟨[],by simp⟩
theorem ZY {ws:List Int}{h b n:Nat}{ps:List Nat}(hR:Right ws h b n ps):∀ (f i:Nat) (o:List Nat),Bo ps o→ws.length≤f+i→
  (∀j,j < i→j < o.length→Cl o (Ae ws (o.getD j 0)))→ ∀p∈bfs ws f i o,Cl (bfs ws f i o) (Ae ws p):=by
 intro f;induction f with
 |zero=>
  intro i o ho hl hc p hp;have:=hR.ord_len ho;obtain⟨j,hj,rfl⟩:=List.mem_iff_getElem.1 hp;have:=hc j (by simp only[bfs]at hj;omega) hj
  rwa [List.getD_eq_getElem?_getD,List.getElem?_eq_getElem (show j < o.length from hj)]at this
 |succ f ih=>
  intro i o ho hl hc;by_cases hi:i < o.length
  ·rw[Fl hi];refine ih (i+1) _ (hR.see ho hi) (by omega) (fun j hj hjl=> ?_);by_cases hji:j < i
   ·rw[OR (by omega)];obtain⟨t,ht⟩:=I1 (Ae ws (o.getD i 0)) o;rw[ht];exact(hc j hji (by omega)).mono t
   ·obtain rfl:j=i:=by omega
    rw[OR hi];exact PC _ _
  ·rw[Fm hi];intro p hp;obtain⟨j,hj,rfl⟩:=List.mem_iff_getElem.1 hp;have:=hc j (by omega) hj
   rwa [List.getD_eq_getElem?_getD,List.getElem?_eq_getElem hj]at this
theorem KQ (ws rs:List Int):Cl (Ao ws rs) rs:=by
 unfold Ao;obtain⟨t,ht⟩:=ZX (ws:=ws) ws.length 0 (seeL [] rs);rw[ht];exact(PC rs []).mono t
theorem KR {ws rs:List Int}{h b n:Nat}{ps:List Nat}(hR:Right ws h b n ps) (hx:rs.all (Ai ps)=true) {p:Nat}(hp:p∈Ao ws rs):Cl (Ao ws rs) (Ae ws p):=
 ZY hR ws.length 0 (seeL [] rs) (FS (GS ps) hx) (by omega) (fun j hj=>absurd hj (by omega)) p hp
theorem EU {ws rs:List Int}{h b n:Nat}{ps:List Nat}(hR:Right ws h b n ps) (hx:rs.all (Ai ps)=true):Bo ps (Ao ws rs):=O0 hR _ _ _ (FS (GS ps) hx)
theorem ZZ {ws:List Int}{h b n:Int}{rs:List Int}(hr:AW ws h b n rs=false):CU ws h b n rs=st []:=by simp[CU,hr]
theorem PD {ws:List Int}{h b n:Int}{rs:List Int}(hr:AW ws h b n rs=true):CU ws h b n rs=st (shapeL ws (Ao ws rs) rs):=by simp[CU,hr]
theorem Right.ofR {ws:List Int}{h b n:Int}{rs:List Int}(hr:AW ws h b n rs=true):∃h' b' n':Nat,∃ps,h=h'∧b=b'∧n=n'∧Right ws h' b' n' ps∧rs.all (Ai ps)=true:=by
 obtain⟨h',b',n',ps,rfl,rfl,rfl,hR⟩:=Right.of (OY hr);refine⟨h',b',n',ps,rfl,rfl,rfl,hR,?_⟩;rw[KF (OY hr) hR.some]at hr;exact hr
def Diff (u v:Value):Prop:=∀k,u.ownBlock=some k→v.ownBlock≠some k
theorem Diff.of {base base':Nat}{e e':TypeId}{sz sz' n n':Nat}{w w':World}{u v:Value}{xs ys:List Value}(h:w.ownsRow base e sz u n xs) (h':w'.ownsRow base' e' sz' v n' ys) (hb:w.heap.size≤base'):Diff u v:=fun k hk hk'=>by
 have h1:=(h.lt k hk).2;have h2:=(h'.lt k hk').1;omega
theorem Yl {u v:Value}(h:Diff u v):v.ownBlock=none∨v.ownBlock≠u.ownBlock:=by
 rcases hv:v.ownBlock with _ |k
 ·exact .inl rfl
 ·exact .inr (fun e=>h k e.symm hv)
def mix (ws:List Int) (b:Nat) (o q:List Nat) (k:Nat):List Int:=mvd ws b o (q.take k)++raw ws (q.drop k)
def EP (ws:List Int) (b:Nat) (o:List Nat) (p j:Nat):List Int:=ws.getD p 0::(((Ae ws p).take j).map (mv ws b o)++ (Ae ws p).drop j)
def BA (ws:List Int) (b:Nat) (o q:List Nat) (k p j:Nat):List Int:=mvd ws b o (q.take k)++ (EP ws b o p j++raw ws (q.drop (k+1)))
theorem Ym (ws:List Int) (b:Nat) (o q:List Nat):mix ws b o q 0=raw ws q:=by simp[mix,mvd]
theorem Yn (ws:List Int) (b:Nat) (o q:List Nat):mix ws b o q q.length=mvd ws b o q:=by simp[mix,raw]
theorem KA {ws:List Int}{b:Nat}{o q:List Nat}{k p:Nat}(h:k < q.length) (hp:q[k]=p):BA ws b o q k p 0=mix ws b o q k:=by
 unfold BA mix EP;rw[List.drop_eq_getElem_cons h,hp,List.take_zero,List.map_nil,List.nil_append,List.drop_zero];simp[raw,blk]
theorem Yo {ws:List Int}{b:Nat}{o q:List Nat}{k p:Nat}(h:k < q.length) (hp:q[k]=p):BA ws b o q k p (Ae ws p).length=mix ws b o q (k+1):=by
 unfold BA mix EP;rw[←List.take_append_getElem h,Qs,hp,List.take_length,List.drop_length,List.append_nil,List.append_assoc];rfl
theorem Yp (ws:List Int) (b:Nat) (o:List Nat) (p j:Nat):(EP ws b o p j).length= (blk ws p).length:=by
 unfold EP blk;simp;omega
theorem OP {ws:List Int}{b:Nat}{o q:List Nat}{k p:Nat}(j:Nat) (h:k < q.length) (hp:q[k]=p):(BA ws b o q k p j).length= (raw ws q).length:=by
 have h1:raw ws q=raw ws (q.take k)++ (blk ws p++raw ws (q.drop (k+1))):=by
  have h2:q=q.take k++ (p::q.drop (k+1)):=by rw[←hp,←List.drop_eq_getElem_cons h,List.take_append_drop]
  conv=>lhs;rw[h2]
  rw[Jd];rfl
 rw[h1];unfold BA;rw[List.length_append,List.length_append,List.length_append,List.length_append,Df,Yp]
theorem Yq {ws:List Int}{b:Nat}{o q:List Nat}{k p:Nat}(h:k < q.length) (hp:q[k]=p):(mix ws b o q k).getD (raw ws (q.take k)).length 0=ws.getD p 0:=by
 rw[←KA h hp];unfold BA EP;rw[List.getD_eq_getElem?_getD,List.getElem?_append_right (by rw[Df];exact Nat.le_refl _),Df];simp
theorem Yr {ws:List Int}{b:Nat}{o q:List Nat}{k p j:Nat}(hj:j < (Ae ws p).length):(BA ws b o q k p j)[(raw ws (q.take k)).length+1+j]?=some ((Ae ws p).getD j 0):=by
 unfold BA EP;rw[List.getElem?_append_right (by rw[Df];omega),Df,show(raw ws (q.take k)).length+1+j - (raw ws (q.take k)).length=j+1 by omega,List.cons_append,List.getElem?_cons_succ,List.append_assoc,
  List.getElem?_append_right (by simp;omega),List.length_map,List.length_take,Nat.min_eq_left (by omega),Nat.sub_self,List.getElem?_append_left (by simp;omega),List.getElem?_drop,Nat.add_zero,List.getD_eq_getElem?_getD,List.getElem?_eq_getElem hj]
 rfl
theorem Ys {ws:List Int}{b:Nat}{o q:List Nat}{k p j:Nat}(hj:j < (Ae ws p).length):(BA ws b o q k p j).set ((raw ws (q.take k)).length+1+j) (mv ws b o ((Ae ws p).getD j 0))=BA ws b o q k p (j+1):=by
 unfold BA EP;have h1:((Ae ws p).take j).length=j:=by simp;omega
 have h2:(Ae ws p).getD j 0= (Ae ws p)[j]:=by simp[List.getD_eq_getElem?_getD,hj]
 rw[List.set_append_right _ _ (by rw[Df];omega),Df,show(raw ws (q.take k)).length+1+j - (raw ws (q.take k)).length=j+1 by omega,List.cons_append,List.set_cons_succ,List.append_assoc,
  List.set_append_right _ _ (by simp;omega),List.length_map,h1,Nat.sub_self,List.drop_eq_getElem_cons hj,List.cons_append,List.set_cons_zero,h2,←List.take_append_getElem hj,List.map_append]
 simp
theorem Yt {ws:List Int}{h b n b':Nat}{ps o:List Nat}(hR:Right ws h b n ps) (ho:Bo ps o) (hb:b'+h≤6000) {x:Int}(hx:-9223372036854775808≤x∧x≤9223372036854775807):-9223372036854775808≤mv ws b' o x∧mv ws b' o x≤9223372036854775807:=by
 unfold mv;split
 ·have:=LC (b':=b') hR ho (x/2).toNat;omega
 ·exact hx
theorem blk_ok {ws:List Int}(hw:Au ws) (p:Nat):Au (blk ws p):=by
 refine CB fun x hx=> ?_;unfold blk at hx;rcases List.mem_cons.1 hx with rfl |hx
 ·exact hw p
 ·exact CW hw x (List.mem_of_mem_drop (List.mem_of_mem_take hx))
theorem Yu {ws:List Int}(hw:Au ws) (o:List Nat):Au (raw ws o):=by
 refine CB fun x hx=> ?_;unfold raw at hx;obtain⟨p,_,h⟩:=List.mem_flatMap.1 hx;exact CW (blk_ok hw p) x h
theorem KC {ws:List Int}{h b n b':Nat}{ps o:List Nat}(hR:Right ws h b n ps) (ho:Bo ps o) (hb:b'+h≤6000) (hw:Au ws) (q:List Nat):Au (mvd ws b' o q):=by
 refine CB fun x hx=> ?_;unfold mvd at hx;obtain⟨p,_,h⟩:=List.mem_flatMap.1 hx;unfold D1 at h;rcases List.mem_cons.1 h with rfl |h
 ·exact hw p
 ·obtain⟨y,hy,rfl⟩:=List.mem_map.1 h;exact Yt hR ho hb (CW hw y (List.mem_of_mem_drop (List.mem_of_mem_take hy)))
theorem Yv {ws:List Int}{h b n b':Nat}{ps o:List Nat}(hR:Right ws h b n ps) (ho:Bo ps o) (hb:b'+h≤6000) (hw:Au ws) (q:List Nat) (k:Nat):Au (mix ws b' o q k):=by
 refine CB fun x hx=> ?_;unfold mix at hx;rcases List.mem_append.1 hx with h |h
 ·exact CW (KC hR ho hb hw _) x h
 ·exact CW (Yu hw _) x h
structure HeapIn (ws:List Int) (h b n:Int):Prop where
 ok:Au ws
 pos:0 < ws.length
 le:ws.length≤6000
 h:Bf h
 b:Bf b
 n:Bf n
theorem LJ {x:Int}{ks:List Int}(hx:Bf x) (h:Au ks):Au (x::ks):=CB fun y hy=>by
 rcases List.mem_cons.1 hy with rfl |hy
 ·exact hx
 ·exact CW h y hy
theorem Q4 {xs ys:List Int}(h:Au xs) (k:Au ys):Au (xs++ys):=CB fun y hy=>by
 rcases List.mem_append.1 hy with hy |hy
 ·exact CW h y hy
 ·exact CW k y hy
theorem Q6:Au []:=CB fun x hx=>by cases hx
theorem HeapIn.alloc {ws:List Int}{h b n:Int}{f:Bool}{tag:Int}{ks:List Int}(H:HeapIn ws h b n) (hk:Au ks):
  HeapIn (BG ws h b n f tag ks).ws h b (BG ws h b n f tag ks).next∧(BG ws h b n f tag ks).ws.length=ws.length∧Bf (BG ws h b n f tag ks).at_∧((BG ws h b n f tag ks).ok=true→0≤ (BG ws h b n f tag ks).at_∧(BG ws h b n f tag ks).at_≤6000):=by
 cases hok:(BG ws h b n f tag ks).ok
 ·rw[Vj hok];exact⟨H,rfl,by unfold Bf;dsimp only;omega,by simp⟩
 ·obtain⟨h',b',n',ps,rfl,rfl,rfl,hR,hP⟩:=Vi hok;generalize BG ws h' b' n' f tag ks=P at hP hok ⊢;have hl:=hR.frame.len;have hb:=hR.frame.base;have h1:=hR.frame.h1;have hfit:=hP.fit;have hd:=Hj f tag ks.length hP.tag0.1 hP.tag0.2 hP.kids;have e:P.ws.length=ws.length:=by rw[hP.ws_];exact Fp (by simp only[List.length_cons];omega)
  refine⟨⟨?_,by rw[e];exact H.pos,by rw[e];exact H.le,H.h,H.b,?_⟩,e,?_,fun _=> ?_⟩
  ·rw[hP.ws_];exact Lk H.ok (LJ (by unfold Bf;omega) hk)
  ·rw[hP.next];unfold Bf;omega
  ·rw[hP.at_];unfold Bf;omega
  ·rw[hP.at_];omega
theorem Ga {w0 w w':World}{g:Nat}{r:Option Nat}(h:w0.grownBy w (some g)) (k:w.grownBy w' r) (hr:∀i,r=some i→i=g∨w0.heap.size≤i):w0.grownBy w' (some g):=by
 refine⟨k.os.trans h.os,k.tape.trans h.tape,k.output.trans h.output,Nat.le_trans h.size k.size,fun i hi hne=> ?_⟩;refine(k.block i (Nat.lt_of_lt_of_le hi h.size) (fun e=> ?_)).trans (h.block i hi hne);rcases hr i e.symm with rfl |h'
 ·exact hne rfl
 ·omega
theorem Eo {w w':World}(h:Below w.heap.size w w') (r:Option Nat):w.grownBy w' r:=⟨h.os,h.tape,h.output,h.size,fun i hi _=>h.block i hi⟩
theorem Cur.below {w w':World}{g m:Nat}{v:Value}(h:Cur w g v m) (hb:Below w.heap.size w w'):Cur w' g v m:=by
 obtain⟨i,x,k,hh⟩:=h;exact⟨i,x,k.below hb k.1,hh⟩
theorem Cur.lt {w:World}{g m:Nat}{v:Value}(h:Cur w g v m):g < w.heap.size:=by
 obtain⟨i,x,k,hh⟩:=h;exact k.1
theorem Cur.kept {w w':World}{g m:Nat}{v:Value}{r:Option Nat}(h:Cur w g v m) (hg:w.grownBy w' r) (hr:some g≠r):Cur w' g v m:=by
 obtain⟨i,x,k,hh⟩:=h;exact⟨i,x,k.grown hg hr,hh⟩
theorem Jk {base:Nat}{e:TypeId}{sz n:Nat}{w:World}{v:Value}{xs:List Value}(h:w.ownsRow base e sz v n xs) {g:Nat}(hg:g < base):v.ownBlock=none∨v.ownBlock≠some g:=by
 rcases hv:v.ownBlock with _ |k
 ·exact .inl rfl
 ·right;intro he;have:=(h.lt k hv).1;injection he with he
  omega
end Go.Proofs.YtfmebaafpfkeiaaGreat
end
section
namespace Go.Proofs.YtfmebaafpfkeiaaGreat
open Go
theorem M6 {P:Program}(w:World) {o:Oper}{a:Act}{Q:Exit→Act→World→Prop}{K:Act→World→Prop}
  (l c:Operand) (t:TypeId) (hop:o.op=Op.makeSlice t l c)
  (base:Nat) (e:TypeId) (i:TypeInfo) (z:Value) (size:Nat) (h1:P.underlying t=some (.slice e)) (h2:P.info? e=some i) (h3:i.zero=some z) (h4:i.size=size)
  (kl kc:IntKind) (L C:Int) (n:Nat) (hl:a.eval l= .int kl L) (hc:a.eval c= .int kc C) (hL:L= (n:Int)) (hC:C= (n:Int)) (b2:i.bytes*n≤281474976710656) (b3:n≤maxLen) (b4:base≤w.heap.size)
  (hK:∀w',w'.ownsRow base e size (.slice (some ⟨w.heap.size,0,none⟩) n n) n (madeCells z.cells (n*size)).toList→w.grownBy w' none→K (a.put o.dst (.slice (some ⟨w.heap.size,0,none⟩) n n)) w'):
  Oper.wp P o a w K Q:=by
 obtain⟨w',hrun,r1,r2⟩:=run_make_full (P:=P) w base t e i z size h1 h2 h3 h4 kl kc n b2 b3 b4;subst hL;subst hC;unfold Oper.wp Oper.upon;simp[execOp,hop,hl,hc,hrun,Result.andThen];exact hK w' r1 r2
section
variable {P:Program}{ops:Array Oper}{Q:Exit→Act→World→Prop}{md:Region.Mode}{S:World→Prop}
theorem tkH {i:Nat}{oi:Oper}{v:Value}{fuel:Nat}{listed:Array Bool}{a a':Act}{w:World}(h:wpAnyH P md ops Q S fuel (listed.setIfInBounds i true) a' w) (hi:ops[i]?=some oi:=by (simp only[List.getElem?_toArray,List.getElem?_cons_succ,List.getElem?_cons_zero];rfl))
  (hs:Region.noSelect ops=true:=by kernel_rfl) (hf:Region.free md ops listed i=true:=by kernel_rfl) (hr:(Region.ready md ops listed).contains i=true:=by kernel_rfl)
  (hQ:∀c a w,Q (.panic c) (a.put oi.dst v) w→Q (.panic c) a w:=by exact fun _ _ _ h=>h) (hy:YieldsIf P ops S oi v a:=by exact Or.inl ⟨by rfl,by (intro w hSw;(try dsimp only at hSw);go_simp;(try with_reducible rfl))⟩) (hS:S w:=by assumption)
  (ha:a.put oi.dst v=a':=by first | (simp only[Act.put,List.setIfInBounds_toArray,List.set_cons_zero,List.set_cons_succ];done) | (simp only[Act.put,List.setIfInBounds_toArray,List.set_cons_zero,List.set_cons_succ];rfl) |rfl):wpAnyH P md ops Q S (fuel+1) listed a w:=by
 subst ha;exact wpAnyH_take hi hs hf hr hQ hy hS h
theorem bkH {fuel:Nat}{listed:Array Bool}{a a':Act}{w:World}{K:Act→World→Prop}(hK:Shut (∀a w,S w→(S w→wpAnyH P md ops Q S fuel listed a w)→K a w)) (hS:S w) (h:S w→wpAnyH P md ops Q S fuel listed a' w)
  (ha:a=a':=by first | (simp only[Act.put,List.setIfInBounds_toArray,List.set_cons_zero,List.set_cons_succ];done) | (simp only[Act.put,List.setIfInBounds_toArray,List.set_cons_zero,List.set_cons_succ];rfl) |rfl):K a w:=by
 subst ha;exact hK.out _ _ hS h
theorem rdH {i:Nat}{o:Oper}{fuel:Nat}{listed:Array Bool}{a:Act}{w:World}(h:∀K':Act→World→Prop,Shut (∀a w,S w→(S w→wpAnyH P md ops Q S fuel (listed.setIfInBounds i true) a w)→K' a w)→if Region.wanted o (yielded ops a.tmps)=true then Oper.wp P o a w K' Q else K' (a.put o.dst undef) w)
  (hr:Region.ready md ops listed=[i]:=by kernel_rfl) (ho:ops[i]?=some o:=by (simp only[List.getElem?_toArray,List.getElem?_cons_succ,List.getElem?_cons_zero];rfl)):wpAnyH P md ops Q S (fuel+1) listed a w:=
 wpAnyH_ready hr (by simp) (AllReadyH.cons ho h AllReadyH.nil)
end
end Go.Proofs.YtfmebaafpfkeiaaGreat
end
