/- Parts of the proof of FnExactJudgeSame. -/
import Derived.Test.YtifhcbeaiijkcaaGreatJ23
import Derived.Test.YtifhcbeaiijkcaaGreatJ44
import Derived.Test.YtifhcbeaiijkcaaGreatJ17
import Derived.Test.YtifhcbeaiijkcaaGreatJ22
import Derived.Test.YtifhcbeaiijkcaaGreatJ28
import Derived.Test.YtifhcbeaiijkcaaGreatJ16
import Derived.Deep.Slices
set_option linter.unusedVariables false
set_option linter.unusedSimpArgs false
set_option maxRecDepth 1000000
set_option maxHeartbeats 16000000
section
namespace Go.Proofs.YtifhcbeaiijkcaaGreat
open Go.RowKit
open _root_.Go.World renaming alloc→Wa,setCell→Ws
open _root_.Go.Proofs.Tryz renaming prog→Pq
theorem SL {a b:Nat}{left L:Int}(h:Ak a left=L) (h0:¬L < 0):Ak (a+b) left=Ak b L:=by
 unfold Ak at h ⊢;split at h
 ·omega
 ·subst h;by_cases h2:left - a - b < 0
  ·rw[Af (by omega),Af h2]
  ·rw[Ae (by omega),Ae h2];omega
theorem SM {a b:Nat}{left:Int}(h:Ak a left < 0) (hl:-1≤left):Ak (a+b) left= -1:=by
 unfold Ak at h ⊢;split at h
 ·rw[Af (by omega)]
 ·omega
theorem SN {B:Nat}(ds:List Dt) (x:Nd) (dv kv:Value) (left:Int) (w:World) (hd:RdDts B w dv ds) (hk:RdNs B w kv x.kids) (hsd:∀d∈ds,JJ d) (hsn:StrN x) (h0:-1≤left) (h1:left≤4611686018427387904):
  Calls Pq 5 #[pgV dv x kv,.int .i64 left] w fun e w'=>e= .returned (.int .i64 (Ak (AN ds+wgN x) left))∧Below w.heap.size w w':=by
 have HD:=Aa (fun(W:World) (hb:Below w.heap.size w W)=>TA dv ds left W (hd.later' hb) hsd h0 h1);have HN:=Aa (fun(a:Option Addr) (c:Nat) (e:kv= .slice a x.kids.length c) (L:Int) (W:World) (hb:Below w.heap.size w W) (g0:-1≤L) (g1:L≤4611686018427387904)=>(by
  subst e;exact M3 x a c L W hsn.inv.1 g0 g1 (fun L' W' hb' l0 l1=>TF _ _ L' W' ((hk.later' hb).later hb' hb.size) hsn.inv.2 l0 l1):
  Calls Pq 20 #[.agg #[.int .i64 x.op,.int .i64 x.n,.string x.s,.string x.t,kv],.int .i64 L] W fun e w'=>e= .returned (.int .i64 (Ak (wgN x) L))∧Below W.heap.size W w'))
 obtain⟨da,dc,rfl⟩:=hd.form;obtain⟨ka,kc,rfl⟩:=hk.form;obtain⟨Z,hZ⟩:∃Z,Ak (AN ds) left=Z:=⟨_,rfl⟩;have HZ:=Aa hZ;have hZ0:-1≤Z∧Z≤4611686018427387904:=by rw[←hZ];unfold Ak;split <;> omega
 rw[hZ]at HD;obtain⟨hZ0,hZ1⟩:=hZ0;clear hd hk hsd hsn hZ;unfold pgV;go_enter Tryz.func5,Tryz.ntmps5;go_wp2_with fail;generalize hx:w.alloc _=x0;obtain⟨bx,k1⟩:=Bx.alloc hx;clear hx;refine(HD.out x0 bx).mono ?_;rintro e w2 ⟨rfl,b2⟩;replace bx:=bx.trans (b2.mono bx.size);replace k1:=k1.below b2 k1.1;clear b2;by_cases hn:Z < 0
 ·have HF:=Aa (show Ak (AN ds+wgN x) left= -1 from SM (by rw[HZ.out];exact hn) h0);go_wp2;go_ret;exact⟨Ap HF.out.symm,bx⟩
 ·have HF:=Aa (SL (b:=wgN x) HZ.out hn);have HC:=Aa (HN.out ka kc rfl Z w2 bx (by omega) hZ1);obtain⟨Y,hY⟩:∃Y,Ak (wgN x) Z=Y:=⟨_,rfl⟩;rw[hY]at HF HC;have HY:=Aa hY;clear hY HN HD;have ck1:=k1.2.1;have yk1:=k1.1;go_wp2_with fail;refine HC.out.mono ?_;rintro e w3 ⟨rfl,b3⟩;replace bx:=bx.trans (b3.mono bx.size);clear b3;by_cases hy:Y < 0
  ·have HE:=Aa (show Y= -1 by have:=HY.out;unfold Ak at this;split at this <;> omega);go_wp2;go_ret;exact⟨Ap (by rw[HF.out,HE.out]),bx⟩
  ·go_wp2;go_ret;exact⟨Ap HF.out.symm,bx⟩
theorem SO {B1 B2:Nat}(ds:List Dt) (x:Nd) (dv dv' kv kv':Value) (w:World) (hd:RdDts B1 w dv ds) (hd':RdDts B2 w dv' ds) (hk:RdNs B1 w kv x.kids) (hk':RdNs B2 w kv' x.kids):
  Calls Pq 11 #[pgV dv x kv,pgV dv' x kv'] w fun e w'=>e= .returned (.bool true)∧Below w.heap.size w w':=by
 have HD:=Aa (fun(W:World) (hb:Below w.heap.size w W)=>S5 dv dv' ds W (hd.later' hb) (hd'.later' hb));have HN:=Aa (fun(a a':Option Addr) (c c':Nat) (e:kv= .slice a x.kids.length c) (e':kv'= .slice a' x.kids.length c') (W:World) (hb:Below w.heap.size w W)=>(by
  subst e e';exact MU x a a' c c' W (fun W' hb'=>S8 _ _ _ W' ((hk.later' hb).later hb' hb.size) ((hk'.later' hb).later hb' hb.size)):
  Calls Pq 40 #[.agg #[.int .i64 x.op,.int .i64 x.n,.string x.s,.string x.t,kv],.agg #[.int .i64 x.op,.int .i64 x.n,.string x.s,.string x.t,kv']] W fun e w'=>e= .returned (.bool true)∧Below W.heap.size W w'))
 obtain⟨da,dc,rfl⟩:=hd.form;obtain⟨da',dc',rfl⟩:=hd'.form;obtain⟨ka,kc,rfl⟩:=hk.form;obtain⟨ka',kc',rfl⟩:=hk'.form;have HNN:=Aa (HN.out ka ka' kc kc' rfl rfl);clear hd hk hd' hk' HN;unfold pgV;go_enter Tryz.func11,Tryz.ntmps11;go_wp2_with fail;generalize hx:Wa (Wa _ _) _=x0;obtain⟨bx,k1,k2,sx⟩:=BV hx;clear hx;refine(HD.out x0 bx).mono ?_;rintro e w2 ⟨rfl,b2⟩;replace bx:=bx.trans (b2.mono bx.size);replace k1:=k1.below b2 k1.1;replace k2:=k2.below b2 k2.1;clear b2;have ck1:=k1.2.1;have yk1:=k1.1;have ck2:=k2.2.1;have yk2:=k2.1;go_wp2_with fail;refine(HNN.out w2 bx).mono ?_;rintro e w3 ⟨rfl,b3⟩;replace bx:=bx.trans (b3.mono bx.size);clear b3;go_wp2;go_ret;exact⟨rfl,bx⟩
theorem SP {B:Nat}(ds:List Dt) (x:Nd) (dv kv:Value) (w:World) (hd:RdDts B w dv ds) (hk:RdNs B w kv x.kids) (hwd:AN ds≤1048576) (hwn:wgN x≤1048576):
  Calls Pq 8 #[pgV dv x kv] w fun e w'=>∃dv' kv',e= .returned (pgV dv' x kv')∧Below w.heap.size w w'∧RdDts w'.heap.size w' dv' ds∧RdNs w'.heap.size w' kv' x.kids:=by
 have HD:=Aa (fun(W:World) (hb:Below w.heap.size w W)=>Tm dv ds W (hd.later' hb) hwd);have HN:=Aa (fun(a:Option Addr) (c:Nat) (e:kv= .slice a x.kids.length c) (W:World) (hb:Below w.heap.size w W)=>(by
  subst e;have hq:=Av x;exact MZ x a c W (fun W' hb'=>To _ _ W' ((hk.later' hb).later hb' hb.size) (by omega)):
  Calls Pq 30 #[.agg #[.int .i64 x.op,.int .i64 x.n,.string x.s,.string x.t,kv]] W fun e w'=>∃kv',e= .returned (.agg #[.int .i64 x.op,.int .i64 x.n,.string x.s,.string x.t,kv'])∧Below W.heap.size W w'∧ ∀V,Keeps W.heap.size w' V→RdNs V.heap.size V kv' x.kids))
 obtain⟨da,dc,rfl⟩:=hd.form;obtain⟨ka,kc,rfl⟩:=hk.form;have HNN:=Aa (HN.out ka kc rfl);clear hd hk HN;unfold pgV;go_enter Tryz.func8,Tryz.ntmps8;go_wp2_with fail;generalize hx:Wa (Wa (Wa _ _) _) _=x0;obtain⟨bb,k1,k2,k3⟩:=Gn hx;have sx:x0.heap.size=w.heap.size+3:=by rw[←hx];simp only[Bo]
 clear hx;refine(HD.out x0 bb).mono ?_;rintro e w2 ⟨v2,rfl,b2,hst⟩;obtain⟨a2,c2,rfl⟩:=(hst w2 (Keeps.refl _ _)).form;have K1:=k1.below b2 k1.1;have K2:=k2.below b2 k2.1;have K3:=k3.below b2 k3.1;have BB:=Aa (bb.trans (b2.mono bb.size));have HST:=Aa hst;have hz2:w.heap.size+3≤w2.heap.size:=by rw[←sx];exact b2.size
 clear bb b2 k1 k2 k3 hst;have ck1:=K1.2.1;have yk1:=K1.1;have ck3:=K3.2.1;have yk3:=K3.1;have fk3:=K3.2.2;go_wp2_with fail;generalize hw3:Ws _ _ _=w3;have g3:w2.grownBy w3 (some (w.heap.size+2)):=by rw[←hw3];exact grownBy.setCell _ _ _ _
 have K33:=K3.st 0 (by simp) (.slice a2 ds.length c2);rw[hw3]at K33;have KE3:Keeps (w.heap.size+3) w2 w3:=by rw[←hw3];exact Keeps.set (by omega) _
 have B3:Below w.heap.size w w3:=by rw[←hw3];exact Df BB.out (show w.heap.size≤w.heap.size+2 from Eu _ _) _
 have K23:=K2.grown g3 (fun e=>by have:=Am e;omega);have s3:w3.heap.size=w2.heap.size:=by rw[←hw3,AP]
 clear hw3 g3 ck1 yk1 ck3 yk3 fk3 K1 K2 K3;refine(HNN.out w3 B3).mono ?_;rintro e w4 ⟨v4,rfl,b4,hst4⟩;obtain⟨a4,c4,rfl⟩:=(hst4 w4 (Keeps.refl _ _)).form;have K34:=K33.below b4 K33.1;have K24:=K23.below b4 K23.1;have B4:=Aa (B3.trans (b4.mono B3.size));have KE4:=Aa (KE3.trans (Keeps.below b4));have HST4:=Aa hst4;have hz4:w.heap.size+3≤w4.heap.size:=by have:=b4.size;omega
 have hz34:=b4.size;clear K33 K23 B3 b4 hst4 KE3 BB;simp only[List.setIfInBounds_toArray,List.set_cons_zero]at K34;have hne:w.heap.size+1≠w.heap.size+2:=by omega
 have ck2:=K24.2.1;have yk2:=K24.1;have fk2:=K24.2.2;have ck3:=K34.2.1;have yk3:=K34.1;have fk3:=K34.2.2;go_wp2;obtain⟨w5,hw5⟩:∃W,(((((w4.setCell ⟨w.heap.size+1+1,1,none⟩ (.int .i64 x.op)).setCell ⟨w.heap.size+1+1,2,none⟩ (.int .i64 x.n)).setCell ⟨w.heap.size+1+1,3,none⟩ (.string x.s)).setCell ⟨w.heap.size+1+1,4,none⟩ (.string x.t)).setCell ⟨w.heap.size+1+1,5,none⟩ (.slice a4 x.kids.length c4))=W:=⟨_,rfl⟩;have g5:w4.grownBy w5 (some (w.heap.size+2)):=by
  rw[←hw5]
  (repeat(with_reducible refine grownBy.trans ?_ (grownBy.setCell _ _ _ _)));with_reducible exact grownBy.refl _ _
 have KE5:Keeps (w.heap.size+3) w4 w5:=⟨g5.size,fun b hb hl=>g5.block b hl (fun e=>by have:=Am e;omega)⟩;have B5:Below w.heap.size w w5:=B4.out.trans (Below.of_grown g5 B4.out.size (fun q e=>by have:=Am e;omega));rw[hw5];have k6:=(((((((K24.grown g5 (fun e=>by have:=Am e;omega)).st 0 (by simp) (.slice a2 ds.length c2)).st 1 (by simp) (.int .i64 x.op)).st 2 (by simp) (.int .i64 x.n)).st 3 (by simp) (.string x.s)).st 4 (by simp) (.string x.t)).st 5 (by simp) (.slice a4 x.kids.length c4)).2.1;have hg6:Keeps (w.heap.size+3) w5 ((((((w5.setCell ⟨w.heap.size+1,0,none⟩ (.slice a2 ds.length c2)).setCell ⟨w.heap.size+1,1,none⟩ (.int .i64 x.op)).setCell ⟨w.heap.size+1,2,none⟩ (.int .i64 x.n)).setCell ⟨w.heap.size+1,3,none⟩ (.string x.s)).setCell ⟨w.heap.size+1,4,none⟩ (.string x.t)).setCell ⟨w.heap.size+1,5,none⟩ (.slice a4 x.kids.length c4)):=by
  refine Keeps.trans ?_ (Keeps.set (by omega) _);refine Keeps.trans ?_ (Keeps.set (by omega) _);refine Keeps.trans ?_ (Keeps.set (by omega) _);refine Keeps.trans ?_ (Keeps.set (by omega) _);refine Keeps.trans ?_ (Keeps.set (by omega) _);refine Keeps.trans ?_ (Keeps.set (by omega) _);exact Keeps.refl _ _
 have hb6:Below w.heap.size w ((((((w5.setCell ⟨w.heap.size+1,0,none⟩ (.slice a2 ds.length c2)).setCell ⟨w.heap.size+1,1,none⟩ (.int .i64 x.op)).setCell ⟨w.heap.size+1,2,none⟩ (.int .i64 x.n)).setCell ⟨w.heap.size+1,3,none⟩ (.string x.s)).setCell ⟨w.heap.size+1,4,none⟩ (.string x.t)).setCell ⟨w.heap.size+1,5,none⟩ (.slice a4 x.kids.length c4)):=by
  repeat(with_reducible refine Df ?_ (by first |exact Eu _ _ | (show w.heap.size≤_;omega)) _)
  exact B5
 refine Aq (v:= .agg #[.slice a2 ds.length c2,.int .i64 x.op,.int .i64 x.n,.string x.s,.string x.t,.slice a4 x.kids.length c4]) ?_ rfl ⟨_,_,rfl,hb6,HST.out _ ?_,HST4.out _ ?_⟩
 ·simp[results,Tryz.results8,go_sem,k6]
 ·rw[sx];exact KE4.out.trans (KE5.trans hg6)
 ·exact(KE5.trans hg6).mono (by omega)
end Go.Proofs.YtifhcbeaiijkcaaGreat
end
section
namespace Go.Proofs.YtifhcbeaiijkcaaGreat
open Go.ChangeShapes Go.WideShapes Go.ChangeAt
open Go.RowKit
open _root_.Go.World renaming alloc→Wa,setCell→Ws
open _root_.Go.Proofs.Tryz renaming prog→Pq
def FY (d:Dt):Prop:=JJ d∧(-9223372036854775808≤d.vars∧d.vars≤9223372036854775807)
section
variable {H:Type}{enc:TypeId×Value→H}{w:World}{base:Nat}{held:Bool}
theorem Il {P:Program}{t e:TypeId}{fuel:Nat}{c:Value}{x:DataW H×List MemPlace}(ht:P.underlying t=some (.slice e)) (h:DataW.trod enc P w base (fun _=>true) held fuel t [c]=some x):
  ∃n,fuel=n+1∧(c= .slice none 0 0∨ ∃ (a:Addr) (len cap:Nat),c= .slice (some a) len cap∧len≤cap∧cap≤maxLen∧ ∀i,i < len→ ∃cs' y,w.cells? base (a.add (i*P.cellsOf e)) (P.cellsOf e)=some cs'∧DataW.trod enc P w base (fun _=>true) held n e cs'=some y):=by
 have hf:∃n,fuel=n+1:=by
  cases fuel with
  |zero=>simp[DataW.trod]at h
  |succ n=>exact⟨n,rfl⟩
 rcases DataW.trod_slice ht h with ⟨h0,_⟩ |⟨a,len,cap,elems,rest,n,e1,h1,_,_,hl,hm,hlen,hel,_,_⟩
 ·obtain⟨n,rfl⟩:=hf;simp only[List.cons.injEq,Dg]at h0;exact⟨n,rfl,.inl h0⟩
 ·simp only[List.cons.injEq,Dg]at h1;refine⟨n,e1,.inr ⟨a,len,cap,h1,hl,hm,fun i hi=> ?_⟩⟩;have:=hel i hi;rw[Ay (by omega),Option.bind_eq_some_iff]at this;obtain⟨cs',g1,g2⟩:=this;exact⟨cs',_,g1,g2⟩
theorem FZ {P:Program}{t:TypeId}{fs:Array Field}{fuel:Nat}{cs:List Value}{x:DataW H×List MemPlace}(ht:P.underlying t=some (.struct fs)) (h:DataW.trod enc P w base (fun _=>true) held fuel t cs=some x):
  ∃n,fuel=n+1∧ ∀ (i:Nat) (f:Field),fs[i]?=some f→ ∃y,DataW.trod enc P w base (fun _=>true) held n f.type ((cs.drop f.offset).take (P.cellsOf f.type))=some y:=by
 obtain⟨xs,n,e1,_,_,hl,hf⟩:=DataW.trod_struct ht h;refine⟨n,e1,fun i f hi=> ?_⟩;have hlt:i < fs.size:=(GX.1 hi).1;exact⟨_,(hf i f hi).trans (Ay (by omega))⟩
theorem MW:∀ (N fuel:Nat),fuel≤N→ ∀ (c:Value) (x:DataW H×List MemPlace),DataW.trod enc Pq w base (fun _=>true) held fuel 233 [c]=some x→ ∃ks,RdTps w.heap.size w c ks∧ ∀k∈ks,StrT k
 |0,fuel,hle,c,x,h=>by
  have:fuel=0:=by omega
  subst this;simp[DataW.trod]at h
 |N+1,fuel,hle,c,x,h=>by
  obtain⟨n,hn,rfl |⟨a,len,cap,rfl,hl,hm,hx⟩⟩:=Il Tryz.underlying233 h
  ·exact⟨[],.nil _ _,fun k hk=>by cases hk⟩
  have hall:∀i,i < len→ ∃q:Tp×Value,(w.cell? (a.add (i*4))=some (.int .i64 q.1.op)∧w.cell? (a.add (i*4+1))=some (.int .i64 q.1.n)∧w.cell? (a.add (i*4+2))=some (.string q.1.s)∧w.cell? (a.add (i*4+3))=some (q.2))∧RdTps w.heap.size w q.2 q.1.kids∧StrT q.1:=by
   intro i hi;obtain⟨cs',y,h1,h2⟩:=hx i hi;rw[show Tryz.prog.cellsOf 285=4 by kernel_rfl]at h1;obtain⟨_,hlen,hcell⟩:=II h1;obtain⟨v0,v1,v2,v3,rfl⟩:∃v0 v1 v2 v3,cs'=[v0,v1,v2,v3]:=by
    match cs',hlen with
    | [v0,v1,v2,v3],_=>exact⟨_,_,_,_,rfl⟩
   obtain⟨n2,hn2,hf⟩:=FZ Tryz.underlying285 h2;obtain⟨y0,g0⟩:=hf 0 _ rfl;change DataW.trod enc Pq w base (fun _=>true) held n2 3 (([v0,v1,v2,v3].drop 0).take (Tryz.prog.cellsOf 3))=some y0 at g0;rw[show Tryz.prog.cellsOf 3=1 by kernel_rfl]at g0;replace g0:DataW.trod enc Pq w base (fun _=>true) held n2 3 [v0]=some y0:=g0;obtain⟨y1,g1⟩:=hf 1 _ rfl;change DataW.trod enc Pq w base (fun _=>true) held n2 3 (([v0,v1,v2,v3].drop 1).take (Tryz.prog.cellsOf 3))=some y1 at g1;rw[show Tryz.prog.cellsOf 3=1 by kernel_rfl]at g1;replace g1:DataW.trod enc Pq w base (fun _=>true) held n2 3 [v1]=some y1:=g1;obtain⟨y2,g2⟩:=hf 2 _ rfl;change DataW.trod enc Pq w base (fun _=>true) held n2 9 (([v0,v1,v2,v3].drop 2).take (Tryz.prog.cellsOf 9))=some y2 at g2;rw[show Tryz.prog.cellsOf 9=1 by kernel_rfl]at g2;replace g2:DataW.trod enc Pq w base (fun _=>true) held n2 9 [v2]=some y2:=g2;obtain⟨y3,g3⟩:=hf 3 _ rfl;change DataW.trod enc Pq w base (fun _=>true) held n2 233 (([v0,v1,v2,v3].drop 3).take (Tryz.prog.cellsOf 233))=some y3 at g3;rw[show Tryz.prog.cellsOf 233=1 by kernel_rfl]at g3;replace g3:DataW.trod enc Pq w base (fun _=>true) held n2 233 [v3]=some y3:=g3;obtain⟨o0,rfl,i0⟩:=Db Tryz.underlying3 g0;obtain⟨o1,rfl,i1⟩:=Db Tryz.underlying3 g1;obtain⟨o2,q2, -,hs2⟩:=Gf Tryz.underlying9 g2;simp only[List.cons.injEq,Dg]at q2;subst q2;obtain⟨ks,rk,sk⟩:=MW N n2 (by omega) _ _ g3;have e0:=hcell 0 (by omega);rw[Dv]at e0;have e1:=hcell 1 (by omega);rw[Dv]at e1;have e2:=hcell 2 (by omega);rw[Dv]at e2;have e3:=hcell 3 (by omega);rw[Dv]at e3;exact⟨(.mk o0 o1 o2 ks,v3),⟨by (have q:=e0;simp at q;exact q),by (have q:=e1;simp at q;exact q),by (have q:=e2;simp at q;exact q),by (have q:=e3;simp at q;exact q)⟩,rk,.mk _ hs2 sk⟩
  rcases Fy len with rfl |hpos
  ·exact⟨[],.nil _ _,fun k hk=>by cases hk⟩
  haveI:Inhabited (Tp×Value):=⟨(.mk 0 0 ⟨#[]⟩ [],.int .i64 0)⟩
  obtain⟨f,hf⟩:∃f:Nat→Tp×Value,∀i,i < len→(w.cell? (a.add (i*4))=some (.int .i64 (f i).1.op)∧w.cell? (a.add (i*4+1))=some (.int .i64 (f i).1.n)∧w.cell? (a.add (i*4+2))=some (.string (f i).1.s)∧w.cell? (a.add (i*4+3))=some ((f i).2))∧RdTps w.heap.size w (f i).2 (f i).1.kids∧StrT (f i).1:=G1 hall;obtain⟨b,off,spot⟩:=a;have hz:=(hf 0 hpos).1.1;have hspot:spot=none:=by
   have:w.cell? ⟨b,off,spot⟩=some (.int .i64 (f 0).1.op):=by simpa [Addr.add] using hz
   simpa using G2 this
  subst hspot;have hc0:∀i,i < len→w.cell? ⟨b,off+i*4,none⟩=some (.int .i64 (f i).1.op):=fun i hi=>by rw[← (hf i hi).1.1,CV]
  have hc1:∀i,i < len→w.cell? ⟨b,off+i*4+1,none⟩=some (.int .i64 (f i).1.n):=fun i hi=>by rw[← (hf i hi).1.2.1,CV,Dp]
  have hc2:∀i,i < len→w.cell? ⟨b,off+i*4+2,none⟩=some (.string (f i).1.s):=fun i hi=>by rw[← (hf i hi).1.2.2.1,CV,Dp]
  have hc3:∀i,i < len→w.cell? ⟨b,off+i*4+3,none⟩=some ((f i).2):=fun i hi=>by rw[← (hf i hi).1.2.2.2,CV,Dp]
  have hb:b < w.heap.size:=Gb w ⟨b,off,none⟩ (u:= .int .i64 (f 0).1.op) (by simpa using hc0 0 hpos);have hkl:((List.range len).map fun i=>(f i).1).length=len:=by simp
  refine⟨(List.range len).map fun i=>(f i).1,?_,?_⟩
  ·rw[show Value.slice (some ⟨b,off,none⟩) len cap= .slice (some ⟨b,off,none⟩) ((List.range len).map fun i=>(f i).1).length cap by rw[hkl]];refine .row b off cap _ (fun i=>(f i).2) hb hb ⟨by rw[hkl];omega,by rw[hkl];exact hl⟩ (fun j hj=> ?_) (fun j hj=> ?_)
   ·have hj2:j < len:=by rw[hkl]at hj;exact hj
    simp only[Gd,Ge];exact⟨hc0 j hj2,hc1 j hj2,hc2 j hj2,hc3 j hj2⟩
   ·have hj2:j < len:=by rw[hkl]at hj;exact hj
    simp only[Gd,Ge];exact(hf j hj2).2.1
  ·intro k hk;simp only[Gc,Ed]at hk;obtain⟨i,hi,rfl⟩:=hk;exact(hf i hi).2.2
theorem S9 {fuel:Nat}{c:Value}{x:DataW H×List MemPlace}(h:DataW.trod enc Pq w base (fun _=>true) held fuel 233 [c]=some x):∃ks,RdTps w.heap.size w c ks∧ ∀k∈ks,StrT k:=MW fuel fuel (Ad _) c x h
theorem Ta {fuel:Nat}{c:Value}{x:DataW H×List MemPlace}(h:DataW.trod enc Pq w base (fun _=>true) held fuel 112 [c]=some x):∃ks,RdCns w.heap.size w c ks∧ ∀k∈ks,GJ k:=by
 obtain⟨n,hn,rfl |⟨a,len,cap,rfl,hl,hm,hx⟩⟩:=Il Tryz.underlying112 h
 ·exact⟨[],.inl ⟨rfl,_,_,rfl⟩,fun k hk=>by cases hk⟩
 have hall:∀i,i < len→ ∃q:Cn×Value,(w.cell? (a.add (i*2))=some (.string q.1.name)∧w.cell? (a.add (i*2+1))=some (q.2))∧RdTps w.heap.size w q.2 q.1.args∧GJ q.1:=by
  intro i hi;obtain⟨cs',y,h1,h2⟩:=hx i hi;rw[show Tryz.prog.cellsOf 235=2 by kernel_rfl]at h1;obtain⟨_,hlen,hcell⟩:=II h1;obtain⟨v0,v1,rfl⟩:∃v0 v1,cs'=[v0,v1]:=by
   match cs',hlen with
   | [v0,v1],_=>exact⟨_,_,rfl⟩
  obtain⟨n2,hn2,hf⟩:=FZ Tryz.underlying235 h2;obtain⟨y0,g0⟩:=hf 0 _ rfl;change DataW.trod enc Pq w base (fun _=>true) held n2 9 (([v0,v1].drop 0).take (Tryz.prog.cellsOf 9))=some y0 at g0;rw[show Tryz.prog.cellsOf 9=1 by kernel_rfl]at g0;replace g0:DataW.trod enc Pq w base (fun _=>true) held n2 9 [v0]=some y0:=g0;obtain⟨y1,g1⟩:=hf 1 _ rfl;change DataW.trod enc Pq w base (fun _=>true) held n2 233 (([v0,v1].drop 1).take (Tryz.prog.cellsOf 233))=some y1 at g1;rw[show Tryz.prog.cellsOf 233=1 by kernel_rfl]at g1;replace g1:DataW.trod enc Pq w base (fun _=>true) held n2 233 [v1]=some y1:=g1;obtain⟨o0,q0, -,hs0⟩:=Gf Tryz.underlying9 g0;simp only[List.cons.injEq,Dg]at q0;subst q0;obtain⟨ks,rk,sk⟩:=S9 g1;have e0:=hcell 0 (by omega);rw[Dv]at e0;have e1:=hcell 1 (by omega);rw[Dv]at e1;exact⟨(⟨o0,ks⟩,v1),⟨by (have q:=e0;simp at q;exact q),by (have q:=e1;simp at q;exact q)⟩,rk,⟨hs0,sk⟩⟩
 rcases Fy len with rfl |hpos
 ·exact⟨[],.inl ⟨rfl,_,_,rfl⟩,fun k hk=>by cases hk⟩
 haveI:Inhabited (Cn×Value):=⟨(⟨⟨#[]⟩,[]⟩,.int .i64 0)⟩
 obtain⟨f,hf⟩:∃f:Nat→Cn×Value,∀i,i < len→(w.cell? (a.add (i*2))=some (.string (f i).1.name)∧w.cell? (a.add (i*2+1))=some ((f i).2))∧RdTps w.heap.size w (f i).2 (f i).1.args∧GJ (f i).1:=G1 hall;obtain⟨b,off,spot⟩:=a;have hz:=(hf 0 hpos).1.1;have hspot:spot=none:=by
  have:w.cell? ⟨b,off,spot⟩=some (.string (f 0).1.name):=by simpa [Addr.add] using hz
  simpa using G2 this
 subst hspot;have hc0:∀i,i < len→w.cell? ⟨b,off+i*2,none⟩=some (.string (f i).1.name):=fun i hi=>by rw[← (hf i hi).1.1,CV]
 have hc1:∀i,i < len→w.cell? ⟨b,off+i*2+1,none⟩=some ((f i).2):=fun i hi=>by rw[← (hf i hi).1.2,CV,Dp]
 have hb:b < w.heap.size:=Gb w ⟨b,off,none⟩ (u:= .string (f 0).1.name) (by simpa using hc0 0 hpos);have hkl:((List.range len).map fun i=>(f i).1).length=len:=by simp
 refine⟨(List.range len).map fun i=>(f i).1,?_,?_⟩
 ·rw[show Value.slice (some ⟨b,off,none⟩) len cap= .slice (some ⟨b,off,none⟩) ((List.range len).map fun i=>(f i).1).length cap by rw[hkl]];refine .inr ⟨b,off,cap,fun i=>(f i).2,rfl,hb,hb,⟨by rw[hkl];omega,by rw[hkl];exact hl⟩,fun j hj=> ?_⟩;have hj2:j < len:=by rw[hkl]at hj;exact hj
  simp only[Gd,Ge];exact⟨hc0 j hj2,hc1 j hj2,(hf j hj2).2.1⟩
 ·intro k hk;simp only[Gc,Ed]at hk;obtain⟨i,hi,rfl⟩:=hk;exact(hf i hi).2.2
theorem Tb {fuel:Nat}{c:Value}{x:DataW H×List MemPlace}(h:DataW.trod enc Pq w base (fun _=>true) held fuel 22 [c]=some x):∃ks,RdDts w.heap.size w c ks∧ ∀k∈ks,FY k:=by
 obtain⟨n,hn,rfl |⟨a,len,cap,rfl,hl,hm,hx⟩⟩:=Il Tryz.underlying22 h
 ·exact⟨[],.inl ⟨rfl,_,_,rfl⟩,fun k hk=>by cases hk⟩
 have hall:∀i,i < len→ ∃q:Dt×Value,(w.cell? (a.add (i*3))=some (.string q.1.name)∧w.cell? (a.add (i*3+1))=some (.int .i64 q.1.vars)∧w.cell? (a.add (i*3+2))=some (q.2))∧RdCns w.heap.size w q.2 q.1.cons∧FY q.1:=by
  intro i hi;obtain⟨cs',y,h1,h2⟩:=hx i hi;rw[show Tryz.prog.cellsOf 114=3 by kernel_rfl]at h1;obtain⟨_,hlen,hcell⟩:=II h1;obtain⟨v0,v1,v2,rfl⟩:∃v0 v1 v2,cs'=[v0,v1,v2]:=by
   match cs',hlen with
   | [v0,v1,v2],_=>exact⟨_,_,_,rfl⟩
  obtain⟨n2,hn2,hf⟩:=FZ Tryz.underlying114 h2;obtain⟨y0,g0⟩:=hf 0 _ rfl;change DataW.trod enc Pq w base (fun _=>true) held n2 9 (([v0,v1,v2].drop 0).take (Tryz.prog.cellsOf 9))=some y0 at g0;rw[show Tryz.prog.cellsOf 9=1 by kernel_rfl]at g0;replace g0:DataW.trod enc Pq w base (fun _=>true) held n2 9 [v0]=some y0:=g0;obtain⟨y1,g1⟩:=hf 1 _ rfl;change DataW.trod enc Pq w base (fun _=>true) held n2 3 (([v0,v1,v2].drop 1).take (Tryz.prog.cellsOf 3))=some y1 at g1;rw[show Tryz.prog.cellsOf 3=1 by kernel_rfl]at g1;replace g1:DataW.trod enc Pq w base (fun _=>true) held n2 3 [v1]=some y1:=g1;obtain⟨y2,g2⟩:=hf 2 _ rfl;change DataW.trod enc Pq w base (fun _=>true) held n2 112 (([v0,v1,v2].drop 2).take (Tryz.prog.cellsOf 112))=some y2 at g2;rw[show Tryz.prog.cellsOf 112=1 by kernel_rfl]at g2;replace g2:DataW.trod enc Pq w base (fun _=>true) held n2 112 [v2]=some y2:=g2;obtain⟨o0,q0, -,hs0⟩:=Gf Tryz.underlying9 g0;simp only[List.cons.injEq,Dg]at q0;subst q0;obtain⟨o1,rfl,i1⟩:=Db Tryz.underlying3 g1;obtain⟨ks,rk,sk⟩:=Ta g2;have e0:=hcell 0 (by omega);rw[Dv]at e0;have e1:=hcell 1 (by omega);rw[Dv]at e1;have e2:=hcell 2 (by omega);rw[Dv]at e2;exact⟨(⟨o0,o1,ks⟩,v2),⟨by (have q:=e0;simp at q;exact q),by (have q:=e1;simp at q;exact q),by (have q:=e2;simp at q;exact q)⟩,rk,⟨⟨hs0,sk⟩,i1⟩⟩
 rcases Fy len with rfl |hpos
 ·exact⟨[],.inl ⟨rfl,_,_,rfl⟩,fun k hk=>by cases hk⟩
 haveI:Inhabited (Dt×Value):=⟨(⟨⟨#[]⟩,0,[]⟩,.int .i64 0)⟩
 obtain⟨f,hf⟩:∃f:Nat→Dt×Value,∀i,i < len→(w.cell? (a.add (i*3))=some (.string (f i).1.name)∧w.cell? (a.add (i*3+1))=some (.int .i64 (f i).1.vars)∧w.cell? (a.add (i*3+2))=some ((f i).2))∧RdCns w.heap.size w (f i).2 (f i).1.cons∧FY (f i).1:=G1 hall;obtain⟨b,off,spot⟩:=a;have hz:=(hf 0 hpos).1.1;have hspot:spot=none:=by
  have:w.cell? ⟨b,off,spot⟩=some (.string (f 0).1.name):=by simpa [Addr.add] using hz
  simpa using G2 this
 subst hspot;have hc0:∀i,i < len→w.cell? ⟨b,off+i*3,none⟩=some (.string (f i).1.name):=fun i hi=>by rw[← (hf i hi).1.1,CV]
 have hc1:∀i,i < len→w.cell? ⟨b,off+i*3+1,none⟩=some (.int .i64 (f i).1.vars):=fun i hi=>by rw[← (hf i hi).1.2.1,CV,Dp]
 have hc2:∀i,i < len→w.cell? ⟨b,off+i*3+2,none⟩=some ((f i).2):=fun i hi=>by rw[← (hf i hi).1.2.2,CV,Dp]
 have hb:b < w.heap.size:=Gb w ⟨b,off,none⟩ (u:= .string (f 0).1.name) (by simpa using hc0 0 hpos);have hkl:((List.range len).map fun i=>(f i).1).length=len:=by simp
 refine⟨(List.range len).map fun i=>(f i).1,?_,?_⟩
 ·rw[show Value.slice (some ⟨b,off,none⟩) len cap= .slice (some ⟨b,off,none⟩) ((List.range len).map fun i=>(f i).1).length cap by rw[hkl]];refine .inr ⟨b,off,cap,fun i=>(f i).2,rfl,hb,hb,⟨by rw[hkl];omega,by rw[hkl];exact hl⟩,fun j hj=> ?_⟩;have hj2:j < len:=by rw[hkl]at hj;exact hj
  simp only[Gd,Ge];exact⟨hc0 j hj2,hc1 j hj2,hc2 j hj2,(hf j hj2).2.1⟩
 ·intro k hk;simp only[Gc,Ed]at hk;obtain⟨i,hi,rfl⟩:=hk;exact(hf i hi).2.2
theorem MX:∀ (N fuel:Nat),fuel≤N→ ∀ (c:Value) (x:DataW H×List MemPlace),DataW.trod enc Pq w base (fun _=>true) held fuel 23 [c]=some x→ ∃ks,RdNs w.heap.size w c ks∧ ∀k∈ks,StrN k
 |0,fuel,hle,c,x,h=>by
  have:fuel=0:=by omega
  subst this;simp[DataW.trod]at h
 |N+1,fuel,hle,c,x,h=>by
  obtain⟨n,hn,rfl |⟨a,len,cap,rfl,hl,hm,hx⟩⟩:=Il Tryz.underlying23 h
  ·exact⟨[],.nil _ _,fun k hk=>by cases hk⟩
  have hall:∀i,i < len→ ∃q:Nd×Value,(w.cell? (a.add (i*5))=some (.int .i64 q.1.op)∧w.cell? (a.add (i*5+1))=some (.int .i64 q.1.n)∧w.cell? (a.add (i*5+2))=some (.string q.1.s)∧w.cell? (a.add (i*5+3))=some (.string q.1.t)∧w.cell? (a.add (i*5+4))=some (q.2))∧RdNs w.heap.size w q.2 q.1.kids∧StrN q.1:=by
   intro i hi;obtain⟨cs',y,h1,h2⟩:=hx i hi;rw[show Tryz.prog.cellsOf 25=5 by kernel_rfl]at h1;obtain⟨_,hlen,hcell⟩:=II h1;obtain⟨v0,v1,v2,v3,v4,rfl⟩:∃v0 v1 v2 v3 v4,cs'=[v0,v1,v2,v3,v4]:=by
    match cs',hlen with
    | [v0,v1,v2,v3,v4],_=>exact⟨_,_,_,_,_,rfl⟩
   obtain⟨n2,hn2,hf⟩:=FZ Tryz.underlying25 h2;obtain⟨y0,g0⟩:=hf 0 _ rfl;change DataW.trod enc Pq w base (fun _=>true) held n2 3 (([v0,v1,v2,v3,v4].drop 0).take (Tryz.prog.cellsOf 3))=some y0 at g0;rw[show Tryz.prog.cellsOf 3=1 by kernel_rfl]at g0;replace g0:DataW.trod enc Pq w base (fun _=>true) held n2 3 [v0]=some y0:=g0;obtain⟨y1,g1⟩:=hf 1 _ rfl;change DataW.trod enc Pq w base (fun _=>true) held n2 3 (([v0,v1,v2,v3,v4].drop 1).take (Tryz.prog.cellsOf 3))=some y1 at g1;rw[show Tryz.prog.cellsOf 3=1 by kernel_rfl]at g1;replace g1:DataW.trod enc Pq w base (fun _=>true) held n2 3 [v1]=some y1:=g1;obtain⟨y2,g2⟩:=hf 2 _ rfl;change DataW.trod enc Pq w base (fun _=>true) held n2 9 (([v0,v1,v2,v3,v4].drop 2).take (Tryz.prog.cellsOf 9))=some y2 at g2;rw[show Tryz.prog.cellsOf 9=1 by kernel_rfl]at g2;replace g2:DataW.trod enc Pq w base (fun _=>true) held n2 9 [v2]=some y2:=g2;obtain⟨y3,g3⟩:=hf 3 _ rfl;change DataW.trod enc Pq w base (fun _=>true) held n2 9 (([v0,v1,v2,v3,v4].drop 3).take (Tryz.prog.cellsOf 9))=some y3 at g3;rw[show Tryz.prog.cellsOf 9=1 by kernel_rfl]at g3;replace g3:DataW.trod enc Pq w base (fun _=>true) held n2 9 [v3]=some y3:=g3;obtain⟨y4,g4⟩:=hf 4 _ rfl;change DataW.trod enc Pq w base (fun _=>true) held n2 23 (([v0,v1,v2,v3,v4].drop 4).take (Tryz.prog.cellsOf 23))=some y4 at g4;rw[show Tryz.prog.cellsOf 23=1 by kernel_rfl]at g4;replace g4:DataW.trod enc Pq w base (fun _=>true) held n2 23 [v4]=some y4:=g4;obtain⟨o0,rfl,i0⟩:=Db Tryz.underlying3 g0;obtain⟨o1,rfl,i1⟩:=Db Tryz.underlying3 g1;obtain⟨o2,q2, -,hs2⟩:=Gf Tryz.underlying9 g2;simp only[List.cons.injEq,Dg]at q2;subst q2;obtain⟨o3,q3, -,hs3⟩:=Gf Tryz.underlying9 g3;simp only[List.cons.injEq,Dg]at q3;subst q3;obtain⟨ks,rk,sk⟩:=MX N n2 (by omega) _ _ g4;have e0:=hcell 0 (by omega);rw[Dv]at e0;have e1:=hcell 1 (by omega);rw[Dv]at e1;have e2:=hcell 2 (by omega);rw[Dv]at e2;have e3:=hcell 3 (by omega);rw[Dv]at e3;have e4:=hcell 4 (by omega);rw[Dv]at e4;exact⟨(.mk o0 o1 o2 o3 ks,v4),⟨by (have q:=e0;simp at q;exact q),by (have q:=e1;simp at q;exact q),by (have q:=e2;simp at q;exact q),by (have q:=e3;simp at q;exact q),by (have q:=e4;simp at q;exact q)⟩,rk,.mk _ ⟨hs2,hs3⟩ sk⟩
  rcases Fy len with rfl |hpos
  ·exact⟨[],.nil _ _,fun k hk=>by cases hk⟩
  haveI:Inhabited (Nd×Value):=⟨(.mk 0 0 ⟨#[]⟩ ⟨#[]⟩ [],.int .i64 0)⟩
  obtain⟨f,hf⟩:∃f:Nat→Nd×Value,∀i,i < len→(w.cell? (a.add (i*5))=some (.int .i64 (f i).1.op)∧w.cell? (a.add (i*5+1))=some (.int .i64 (f i).1.n)∧w.cell? (a.add (i*5+2))=some (.string (f i).1.s)∧w.cell? (a.add (i*5+3))=some (.string (f i).1.t)∧w.cell? (a.add (i*5+4))=some ((f i).2))∧RdNs w.heap.size w (f i).2 (f i).1.kids∧StrN (f i).1:=G1 hall;obtain⟨b,off,spot⟩:=a;have hz:=(hf 0 hpos).1.1;have hspot:spot=none:=by
   have:w.cell? ⟨b,off,spot⟩=some (.int .i64 (f 0).1.op):=by simpa [Addr.add] using hz
   simpa using G2 this
  subst hspot;have hc0:∀i,i < len→w.cell? ⟨b,off+i*5,none⟩=some (.int .i64 (f i).1.op):=fun i hi=>by rw[← (hf i hi).1.1,CV]
  have hc1:∀i,i < len→w.cell? ⟨b,off+i*5+1,none⟩=some (.int .i64 (f i).1.n):=fun i hi=>by rw[← (hf i hi).1.2.1,CV,Dp]
  have hc2:∀i,i < len→w.cell? ⟨b,off+i*5+2,none⟩=some (.string (f i).1.s):=fun i hi=>by rw[← (hf i hi).1.2.2.1,CV,Dp]
  have hc3:∀i,i < len→w.cell? ⟨b,off+i*5+3,none⟩=some (.string (f i).1.t):=fun i hi=>by rw[← (hf i hi).1.2.2.2.1,CV,Dp]
  have hc4:∀i,i < len→w.cell? ⟨b,off+i*5+4,none⟩=some ((f i).2):=fun i hi=>by rw[← (hf i hi).1.2.2.2.2,CV,Dp]
  have hb:b < w.heap.size:=Gb w ⟨b,off,none⟩ (u:= .int .i64 (f 0).1.op) (by simpa using hc0 0 hpos);have hkl:((List.range len).map fun i=>(f i).1).length=len:=by simp
  refine⟨(List.range len).map fun i=>(f i).1,?_,?_⟩
  ·rw[show Value.slice (some ⟨b,off,none⟩) len cap= .slice (some ⟨b,off,none⟩) ((List.range len).map fun i=>(f i).1).length cap by rw[hkl]];refine .row b off cap _ (fun i=>(f i).2) hb hb ⟨by rw[hkl];omega,by rw[hkl];exact hl⟩ (fun j hj=> ?_) (fun j hj=> ?_)
   ·have hj2:j < len:=by rw[hkl]at hj;exact hj
    simp only[Gd,Ge];exact⟨hc0 j hj2,hc1 j hj2,hc2 j hj2,hc3 j hj2,hc4 j hj2⟩
   ·have hj2:j < len:=by rw[hkl]at hj;exact hj
    simp only[Gd,Ge];exact(hf j hj2).2.1
  ·intro k hk;simp only[Gc,Ed]at hk;obtain⟨i,hi,rfl⟩:=hk;exact(hf i hi).2.2
theorem Tc {fuel:Nat}{c:Value}{x:DataW H×List MemPlace}(h:DataW.trod enc Pq w base (fun _=>true) held fuel 23 [c]=some x):∃ks,RdNs w.heap.size w c ks∧ ∀k∈ks,StrN k:=MX fuel fuel (Ad _) c x h
theorem Td {r:Reach}{b0:Nat}{v:Value}{d:DataW H}{p:List MemPlace}(hv:Value.okWide Pq w r b0 27 v) (h:DataW.Trod enc Pq w base (fun _=>true) held 27 v d p):
  ∃ds x dv kv,v=pgV dv x kv∧RdDts w.heap.size w dv ds∧RdNs w.heap.size w kv x.kids∧(∀d∈ds,FY d)∧StrN x:=by
 obtain⟨cs,rfl,hsz⟩:=okWide_struct Tryz.underlying27 hv;rw[show Tryz.prog.cellsOf 27=6 by kernel_rfl]at hsz;obtain⟨fuel,hf⟩:=h;obtain⟨l⟩:=cs;obtain⟨v0,v1,v2,v3,v4,v5,rfl⟩:∃v0 v1 v2 v3 v4 v5,l=[v0,v1,v2,v3,v4,v5]:=by
  have hl:l.length=6:=by simpa using hsz
  match l,hl with
  | [v0,v1,v2,v3,v4,v5],_=>exact⟨_,_,_,_,_,_,rfl⟩
 obtain⟨n, -,hfd⟩:=FZ Tryz.underlying27 hf;obtain⟨y0,g0⟩:=hfd 0 _ rfl;change DataW.trod enc Pq w base (fun _=>true) held n 22 (([v0,v1,v2,v3,v4,v5].drop 0).take (Tryz.prog.cellsOf 22))=some y0 at g0;rw[show Tryz.prog.cellsOf 22=1 by kernel_rfl]at g0;replace g0:DataW.trod enc Pq w base (fun _=>true) held n 22 [v0]=some y0:=g0;obtain⟨y1,g1⟩:=hfd 1 _ rfl;change DataW.trod enc Pq w base (fun _=>true) held n 25 (([v0,v1,v2,v3,v4,v5].drop 1).take (Tryz.prog.cellsOf 25))=some y1 at g1;rw[show Tryz.prog.cellsOf 25=5 by kernel_rfl]at g1;replace g1:DataW.trod enc Pq w base (fun _=>true) held n 25 [v1,v2,v3,v4,v5]=some y1:=g1;obtain⟨ds,rd,sd⟩:=Tb g0;obtain⟨n2, -,hfe⟩:=FZ Tryz.underlying25 g1;obtain⟨z0,q0⟩:=hfe 0 _ rfl;change DataW.trod enc Pq w base (fun _=>true) held n2 3 (([v1,v2,v3,v4,v5].drop 0).take (Tryz.prog.cellsOf 3))=some z0 at q0;rw[show Tryz.prog.cellsOf 3=1 by kernel_rfl]at q0;replace q0:DataW.trod enc Pq w base (fun _=>true) held n2 3 [v1]=some z0:=q0;obtain⟨z1,q1⟩:=hfe 1 _ rfl;change DataW.trod enc Pq w base (fun _=>true) held n2 3 (([v1,v2,v3,v4,v5].drop 1).take (Tryz.prog.cellsOf 3))=some z1 at q1;rw[show Tryz.prog.cellsOf 3=1 by kernel_rfl]at q1;replace q1:DataW.trod enc Pq w base (fun _=>true) held n2 3 [v2]=some z1:=q1;obtain⟨z2,q2⟩:=hfe 2 _ rfl;change DataW.trod enc Pq w base (fun _=>true) held n2 9 (([v1,v2,v3,v4,v5].drop 2).take (Tryz.prog.cellsOf 9))=some z2 at q2;rw[show Tryz.prog.cellsOf 9=1 by kernel_rfl]at q2;replace q2:DataW.trod enc Pq w base (fun _=>true) held n2 9 [v3]=some z2:=q2;obtain⟨z3,q3⟩:=hfe 3 _ rfl;change DataW.trod enc Pq w base (fun _=>true) held n2 9 (([v1,v2,v3,v4,v5].drop 3).take (Tryz.prog.cellsOf 9))=some z3 at q3;rw[show Tryz.prog.cellsOf 9=1 by kernel_rfl]at q3;replace q3:DataW.trod enc Pq w base (fun _=>true) held n2 9 [v4]=some z3:=q3;obtain⟨z4,q4⟩:=hfe 4 _ rfl;change DataW.trod enc Pq w base (fun _=>true) held n2 23 (([v1,v2,v3,v4,v5].drop 4).take (Tryz.prog.cellsOf 23))=some z4 at q4;rw[show Tryz.prog.cellsOf 23=1 by kernel_rfl]at q4;replace q4:DataW.trod enc Pq w base (fun _=>true) held n2 23 [v5]=some z4:=q4;obtain⟨o0,rfl, -⟩:=Db Tryz.underlying3 q0;obtain⟨o1,rfl, -⟩:=Db Tryz.underlying3 q1;obtain⟨o2,e2, -,hs2⟩:=Gf Tryz.underlying9 q2;obtain⟨o3,e3, -,hs3⟩:=Gf Tryz.underlying9 q3;simp only[List.cons.injEq,Dg]at e2 e3;subst e2 e3;obtain⟨ks,rk,sk⟩:=Tc q4;exact⟨ds,.mk o0 o1 o2 o3 ks,v0,v5,rfl,rd,rk,sd,.mk _ ⟨hs2,hs3⟩ sk⟩
end
end Go.Proofs.YtifhcbeaiijkcaaGreat
end
