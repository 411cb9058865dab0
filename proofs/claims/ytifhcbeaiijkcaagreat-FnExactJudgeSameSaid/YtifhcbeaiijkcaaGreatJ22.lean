/- Parts of the proof of FnExactJudgeSame. -/
import Derived.Test.YtifhcbeaiijkcaaGreatJ01
import Derived.Test.YtifhcbeaiijkcaaGreatJ03
import Derived.Test.YtifhcbeaiijkcaaGreatJ21
import Derived.Test.YtifhcbeaiijkcaaGreatJ04
import Derived.Test.YtifhcbeaiijkcaaGreatJ05
import Derived.Test.YtifhcbeaiijkcaaGreatJ08
set_option linter.unusedVariables false
set_option linter.unusedSimpArgs false
set_option maxRecDepth 1000000
set_option maxHeartbeats 16000000
namespace Go.Proofs.YtifhcbeaiijkcaaGreat
open Go.RowKit
open _root_.Go.World renaming alloc→Wa,setCell→Ws
open _root_.Go.Proofs.Tryz renaming prog→Pq
theorem RdCns.len {B:Nat}{w:World}{v:Value}{cs:List Cn}(h:RdCns B w v cs):cs.length≤maxLen:=by
 rcases h with ⟨rfl,_⟩ |⟨b,off,cap,av,h1,h2,h3,h4,h5⟩
 ·simp
 ·exact h4.1
theorem RdDts.len {B:Nat}{w:World}{v:Value}{ds:List Dt}(h:RdDts B w v ds):ds.length≤maxLen:=by
 rcases h with ⟨rfl,_⟩ |⟨b,off,cap,av,h1,h2,h3,h4,h5⟩
 ·simp
 ·exact h4.1
def B0 {α:Type}(f:α→Nat):List α→Nat
 | []=>0
 |x::xs=>f x+B0 f xs
theorem GH {α:Type}(f:α→Nat):∀ (xs:List α) (k:Nat) (h:k < xs.length),B0 f (xs.take (k+1))=B0 f (xs.take k)+f xs[k]
 |x::xs,0,h=>by simp[B0]
 |x::xs,k+1,h=>by
  have:=GH f xs k (by simpa using h);simp only[List.take_succ_cons,List.getElem_cons_succ,B0];omega
theorem GI {α:Type}(f:α→Nat):∀ (xs:List α) (k:Nat),B0 f (xs.take k)≤B0 f xs
 | [],k=>by simp
 |x::xs,0=>by simp[B0]
 |x::xs,k+1=>by
  have:=GI f xs k;simp only[List.take_succ_cons,B0];omega
theorem JF:∀ks,wgT.wgTs ks=ks.length+B0 wgT ks
 | []=>rfl
 |x::xs=>by have:=JF xs;unfold wgT.wgTs B0;simp only[List.length_cons];omega
theorem JG:∀ks,Dc ks=ks.length+B0 wgC ks
 | []=>rfl
 |x::xs=>by have:=JG xs;unfold Dc B0;simp only[List.length_cons];omega
theorem JH:∀ks,AN ks=ks.length+B0 wgD ks
 | []=>rfl
 |x::xs=>by have:=JH xs;unfold AN B0;simp only[List.length_cons];omega
theorem JI:∀ks,wgN.wgNs ks=ks.length+B0 wgN ks
 | []=>rfl
 |x::xs=>by have:=JI xs;unfold wgN.wgNs B0;simp only[List.length_cons];omega
inductive StrT:Tp→Prop
 |mk (x:Tp) (h:x.s.size≤maxLen) (hk:∀k∈x.kids,StrT k):StrT x
theorem StrT.inv {x:Tp}(h:StrT x):x.s.size≤maxLen∧ ∀k∈x.kids,StrT k:=by cases h with |mk _ h hk=>exact⟨h,hk⟩
def GJ (c:Cn):Prop:=c.name.size≤maxLen∧ ∀k∈c.args,StrT k
def JJ (d:Dt):Prop:=d.name.size≤maxLen∧ ∀k∈d.cons,GJ k
inductive StrN:Nd→Prop
 |mk (x:Nd) (h:x.s.size≤maxLen∧x.t.size≤maxLen) (hk:∀k∈x.kids,StrN k):StrN x
theorem StrN.inv {x:Nd}(h:StrN x):(x.s.size≤maxLen∧x.t.size≤maxLen)∧ ∀k∈x.kids,StrN k:=by cases h with |mk _ h hk=>exact⟨h,hk⟩
theorem Tq (x:Tp) (a:Option Addr) (c:Nat) (left:Int) (w:World) (hs:x.s.size≤maxLen) (h0:-1≤left) (h1:left≤4611686018427387904)
  (HS:∀ (L:Int) (W:World),Below w.heap.size w W→ -1≤L→L≤4611686018427387904→Calls Pq 219 #[.slice a x.kids.length c,.int .i64 L] W fun e W'=>e= .returned (.int .i64 (Ak (wgT.wgTs x.kids) L))∧Below W.heap.size W W'):
  Calls Pq 241 #[.agg #[.int .i64 x.op,.int .i64 x.n,.string x.s,.slice a x.kids.length c],.int .i64 left] w fun e w'=>e= .returned (.int .i64 (Ak (wgT x) left))∧Below w.heap.size w w':=by
 have HW:=Aa (show wgT x=x.s.size+wgT.wgTs x.kids by cases x;rfl);unfold maxLen at hs;generalize x.op=f_op at*;generalize x.n=f_n at*;generalize x.s=f_s at*;generalize wgT x=W at*;generalize wgT.wgTs x.kids=V at*;generalize x.kids=ks at*;have HQ:=Aa HS;clear HS;have hs1:=hs;clear hs;by_cases n0:left - f_s.size < 0
 ·have HF:=Aa (show Ak W left= -1 by unfold Ak;rw[HW.out,Af (by omega)]);clear HQ;go_enter Tryz.func241,Tryz.ntmps241;go_wp2;generalize hx:w.alloc _=x0;obtain⟨bx,k1⟩:=Bx.alloc hx;go_ret;exact⟨Ap HF.out.symm,bx⟩
 obtain⟨Z,hZ⟩:∃Z,Ak V (left - f_s.size)=Z:=⟨_,rfl⟩;have HZ:=Aa hZ;clear hZ;have HF:=Aa (show Ak W left=Z by
  rw[←HZ.out];unfold Ak;rw[HW.out];by_cases h:left - f_s.size - V < 0
  ·rw[Af h,Af (by omega)]
  ·rw[Ae h,Ae (by omega)];omega)
 go_enter Tryz.func241,Tryz.ntmps241;go_wp2_with fail;generalize hx:w.alloc _=x0;obtain⟨bx,k1⟩:=Bx.alloc hx;clear hx;refine(HQ.out _ x0 bx (by omega) (by omega)).mono ?_;rw[HZ.out];rintro e w2 ⟨rfl,b2⟩;have B2:=Aa (bx.trans (b2.mono bx.size));clear bx b2 k1 HQ;by_cases hn:Z < 0
 ·have HE:=Aa (show Z= -1 by have:=HZ.out;unfold Ak at this;split at this <;> omega);go_wp2;go_ret;exact⟨Ap (by rw[HF.out,HE.out]),B2.out⟩
 ·go_wp2;go_ret;exact⟨Ap HF.out.symm,B2.out⟩
theorem Tr {B:Nat}(v:Value) (ks:List Tp) (left:Int) (w:World) (hr:RdTps B w v ks) (h0:-1≤left) (h1:left≤4611686018427387904)
  (HE:∀ (k:Nat) (h:k < ks.length) (kv:Value) (L:Int) (W:World),RdTps W.heap.size W kv ks[k].kids→0≤L→L≤4611686018427387904→Calls Pq 241 #[.agg #[.int .i64 ks[k].op,.int .i64 ks[k].n,.string ks[k].s,kv],.int .i64 L] W fun e W'=>e= .returned (.int .i64 (Ak (wgT ks[k]) L))∧Below W.heap.size W W'):
  Calls Pq 219 #[v,.int .i64 left] w fun e w'=>e= .returned (.int .i64 (Ak (wgT.wgTs ks) left))∧Below w.heap.size w w':=by
 have hx:=hr.len;unfold maxLen at hx;have HR:=Aa (fun(W:World) (hb:Below w.heap.size w W)=>hr.later' hb);have HW:=Aa (JF ks);have HQ:=Aa HE;clear HE;obtain⟨a,cap0,rfl⟩:=hr.form;clear hr;generalize wgT.wgTs ks=W at*;by_cases hneg:left - ks.length < 0
 ·have HF:=Aa (show Ak W left= -1 by unfold Ak;rw[HW.out,Af (by omega)]);go_enter Tryz.func219,Tryz.ntmps219;go_wp2;go_ret;exact⟨Ap HF.out.symm,Ab _ _⟩
 ·go_enter Tryz.func219,Tryz.ntmps219;go_wp2
  go_loopw [1,5] (fun l i wr=>∃k:Nat,∃L:Int,k≤ks.length∧i= .int .i64 k∧l= .int .i64 L∧Hid (L=left - ks.length - B0 wgT (ks.take k))∧0≤L∧L≤4611686018427387904∧Below w.heap.size w wr) (fun _ i _=>ks.length - (intOf i).toNat)
  case atStart=>exact⟨0,_,Ao _,rfl,rfl,Aa (by simp[B0]),by omega,by omega,Ab _ _⟩
  case round=>
   obtain⟨k,L,hk,rfl,rfl,hL,hL0,hL1,hb⟩:=hrel;by_cases hlt:k < ks.length
   ·obtain⟨b,off,cap,kv,hv,hBc,hbsc,hcapc,⟨c0,c1,c2,c3⟩,hk2⟩:=(HR.out _ hb).at_ hlt;cases hv
    obtain⟨la,lc,rfl⟩:=hk2.form;have hz:=HQ.out k hlt _ L wr (hk2.later' (Ab _ _)) hL0 hL1;have htk:=GH wgT ks k hlt;have hle:=GI wgT ks (k+1);generalize ks[k]=y at*;obtain⟨Z,hZ⟩:∃Z,Ak (wgT y) L=Z:=⟨_,rfl⟩;rw[hZ]at hz;have HZ:=Aa hz;have HZZ:=Aa hZ;have HTK:=Aa htk;have HLE:=Aa hle;have BB:=Aa hb;have hkl:(k:Int) < (ks.length:Int):=by omega
    clear hz hZ htk hle hb hk2;generalize y.op=f_op at*;generalize y.n=f_n at*;generalize y.s=f_s at*;generalize y.kids=sk at*;go_wp2_with fail;refine HZ.out.mono ?_;rintro e w2 ⟨rfl,b2⟩;have B2:=Aa (BB.out.trans (b2.mono BB.out.size));clear BB b2 c0 c1 c2 c3 HZ;by_cases hZn:Z < 0
    ·have HE1:=Aa (show Z= -1∧Ak W left= -1 by
      have h1:=HZZ.out;have h2:=hL.out;have h3:=HLE.out;have h4:=HTK.out;have h5:=HW.out;unfold Ak at h1 ⊢;split at h1 <;> refine⟨by omega,?_⟩ <;> rw[Af (by omega)])
     go_wp2;go_ret;exact⟨Ap HE1.out.2.symm,B2.out⟩
    ·have HE2:=Aa (show Z=L - wgT y by
      have h1:=HZZ.out;unfold Ak at h1;split at h1 <;> omega)
     have hZ1:Z≤4611686018427387904:=by have:=HE2.out;omega
     go_wp2;go_roundw
     case rel=>exact⟨k+1,Z,hlt,by go_num,rfl,Aa (by have h1:=HE2.out;have h2:=hL.out;have h3:=HTK.out;omega),by omega,hZ1,B2.out⟩
     case measure=>simp[intOf];omega
   ·obtain rfl:k=ks.length:=by omega
    have HF:=Aa (show Ak W left=L by
     have h2:=hL.out;have h5:=HW.out;rw[B8]at h2;unfold Ak;rw[Ae (by omega)];omega)
    go_wp2;go_ret;exact⟨Ap HF.out.symm,hb⟩
theorem M1:∀ (N:Nat) (ks:List Tp) (v:Value) (left:Int) (B:Nat) (w:World),wgT.wgTs ks < N→RdTps B w v ks→(∀x∈ks,StrT x)→ -1≤left→left≤4611686018427387904→
  Calls Pq 219 #[v,.int .i64 left] w fun e w'=>e= .returned (.int .i64 (Ak (wgT.wgTs ks) left))∧Below w.heap.size w w'
 |0,ks,v,left,B,w,hN,_,_,_,_=>absurd hN (Aw _)
 |N+1,ks,v,left,B,w,hN,hr,hs,h0,h1=>Tr v ks left w hr h0 h1 fun k h kv L W hk g0 g1=>by
  have hlt:wgT.wgTs ks[k].kids < N:=by
   have a:=CJ (An h);have b:=DM ks[k];omega
  have hst:=(hs _ (An h)).inv;obtain⟨a,c,rfl⟩:=hk.form;exact Tq ks[k] a c L W hst.1 (by omega) g1 fun L' W' hb l0 l1=>M1 N _ _ L' _ W' hlt (hk.later' hb) hst.2 l0 l1
theorem Ts {B:Nat}(v:Value) (ks:List Tp) (left:Int) (w:World) (hr:RdTps B w v ks) (hs:∀x∈ks,StrT x) (h0:-1≤left) (h1:left≤4611686018427387904):
  Calls Pq 219 #[v,.int .i64 left] w fun e w'=>e= .returned (.int .i64 (Ak (wgT.wgTs ks) left))∧Below w.heap.size w w':=M1 _ ks v left B w (Cp _) hr hs h0 h1
theorem Tt (x:Cn) (a:Option Addr) (c:Nat) (left:Int) (w:World) (hs:x.name.size≤maxLen) (h0:-1≤left) (h1:left≤4611686018427387904)
  (HS:∀ (L:Int) (W:World),Below w.heap.size w W→ -1≤L→L≤4611686018427387904→Calls Pq 219 #[.slice a x.args.length c,.int .i64 L] W fun e W'=>e= .returned (.int .i64 (Ak (wgT.wgTs x.args) L))∧Below W.heap.size W W'):
  Calls Pq 179 #[.agg #[.string x.name,.slice a x.args.length c],.int .i64 left] w fun e w'=>e= .returned (.int .i64 (Ak (wgC x) left))∧Below w.heap.size w w':=by
 have HW:=Aa (show wgC x=x.name.size+wgT.wgTs x.args by cases x;rfl);unfold maxLen at hs;generalize x.name=f_name at*;generalize wgC x=W at*;generalize wgT.wgTs x.args=V at*;generalize x.args=ks at*;have HQ:=Aa HS;clear HS;have hs1:=hs;clear hs;by_cases n0:left - f_name.size < 0
 ·have HF:=Aa (show Ak W left= -1 by unfold Ak;rw[HW.out,Af (by omega)]);clear HQ;go_enter Tryz.func179,Tryz.ntmps179;go_wp2;generalize hx:w.alloc _=x0;obtain⟨bx,k1⟩:=Bx.alloc hx;go_ret;exact⟨Ap HF.out.symm,bx⟩
 obtain⟨Z,hZ⟩:∃Z,Ak V (left - f_name.size)=Z:=⟨_,rfl⟩;have HZ:=Aa hZ;clear hZ;have HF:=Aa (show Ak W left=Z by
  rw[←HZ.out];unfold Ak;rw[HW.out];by_cases h:left - f_name.size - V < 0
  ·rw[Af h,Af (by omega)]
  ·rw[Ae h,Ae (by omega)];omega)
 go_enter Tryz.func179,Tryz.ntmps179;go_wp2_with fail;generalize hx:w.alloc _=x0;obtain⟨bx,k1⟩:=Bx.alloc hx;clear hx;refine(HQ.out _ x0 bx (by omega) (by omega)).mono ?_;rw[HZ.out];rintro e w2 ⟨rfl,b2⟩;have B2:=Aa (bx.trans (b2.mono bx.size));clear bx b2 k1 HQ;by_cases hn:Z < 0
 ·have HE:=Aa (show Z= -1 by have:=HZ.out;unfold Ak at this;split at this <;> omega);go_wp2;go_ret;exact⟨Ap (by rw[HF.out,HE.out]),B2.out⟩
 ·go_wp2;go_ret;exact⟨Ap HF.out.symm,B2.out⟩
theorem Tu {B:Nat}(v:Value) (ks:List Cn) (left:Int) (w:World) (hr:RdCns B w v ks) (h0:-1≤left) (h1:left≤4611686018427387904)
  (HE:∀ (k:Nat) (h:k < ks.length) (kv:Value) (L:Int) (W:World),RdTps W.heap.size W kv ks[k].args→0≤L→L≤4611686018427387904→Calls Pq 179 #[.agg #[.string ks[k].name,kv],.int .i64 L] W fun e W'=>e= .returned (.int .i64 (Ak (wgC ks[k]) L))∧Below W.heap.size W W'):
  Calls Pq 126 #[v,.int .i64 left] w fun e w'=>e= .returned (.int .i64 (Ak (Dc ks) left))∧Below w.heap.size w w':=by
 have hx:=hr.len;unfold maxLen at hx;have HR:=Aa (fun(W:World) (hb:Below w.heap.size w W)=>hr.later' hb);have HW:=Aa (JG ks);have HQ:=Aa HE;clear HE;obtain⟨a,cap0,rfl⟩:=hr.form;clear hr;generalize Dc ks=W at*;by_cases hneg:left - ks.length < 0
 ·have HF:=Aa (show Ak W left= -1 by unfold Ak;rw[HW.out,Af (by omega)]);go_enter Tryz.func126,Tryz.ntmps126;go_wp2;go_ret;exact⟨Ap HF.out.symm,Ab _ _⟩
 ·go_enter Tryz.func126,Tryz.ntmps126;go_wp2
  go_loopw [1,5] (fun l i wr=>∃k:Nat,∃L:Int,k≤ks.length∧i= .int .i64 k∧l= .int .i64 L∧Hid (L=left - ks.length - B0 wgC (ks.take k))∧0≤L∧L≤4611686018427387904∧Below w.heap.size w wr) (fun _ i _=>ks.length - (intOf i).toNat)
  case atStart=>exact⟨0,_,Ao _,rfl,rfl,Aa (by simp[B0]),by omega,by omega,Ab _ _⟩
  case round=>
   obtain⟨k,L,hk,rfl,rfl,hL,hL0,hL1,hb⟩:=hrel;by_cases hlt:k < ks.length
   ·obtain⟨b,off,cap,kv,hv,hBc,hbsc,hcapc,c0,c1,hk2⟩:=(HR.out _ hb).at_ hlt;cases hv
    obtain⟨la,lc,rfl⟩:=hk2.form;have hz:=HQ.out k hlt _ L wr (hk2.later' (Ab _ _)) hL0 hL1;have htk:=GH wgC ks k hlt;have hle:=GI wgC ks (k+1);generalize ks[k]=y at*;obtain⟨Z,hZ⟩:∃Z,Ak (wgC y) L=Z:=⟨_,rfl⟩;rw[hZ]at hz;have HZ:=Aa hz;have HZZ:=Aa hZ;have HTK:=Aa htk;have HLE:=Aa hle;have BB:=Aa hb;have hkl:(k:Int) < (ks.length:Int):=by omega
    clear hz hZ htk hle hb hk2;generalize y.name=f_name at*;generalize y.args=sk at*;go_wp2_with fail;refine HZ.out.mono ?_;rintro e w2 ⟨rfl,b2⟩;have B2:=Aa (BB.out.trans (b2.mono BB.out.size));clear BB b2 c0 c1 HZ;by_cases hZn:Z < 0
    ·have HE1:=Aa (show Z= -1∧Ak W left= -1 by
      have h1:=HZZ.out;have h2:=hL.out;have h3:=HLE.out;have h4:=HTK.out;have h5:=HW.out;unfold Ak at h1 ⊢;split at h1 <;> refine⟨by omega,?_⟩ <;> rw[Af (by omega)])
     go_wp2;go_ret;exact⟨Ap HE1.out.2.symm,B2.out⟩
    ·have HE2:=Aa (show Z=L - wgC y by
      have h1:=HZZ.out;unfold Ak at h1;split at h1 <;> omega)
     have hZ1:Z≤4611686018427387904:=by have:=HE2.out;omega
     go_wp2;go_roundw
     case rel=>exact⟨k+1,Z,hlt,by go_num,rfl,Aa (by have h1:=HE2.out;have h2:=hL.out;have h3:=HTK.out;omega),by omega,hZ1,B2.out⟩
     case measure=>simp[intOf];omega
   ·obtain rfl:k=ks.length:=by omega
    have HF:=Aa (show Ak W left=L by
     have h2:=hL.out;have h5:=HW.out;rw[B8]at h2;unfold Ak;rw[Ae (by omega)];omega)
    go_wp2;go_ret;exact⟨Ap HF.out.symm,hb⟩
theorem Tx {B:Nat}(v:Value) (ks:List Cn) (left:Int) (w:World) (hr:RdCns B w v ks) (hs:∀x∈ks,GJ x) (h0:-1≤left) (h1:left≤4611686018427387904):
  Calls Pq 126 #[v,.int .i64 left] w fun e w'=>e= .returned (.int .i64 (Ak (Dc ks) left))∧Below w.heap.size w w':=
 Tu v ks left w hr h0 h1 fun k h kv L W hk g0 g1=>by
  have hst:=hs _ (An h);obtain⟨a,c,rfl⟩:=hk.form;exact Tt ks[k] a c L W hst.1 (by omega) g1 fun L' W' hb l0 l1=>Ts _ _ L' W' (hk.later' hb) hst.2 l0 l1
theorem Ty (x:Dt) (a:Option Addr) (c:Nat) (left:Int) (w:World) (hs:x.name.size≤maxLen) (h0:-1≤left) (h1:left≤4611686018427387904)
  (HS:∀ (L:Int) (W:World),Below w.heap.size w W→ -1≤L→L≤4611686018427387904→Calls Pq 126 #[.slice a x.cons.length c,.int .i64 L] W fun e W'=>e= .returned (.int .i64 (Ak (Dc x.cons) L))∧Below W.heap.size W W'):
  Calls Pq 60 #[.agg #[.string x.name,.int .i64 x.vars,.slice a x.cons.length c],.int .i64 left] w fun e w'=>e= .returned (.int .i64 (Ak (wgD x) left))∧Below w.heap.size w w':=by
 have HW:=Aa (show wgD x=x.name.size+Dc x.cons by cases x;rfl);unfold maxLen at hs;generalize x.name=f_name at*;generalize x.vars=f_vars at*;generalize wgD x=W at*;generalize Dc x.cons=V at*;generalize x.cons=ks at*;have HQ:=Aa HS;clear HS;have hs1:=hs;clear hs;by_cases n0:left - f_name.size < 0
 ·have HF:=Aa (show Ak W left= -1 by unfold Ak;rw[HW.out,Af (by omega)]);clear HQ;go_enter Tryz.func60,Tryz.ntmps60;go_wp2;generalize hx:w.alloc _=x0;obtain⟨bx,k1⟩:=Bx.alloc hx;go_ret;exact⟨Ap HF.out.symm,bx⟩
 obtain⟨Z,hZ⟩:∃Z,Ak V (left - f_name.size)=Z:=⟨_,rfl⟩;have HZ:=Aa hZ;clear hZ;have HF:=Aa (show Ak W left=Z by
  rw[←HZ.out];unfold Ak;rw[HW.out];by_cases h:left - f_name.size - V < 0
  ·rw[Af h,Af (by omega)]
  ·rw[Ae h,Ae (by omega)];omega)
 go_enter Tryz.func60,Tryz.ntmps60;go_wp2_with fail;generalize hx:w.alloc _=x0;obtain⟨bx,k1⟩:=Bx.alloc hx;clear hx;refine(HQ.out _ x0 bx (by omega) (by omega)).mono ?_;rw[HZ.out];rintro e w2 ⟨rfl,b2⟩;have B2:=Aa (bx.trans (b2.mono bx.size));clear bx b2 k1 HQ;by_cases hn:Z < 0
 ·have HE:=Aa (show Z= -1 by have:=HZ.out;unfold Ak at this;split at this <;> omega);go_wp2;go_ret;exact⟨Ap (by rw[HF.out,HE.out]),B2.out⟩
 ·go_wp2;go_ret;exact⟨Ap HF.out.symm,B2.out⟩
theorem Tz {B:Nat}(v:Value) (ks:List Dt) (left:Int) (w:World) (hr:RdDts B w v ks) (h0:-1≤left) (h1:left≤4611686018427387904)
  (HE:∀ (k:Nat) (h:k < ks.length) (kv:Value) (L:Int) (W:World),RdCns W.heap.size W kv ks[k].cons→0≤L→L≤4611686018427387904→Calls Pq 60 #[.agg #[.string ks[k].name,.int .i64 ks[k].vars,kv],.int .i64 L] W fun e W'=>e= .returned (.int .i64 (Ak (wgD ks[k]) L))∧Below W.heap.size W W'):
  Calls Pq 19 #[v,.int .i64 left] w fun e w'=>e= .returned (.int .i64 (Ak (AN ks) left))∧Below w.heap.size w w':=by
 have hx:=hr.len;unfold maxLen at hx;have HR:=Aa (fun(W:World) (hb:Below w.heap.size w W)=>hr.later' hb);have HW:=Aa (JH ks);have HQ:=Aa HE;clear HE;obtain⟨a,cap0,rfl⟩:=hr.form;clear hr;generalize AN ks=W at*;by_cases hneg:left - ks.length < 0
 ·have HF:=Aa (show Ak W left= -1 by unfold Ak;rw[HW.out,Af (by omega)]);go_enter Tryz.func19,Tryz.ntmps19;go_wp2;go_ret;exact⟨Ap HF.out.symm,Ab _ _⟩
 ·go_enter Tryz.func19,Tryz.ntmps19;go_wp2
  go_loopw [1,5] (fun l i wr=>∃k:Nat,∃L:Int,k≤ks.length∧i= .int .i64 k∧l= .int .i64 L∧Hid (L=left - ks.length - B0 wgD (ks.take k))∧0≤L∧L≤4611686018427387904∧Below w.heap.size w wr) (fun _ i _=>ks.length - (intOf i).toNat)
  case atStart=>exact⟨0,_,Ao _,rfl,rfl,Aa (by simp[B0]),by omega,by omega,Ab _ _⟩
  case round=>
   obtain⟨k,L,hk,rfl,rfl,hL,hL0,hL1,hb⟩:=hrel;by_cases hlt:k < ks.length
   ·obtain⟨b,off,cap,kv,hv,hBc,hbsc,hcapc,c0,c1,c2,hk2⟩:=(HR.out _ hb).at_ hlt;cases hv
    obtain⟨la,lc,rfl⟩:=hk2.form;have hz:=HQ.out k hlt _ L wr (hk2.later' (Ab _ _)) hL0 hL1;have htk:=GH wgD ks k hlt;have hle:=GI wgD ks (k+1);generalize ks[k]=y at*;obtain⟨Z,hZ⟩:∃Z,Ak (wgD y) L=Z:=⟨_,rfl⟩;rw[hZ]at hz;have HZ:=Aa hz;have HZZ:=Aa hZ;have HTK:=Aa htk;have HLE:=Aa hle;have BB:=Aa hb;have hkl:(k:Int) < (ks.length:Int):=by omega
    clear hz hZ htk hle hb hk2;generalize y.name=f_name at*;generalize y.vars=f_vars at*;generalize y.cons=sk at*;go_wp2_with fail;refine HZ.out.mono ?_;rintro e w2 ⟨rfl,b2⟩;have B2:=Aa (BB.out.trans (b2.mono BB.out.size));clear BB b2 c0 c1 c2 HZ;by_cases hZn:Z < 0
    ·have HE1:=Aa (show Z= -1∧Ak W left= -1 by
      have h1:=HZZ.out;have h2:=hL.out;have h3:=HLE.out;have h4:=HTK.out;have h5:=HW.out;unfold Ak at h1 ⊢;split at h1 <;> refine⟨by omega,?_⟩ <;> rw[Af (by omega)])
     go_wp2;go_ret;exact⟨Ap HE1.out.2.symm,B2.out⟩
    ·have HE2:=Aa (show Z=L - wgD y by
      have h1:=HZZ.out;unfold Ak at h1;split at h1 <;> omega)
     have hZ1:Z≤4611686018427387904:=by have:=HE2.out;omega
     go_wp2;go_roundw
     case rel=>exact⟨k+1,Z,hlt,by go_num,rfl,Aa (by have h1:=HE2.out;have h2:=hL.out;have h3:=HTK.out;omega),by omega,hZ1,B2.out⟩
     case measure=>simp[intOf];omega
   ·obtain rfl:k=ks.length:=by omega
    have HF:=Aa (show Ak W left=L by
     have h2:=hL.out;have h5:=HW.out;rw[B8]at h2;unfold Ak;rw[Ae (by omega)];omega)
    go_wp2;go_ret;exact⟨Ap HF.out.symm,hb⟩
theorem TA {B:Nat}(v:Value) (ks:List Dt) (left:Int) (w:World) (hr:RdDts B w v ks) (hs:∀x∈ks,JJ x) (h0:-1≤left) (h1:left≤4611686018427387904):
  Calls Pq 19 #[v,.int .i64 left] w fun e w'=>e= .returned (.int .i64 (Ak (AN ks) left))∧Below w.heap.size w w':=
 Tz v ks left w hr h0 h1 fun k h kv L W hk g0 g1=>by
  have hst:=hs _ (An h);obtain⟨a,c,rfl⟩:=hk.form;exact Ty ks[k] a c L W hst.1 (by omega) g1 fun L' W' hb l0 l1=>Tx _ _ L' W' (hk.later' hb) hst.2 l0 l1
theorem M3 (x:Nd) (a:Option Addr) (c:Nat) (left:Int) (w:World) (hs:x.s.size≤maxLen∧x.t.size≤maxLen) (h0:-1≤left) (h1:left≤4611686018427387904)
  (HS:∀ (L:Int) (W:World),Below w.heap.size w W→ -1≤L→L≤4611686018427387904→Calls Pq 61 #[.slice a x.kids.length c,.int .i64 L] W fun e W'=>e= .returned (.int .i64 (Ak (wgN.wgNs x.kids) L))∧Below W.heap.size W W'):
  Calls Pq 20 #[.agg #[.int .i64 x.op,.int .i64 x.n,.string x.s,.string x.t,.slice a x.kids.length c],.int .i64 left] w fun e w'=>e= .returned (.int .i64 (Ak (wgN x) left))∧Below w.heap.size w w':=by
 have HW:=Aa (show wgN x=x.s.size+x.t.size+wgN.wgNs x.kids by cases x;rfl);unfold maxLen at hs;generalize x.op=f_op at*;generalize x.n=f_n at*;generalize x.s=f_s at*;generalize x.t=f_t at*;generalize wgN x=W at*;generalize wgN.wgNs x.kids=V at*;generalize x.kids=ks at*;have HQ:=Aa HS;clear HS;obtain⟨hs1,hs2⟩:=hs;by_cases n0:left - f_s.size < 0
 ·have HF:=Aa (show Ak W left= -1 by unfold Ak;rw[HW.out,Af (by omega)]);clear HQ;go_enter Tryz.func20,Tryz.ntmps20;go_wp2;generalize hx:w.alloc _=x0;obtain⟨bx,k1⟩:=Bx.alloc hx;go_ret;exact⟨Ap HF.out.symm,bx⟩
 by_cases n1:left - f_s.size - f_t.size < 0
 ·have HF:=Aa (show Ak W left= -1 by unfold Ak;rw[HW.out,Af (by omega)]);clear HQ;go_enter Tryz.func20,Tryz.ntmps20;go_wp2;generalize hx:w.alloc _=x0;obtain⟨bx,k1⟩:=Bx.alloc hx;go_ret;exact⟨Ap HF.out.symm,bx⟩
 obtain⟨Z,hZ⟩:∃Z,Ak V (left - f_s.size - f_t.size)=Z:=⟨_,rfl⟩;have HZ:=Aa hZ;clear hZ;have HF:=Aa (show Ak W left=Z by
  rw[←HZ.out];unfold Ak;rw[HW.out];by_cases h:left - f_s.size - f_t.size - V < 0
  ·rw[Af h,Af (by omega)]
  ·rw[Ae h,Ae (by omega)];omega)
 go_enter Tryz.func20,Tryz.ntmps20;go_wp2_with fail;generalize hx:w.alloc _=x0;obtain⟨bx,k1⟩:=Bx.alloc hx;clear hx;refine(HQ.out _ x0 bx (by omega) (by omega)).mono ?_;rw[HZ.out];rintro e w2 ⟨rfl,b2⟩;have B2:=Aa (bx.trans (b2.mono bx.size));clear bx b2 k1 HQ;by_cases hn:Z < 0
 ·have HE:=Aa (show Z= -1 by have:=HZ.out;unfold Ak at this;split at this <;> omega);go_wp2;go_ret;exact⟨Ap (by rw[HF.out,HE.out]),B2.out⟩
 ·go_wp2;go_ret;exact⟨Ap HF.out.symm,B2.out⟩
theorem TE {B:Nat}(v:Value) (ks:List Nd) (left:Int) (w:World) (hr:RdNs B w v ks) (h0:-1≤left) (h1:left≤4611686018427387904)
  (HE:∀ (k:Nat) (h:k < ks.length) (kv:Value) (L:Int) (W:World),RdNs W.heap.size W kv ks[k].kids→0≤L→L≤4611686018427387904→Calls Pq 20 #[.agg #[.int .i64 ks[k].op,.int .i64 ks[k].n,.string ks[k].s,.string ks[k].t,kv],.int .i64 L] W fun e W'=>e= .returned (.int .i64 (Ak (wgN ks[k]) L))∧Below W.heap.size W W'):
  Calls Pq 61 #[v,.int .i64 left] w fun e w'=>e= .returned (.int .i64 (Ak (wgN.wgNs ks) left))∧Below w.heap.size w w':=by
 have hx:=hr.len;unfold maxLen at hx;have HR:=Aa (fun(W:World) (hb:Below w.heap.size w W)=>hr.later' hb);have HW:=Aa (JI ks);have HQ:=Aa HE;clear HE;obtain⟨a,cap0,rfl⟩:=hr.form;clear hr;generalize wgN.wgNs ks=W at*;by_cases hneg:left - ks.length < 0
 ·have HF:=Aa (show Ak W left= -1 by unfold Ak;rw[HW.out,Af (by omega)]);go_enter Tryz.func61,Tryz.ntmps61;go_wp2;go_ret;exact⟨Ap HF.out.symm,Ab _ _⟩
 ·go_enter Tryz.func61,Tryz.ntmps61;go_wp2
  go_loopw [1,5] (fun l i wr=>∃k:Nat,∃L:Int,k≤ks.length∧i= .int .i64 k∧l= .int .i64 L∧Hid (L=left - ks.length - B0 wgN (ks.take k))∧0≤L∧L≤4611686018427387904∧Below w.heap.size w wr) (fun _ i _=>ks.length - (intOf i).toNat)
  case atStart=>exact⟨0,_,Ao _,rfl,rfl,Aa (by simp[B0]),by omega,by omega,Ab _ _⟩
  case round=>
   obtain⟨k,L,hk,rfl,rfl,hL,hL0,hL1,hb⟩:=hrel;by_cases hlt:k < ks.length
   ·obtain⟨b,off,cap,kv,hv,hBc,hbsc,hcapc,⟨c0,c1,c2,c3,c4⟩,hk2⟩:=(HR.out _ hb).at_ hlt;cases hv
    obtain⟨la,lc,rfl⟩:=hk2.form;have hz:=HQ.out k hlt _ L wr (hk2.later' (Ab _ _)) hL0 hL1;have htk:=GH wgN ks k hlt;have hle:=GI wgN ks (k+1);generalize ks[k]=y at*;obtain⟨Z,hZ⟩:∃Z,Ak (wgN y) L=Z:=⟨_,rfl⟩;rw[hZ]at hz;have HZ:=Aa hz;have HZZ:=Aa hZ;have HTK:=Aa htk;have HLE:=Aa hle;have BB:=Aa hb;have hkl:(k:Int) < (ks.length:Int):=by omega
    clear hz hZ htk hle hb hk2;generalize y.op=f_op at*;generalize y.n=f_n at*;generalize y.s=f_s at*;generalize y.t=f_t at*;generalize y.kids=sk at*;go_wp2_with fail;refine HZ.out.mono ?_;rintro e w2 ⟨rfl,b2⟩;have B2:=Aa (BB.out.trans (b2.mono BB.out.size));clear BB b2 c0 c1 c2 c3 c4 HZ;by_cases hZn:Z < 0
    ·have HE1:=Aa (show Z= -1∧Ak W left= -1 by
      have h1:=HZZ.out;have h2:=hL.out;have h3:=HLE.out;have h4:=HTK.out;have h5:=HW.out;unfold Ak at h1 ⊢;split at h1 <;> refine⟨by omega,?_⟩ <;> rw[Af (by omega)])
     go_wp2;go_ret;exact⟨Ap HE1.out.2.symm,B2.out⟩
    ·have HE2:=Aa (show Z=L - wgN y by
      have h1:=HZZ.out;unfold Ak at h1;split at h1 <;> omega)
     have hZ1:Z≤4611686018427387904:=by have:=HE2.out;omega
     go_wp2;go_roundw
     case rel=>exact⟨k+1,Z,hlt,by go_num,rfl,Aa (by have h1:=HE2.out;have h2:=hL.out;have h3:=HTK.out;omega),by omega,hZ1,B2.out⟩
     case measure=>simp[intOf];omega
   ·obtain rfl:k=ks.length:=by omega
    have HF:=Aa (show Ak W left=L by
     have h2:=hL.out;have h5:=HW.out;rw[B8]at h2;unfold Ak;rw[Ae (by omega)];omega)
    go_wp2;go_ret;exact⟨Ap HF.out.symm,hb⟩
theorem M4:∀ (N:Nat) (ks:List Nd) (v:Value) (left:Int) (B:Nat) (w:World),wgN.wgNs ks < N→RdNs B w v ks→(∀x∈ks,StrN x)→ -1≤left→left≤4611686018427387904→
  Calls Pq 61 #[v,.int .i64 left] w fun e w'=>e= .returned (.int .i64 (Ak (wgN.wgNs ks) left))∧Below w.heap.size w w'
 |0,ks,v,left,B,w,hN,_,_,_,_=>absurd hN (Aw _)
 |N+1,ks,v,left,B,w,hN,hr,hs,h0,h1=>TE v ks left w hr h0 h1 fun k h kv L W hk g0 g1=>by
  have hlt:wgN.wgNs ks[k].kids < N:=by
   have a:=AT (An h);have b:=Av ks[k];omega
  have hst:=(hs _ (An h)).inv;obtain⟨a,c,rfl⟩:=hk.form;exact M3 ks[k] a c L W hst.1 (by omega) g1 fun L' W' hb l0 l1=>M4 N _ _ L' _ W' hlt (hk.later' hb) hst.2 l0 l1
theorem TF {B:Nat}(v:Value) (ks:List Nd) (left:Int) (w:World) (hr:RdNs B w v ks) (hs:∀x∈ks,StrN x) (h0:-1≤left) (h1:left≤4611686018427387904):
  Calls Pq 61 #[v,.int .i64 left] w fun e w'=>e= .returned (.int .i64 (Ak (wgN.wgNs ks) left))∧Below w.heap.size w w':=M4 _ ks v left B w (Cp _) hr hs h0 h1
def RwAt (X:Nat→Prop) (g:Nat) (r:Option Nat) (w:World) (v:Value) (n sz:Nat) (at_:Nat→Array Value):Prop:=
 (n=0∧ ∃a cap,v= .slice a 0 cap)∨ ∃b off cap,v= .slice (some ⟨b,off,none⟩) n cap∧Kp X g r w b∧(n≤maxLen∧n≤cap)∧ ∀j,j < n→(at_ j).size=sz∧ ∀i,i < sz→w.cell? ⟨b,off+j*sz+i,none⟩= (at_ j)[i]?
theorem RwAt.later {X:Nat→Prop}{g:Nat}{r r':Option Nat}{w w':World}{v:Value}{n sz:Nat}{at_:Nat→Array Value}(h:RwAt X g r w v n sz at_) (t:Tw g r r' w w'):RwAt X g r' w' v n sz at_:=by
 rcases h with h |⟨b,off,cap,h1,h2,h3,h4⟩
 ·exact .inl h
 ·exact .inr ⟨b,off,cap,h1,h2.later t,h3,fun j hj=>⟨(h4 j hj).1,fun i hi=>(h2.cell t).trans ((h4 j hj).2 i hi)⟩⟩
theorem RwAt.form {X:Nat→Prop}{g:Nat}{r:Option Nat}{w:World}{v:Value}{n sz:Nat}{at_:Nat→Array Value}(h:RwAt X g r w v n sz at_):∃a cap,v= .slice a n cap:=by
 rcases h with ⟨rfl,a,cap,rfl⟩ |⟨b,off,cap,rfl,_⟩
 ·exact⟨a,cap,rfl⟩
 ·exact⟨_,cap,rfl⟩
def svC (kind n:Int) (s:Str) (kv:Value) (x:Nd) (bv:Value) (arg self:Str) (ev:Value):Array Value:=
 #[.int .i64 kind,.int .i64 n,.string s,kv,.int .i64 x.op,.int .i64 x.n,.string x.s,.string x.t,bv,.string arg,.string self,ev]
def svN (name:Str) (c:Array Value):Array Value:= #[.string name]++c
inductive RdS (B:Nat) (X:Nat→Prop) (g:Nat) (r:Option Nat) (w:World):Array Value→Xl→Prop
 |int (n:Int):RdS B X g r w (svC 1 n eS AC Nd.zero AC eS eS AC) (.th (.int n))
 |con (s:Str) (kv:Value) (vs:List Vl) (cs:Nat→Array Value) (hk:RwAt X g r w kv vs.length 12 cs) (hv:∀j (h:j < vs.length),RdS B X g r w (cs j) (.th vs[j])):RdS B X g r w (svC 2 0 s kv Nd.zero AC eS eS AC) (.th (.con s vs))
 |fn (arg self:Str) (body:Nd) (env:Env) (bv ev:Value) (hx:RdNs B w bv body.kids) (he:RdS B X g r w #[ev] (.sc env)):RdS B X g r w (svC 3 0 eS AC body bv arg self ev) (.th (.fn arg self body env))
 |sc (env:Env) (ev:Value) (cs:Nat→Array Value) (hk:RwAt X g r w ev env.length 13 (fun j=>svN (env.reverse[j]?.getD (eS,.int 0)).1 (cs j))) (hv:∀j (h:j < env.reverse.length),RdS B X g r w (cs j) (.th env.reverse[j].2)):RdS B X g r w #[ev] (.sc env)
theorem RdS.later {B g:Nat}{X:Nat→Prop}{r r':Option Nat}{w w':World}{v:Array Value}{x:Xl}(h:RdS B X g r w v x) (t:Tw g r r' w w') (hb:Below B w w'):RdS B X g r' w' v x:=by
 induction h with
 |int n=>exact .int n
 |con s kv vs cs hk _ ih=>exact .con s kv vs cs (hk.later t) ih
 |fn arg self body env bv ev hx _ ih=>exact .fn arg self body env bv ev (hx.later hb (Ad _)) ih
 |sc env ev cs hk _ ih=>exact .sc env ev cs (hk.later t) ih
theorem RdS.size {B g:Nat}{X:Nat→Prop}{r:Option Nat}{w:World}{c:Array Value}{v:Vl}(h:RdS B X g r w c (.th v)):c.size=12:=by
 cases h <;> rfl
def sv0:Array Value:= #[.int .i64 0,.int .i64 0,.string ⟨#[]⟩,.slice none 0 0,.int .i64 0,.int .i64 0,.string ⟨#[]⟩,.string ⟨#[]⟩,.slice none 0 0,.string ⟨#[]⟩,.string ⟨#[]⟩,.slice none 0 0]
def StR (B g:Nat) (lv:Value) (f c:Int) (o:List Int) (r:Option Nat) (w:World) (e:Ending) (w':World):Prop:=e= .returned (.agg sv0)∧Ev B g lv w' f (if c=0 then 2 else c) o r∧Tw g r r w w'
theorem F7 {B g:Nat}{lv:Value}{w:World}{f c:Int}{o:List Int}{r:Option Nat}(h:Ev B g lv w f c o r):Calls Pq 122 #[.pointer (some ⟨g,0,none⟩)] w (StR B g lv f c o r w):=by
 have HH:=Aa h;have S1:=Aa (fun(W:World) (cur:Array Value) (e:TypeId) (hx:(w.setCell ⟨g,2,none⟩ (.int .i64 2)).alloc (.cells cur e)=W)=>(by
  obtain⟨e1,t1⟩:=h.setC 2;obtain⟨b2,k2⟩:=Bx.alloc hx;obtain⟨e2,t2⟩:=e1.same b2;rw[AP]at k2;exact⟨e2,t1.trans t2,k2⟩:Ev B g lv W f 2 o r∧Tw g r r w W∧Bx W w.heap.size cur))
 have S0:=Aa (fun(W:World) (cur:Array Value) (e:TypeId) (hx:w.alloc (.cells cur e)=W)=>(by
  obtain⟨b2,k2⟩:=Bx.alloc hx;obtain⟨e2,t2⟩:=h.same b2;exact⟨e2,t2,k2⟩:Ev B g lv W f c o r∧Tw g r r w W∧Bx W w.heap.size cur))
 have hlt:=h.lt;have hne:w.heap.size≠g:=by omega
 obtain⟨ov,h1, -, -⟩:=h.bx;have q1:∀o j,(w.alloc o).cell? ⟨g,j,none⟩= #[lv,.int .i64 f,.int .i64 c,ov][j]?:=fun o j=>(Fh (p:=⟨g,j,none⟩) hlt).trans (h1.2.1 j);have f1:∀o j,(w.alloc o).frozen? ⟨g,j,none⟩=false:=fun o j=>(Ol (p:=⟨g,j,none⟩) hlt).trans (h1.2.2 j);clear h h1;by_cases hc:c=0
 ·subst hc;go_enter Tryz.func122,Tryz.ntmps122;go_wp2;generalize hz:Wa _ _=z;obtain⟨e1,t1,k1⟩:=S1.out _ _ _ hz;have c1:=k1.2.1;refine Aq (v:= .agg sv0) ?_ rfl ⟨rfl,?_,t1⟩
  ·simp[results,Tryz.results122,go_sem,c1,sv0]
  ·rw[Af rfl];exact e1
 ·have hcb:(c==0)=false:=by simpa using hc
  have HC:=Aa hc;clear hc;go_enter Tryz.func122,Tryz.ntmps122;go_wp2;generalize hz:Wa _ _=z;obtain⟨e1,t1,k1⟩:=S0.out _ _ _ hz;have c1:=k1.2.1;refine Aq (v:= .agg sv0) ?_ rfl ⟨rfl,?_,t1⟩
  ·simp[results,Tryz.results122,go_sem,c1,sv0]
  ·rw[Ae HC.out];exact e1
end Go.Proofs.YtifhcbeaiijkcaaGreat
