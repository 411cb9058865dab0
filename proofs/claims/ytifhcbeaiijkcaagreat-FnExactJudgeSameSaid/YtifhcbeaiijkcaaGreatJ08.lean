/- Parts of the proof of FnExactJudgeSame. -/
import Derived.Test.YtifhcbeaiijkcaaGreatJ06
import Derived.Test.YtifhcbeaiijkcaaGreatJ07
import Derived.Test.YtifhcbeaiijkcaaGreatRows
import Derived.Test.YtifhcbeaiijkcaaGreatJ01
import Derived.Lib.SliceRun
import Derived.Maps.AppendAt
import Derived.Deep.RegionHeld3
import Derived.Deep.DrawnRows
import Derived.Deep.AppendLies
set_option linter.unusedVariables false
set_option linter.unusedSimpArgs false
set_option maxRecDepth 1000000
set_option maxHeartbeats 16000000
namespace Go.Proofs.YtifhcbeaiijkcaaGreat
open Go.RowKit
open _root_.Go.World renaming alloc→Wa,setCell→Ws
open _root_.Go.Proofs.Tryz renaming prog→Pq
def Cj (B:Nat) (X:Nat→Prop) (g:Nat) (lv:Value) (res:Rs Vl) (r:Option Nat) (w:World) (e:Ending) (w':World):Prop:=∃a r',e= .returned (.pointer a)∧Tw g r r' w w'∧ResI B X g lv res (.pointer a) w' r'
structure Pre (B:Nat) (X:Nat→Prop) (g:Nat) (lv:Value) (ds:List Dt) (x:Nd) (kv ev:Value) (env:Env) (s:Es) (w:World) (r:Option Nat):Prop where
 np:Aj x=true
 wg:wgN x≤1048576
 gd:Good (.sc env)
 sz:s.out.length+s.fuel≤4000
 rk:RdNs B w kv x.kids
 re:RdX B X g r w ev (.sc env)
 ev:Ev B g lv w s.fuel 0 s.out r
 dt:RdDts B w lv ds
 hx:∀b,X b→b < w.heap.size
def CT (B g:Nat) (lv:Value) (ds:List Dt) (ar:Str→Option Nat) (m:Nat):Prop:=∀ (X:Nat→Prop) (x:Nd) (kv ev:Value) (env:Env) (s:Es) (w:World) (r:Option Nat),s.fuel≤m→Pre B X g lv ds x kv ev env s w r→
 Calls Pq 50 #[.pointer (some ⟨g,0,none⟩),ndV x kv,ev] w (Cj B X g lv (Ag ar m x env s) r w)
theorem Mw {ar:Str→Option Nat}{m:Nat}{x:Nd}{env:Env}{s:Es}(h:s.fuel=0):Ag ar m x env s= .bad 1 s.out:=by
 cases m with
 |zero=>rfl
 |succ m=>unfold Ag;rw[h]
theorem Bv {ar:Str→Option Nat}{m f:Nat}{x:Nd}{env:Env}{s:Es}(h:s.fuel=f+1):Ag ar (m+1) x env s=AI ar (Ag ar m) x env ⟨f,s.out⟩:=by
 conv=>lhs;unfold Ag
 rw[h]
section
variable {ar:Str→Option Nat}{E:Nd→Env→Es→Rs Vl}{x:Nd}{env:Env}{s:Es}
theorem Mx (h:x.op=1):AI ar E x env s= .ok (.int x.n) s:=by unfold AI;rw[Af h]
def JB (o:Option Vl) (s:Es):Rs Vl:=match o with |some v=> .ok v s |none=> .bad 2 s.out
theorem My (h:x.op=2):AI ar E x env s=JB (look env x.s) s:=by unfold AI;rw[Ae (by omega),Af h];rfl
theorem Mz (h:x.op=3):AI ar E x env s= .ok (.fn x.s eS (x.kid 0) env) s:=by unfold AI;rw[Ae (by omega),Ae (by omega),Af h];rfl
theorem MA (h:x.op=4):AI ar E x env s= (E (x.kid 0) env s).bind fun f s1=>(E (x.kid 1) env s1).bind fun a s2=>Cw E f a s2:=by unfold AI;rw[Ae (by omega),Ae (by omega),Ae (by omega),Af h]
theorem MB (h:x.op=6):AI ar E x env s=E (x.kid 1) ((x.s,.fn x.t x.s (x.kid 0) env)::env) s:=by unfold AI;rw[Ae (by omega),Ae (by omega),Ae (by omega),Ae (by omega),Af h]
theorem MC (h:x.op=7):AI ar E x env s= (E (x.kid 0) env s).bind fun v s1=>Bi E env v (x.kids.drop 1) s1:=by unfold AI;rw[Ae (by omega),Ae (by omega),Ae (by omega),Ae (by omega),Ae (by omega),Af h]
theorem MD (h:x.op=15):AI ar E x env s= (Bn E env x.kids s).bind fun vs s1=>if ar x.s=some x.kids.length then .ok (.con x.s vs) s1 else .bad 2 s1.out:=by unfold AI;rw[Ae (by omega),Ae (by omega),Ae (by omega),Ae (by omega),Ae (by omega),Ae (by omega),Af h]
theorem ME (h:x.op=5):AI ar E x env s= (E (x.kid 0) env s).bind fun v s1=>E (x.kid 1) ((x.s,v)::env) s1:=by
 unfold AI;rw[Ae (by omega),Ae (by omega),Ae (by omega),Ae (by omega),Ae (by omega),Ae (by omega),Ae (by omega)];simp only[Af h]
theorem MF (h:x.op=16):AI ar E x env s= (E (x.kid 0) env s).bind fun v s1=>(Co v s1).bind fun a s2=> .ok v ⟨s2.fuel,s2.out++ [a]⟩:=by
 unfold AI;rw[Ae (by omega),Ae (by omega),Ae (by omega),Ae (by omega),Ae (by omega),Ae (by omega),Ae (by omega)];simp only[Ae (show ¬x.op=5 by omega),Af h]
theorem MG (h:x.op=9):AI ar E x env s= (E (x.kid 0) env s).bind fun v s1=>(Co v s1).bind fun a s2=>if a≠0 then E (x.kid 1) env s2 else E (x.kid 2) env s2:=by
 unfold AI;rw[Ae (by omega),Ae (by omega),Ae (by omega),Ae (by omega),Ae (by omega),Ae (by omega),Ae (by omega)];simp only[Ae (show ¬x.op=5 by omega),Ae (show ¬x.op=16 by omega),Af h]
theorem FV (h:10≤x.op∧x.op≤14):AI ar E x env s= (E (x.kid 0) env s).bind fun v s1=>(Co v s1).bind fun a s2=>(E (x.kid 1) env s2).bind fun v2 s3=>(Co v2 s3).bind fun b s4=> .ok (.int (Do x.op a b)) s4:=by
 unfold AI;rw[Ae (by omega),Ae (by omega),Ae (by omega),Ae (by omega),Ae (by omega),Ae (by omega),Ae (by omega)];simp only[Ae (show ¬x.op=5 by omega),Ae (show ¬x.op=16 by omega),Ae (show ¬x.op=9 by omega)]
end
theorem RdNs.one {B:Nat}{w:World}{v:Value}{p:Nd}(h:RdNs B w v [p]):∃b off cap kv0,v= .slice (some ⟨b,off,none⟩) 1 cap∧b < B∧1≤cap∧NdAt w b off p kv0∧RdNs B w kv0 p.kids:=by
 cases h with
 |row b off cap _ kv h1 h2 h3 h4 h5=>
  have c0:=h4 0 (by simp);have k0:=h5 0 (by simp);simp only[Nat.zero_mul,Nat.add_zero,List.getElem_cons_zero]at c0 k0;exact⟨b,off,cap,kv 0,rfl,h1,h3.2,c0,k0⟩
theorem RdNs.two' {B:Nat}{w:World}{v:Value}{p e:Nd}(h:RdNs B w v [p,e]):∃b off cap kv0 kv1,v= .slice (some ⟨b,off,none⟩) 2 cap∧b < B∧2≤cap∧NdAt w b off p kv0∧RdNs B w kv0 p.kids∧NdAt w b (off+5) e kv1∧RdNs B w kv1 e.kids:=by
 cases h with
 |row b off cap _ kv h1 h2 h3 h4 h5=>
  have c0:=h4 0 (by simp);have c1:=h4 1 (by simp);have k0:=h5 0 (by simp);have k1:=h5 1 (by simp);simp only[Nat.zero_mul,GV,Nat.add_zero,List.getElem_cons_zero,List.getElem_cons_succ]at c0 c1 k0 k1;exact⟨b,off,cap,kv 0,kv 1,rfl,h1,h3.2,c0,k0,c1,k1⟩
theorem RdNs.three {B:Nat}{w:World}{v:Value}{p e q:Nd}(h:RdNs B w v [p,e,q]):∃b off cap kv0 kv1 kv2,v= .slice (some ⟨b,off,none⟩) 3 cap∧b < B∧3≤cap∧NdAt w b off p kv0∧RdNs B w kv0 p.kids∧NdAt w b (off+5) e kv1∧RdNs B w kv1 e.kids∧NdAt w b (off+10) q kv2∧RdNs B w kv2 q.kids:=by
 cases h with
 |row b off cap _ kv h1 h2 h3 h4 h5=>
  have c0:=h4 0 (by simp);have c1:=h4 1 (by simp);have c2:=h4 2 (by simp);have k0:=h5 0 (by simp);have k1:=h5 1 (by simp);have k2:=h5 2 (by simp);simp only[Nat.zero_mul,GV,Nat.add_zero,List.getElem_cons_zero,List.getElem_cons_succ]at c0 c1 c2 k0 k1 k2;exact⟨b,off,cap,kv 0,kv 1,kv 2,rfl,h1,h3.2,c0,k0,c1,k1,c2,k2⟩
theorem Bx.tw {g b:Nat}{r r':Option Nat}{w w':World}{cur:Array Value}(h:Bx w b cur) (t:Tw g r r' w w') (hg:b≠g) (hr:r≠some b):Bx w' b cur:=
 ⟨Ah h.1 t.size,fun j=>(CD (t.block b h.1 hg hr)).trans (h.2.1 j),fun j=>(F9 (t.block b h.1 hg hr)).trans (h.2.2 j)⟩
theorem Tw.nb {g b:Nat}{r r':Option Nat}{w w':World}(t:Tw g r r' w w') (h:r≠some b) (hb:b < w.heap.size):r'≠some b:=fun e=>by
 rcases(t.row b e).1 with e |e
 ·exact h e
 ·omega
structure Now (B g:Nat) (lv:Value) (w:World) (r:Option Nat) (W:World) (rW:Option Nat) (f c:Int) (o:List Int) (cur:Array Value):Prop where
 ev:Ev B g lv W f c o rW
 tw:Tw g r rW w W
 bx:Bx W w.heap.size cur
 nb:rW≠some w.heap.size
 ng:w.heap.size≠g
theorem Now.step {B g:Nat}{lv:Value}{w W W':World}{r rW r':Option Nat}{f c f' c':Int}{o o':List Int}{cur:Array Value}(h:Now B g lv w r W rW f c o cur) (t:Tw g rW r' W W') (e:Ev B g lv W' f' c' o' r'):Now B g lv w r W' r' f' c' o' cur:=
 ⟨e,h.tw.trans t,h.bx.tw t h.ng h.nb,t.nb h.nb h.bx.1,h.ng⟩
theorem Now.same {B g:Nat}{lv:Value}{w W W':World}{r rW:Option Nat}{f c:Int}{o:List Int}{cur:Array Value}(h:Now B g lv w r W rW f c o cur) (b:Below W.heap.size W W'):Now B g lv w r W' rW f c o cur:=
 h.step (h.ev.same b).2 (h.ev.same b).1
theorem Pre.start {B g:Nat}{X:Nat→Prop}{lv:Value}{ds:List Dt}{x:Nd}{kv ev:Value}{env:Env}{s:Es}{w:World}{r:Option Nat}(h:Pre B X g lv ds x kv ev env s w r) {f:Nat}{W:World}{cur:Array Value}{e:TypeId}
  (h1:(w.setCell ⟨g,1,none⟩ (.int .i64 f)).alloc (.cells cur e)=W):Now B g lv w r W r f 0 s.out cur:=by
 obtain⟨e1,t1⟩:=h.ev.setF (f:Int);obtain⟨b2,k2⟩:=Bx.alloc h1;obtain⟨e2,t2⟩:=e1.same b2;have hlt:=h.ev.lt;rw[AP]at k2;exact⟨e2,t1.trans t2,k2,fun e=>by have:=(h.ev.row _ e).2;omega,by omega⟩
theorem Pre.box {B g:Nat}{X:Nat→Prop}{lv:Value}{ds:List Dt}{x:Nd}{kv ev:Value}{env:Env}{s:Es}{w:World}{r:Option Nat}(h:Pre B X g lv ds x kv ev env s w r) {W:World}{cur:Array Value}{e:TypeId}
  (h1:w.alloc (.cells cur e)=W):Now B g lv w r W r s.fuel 0 s.out cur:=by
 obtain⟨b2,k2⟩:=Bx.alloc h1;obtain⟨e2,t2⟩:=h.ev.same b2;have hlt:=h.ev.lt;exact⟨e2,t2,k2,fun e=>by have:=(h.ev.row _ e).2;omega,by omega⟩
theorem Pre.rkW {B g:Nat}{X:Nat→Prop}{lv:Value}{ds:List Dt}{x:Nd}{kv ev:Value}{env:Env}{s:Es}{w W:World}{r rW:Option Nat}(h:Pre B X g lv ds x kv ev env s w r) (t:Tw g r rW w W):RdNs B W kv x.kids:=h.rk.later (h.ev.tw t) (Ad _)
theorem Pre.reW {B g:Nat}{X:Nat→Prop}{lv:Value}{ds:List Dt}{x:Nd}{kv ev:Value}{env:Env}{s:Es}{w W:World}{r rW:Option Nat}(h:Pre B X g lv ds x kv ev env s w r) (t:Tw g r rW w W):RdX B X g rW W ev (.sc env):=h.re.later t (h.ev.tw t)
theorem Pre.dtW {B g:Nat}{X:Nat→Prop}{lv:Value}{ds:List Dt}{x:Nd}{kv ev:Value}{env:Env}{s:Es}{w W:World}{r rW:Option Nat}(h:Pre B X g lv ds x kv ev env s w r) (t:Tw g r rW w W):RdDts B W lv ds:=h.dt.later (h.ev.tw t) (Ad _)
theorem Ev.cells {B g:Nat}{lv:Value}{w:World}{f c:Int}{o:List Int}{r:Option Nat}(h:Ev B g lv w f c o r):w.cell? ⟨g,0,none⟩=some lv∧w.cell? ⟨g,1,none⟩=some (.int .i64 f)∧w.cell? ⟨g,2,none⟩=some (.int .i64 c):=by
 obtain⟨ov,h1, -, -⟩:=h.bx;exact⟨h1.2.1 0,h1.2.1 1,h1.2.1 2⟩
theorem Pre.sub {B g:Nat}{X:Nat→Prop}{lv:Value}{ds:List Dt}{x y:Nd}{kv ev kvy:Value}{env:Env}{s s1:Es}{w W:World}{r rW:Option Nat}(h:Pre B X g lv ds x kv ev env s w r) (t:Tw g r rW w W) (hn:Aj y=true) (hm:y∈x.kids) (hs:s1.out.length+s1.fuel≤4000) (e1:Ev B g lv W s1.fuel 0 s1.out rW) (hk:RdNs B W kvy y.kids):Pre B X g lv ds y kvy ev env s1 W rW:=
 ⟨hn,by have:=AT hm;have:=Av x;have:=h.wg;omega,h.gd,hs,hk,h.reW t,e1,h.dtW t,fun b e=>Ah (h.hx b e) t.size⟩
theorem Pre.nb {B g:Nat}{X:Nat→Prop}{lv:Value}{ds:List Dt}{x:Nd}{kv ev:Value}{env:Env}{s:Es}{w:World}{r:Option Nat}(h:Pre B X g lv ds x kv ev env s w r) {b:Nat}(hb:b < B):b < w.heap.size∧b≠g:=⟨Ah hb h.ev.gB.2,fun e=>by have:=h.ev.gB.1;omega⟩
theorem Dk {v:Vl}(h:Good (.th v)):-1073741824≤nmV v∧nmV v≤1073741823:=by
 cases v with
 |int n=>exact(Hy n).1 h.inv_int
 |con s vs=>exact(show(-1073741824:Int)≤0∧(0:Int)≤1073741823 from by omega)
 |fn a b c d=>exact(show(-1073741824:Int)≤0∧(0:Int)≤1073741823 from by omega)
theorem C9 {v:Vl}(s:Es) (h:kdV v=1):Co v s= .ok (nmV v) s:=by cases v <;> first |rfl | (simp[kdV]at h)
theorem Da {v:Vl}(s:Es) (h:kdV v≠1):Co v s= .bad 2 s.out:=by cases v <;> first |rfl | (simp[kdV]at h)
theorem ResI.bad {B g:Nat}{X:Nat→Prop}{lv:Value}{c:Int}{o:List Int}{tv:Value}{w:World}{r:Option Nat}{f:Int}(hc:c=1∨c=2) (ho:o.length≤4000) (h:Ev B g lv w f c o r):ResI B X g lv (.bad c o) tv w r:=⟨hc,ho,f,h⟩
theorem Now.done {B g:Nat}{X:Nat→Prop}{lv:Value}{w W W':World}{r rW r':Option Nat}{f c:Int}{o:List Int}{cur:Array Value}{res:Rs Vl}{a:Option Addr}(h:Now B g lv w r W rW f c o cur) (t:Tw g rW r' W W') (hr:ResI B X g lv res (.pointer a) W' r'):Cj B X g lv res r w (.returned (.pointer a)) W':=
 ⟨a,r',rfl,h.tw.trans t,hr⟩
mutual
def Cr:Vl→Int→Int
 | .con _ ks,m=>Dx ks 1 m
 | .int _,_=>1
 | .fn _ _ _ _,_=>1
def Dx:List Vl→Int→Int→Int
 | [],n,_=>n
 |k::ks,n,m=>if n > m then n else Dx ks (n+Cr k (m - n)) m
end
theorem Pv (v:Vl) (m:Int):Cr v m=Dx (ksV v) 1 m:=by cases v <;> (unfold Cr;rfl)
theorem EA (v:Vl):Ar v=1+Ar.countVs (ksV v):=by cases v <;> rfl
theorem Gj {v:Vl}:∀ {ks:List Vl},v∈ks→Ar v≤Ar.countVs ks
 |x::xs,h=>by
  unfold Ar.countVs;rcases List.mem_cons.1 h with rfl |h
  ·omega
  ·have:=Gj h;omega
theorem Pw (ks:List Vl) {n m:Int}(h:n > m):Dx ks n m=n:=by cases ks with |nil=>rfl |cons k ks=>unfold Dx;rw[Af h]
mutual
theorem I2:∀ (v:Vl) (m:Int),0≤m→(if(Ar v:Int)≤m then Cr v m=Ar v else Cr v m=m+1)
 | .con s ks,m,hm=>by
  have:=KO ks 1 m (by omega);unfold Cr;have e:Ar (.con s ks)=1+Ar.countVs ks:=rfl;rw[e];by_cases h:(1:Int)+Ar.countVs ks≤m
  ·rw[Af (by omega)]at this ⊢;omega
  ·rw[Ae (by omega)]at this ⊢;exact this
 | .int n,m,hm=>by
  show if((1:Nat):Int)≤m then(1:Int)= ((1:Nat):Int)else(1:Int)=m+1
  split <;> omega
 | .fn _ _ _ _,m,hm=>by
  show if((1:Nat):Int)≤m then(1:Int)= ((1:Nat):Int)else(1:Int)=m+1
  split <;> omega
theorem KO:∀ (ks:List Vl) (n m:Int),n≤m+1→(if n+ (Ar.countVs ks:Int)≤m then Dx ks n m=n+Ar.countVs ks else Dx ks n m=m+1)
 | [],n,m,hn=>by
  show if n+ ((0:Nat):Int)≤m then n=n+ ((0:Nat):Int)else n=m+1
  split <;> omega
 |k::ks,n,m,hn=>by
  have e:Ar.countVs (k::ks)=Ar k+Ar.countVs ks:=rfl;rw[e];unfold Dx;by_cases hgt:n > m
  ·rw[Af hgt,Ae (by omega)];omega
  ·rw[Ae hgt];have h1:=I2 k (m - n) (by omega);by_cases hk:(Ar k:Int)≤m - n
   ·rw[Af hk]at h1;have h2:=KO ks (n+Cr k (m - n)) m (by omega);rw[h1]at h2 ⊢;by_cases h3:n+ (Ar k:Int)+Ar.countVs ks≤m
    ·rw[Af (by omega)]at h2 ⊢;omega
    ·rw[Ae (by omega)]at h2 ⊢;exact h2
   ·rw[Ae hk]at h1;rw[h1,Pw ks (by omega),Ae (by omega)];omega
end
theorem KQ (v:Vl):Cr v 4000 > 4000↔Ar v > 4000:=by
 have:=I2 v 4000 (by decide);split at this <;> omega
theorem Px {v:Vl}{m:Int}(hm:0≤m):1≤Cr v m∧Cr v m≤m+1:=by
 have:=I2 v m hm;have h1:=EA v;split at this <;> omega
theorem KS {B g:Nat}{X:Nat→Prop}{r:Option Nat}{w:World}:∀ (N:Nat) (v:Vl) (tv:Value) (m:Int),Ar v < N→0≤m→m≤4000→RdX B X g r w tv (.th v)→
  Calls Pq 51 #[tv,.int .i64 m] w fun e w'=>e= .returned (.int .i64 (Cr v m))∧w'=w
 |0,v,tv,m,hN,hm,hm4,ht=>by omega
 |N+1,v,tv,m,hN,hm,hm4,ht=>by
  have IH:=Aa (fun(j:Nat) (hj:j < (ksV v).length) (tv:Value) (m:Int) (h1:0≤m) (h2:m≤4000) (h:RdX B X g r w tv (.th (ksV v)[j]))=>(by
   have:=Gj (An hj);have:=EA v;exact KS N (ksV v)[j] tv m (by omega) h1 h2 h:Calls Pq 51 #[tv,.int .i64 m] w fun e w'=>e= .returned (.int .i64 (Cr (ksV v)[j] m))∧w'=w))
  have HE:=Aa (Pv v m);obtain⟨tb,tkv,tnm,tx,tbv,tev,rfl,tk,tc,pv,hpv,hvs⟩:=ht.th_form;obtain⟨ta,tcp,rfl⟩:=hpv.form;have hvl:=hpv.len;unfold maxLen at hvl;unfold thC at tc;have HPV:=Aa hpv;have HVS:=Aa hvs;clear ht hN hpv hvs;generalize kdV v=kd at*;generalize nmV v=nv at*;generalize tgV v=sv at*;generalize Cr v m=cv at*;generalize ksV v=vs at*;go_enter Tryz.func51,Tryz.ntmps51;go_wp2
  go_loop [5,13] (fun n i=>∃ (k:Nat) (c:Int),k≤vs.length∧i= .int .i64 k∧n= .int .i64 c∧1≤c∧c≤m+1∧Hid (Dx (vs.drop k) c m=cv)) (fun _ i=>vs.length - (intOf i).toNat)
  case atStart=>exact⟨0,1,Ao _,rfl,rfl,by omega,by omega,Aa HE.out.symm⟩
  case round=>
   obtain⟨k,c,hk,rfl,rfl,hc1,hc2,hcv⟩:=hrel;by_cases hlt:k < vs.length
   ·obtain⟨pb,po,pcap,hpe,hpk,hpc,hpcell⟩:=HPV.out.at_ hlt;cases hpe
    have hki:(k:Int) < (vs.length:Int):=by omega
    have hk0:(0:Int)≤ (k:Int):=by omega
    have hu:=HVS.out k hlt;obtain⟨pvb,hpvb⟩:=hu.th_ptr;rw[hpvb]at hpcell hu;have HU:=Aa hu;have IHk:=Aa (IH.out k hlt);have HST:=Aa (show Dx (vs.drop k) c m=if c > m then c else Dx (vs.drop (k+1)) (c+Cr vs[k] (m - c)) m by rw[List.drop_eq_getElem_cons hlt,Dx]);clear hu hpvb;generalize vs[k]=u at*;by_cases hgt:c > m
    ·have hy:=Aa (hcv.out.symm.trans (HST.out.trans (Af hgt)));go_wp2;go_ret;exact⟨Ap hy.out.symm,rfl⟩
    ·have hy:=Aa ((HST.out.trans (Ae hgt)).symm.trans hcv.out);have hle:=Px (v:=u) (m:=m - c) (by omega);go_wp2_with fail;refine(IHk.out _ (m - c) (by omega) (by omega) HU.out).mono ?_;rintro e w2 ⟨rfl,rfl⟩;generalize Cr u (m - c)=q at*;go_wp2
     go_round
     case rel=>exact⟨k+1,c+q,hlt,by go_num,by go_num,by omega,by omega,hy⟩
     case measure=>simp[intOf];omega
   ·obtain rfl:k=vs.length:=by omega
    have hy:=Aa (hcv.out.symm.trans (show Dx (vs.drop vs.length) c m=c by rw[EO];rfl));go_wp2;go_ret;exact⟨Ap hy.out.symm,rfl⟩
section
variable {P:Program}(w:World)
end
theorem Dw {P:Program}{w:World}{ops:Array Oper}{rest:List Oper}{o:Oper}{a:Act}{Q:Exit→Act→World→Prop}(hgd:o.guard=none) (s x:Operand) (t:TypeId)
  (ho:o.op= .call {callee:= .builtin .append,args:= #[s,x],argTypes:= #[t,t]})
  (base:Nat) (e:TypeId) (i:TypeInfo) (z:Value) (size bytes:Nat) (ht:P.underlying t=some (.slice e)) (hi:P.info? e=some i) (hz:i.zero=some z)
  (hsize:i.size=size) (hby:i.bytes=bytes) (hzs:z.cells.size=size) (hsz:0 < size)
  (v:Value) (n:Nat) (xs:List Value) (hs:a.eval s=v) (hown:w.ownsRow base e size v n xs) (us:Array Value) (hus:us.size=size) (h1:∀u∈us.toList,u.oneCell'=true)
  (H:Nat) (hH:w.heap.size=H) (hx:a.eval x= .slice (some ⟨H,0,none⟩) 1 1)
  (h63:n+1≤maxLen) (hbytes:(n+1)*bytes≤140737488355328) (hbase:base≤w.heap.size)
  (h:∀v' w',w'.ownsRow base e size v' (n+1) (xs++us.toList)→w.grownBy w' v.ownBlock→(v'.ownBlock=v.ownBlock∨v'.ownBlock=some (H+1))→wpList P ops Q rest (a.put o.dst v') w'):
  wpList P ops Q (o::rest) a (w.alloc (.cells us e)):=by
 subst hH;refine wpList_plain hgd fun K hK=> ?_;obtain⟨v',w',hrun,h2,h3,_,h5⟩:=run_append_own_at (P:=P) (w.alloc (.cells us e)) base t o.type e i z size bytes ht hi hz hsize hby hzs hsz v n xs (hown.alloc _) ⟨w.heap.size,0,none⟩ 1 1 us.toList (by simp[hus]) (by
  intro j u hj;have hadd:(⟨w.heap.size,0,none⟩:Addr).add j=⟨w.heap.size,j,none⟩:=by unfold Addr.add;split <;> simp_all
  rw[hadd,J7 _ _ _ _ rfl]
  simpa using hj) h1 h63 hbytes (by simp;omega)
 unfold Oper.wp execOp;simp only[ho,resolve,invoke,builtin,Sem.run_bind,Sem.run_pure,Result.andThen_ok,List.map_toArray,List.map_cons,List.map_nil,hs,hx,hrun];exact hK _ _ (h v' w' h2 ((De w _ _).trans' h3) (by simpa using h5))
theorem IJ {base:Nat}{e:TypeId}{w:World}{a:Option Addr}{cap n:Nat}{xs:List Value}(h:w.ownsRow base e 1 (.slice a n cap) n xs) (j:Nat) (hj:j < n):∃g,a=some ⟨g,0,none⟩ ∧w.cell? ⟨g,j,none⟩=xs[j]?:=by
 rcases h.2 with ⟨hv,_⟩ |⟨g,cap',cur,hv,_⟩
 ·injection hv with _ h2 _
  omega
 ·cases hv
  exact⟨g,rfl,Ig h j hj⟩
theorem Ol {x:World}{o:Obj}{p:Addr}(h:p.block < x.heap.size):(x.alloc o).frozen? p=x.frozen? p:=((Ab x.heap.size x).alloc (Ad _) o).frozen h
theorem Fh {x:World}{o:Obj}{p:Addr}(h:p.block < x.heap.size):(x.alloc o).cell? p=x.cell? p:=((Ab x.heap.size x).alloc (Ad _) o).cell h
def Has (w:World) (p:Addr):Prop:=∃u,w.cell? p=some u
theorem Has.drew {w:World}{p:Addr}(h:Has w p):Has w.drew p:=h
theorem Has.alloc {w:World}{p:Addr}(h:Has w p) (hp:p.block < w.heap.size) (o:Obj):Has (w.alloc o) p:=by
 obtain⟨u,hu⟩:=h;exact⟨u,(Fh hp).trans hu⟩
theorem Has.grown {w w':World}{p:Addr}{row:Option Nat}(h:Has w p) (hg:w.grownBy w' row) (hp:p.block < w.heap.size) (hne:some p.block≠row):Has w' p:=by
 obtain⟨u,hu⟩:=h;exact⟨u,(hg.cell_far p hp hne).trans hu⟩
theorem Has.setCell {w:World}{p:Addr}(h:Has w p) (q:Addr) (x:Value):Has (w.setCell q x) p:=by
 obtain⟨u,hu⟩:=h;obtain⟨v,hv⟩:=cell?_setCell_some (w:=w) (p:=q) (x:=x) (q:=p) (v:=u) hu;exact⟨v,hv⟩
theorem Below.grown_at {B g:Nat}{w0 w w':World}(hb:Below B w0 w) (hg:w.grownBy w' (some g)) (hB:B≤w.heap.size) (hr:B≤g):Below B w0 w':=
 hb.grown hg hB (fun k hk=>by cases hk;exact hr)
theorem It {P:Program}{w:World}{o:Oper}{a:Act}{Q:Exit→Act→World→Prop}{K:Act→World→Prop}(s x:Operand) (t:TypeId)
  (ho:o.op= .call {callee:= .builtin .append,args:= #[s,x],argTypes:= #[t,t]})
  (base:Nat) (e:TypeId) (i:TypeInfo) (z:Value) (size bytes:Nat) (ht:P.underlying t=some (.slice e)) (hi:P.info? e=some i) (hz:i.zero=some z)
  (hsize:i.size=size) (hby:i.bytes=bytes) (hzs:z.cells.size=size) (hsz:0 < size)
  (v:Value) (n:Nat) (xs:List Value) (hs:a.eval s=v) (hown:w.ownsRow base e size v n xs) (us:Array Value) (hus:us.size=size) (h1:∀u∈us.toList,u.oneCell'=true)
  (H:Nat) (hx:a.eval x= .slice (some ⟨H,0,none⟩) 1 1) (hc:∀j,w.cell? ⟨H,j,none⟩=us[j]?)
  (h63:n+1≤maxLen) (hbytes:(n+1)*bytes≤140737488355328) (hbase:base≤w.heap.size)
  (h:∀v' w',w'.ownsRow base e size v' (n+1) (xs++us.toList)→w.grownBy w' v.ownBlock→(v'.ownBlock=v.ownBlock∨v'.ownBlock=some w.heap.size)→K (a.put o.dst v') w'):
  Oper.wp P o a w K Q:=by
 obtain⟨v',w',hrun,h2,h3,_,h5⟩:=run_append_own_at (P:=P) w base t o.type e i z size bytes ht hi hz hsize hby hzs hsz v n xs hown ⟨H,0,none⟩ 1 1 us.toList (by simp[hus]) (by
  intro j u hj;have hadd:(⟨H,0,none⟩:Addr).add j=⟨H,j,none⟩:=by unfold Addr.add;split <;> simp_all
  rw[hadd,hc j]
  simpa using hj) h1 h63 hbytes hbase
 unfold Oper.wp execOp;simp only[ho,resolve,invoke,builtin,Sem.run_bind,Sem.run_pure,Result.andThen_ok,List.map_toArray,List.map_cons,List.map_nil,hs,hx,hrun];exact h v' w' h2 h3 h5
theorem Rd.grow {B:Nat}{k:IntKind}{w W:World}{row:Option Nat}{v:Value}{zs:List Int}(h:Rd B k w v zs) (hg:w.grownBy W row) (hne:∀i,v.ownBlock=some i→some i≠row):Rd W.heap.size k W v zs:=by
 rcases h with h |⟨b,off,cap,rfl,h2,h3,h4,h5⟩
 ·exact .inl h
 ·have hl:=Ah h3 hg.size;exact .inr ⟨b,off,cap,rfl,hl,hl,h4,fun j hj=>(CD (hg.block b h3 (hne b rfl))).trans (h5 j hj)⟩
theorem Tryz.infoVl:(Tryz.prog.info? 60).map (fun i=>(i.zero,i.size,i.bytes))=some (some (.agg #[.int .i64 0,.int .i64 0,.string ⟨#[]⟩,.slice none 0 0]),4,56):=by kernel_rfl
def vlC (u:Vl) (kv:Value):Array Value:= #[.int .i64 (kdV u),.int .i64 (nmV u),.string (tgV u),kv]
def RwV (A:Nat→Prop) (w:World) (v:Value) (n:Nat) (cs:Nat→Array Value):Prop:=
 (n=0∧ ∃a cap,v= .slice a 0 cap)∨ ∃b off cap,v= .slice (some ⟨b,off,none⟩) n cap∧(A b∧b < w.heap.size)∧(n≤maxLen∧n≤cap)∧ ∀j,j < n→ ∀i,i < 4→w.cell? ⟨b,off+ (j*4+i),none⟩= (cs j)[i]?
inductive RdTv (A:Nat→Prop) (w:World):Vl→Array Value→Prop
 |mk (u:Vl) (kv:Value) (cs:Nat→Array Value) (hk:RwV A w kv (ksV u).length cs) (hv:∀j (h:j < (ksV u).length),RdTv A w (ksV u)[j] (cs j)):RdTv A w u (vlC u kv)
theorem RwV.later {A A':Nat→Prop}{w w':World}{v:Value}{n:Nat}{cs:Nat→Array Value}(h:RwV A w v n cs) (t:∀b,A b→b < w.heap.size→A' b∧b < w'.heap.size∧w'.heap[b]?=w.heap[b]?):RwV A' w' v n cs:=by
 rcases h with h |⟨b,off,cap,h1,h2,h3,h4⟩
 ·exact .inl h
 ·obtain⟨t1,t2,t3⟩:=t b h2.1 h2.2;exact .inr ⟨b,off,cap,h1,⟨t1,t2⟩,h3,fun j hj i hi=>(CD t3).trans (h4 j hj i hi)⟩
theorem RdTv.later {A A':Nat→Prop}{w w':World}{u:Vl}{c:Array Value}(h:RdTv A w u c) (t:∀b,A b→b < w.heap.size→A' b∧b < w'.heap.size∧w'.heap[b]?=w.heap[b]?):RdTv A' w' u c:=by
 induction h with
 |mk u kv cs hk _ ih=>exact .mk u kv cs (hk.later t) ih
theorem RdTv.cells {A:Nat→Prop}{w:World}{u:Vl}{c:Array Value}(h:RdTv A w u c):∃kv,c=vlC u kv:=by
 cases h with
 |mk u kv cs _ _=>exact⟨kv,rfl⟩
theorem RdTv.form {A:Nat→Prop}{w:World}{u:Vl}{kv:Value}(h:RdTv A w u (vlC u kv)):∃a cap,kv= .slice a (ksV u).length cap:=by
 obtain⟨c,hc⟩:∃c,vlC u kv=c:=⟨_,rfl⟩;rw[hc]at h;cases h with
 |mk _ kv2 cs hk _=>
  have:kv=kv2:=by have:=Bk (fun a:Array Value=>a[3]?) hc;exact Am this
  subst this;rcases hk with ⟨h0,a,cap,rfl⟩ |⟨b,off,cap,rfl,_⟩
  ·exact⟨a,cap,by rw[h0]⟩
  ·exact⟨_,cap,rfl⟩
structure Shw (w W:World) (u:Vl) (k:Nat) (kv:Value):Prop where
 bb:Below w.heap.size w W
 bo:Bx W w.heap.size #[.int .i64 0,.int .i64 0,.string ⟨#[]⟩,.slice none 0 0]
 bt:Bx W (w.heap.size+1) (vlC u kv)
 row:∃ (ps:List Value) (cs:Nat→Array Value),W.ownsRow (w.heap.size+2) 60 4 kv k ps∧(∀j,j < k→ ∀i,i < 4→ps[j*4+i]?= (cs j)[i]?)∧
  ∀j (h:j < (ksV u).length),j < k→RdTv (fun b=>w.heap.size+2≤b∧kv.ownBlock≠some b) W (ksV u)[j] (cs j)
section
variable {w W W':World}{u:Vl}{k:Nat}{kv:Value}
theorem Shw.same (h:Shw w W u k kv) (b:Below W.heap.size W W'):Shw w W' u k kv:=by
 obtain⟨ps,cs,ho,hp,hr⟩:=h.row;exact⟨h.bb.trans (b.mono h.bb.size),h.bo.below b h.bo.1,h.bt.below b h.bt.1,ps,cs,Bm ho b (A5 ho),hp,fun j hj hk=>(hr j hj hk).later fun q hq hl=>⟨hq,Ah hl b.size,b.block q hl⟩⟩
theorem Shw.form (h:Shw w W u k kv):∃a cap,kv= .slice a k cap:=by
 obtain⟨ps,cs,ho, -⟩:=h.row;exact AR ho
theorem Shw.app (h:Shw w W u k kv) {M:Nat}{c:Array Value}(hk:k < (ksV u).length) (hM:∀q,kv.ownBlock=some q→q < M) (hMW:M≤W.heap.size) (hwM:w.heap.size+2≤M)
  (hc:RdTv (fun b=>M≤b) W (ksV u)[k] c):∃ps,W.ownsRow (w.heap.size+2) 60 4 kv k ps∧ ∀ (v':Value) (w4:World),w4.ownsRow (w.heap.size+2) 60 4 v' (k+1) (ps++c.toList)→W.grownBy w4 kv.ownBlock→
  (v'.ownBlock=kv.ownBlock∨ ∃q,v'.ownBlock=some q∧W.heap.size≤q)→Shw w (w4.setCell ⟨w.heap.size+1,3,none⟩ v') u (k+1) v':=by
 obtain⟨ps2,cs,hps,hp2,hr2⟩:=h.row;refine⟨ps2,hps,fun v' w4 ho hg hat=> ?_⟩;have hsz:w4.heap.size= (w4.setCell ⟨w.heap.size+1,3,none⟩ v').heap.size:=(AP ..).symm;have hl:=hps.1;have hq0:∀q,kv.ownBlock=some q→w.heap.size+2≤q:=fun q hq=>(hps.lt q hq).1;have hs:=grownBy.setCell w4 (w.heap.size+1) 3 v';have hblk:∀b,b < W.heap.size→b≠w.heap.size+1→kv.ownBlock≠some b→(w4.setCell ⟨w.heap.size+1,3,none⟩ v').heap[b]?=W.heap[b]?:=fun b hb h1 h2=>
  (hs.block b (Ah hb hg.size) (fun e=>h1 (Am e))).trans (hg.block b hb (fun e=>h2 e.symm))
 have hbW:Below w.heap.size W (w4.setCell ⟨w.heap.size+1,3,none⟩ v'):=⟨hg.os,hg.tape,hg.output,by rw[←hsz];exact hg.size,fun q hq=>hblk q (by have:=h.bb.size;omega) (by omega) (fun e=>by have:=hq0 q e;omega)⟩;refine⟨h.bb.trans hbW,?_,?_,ps2++c.toList,fun j=>if j=k then c else cs j,ho.kept hs ?_,fun j hj i hi=> ?_,fun j hj hjk=> ?_⟩
 ·have:=hblk w.heap.size h.bo.1 (by omega) (fun e=>by have:=hq0 _ e;omega);exact⟨by rw[←hsz];exact Ah h.bo.1 hg.size,fun j=>(CD this).trans (h.bo.2.1 j),fun j=>(F9 this).trans (h.bo.2.2 j)⟩
 ·have h4:Bx w4 (w.heap.size+1) (vlC u kv):=h.bt.grown hg (fun e=>by have:=hq0 _ e.symm;omega);have:=h4.st 3 (by simp[vlC]) v'
  simpa [vlC] using this
 ·cases hq:v'.ownBlock with
  |none=>exact .inl rfl
  |some q=>exact .inr (fun e=>by have:=(ho.lt q hq).1;have:=Am e;omega)
 ·dsimp only;by_cases hj2:j=k
  ·subst hj2;rw[Af rfl,EN (by omega),hl,show j*4+i - j*4=i by omega,Array.getElem?_toList]
  ·rw[Ae hj2,Ff (by omega)];exact hp2 j (by omega) i hi
 ·dsimp only;by_cases hj2:j=k
  ·subst hj2;rw[Af rfl];refine hc.later fun q hq hl2=>⟨⟨by omega,fun e=> ?_⟩,by rw[←hsz];exact Ah hl2 hg.size,hblk q hl2 (by omega) (fun e=>by have:=hM q e;omega)⟩
   rcases hat with e2 |⟨q2,e2,e3⟩
   ·have:=hM q (e2.symm.trans e);omega
   ·rw[e2]at e;have:=Am e;omega
  ·rw[Ae hj2];refine(hr2 j hj (by omega)).later fun q hq hl2=>⟨⟨hq.1,fun e=> ?_⟩,by rw[←hsz];exact Ah hl2 hg.size,hblk q hl2 (by omega) hq.2⟩
   rcases hat with e2 |⟨q2,e2,e3⟩
   ·exact hq.2 (e2.symm.trans e)
   ·rw[e2]at e;have:=Am e;omega
theorem Shw.done (h:Shw w W u (ksV u).length kv):RdTv (fun b=>w.heap.size+2≤b) W u (vlC u kv):=by
 obtain⟨ps,cs,ho,hp,hr⟩:=h.row;refine .mk u kv cs ?_ (fun j hj=>(hr j hj hj).later fun q hq hl=>⟨hq.1,hl,rfl⟩);have hb:=fun q hq=>ho.lt q hq;rcases ho.2 with ⟨rfl,h0⟩ |⟨q,cap,cu,rfl,hbq,hgg,hn,hm,hc,ht⟩
 ·exact .inl ⟨h0,_,_,rfl⟩
 ·refine .inr ⟨q,0,cap,rfl,hb q rfl,⟨by omega,hn⟩,fun j hj i hi=> ?_⟩;rw[BS,Fe W q _ cu _ (0,0) hgg,←hp j hj i hi,←ht,DU,Af (by omega),Array.getElem?_toList]
end
def Sm {α:Type}(n:Nat) (r:Rs α):Prop:=match r with
 | .ok _ s=>s.out.length+s.fuel≤n
 | .bad _ o=>o.length≤n
theorem Sm.bind {α β:Type}{n:Nat}{r:Rs α}{k:α→Es→Rs β}(h:Sm n r) (hk:∀a s,r= .ok a s→s.out.length+s.fuel≤n→Sm n (k a s)):Sm n (r.bind k):=by
 cases r with
 |ok a s=>exact hk a s rfl h
 |bad c o=>exact h
theorem Sm.mono {α:Type}{n n':Nat}{r:Rs α}(h:Sm n r) (hn:n≤n'):Sm n' r:=by
 cases r with
 |ok a s=>exact At h hn
 |bad c o=>exact At h hn
theorem Fa {α:Type}{n:Nat}{a:α}{s:Es}(h:s.out.length+s.fuel≤n):Sm n (.ok a s):=h
theorem Fw {α:Type}{n:Nat}{c:Int}{s:Es}(h:s.out.length+s.fuel≤n):Sm (α:=α) n (.bad c s.out):=by unfold Sm;dsimp only;omega
theorem JT {n:Nat}(v:Vl) (s:Es) (h:s.out.length+s.fuel≤n):Sm n (Co v s):=by
 cases v with
 |int k=>exact Fa h
 |_=>exact Fw h
section
variable {E:Nd→Env→Es→Rs Vl}(hE:∀x env s n,s.out.length+s.fuel≤n→Sm n (E x env s))
include hE
theorem No (env:Env):∀ks s n,s.out.length+s.fuel≤n→Sm n (Bn E env ks s)
 | [],s,n,h=>Fa h
 |k::ks,s,n,h=>(hE _ _ _ _ h).bind fun v s1 _ h1=>(No env ks s1 n h1).bind fun vs s2 _ h2=>Fa h2
theorem Np (env:Env) (v:Vl):∀az s n,s.out.length+s.fuel≤n→Sm n (Bi E env v az s)
 | [],s,n,h=>Fw h
 |a::az,s,n,h=>by
  unfold Bi;split
  ·exact hE _ _ _ _ h
  ·exact Np env v az s n h
theorem Uv (f x:Vl) (s:Es) (n:Nat) (h:s.out.length+s.fuel≤n):Sm n (Cw E f x s):=by
 cases f with
 |fn=>exact hE _ _ _ _ h
 |_=>exact Fw h
theorem Uw {ar:Str→Option Nat}(x:Nd) (env:Env) (s:Es) (n:Nat) (h:s.out.length+s.fuel≤n):Sm (n+1) (AI ar E x env s):=by
 have up:∀r:Rs Vl,Sm n r→Sm (n+1) r:=fun r h=>h.mono (AJ n);unfold AI;by_cases h1:x.op=1
 ·rw[Af h1];exact up _ (Fa h)
 rw[Ae h1];by_cases h2:x.op=2
 ·rw[Af h2];cases look env x.s with
  |some v=>exact up _ (Fa h)
  |none=>exact up _ (Fw h)
 rw[Ae h2];by_cases h3:x.op=3
 ·rw[Af h3];exact up _ (Fa h)
 rw[Ae h3];by_cases h4:x.op=4
 ·rw[Af h4];exact up _ ((hE _ _ _ _ h).bind fun f s1 _ a1=>(hE _ _ _ _ a1).bind fun a s2 _ a2=>Uv hE _ _ _ _ a2)
 rw[Ae h4];by_cases h6:x.op=6
 ·rw[Af h6];exact up _ (hE _ _ _ _ h)
 rw[Ae h6];by_cases h7:x.op=7
 ·rw[Af h7];exact up _ ((hE _ _ _ _ h).bind fun v s1 _ a1=>Np hE _ _ _ _ _ a1)
 rw[Ae h7];by_cases h15:x.op=15
 ·rw[Af h15];refine up _ ((No hE _ _ _ _ h).bind fun vs s1 _ a1=> ?_);by_cases ha:ar x.s=some x.kids.length
  ·rw[Af ha];exact Fa a1
  ·rw[Ae ha];exact Fw a1
 rw[Ae h15];refine((hE _ _ _ _ h).mono (AJ n)).bind fun v s1 e1 a1=> ?_;have b1:s1.out.length+s1.fuel≤n:=by have:=hE (x.kid 0) env s n h;rw[e1]at this;exact this
 by_cases h5:x.op=5
 ·rw[Af h5];exact up _ (hE _ _ _ _ b1)
 rw[Ae h5];refine((JT v s1 b1).mono (AJ n)).bind fun a s2 e2 a2=> ?_;have b2:s2.out.length+s2.fuel≤n:=by have:=JT v s1 b1;rw[e2]at this;exact this
 by_cases h16:x.op=16
 ·rw[if_pos h16];unfold Sm;dsimp only;rw[List.length_append,List.length_singleton];omega
 rw[Ae h16];by_cases h9:x.op=9
 ·rw[Af h9];by_cases ha:a≠0
  ·rw[Af ha];exact up _ (hE _ _ _ _ b2)
  ·rw[Ae ha];exact up _ (hE _ _ _ _ b2)
 rw[Ae h9];exact up _ ((hE _ _ _ _ b2).bind fun v2 s3 _ a3=>(JT _ _ a3).bind fun b s4 _ a4=>Fa a4)
end
theorem Nq (ar:Str→Option Nat):∀m x env s n,s.out.length+s.fuel≤n→Sm n (Ag ar m x env s)
 |0,x,env,s,n,h=>Fw h
 |m+1,x,env,s,n,h=>by
  unfold Ag;split
  ·exact Fw h
  ·rename_i f hf;have:=Uw (Nq ar m) (ar:=ar) x env ⟨f,s.out⟩ (s.out.length+f) (Ad _);exact this.mono (by omega)
theorem EK {ar:Str→Option Nat}{m:Nat}{x:Nd}{env:Env}{s s':Es}{v:Vl}(h:Ag ar m x env s= .ok v s'):s'.out.length+s'.fuel≤s.out.length+s.fuel:=by
 have:=Nq ar m x env s _ (Ad _);rw[h]at this;exact this
theorem Ev.app {B g:Nat}{lv:Value}{W w4:World}{f:Int}{o:List Int}{r:Option Nat}{ov v':Value}{x:Int}(h:Ev B g lv W f 0 o r) (hb:Bx W g #[lv,.int .i64 f,.int .i64 0,ov]) (hr:ov.ownBlock=r)
  (ho:w4.ownsRow B 3 1 v' (o.length+1) (o.map (Value.int .i64)++ [.int .i64 x])) (hg:W.grownBy w4 ov.ownBlock) (hat:v'.ownBlock=ov.ownBlock∨v'.ownBlock=some (W.heap.size+1)):
  Ev B g lv (w4.setCell ⟨g,3,none⟩ v') f 0 (o++ [x]) v'.ownBlock∧Tw g r v'.ownBlock W (w4.setCell ⟨g,3,none⟩ v'):=by
 have hne:v'.ownBlock≠some g:=by
  rcases hat with e |e
  ·rw[e,hr];exact h.ne
  ·rw[e];intro e2;have:=Am e2;have:=h.lt;omega
 have hne2:some g≠ov.ownBlock:=by rw[hr];exact fun e=>h.ne e.symm
 have k4:=hb.grown hg hne2;have hlt:∀k,v'.ownBlock=some k→B≤k∧k < w4.heap.size:=fun k e=>ho.lt k e;refine⟨⟨⟨v',by simpa using k4.st 3 (by simp) v',?_,rfl⟩,⟨h.gB.1,by rw[AP];exact At h.gB.2 hg.size⟩,hne⟩,⟨hg.os,hg.tape,hg.output,by rw[AP];exact hg.size,fun k hk hkg hkr=> ?_,fun k e=>⟨?_,by rw[AP];exact(hlt k e).2⟩,fun _=>hne⟩⟩
 ·have:=ho.kept (grownBy.setCell w4 g 3 v') (.inr hne)
  simpa using this
 ·exact((grownBy.setCell w4 g 3 v').block k (Ah hk hg.size) (fun e=>hkg (Am e))).trans (hg.block k hk (fun e=>hkr (by rw[←hr];exact e.symm)))
 ·rcases hat with e2 |e2
  ·rw[e2,hr]at e;exact .inl e
  ·rw[e2]at e;have:=Am e;right;omega
theorem RdX.fn_form {B g:Nat}{X:Nat→Prop}{r:Option Nat}{w:World}{tv:Value}{arg self:Str}{body:Nd}{env:Env}(h:RdX B X g r w tv (.th (.fn arg self body env))):∃b bv ev,tv= .pointer (some ⟨b,0,none⟩)∧Kp X g r w b∧(∀j,w.cell? ⟨b,j,none⟩= (thC 3 0 eS AC arg body bv ev)[j]?)∧RdNs B w bv body.kids∧RdX B X g r w ev (.sc (if self=eS then env else(self,.fn arg self body env)::env)):=by
 have h':=h;cases h with
 |fn b arg body env bv ev hk hc hx he=>exact⟨b,bv,ev,rfl,hk,hc,hx,by rw[Af rfl];exact he⟩
 |rec_ b sb arg self body env bv ev hn hk hc hs hd hx he=>exact⟨b,bv,_,rfl,hk,hc,hx,by rw[Ae hn];exact .cons _ _ _ _ _ _ hs hd h' he⟩
theorem Ux {E:Nd→Env→Es→Rs Vl}{f x:Vl}{s:Es}(h:kdV f≠3):Cw E f x s= .bad 2 s.out:=by cases f <;> first |rfl | (simp[kdV]at h)
theorem Nr {v:Vl}(h:kdV v=3):∃arg self body env,v= .fn arg self body env:=by
 cases v with
 |fn a b c d=>exact⟨a,b,c,d,rfl⟩
 |int=>simp[kdV]at h
 |con=>simp[kdV]at h
theorem RdNs.rest {B:Nat}{w:World}{b off cap:Nat}{ks:List Nd}(h:RdNs B w (.slice (some ⟨b,off,none⟩) ks.length cap) ks) (h2:2≤ks.length):RdNs B w (.slice (some ⟨b,off+5,none⟩) (ks.length - 1) (cap - 1)) (ks.drop 1):=by
 cases ks with
 |nil=>simp at h2
 |cons y ys=>
  obtain⟨b',off',cap',hv,hc,ht⟩:=h.tail;cases hv
  exact ht ⟨b,off+5,none⟩ (fun _=>rfl)
theorem Uy {x:Nd}(h:Aj x=true) (o:x.op=7):2≤x.kids.length:=by
 rw[GO,Af o]at h;simp only[Cd,Du]at h;exact h.2.2.2.1
theorem Uz {x:Nd}(h:Aj x=true) (o:x.op=7) {k:Nat}(hk:k < (x.kids.drop 1).length):∃p e,(x.kids.drop 1)[k].kids=[p,e]∧BQ p=true∧Aj e=true:=by
 obtain⟨e,az,hkk, -,ha⟩:=Gt h o;have hm:(x.kids.drop 1)[k]∈az:=by
  have e1:x.kids.drop 1=az:=by rw[hkk];rfl
  exact e1▸An hk
 exact Hv (ha _ hm)
theorem UA (E:Nd→Env→Es→Rs Vl) (env:Env) (v:Vl) {az:List Nd}{k:Nat}(hk:k < az.length) (s:Es):Bi E env v (az.drop k) s=match BL (az[k].kid 0) v env with |some e=>E (az[k].kid 1) e s |none=>Bi E env v (az.drop (k+1)) s:=by
 rw[List.drop_eq_getElem_cons hk];rfl
end Go.Proofs.YtifhcbeaiijkcaaGreat
