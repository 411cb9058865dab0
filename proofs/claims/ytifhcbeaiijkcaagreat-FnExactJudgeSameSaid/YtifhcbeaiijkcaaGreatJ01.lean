/- Parts of the proof of FnExactJudgeSame. -/
import Derived.WalkKit
import Derived.WalkSpells
import Derived.WalkLawsBesides
import Derived.Lib.Hide
import Derived.Deep.QuietTactic
import Derived.BigQuiet
import Derived.Laws.AppendOwn
import Derived.Outline
import Derived.Test.YtifhcbeaiijkcaaGreatJ00
import Derived.OpenShut
import Derived.ProofKit
import Derived.ShutString
import Derived.ChangeOld
import Derived.Below
import Derived.Lib.SmallJoins
import Derived.Test.YtifhcbeaiijkcaaGreatRows
set_option linter.unusedVariables false
set_option linter.unusedSimpArgs false
set_option maxRecDepth 1000000
set_option maxHeartbeats 16000000
section
namespace Go.Proofs.YtifhcbeaiijkcaaGreat
open Go.RowKit
open _root_.Go.World renaming alloc→Wa,setCell→Ws
open _root_.Go.Proofs.Tryz renaming prog→Pq
theorem Gz (k:Nat) (m n:Int) (hk:k≤62) (hm:(BitVec.ofInt 64 m).toNat=2^ k - 1):bits .and .i64 n m=n% (2^ k:Nat):=by
 have key:(BitVec.ofInt 64 n&&& BitVec.ofInt 64 m).toNat= (n% ((2^ 64:Nat):Int)).toNat%2^ k:=by
  rw[BitVec.toNat_and,BitVec.toNat_ofInt,hm,Nat.and_two_pow_sub_one_eq_mod]
 show IntKind.i64.wrap ((BitVec.ofInt 64 n&&& BitVec.ofInt 64 m).toNat:Nat)=n% (2^ k:Nat)
 rw[key,IntKind.wrap_i64];have hd:((2^ k:Nat):Int) ∣ ((2^ 64:Nat):Int):=by
  exact Int.natCast_dvd_natCast.2 (Nat.pow_dvd_pow 2 (by omega))
 have h1:0≤n% ((2^ 64:Nat):Int):=Int.emod_nonneg _ (by decide);have h2:(((n% ((2^ 64:Nat):Int)).toNat%2^ k:Nat):Int)=n% (2^ k:Nat):=by
  rw[Int.natCast_emod,Int.toNat_of_nonneg h1,Int.emod_emod_of_dvd _ hd]
 have h4:2^ k≤2^ 62:=Nat.pow_le_pow_right (by decide) hk;have h3:(n% ((2^ 64:Nat):Int)).toNat%2^ k < 2^ k:=Nat.mod_lt _ (Nat.pow_pos (by decide));rw[←h2];generalize (n% ((2^ 64:Nat):Int)).toNat%2^ k=x at h3 ⊢;have h5:x < 2^ 62:=Ah h3 h4;omega
theorem QU (n:Int):bits .and .i64 n 1=n%2:=Gz 1 1 n (by decide) (by decide)
theorem QV (n:Int):bits .and .i64 n 63=n%64:=Gz 6 63 n (by decide) (by decide)
theorem QW (n:Int):bits .and .i64 n 255=n%256:=Gz 8 255 n (by decide) (by decide)
theorem QX (n:Int):bits .and .i64 n 1073741823=n%1073741824:=Gz 30 1073741823 n (by decide) (by decide)
theorem QY (n:Int):bits .and .i64 n 2147483647=n%2147483648:=Gz 31 2147483647 n (by decide) (by decide)
attribute [go_sem] QU QV QW QX QY
def inB (n lo hi:Int):Bool:=decide (lo≤n)&& decide (n≤hi)
theorem Ct {n lo hi:Int}:inB n lo hi=true↔lo≤n∧n≤hi:=by simp[inB]
theorem Ju {n lo hi:Int}:inB n lo hi=false↔ ¬(lo≤n∧n≤hi):=by rw[←Ct];simp
def AU (n:Int):Bool:=inB n (-1073741824) 1073741823
theorem GA {fn:Func}{t u v x:Tmp}(h:fn.results= #[.tmp t,.tmp u,.tmp v,.tmp x]) (tmps:Array Value) (P:Program) (w:World):
  (results fn tmps).run P w= .ok (.tuple #[tmps.getD t undef,tmps.getD u undef,tmps.getD v undef,tmps.getD x undef]) w:=by
 simp[results,h]
theorem Ac {a b:Bool}(h:a=b):Ending.returned (.bool a)= .returned (.bool b):=by rw[h]
theorem Ap {k:IntKind}{a b:Int}(h:a=b):Ending.returned (.int k a)= .returned (.int k b):=by rw[h]
def Rd (B:Nat) (k:IntKind) (w:World) (v:Value) (zs:List Int):Prop:=
 (zs=[]∧ ∃a cap,v= .slice a 0 cap)∨
 ∃b off cap,v= .slice (some ⟨b,off,none⟩) zs.length cap∧b < B∧b < w.heap.size∧(zs.length≤maxLen∧zs.length≤cap)∧ ∀j,j < zs.length→w.cell? ⟨b,off+j,none⟩=some (.int k (zs.getD j 0))
theorem Rd.below {B B':Nat}{k:IntKind}{w w':World}{v:Value}{zs:List Int}(h:Rd B k w v zs) (hb:Below B' w w') (hB:B≤B'):Rd B k w' v zs:=by
 rcases h with h |⟨b,off,cap,h1,h2,h3,h4,h5⟩
 ·exact .inl h
 ·exact .inr ⟨b,off,cap,h1,h2,Ah h3 hb.size,h4,fun j hj=>(hb.cell (p:=⟨b,off+j,none⟩) (by show b < B';omega)).trans (h5 j hj)⟩
theorem Rd.below' {B:Nat}{k:IntKind}{w w':World}{v:Value}{zs:List Int}(h:Rd B k w v zs) (hb:Below w.heap.size w w'):Rd w.heap.size k w' v zs:=by
 rcases h with h |⟨b,off,cap,h1,h2,h3,h4,h5⟩
 ·exact .inl h
 ·exact .inr ⟨b,off,cap,h1,h3,Ah h3 hb.size,h4,fun j hj=>(hb.cell (p:=⟨b,off+j,none⟩) h3).trans (h5 j hj)⟩
theorem Rd.mono {B B':Nat}{k:IntKind}{w:World}{v:Value}{zs:List Int}(h:Rd B k w v zs) (hB:B≤B'):Rd B' k w v zs:=by
 rcases h with h |⟨b,off,cap,h1,h2,h3⟩
 ·exact .inl h
 ·exact .inr ⟨b,off,cap,h1,by omega,h3⟩
def Still (w w':World):Prop:=∃n,w'=w.drewN n
theorem Still.below {w w':World}(h:Still w w') (B:Nat):Below B w w':=by
 obtain⟨n,rfl⟩:=h;exact AM (Ab _ _) n
theorem Still.refl (w:World):Still w w:=⟨0,rfl⟩
theorem Still.trans {a b c:World}(h:Still a b) (k:Still b c):Still a c:=by
 obtain⟨n,rfl⟩:=h;obtain⟨m,rfl⟩:=k;exact⟨n+m,by simp⟩
theorem Rd.of_own {base:Nat}{k:IntKind}{e:TypeId}{w:World}{v:Value}{n:Nat}{zs:List Int}(h:w.ownsRow base e 1 v n (zs.map (Value.int k))):Rd w.heap.size k w v zs:=by
 obtain⟨h1,h2⟩:=h;rw[List.length_map,Nat.mul_one]at h1;subst h1;rcases h2 with ⟨rfl,h0⟩ |⟨g,cap,cur,rfl,hb,hg,hn,hm,hc,ht⟩
 ·exact .inl ⟨List.eq_nil_of_length_eq_zero h0,none,0,rfl⟩
 ·have hlt:g < w.heap.size:=(GX.1 hg).1;refine .inr ⟨g,0,cap,rfl,hlt,hlt,⟨by omega,hn⟩,fun j hj=> ?_⟩;rw[BS,Fe w g j cur e (0,0) hg];have:=Bk (fun l=>l[j]?) ht;simp only[Nat.mul_one,DU,GS]at this;rw[Af hj]at this;simp only[Array.getElem?_toList]at this;rw[this,Ay hj];simp[List.getD,Ay hj]
theorem Rd.len {B:Nat}{k:IntKind}{w:World}{v:Value}{zs:List Int}(h:Rd B k w v zs):zs.length≤maxLen:=by
 rcases h with ⟨rfl,_⟩ |⟨b,off,cap,_,_,_,h,_⟩
 ·simp
 ·exact h.1
theorem Bm {base B:Nat}{e:TypeId}{sz:Nat}{w w':World}{v:Value}{n:Nat}{xs:List Value}(h:w.ownsRow base e sz v n xs) (hb:Below B w w') (hB:∀k,v.ownBlock=some k→k < B):w'.ownsRow base e sz v n xs:=by
 refine⟨h.1,?_⟩;rcases h.2 with hn |⟨g,cap,cur,rfl,hbs,hg,rest⟩
 ·exact .inl hn
 ·refine .inr ⟨g,cap,cur,rfl,hbs,?_,rest⟩;rw[hb.block g (hB g rfl)];exact hg
theorem A5 {base:Nat}{e:TypeId}{sz:Nat}{w:World}{v:Value}{n:Nat}{xs:List Value}(h:w.ownsRow base e sz v n xs):∀k,v.ownBlock=some k→k < w.heap.size:=fun k hk=>(h.lt k hk).2
theorem CS {base base':Nat}{e:TypeId}{sz:Nat}{w:World}{v:Value}{n:Nat}{xs:List Value}(h:w.ownsRow base e sz v n xs) (hB:base'≤base):w.ownsRow base' e sz v n xs:=by
 refine⟨h.1,?_⟩;rcases h.2 with hn |⟨g,cap,cur,rfl,hbs,rest⟩
 ·exact .inl hn
 ·exact .inr ⟨g,cap,cur,rfl,by omega,rest⟩
theorem Below.of_grown {w w':World}{row:Option Nat}{B:Nat}(hg:w.grownBy w' row) (hB:B≤w.heap.size) (hr:∀k,row=some k→B≤k):Below B w w':=
 (Ab B w).grown hg hB hr
theorem grownBy.refl (w:World) (row:Option Nat):w.grownBy w row:=⟨rfl,rfl,rfl,Ad _,fun _ _ _=>rfl⟩
theorem grownBy.trans {a b c:World}{row:Option Nat}(h:a.grownBy b row) (k:b.grownBy c row):a.grownBy c row:=
 ⟨k.os.trans h.os,k.tape.trans h.tape,k.output.trans h.output,At h.size k.size,fun i hi hne=>(k.block i (Ah hi h.size) hne).trans (h.block i hi hne)⟩
theorem _root_.Go.World.grownBy.trans' {a b c:World}{row:Option Nat}(h:a.grownBy b row) (k:b.grownBy c row):a.grownBy c row:=grownBy.trans h k
theorem grownBy.setCell (w:World) (g j:Nat) (u:Value):w.grownBy (w.setCell ⟨g,j,none⟩ u) (some g):=
 ⟨rfl,rfl,rfl,by simp[Ws],fun k _ hne=>Below.heap_setCell _ _ _ _ (by intro h;exact hne (by rw[h]))⟩
theorem Ig {base:Nat}{e:TypeId}{w:World}{g cap n:Nat}{xs:List Value}(h:w.ownsRow base e 1 (.slice (some ⟨g,0,none⟩) n cap) n xs) (j:Nat) (hj:j < n):w.cell? ⟨g,j,none⟩=xs[j]?:=by
 obtain⟨h1,h2⟩:=h;rw[Nat.mul_one]at h1;rcases h2 with ⟨hh,_⟩ |⟨g',cap',cur,hv,hb,hg,hn,hm,hc,ht⟩
 ·cases hh
 ·cases hv
  rw[Fe w g j cur e (0,0) hg,←ht,Nat.mul_one,DU,Af hj,Array.getElem?_toList]
theorem Cg {base:Nat}{e:TypeId}{sz:Nat}{w:World}{g cap n:Nat}{xs:List Value}(h:w.ownsRow base e sz (.slice (some ⟨g,0,none⟩) n cap) n xs) (j:Nat):w.frozen? ⟨g,j,none⟩=false:=by
 rcases h.2 with ⟨hh,_⟩ |⟨g',cap',cur,hv,hb,hg,_⟩
 ·cases hh
 ·cases hv
  simp[World.frozen?,hg]
theorem Q4 {base:Nat}{e:TypeId}{w:World}{g cap n:Nat}{xs:List Value}(h:w.ownsRow base e 1 (.slice (some ⟨g,0,none⟩) n cap) n xs) (j:Nat) (hj:j < n) (u:Value):
  (w.setCell ⟨g,j,none⟩ u).ownsRow base e 1 (.slice (some ⟨g,0,none⟩) n cap) n (xs.set j u):=by
 obtain⟨h1,h2⟩:=h;refine⟨by simpa using h1,?_⟩;rcases h2 with ⟨hh,_⟩ |⟨g',cap',cur,hv,hb,hg,hn,hm,hc,ht⟩
 ·cases hh
 ·cases hv
  refine .inr ⟨g,cap,cur.setIfInBounds j u,rfl,hb,?_,hn,hm,by simpa using hc,?_⟩
  ·have hlt:=(GX.1 hg).1;simp only[Ws,Array.getElem?_modify,hg,Af];simp
  ·rw[Array.toList_setIfInBounds,List.take_set,ht]
def Ek {α:Type}(f:Nat→α) (xs:List α) (i:Nat):List α:=(List.range i).map f++xs.drop i
theorem Q5 {α:Type}(f:Nat→α) (xs:List α):Ek f xs 0=xs:=by simp[Ek]
theorem Q6 {α:Type}(f:Nat→α) (xs:List α) (n:Nat) (h:xs.length=n):Ek f xs n= (List.range n).map f:=by simp[Ek,h]
theorem Q7 {α:Type}(f:Nat→α) (xs:List α) (i:Nat) (h:i < xs.length):(Ek f xs i).set i (f i)=Ek f xs (i+1):=by
 unfold Ek;rw[GY _ _ (by simp),List.range_succ,List.map_append,GW]
 congr 1
 simp only[List.length_map,List.length_range,FC,List.map_cons,List.map_nil];rw[List.drop_eq_getElem_cons h];rfl
theorem Q8 {α:Type}(f:Nat→α) (xs:List α) (i:Nat) (h:i < xs.length):(Ek f xs i)[i]?=some xs[i]:=by
 unfold Ek;rw[EN (by simp)];simp[List.getElem?_drop,h]
theorem Md {xs ys:List Int}{k:Nat}(hl:xs.length=ys.length) (hk:k < xs.length) (h:∀j,j < k→xs.getD j 0=ys.getD j 0) (he:xs.getD k 0=ys.getD k 0):∀j,j < k+1→xs.getD j 0=ys.getD j 0:=by
 intro j hj;by_cases e:j=k
 ·subst e;exact he
 ·exact h j (by omega)
theorem Me {xs ys:List Int}(hl:xs.length=ys.length) (h:∀j,j < xs.length→xs.getD j 0=ys.getD j 0):xs=ys:=by
 refine List.ext_getElem hl fun i h1 h2=> ?_;have:=h i h1
 simpa [List.getD,Ay h1,Ay h2] using this
theorem Q9 {β:Type}(f:Int→β) (zs:List Int):(List.range zs.length).map (fun i=>f (zs.getD i 0))=zs.map f:=by
 refine List.ext_getElem (by simp) fun i h1 h2=> ?_;simp only[List.length_map,List.length_range]at h1;simp[List.getD,Ay h1]
theorem Rd.of_row {k:IntKind}{w:World}{a:Option Addr}{len cap:Nat}{zs:List Int}
  (h:(a=none∧len=0∧cap=0∧zs=[])∨ ∃x,a=some x∧len≤cap∧cap≤maxLen∧zs.length=cap∧(∀i,i < zs.length→w.cell? (x.add i)=some (.int k (zs.getD i 0)))∧ ∀n∈zs,(Lit.int k n).wf=true):
  Rd w.heap.size k w (.slice a len cap) (zs.take len):=by
 rcases h with ⟨rfl,rfl,rfl,rfl⟩ |⟨x,rfl,h1,h2,h3,h4,h5⟩
 ·exact .inl ⟨rfl,none,0,rfl⟩
 ·by_cases h0:len=0
  ·subst h0;exact .inl ⟨by simp,some x,cap,rfl⟩
  ·obtain⟨b,off,rfl,hc⟩:=ints_at h4 (by omega);have hb:=Gb w _ (hc 0 (by omega));have hl:(zs.take len).length=len:=by simp;omega
   refine .inr ⟨b,off,cap,by rw[hl],hb,hb,⟨by omega,by omega⟩,fun j hj=> ?_⟩;rw[hl]at hj;rw[hc j (by omega)];simp[List.getD,hj]
theorem Ra {k:IntKind}{w:World}{a:Option Addr}{len cap:Nat}{zs:List Int}
  (h:(a=none∧len=0∧cap=0∧zs=[])∨ ∃x,a=some x∧len≤cap∧cap≤maxLen∧zs.length=cap∧(∀i,i < zs.length→w.cell? (x.add i)=some (.int k (zs.getD i 0)))∧ ∀n∈zs,(Lit.int k n).wf=true):
  (zs.take len).length=len∧ ∀n∈zs.take len,(Lit.int k n).wf=true:=by
 rcases h with ⟨rfl,rfl,rfl,rfl⟩ |⟨x,rfl,h1,h2,h3,h4,h5⟩
 ·simp
 ·exact⟨by simp;omega,fun n hn=>h5 n (List.mem_of_mem_take hn)⟩
theorem Rd.form {B:Nat}{k:IntKind}{w:World}{v:Value}{zs:List Int}(h:Rd B k w v zs):∃a cap,v= .slice a zs.length cap:=by
 rcases h with ⟨rfl,a,cap,rfl⟩ |⟨b,off,cap,rfl,_⟩
 ·exact⟨_,_,rfl⟩
 ·exact⟨_,_,rfl⟩
theorem AR {base:Nat}{e:TypeId}{sz:Nat}{w:World}{v:Value}{n:Nat}{xs:List Value}(h:w.ownsRow base e sz v n xs):∃a cap,v= .slice a n cap:=by
 rcases h.2 with ⟨rfl,rfl⟩ |⟨g,cap,cur,rfl,_⟩
 ·exact⟨_,_,rfl⟩
 ·exact⟨_,_,rfl⟩
def Bx (w:World) (g:Nat) (cur:Array Value):Prop:=g < w.heap.size∧(∀j,w.cell? ⟨g,j,none⟩=cur[j]?)∧ ∀j,w.frozen? ⟨g,j,none⟩=false
theorem Bx.alloc {w x:World}{cur:Array Value}{e:TypeId}(h:w.alloc (.cells cur e)=x):Below w.heap.size w x∧Bx x w.heap.size cur:=by
 subst h;refine⟨(Ab _ _).alloc (Ad _) _,by simp,fun j=> ?_,fun j=> ?_⟩
 ·exact J7 _ _ _ _ rfl
 ·exact World.frozen?_alloc_at _ _ _ _ rfl
theorem Bx.below {w w':World}{g B:Nat}{cur:Array Value}(h:Bx w g cur) (hb:Below B w w') (hg:g < B):Bx w' g cur:=
 ⟨Ah h.1 hb.size,fun j=>(hb.cell (p:=⟨g,j,none⟩) hg).trans (h.2.1 j),fun j=>(hb.frozen (p:=⟨g,j,none⟩) hg).trans (h.2.2 j)⟩
theorem Bx.grown {w w':World}{g:Nat}{row:Option Nat}{cur:Array Value}(h:Bx w g cur) (hg:w.grownBy w' row) (hne:some g≠row):Bx w' g cur:=
 ⟨Ah h.1 hg.size,fun j=>(CD (hg.block g h.1 hne)).trans (h.2.1 j),fun j=>(F9 (hg.block g h.1 hne)).trans (h.2.2 j)⟩
theorem FR {w:World}{base g size:Nat}{e:TypeId}(hg:g=w.heap.size) (hb:base≤g):(w.alloc (.cells #[] e)).ownsRow base e size (.slice (some ⟨g,0,none⟩) 0 0) 0 []:=by
 subst hg;exact World.ownsRow_made w #[] 0 hb (Ao _) (by simp)
theorem Mf {P:Program}{w:World}{ops:Array Oper}{rest:List Oper}{o:Oper}{a:Act}{Q:Exit→Act→World→Prop}(hgd:o.guard=none) (s x:Operand) (t:TypeId)
  (ho:o.op= .call {callee:= .builtin .append,args:= #[s,x],argTypes:= #[t,t]})
  (base:Nat) (e:TypeId) (i:TypeInfo) (z:Value) (size bytes:Nat) (ht:P.underlying t=some (.slice e)) (hi:P.info? e=some i) (hz:i.zero=some z)
  (hsize:i.size=size) (hby:i.bytes=bytes) (hzs:z.cells.size=size) (hsz:0 < size)
  (v:Value) (n:Nat) (xs:List Value) (hs:a.eval s=v) (hown:w.ownsRow base e size v n xs) (us:Array Value) (hus:us.size=size) (h1:∀u∈us.toList,u.oneCell'=true)
  (hx:a.eval x= .slice (some ⟨w.heap.size,0,none⟩) 1 1)
  (h63:n+1≤maxLen) (hbytes:(n+1)*bytes≤140737488355328) (hbase:base≤w.heap.size)
  (h:∀v' w',w'.ownsRow base e size v' (n+1) (xs++us.toList)→w.grownBy w' v.ownBlock→v'≠ .slice none 0 0→wpList P ops Q rest (a.put o.dst v') w'):
  wpList P ops Q (o::rest) a (w.alloc (.cells us e)):=by
 refine wpList_append_own _ hgd s x t ho base e i z size bytes ht hi hz hsize hby hzs hsz v n xs hs (hown.alloc _) ⟨w.heap.size,0,none⟩ 1 1 us.toList hx (by simp[hus]) ?_ h1 h63 hbytes (by simp;omega) ?_
 ·intro j u hj;have hadd:(⟨w.heap.size,0,none⟩:Addr).add j=⟨w.heap.size,j,none⟩:=by unfold Addr.add;split <;> simp_all
  rw[hadd,J7 _ _ _ _ rfl]
  simpa using hj
 ·intro v' w' h2 h3 h4;exact h v' w' h2 ((De w _ _).trans' h3) (by intro hh;have:=(h4.1 hh).2;omega)
end Go.Proofs.YtifhcbeaiijkcaaGreat
end
section
namespace Go.Proofs.YtifhcbeaiijkcaaGreat
open Go.ChangeShapes Go.WideShapes Go.ChangeAt Go.RowKit
open _root_.Go.World renaming alloc→Wa,setCell→Ws
open _root_.Go.Proofs.Tryz renaming prog→Pq
def Ik (ws:List Int):Prop:=∀j, -9223372036854775808≤ws.getD j 0∧ws.getD j 0≤9223372036854775807
theorem JD {H:Type}{enc:TypeId×Value→H}{P:Program}{w:World}{base fuel:Nat}{held:Bool}{t e:TypeId}{c:Value}{x:DataW H×List MemPlace}(ht:P.underlying t=some (.slice e)) (he:P.underlying e=some (.int .i64)) (hc:P.cellsOf e=1)
  (h:DataW.trod enc P w base (fun _=>true) held fuel t [c]=some x):∃zs,Rd w.heap.size .i64 w c zs∧Ik zs:=by
 rcases open_ints ht he hc h with ⟨hcs,_⟩ |⟨a,len,cap,zs,hcs,_,hl,hm,hz,_,hcell,hwz⟩
 ·simp only[List.cons.injEq,Dg]at hcs;subst hcs;exact⟨[],.inl ⟨rfl,_,_,rfl⟩,fun j=>by simp[List.getD]⟩
 ·simp only[List.cons.injEq,Dg]at hcs;subst hcs;have hrow:(some a=none∧len=0∧cap=0∧zs=[])∨ ∃x,some a=some x∧len≤cap∧cap≤maxLen∧zs.length=cap∧(∀i,i < zs.length→w.cell? (x.add i)=some (.int .i64 (zs.getD i 0)))∧ ∀n∈zs,(Lit.int .i64 n).wf=true:=
   .inr ⟨a,rfl,hl,hm,by simpa using hz,hcell,hwz⟩
  refine⟨zs.take len,Rd.of_row hrow,fun j=> ?_⟩;have:=range_i64 (Ra hrow).2 j
  simpa [List.getD] using this
theorem Db {H:Type}{enc:TypeId×Value→H}{P:Program}{w:World}{base fuel:Nat}{spare:Nat→Bool}{held:Bool}{t:TypeId}{c:Value}{x:DataW H×List MemPlace}(ht:P.underlying t=some (.int .i64))
  (h:DataW.trod enc P w base spare held fuel t [c]=some x):∃n,c= .int .i64 n∧ -9223372036854775808≤n∧n≤9223372036854775807:=by
 obtain⟨n,hcs,_,hw⟩:=DataW.trod_int ht h;simp only[List.cons.injEq,Dg]at hcs;exact⟨n,hcs,bounds_i64 hw⟩
end Go.Proofs.YtifhcbeaiijkcaaGreat
end
section
namespace Go.Proofs.YtifhcbeaiijkcaaGreat
open _root_.Go.World renaming alloc→Wa,setCell→Ws
open _root_.Go.Proofs.Tryz renaming prog→Pq
abbrev Str:=ByteArray
inductive Nd where
 |mk (op n:Int) (s t:Str) (kids:List Nd)
namespace Nd
def op:Nd→Int |mk o _ _ _ _=>o
def n:Nd→Int |mk _ n _ _ _=>n
def s:Nd→Str |mk _ _ s _ _=>s
def t:Nd→Str |mk _ _ _ t _=>t
def kids:Nd→List Nd |mk _ _ _ _ k=>k
def zero:Nd:=mk 0 0 ByteArray.empty ByteArray.empty []
def kid (x:Nd) (i:Nat):Nd:=x.kids.getD i zero
end Nd
inductive Vl where
 |int (n:Int)
 |con (s:Str) (kids:List Vl)
 |fn (arg self:Str) (body:Nd) (env:List (Str×Vl))
abbrev Env:=List (Str×Vl)
structure Es where
 fuel:Nat
 out:List Int
inductive Rs (α:Type) where
 |ok (a:α) (s:Es)
 |bad (code:Int) (out:List Int)
def Rs.out {α:Type}:Rs α→List Int
 | .ok _ s=>s.out
 | .bad _ o=>o
def Rs.bind {α β:Type}(r:Rs α) (k:α→Es→Rs β):Rs β:=
 match r with
 | .ok a s=>k a s
 | .bad c o=> .bad c o
def Es.more (s:Es) (d:Nat):Es:=⟨s.fuel+d,s.out⟩
def look:Env→Str→Option Vl
 | [],_=>none
 | (a,v)::e,s=>if a=s then some v else look e s
mutual
def BL:Nd→Vl→Env→Option Env
 | .mk op n s _ ks,v,env=>
  if op=17 then some env
  else if op=18 then some ((s,v)::env)
  else if op=19 then(match v with | .int a=>if a=n then some env else none |_=>none)
  else match v with
   | .con c vs=>if c=s∧vs.length=ks.length then Bh ks vs env else none
   |_=>none
def Bh:List Nd→List Vl→Env→Option Env
 | [],_,env=>some env
 |k::ks,[],env=>none
 |k::ks,v::vs,env=>match BL k v env with
  |some e=>Bh ks vs e
  |none=>none
end
def DD (n:Int):Int:=
 let m:=Int.tmod n 2147483648
 if m > 1073741823 then m - 2147483648 else if m < -1073741824 then m+2147483648 else m
def Do (op a b:Int):Int:=
 if op=10 then DD (a+b)else if op=11 then DD (a - b)else if op=12 then DD (a*b)
 else if op=13 then(if a < b then 1 else 0)else if op=14 then(if a=b then 1 else 0)else 0
def Co (v:Vl) (s:Es):Rs Int:=match v with
 | .int n=> .ok n s
 |_=> .bad 2 s.out
def Bn (E:Nd→Env→Es→Rs Vl) (env:Env):List Nd→Es→Rs (List Vl)
 | [],s=> .ok [] s
 |k::ks,s=>(E k env s).bind fun v s1=>(Bn E env ks s1).bind fun vs s2=> .ok (v::vs) s2
def Bi (E:Nd→Env→Es→Rs Vl) (env:Env) (v:Vl):List Nd→Es→Rs Vl
 | [],s=> .bad 2 s.out
 |a::aS,s=>match BL (a.kid 0) v env with
  |some e=>E (a.kid 1) e s
  |none=>Bi E env v aS s
def Cw (E:Nd→Env→Es→Rs Vl) (f x:Vl) (s:Es):Rs Vl:=match f with
 | .fn arg self body env=>E body ((arg,x)::(if self=ByteArray.empty then env else(self,f)::env)) s
 |_=> .bad 2 s.out
def AI (ar:Str→Option Nat) (E:Nd→Env→Es→Rs Vl) (x:Nd) (env:Env) (s:Es):Rs Vl:=
 if x.op=1 then .ok (.int x.n) s
 else if x.op=2 then(match look env x.s with |some v=> .ok v s |none=> .bad 2 s.out)
 else if x.op=3 then .ok (.fn x.s ByteArray.empty (x.kid 0) env) s
 else if x.op=4 then(E (x.kid 0) env s).bind fun f s1=>(E (x.kid 1) env s1).bind fun a s2=>Cw E f a s2
 else if x.op=6 then E (x.kid 1) ((x.s,.fn x.t x.s (x.kid 0) env)::env) s
 else if x.op=7 then(E (x.kid 0) env s).bind fun v s1=>Bi E env v (x.kids.drop 1) s1
 else if x.op=15 then(Bn E env x.kids s).bind fun vs s1=>if ar x.s=some x.kids.length then .ok (.con x.s vs) s1 else .bad 2 s1.out
 else(E (x.kid 0) env s).bind fun v s1=>
  if x.op=5 then E (x.kid 1) ((x.s,v)::env) s1
  else(Co v s1).bind fun a s2=>
   if x.op=16 then .ok v ⟨s2.fuel,s2.out++ [a]⟩
   else if x.op=9 then(if a≠0 then E (x.kid 1) env s2 else E (x.kid 2) env s2)
   else(E (x.kid 1) env s2).bind fun v2 s3=>(Co v2 s3).bind fun b s4=> .ok (.int (Do x.op a b)) s4
def Ag (ar:Str→Option Nat):Nat→Nd→Env→Es→Rs Vl
 |0,_,_,s=> .bad 1 s.out
 |m+1,x,env,s=>match s.fuel with
  |0=> .bad 1 s.out
  |f+1=>AI ar (Ag ar m) x env ⟨f,s.out⟩
def Grows {α:Type}(s:Es) (r:Rs α):Prop:=s.out <+:r.out∧ ∀a s',r= .ok a s'→s'.fuel≤s.fuel
theorem Grows.ok {α:Type}(a:α) (s:Es):Grows s (.ok a s):=⟨List.prefix_refl _,fun a' s' h=>by cases h;exact Ad _⟩
theorem Grows.bad {α:Type}(c:Int) (s:Es):Grows (α:=α) s (.bad c s.out):=⟨List.prefix_refl _,fun a' s' h=>by cases h⟩
theorem Grows.bind {α β:Type}{s:Es}{r:Rs α}{k:α→Es→Rs β}(h:Grows s r) (hk:∀a s',r= .ok a s'→s'.fuel≤s.fuel→Grows s' (k a s')):Grows s (r.bind k):=by
 cases r with
 |ok a s1=>
  have h1:=hk a s1 rfl (h.2 a s1 rfl);exact⟨h.1.trans h1.1,fun b s2 e=>At (h1.2 b s2 e) (h.2 a s1 rfl)⟩
 |bad c o=>exact⟨h.1,fun b s2 e=>by cases e⟩
theorem Oc (v:Vl) (s:Es):Grows s (Co v s):=by
 cases v with
 |int n=>exact .ok _ _
 |_=>exact .bad _ _
theorem Od {E:Nd→Env→Es→Rs Vl}(hE:∀x env s,Grows s (E x env s)) (env:Env):∀ks s,Grows s (Bn E env ks s)
 | [],s=> .ok _ _
 |k::ks,s=>(hE _ _ _).bind fun v s1 _ _=>(Od hE env ks s1).bind fun vs s2 _ _=> .ok _ _
theorem Oe {E:Nd→Env→Es→Rs Vl}(hE:∀x env s,Grows s (E x env s)) (env:Env) (v:Vl):∀aS s,Grows s (Bi E env v aS s)
 | [],s=> .bad _ _
 |a::aS,s=>by
  unfold Bi;split
  ·exact hE _ _ _
  ·exact Oe hE env v aS s
theorem Vj {E:Nd→Env→Es→Rs Vl}(hE:∀x env s,Grows s (E x env s)) (f x:Vl) (s:Es):Grows s (Cw E f x s):=by
 cases f with
 |fn=>exact hE _ _ _
 |_=>exact .bad _ _
theorem Vk {ar:Str→Option Nat}{E:Nd→Env→Es→Rs Vl}(hE:∀x env s,Grows s (E x env s)) (x:Nd) (env:Env) (s:Es):Grows s (AI ar E x env s):=by
 unfold AI;by_cases h1:x.op=1
 ·rw[Af h1];exact .ok _ _
 rw[Ae h1];by_cases h2:x.op=2
 ·rw[Af h2];cases look env x.s with
  |some v=>exact .ok _ _
  |none=>exact .bad _ _
 rw[Ae h2];by_cases h3:x.op=3
 ·rw[Af h3];exact .ok _ _
 rw[Ae h3];by_cases h4:x.op=4
 ·rw[Af h4];exact(hE _ _ _).bind fun f s1 _ _=>(hE _ _ _).bind fun a s2 _ _=>Vj hE _ _ _
 rw[Ae h4];by_cases h6:x.op=6
 ·rw[Af h6];exact hE _ _ _
 rw[Ae h6];by_cases h7:x.op=7
 ·rw[Af h7];exact(hE _ _ _).bind fun v s1 _ _=>Oe hE _ _ _ _
 rw[Ae h7];by_cases h15:x.op=15
 ·rw[Af h15];refine(Od hE _ _ _).bind fun vs s1 _ _=> ?_;by_cases ha:ar x.s=some x.kids.length
  ·rw[Af ha];exact .ok _ _
  ·rw[Ae ha];exact .bad _ _
 rw[Ae h15];refine(hE _ _ _).bind fun v s1 _ _=> ?_;by_cases h5:x.op=5
 ·rw[Af h5];exact hE _ _ _
 rw[Ae h5];refine(Oc _ _).bind fun a s2 _ _=> ?_;by_cases h16:x.op=16
 ·rw[Af h16];exact⟨List.prefix_append _ _,fun a' s' h=>by cases h;exact Ad _⟩
 rw[Ae h16];by_cases h9:x.op=9
 ·rw[Af h9];by_cases ha:a≠0
  ·rw[Af ha];exact hE _ _ _
  ·rw[Ae ha];exact hE _ _ _
 rw[Ae h9];exact(hE _ _ _).bind fun v2 s3 _ _=>(Oc _ _).bind fun b s4 _ _=> .ok _ _
theorem DF (ar:Str→Option Nat):∀m x env s,Grows s (Ag ar m x env s)
 |0,x,env,s=> .bad _ _
 |m+1,x,env,s=>by
  unfold Ag;split
  ·exact .bad _ _
  ·rename_i f hf;have h:=Vk (ar:=ar) (DF ar m) x env ⟨f,s.out⟩;exact⟨h.1,fun a s' e=>At (h.2 a s' e) (by rw[hf];exact AJ _)⟩
def Up {α:Type}(d:Nat) (r r':Rs α):Prop:=match r with
 | .ok a s=>r'= .ok a (s.more d)
 | .bad c o=>if c=1 then o <+:r'.out else r'= .bad c o
theorem Up.bind {α β:Type}{d:Nat}{r r':Rs α}{k k':α→Es→Rs β}(h:Up d r r') (hk:∀a s,r= .ok a s→Up d (k a s) (k' a (s.more d))) (hg:∀a s,r'= .ok a s→Grows s (k' a s)):Up d (r.bind k) (r'.bind k'):=by
 cases r with
 |ok a s=>
  have h:r'= .ok a (s.more d):=h;subst h;exact hk a s rfl
 |bad c o=>
  unfold Up at h ⊢;dsimp only[Rs.bind]at h ⊢;by_cases hc:c=1
  ·rw[Af hc]at h ⊢;cases r' with
   |ok a s=>exact h.trans (hg a s rfl).1
   |bad c' o'=>exact h
  ·rw[Ae hc]at h ⊢;subst h;rfl
def Ar:Vl→Nat
 | .con _ ks=>1+countVs ks
 |_=>1
where countVs:List Vl→Nat
 | []=>0
 |k::ks=>Ar k+countVs ks
end Go.Proofs.YtifhcbeaiijkcaaGreat
end
section
namespace Go.Proofs.YtifhcbeaiijkcaaGreat
open Go.RowKit
open _root_.Go.World renaming alloc→Wa,setCell→Ws
open _root_.Go.Proofs.Tryz renaming prog→Pq
def NdAt (w:World) (b o:Nat) (x:Nd) (kv:Value):Prop:=
 w.cell? ⟨b,o,none⟩=some (.int .i64 x.op)∧w.cell? ⟨b,o+1,none⟩=some (.int .i64 x.n)∧w.cell? ⟨b,o+2,none⟩=some (.string x.s)∧w.cell? ⟨b,o+3,none⟩=some (.string x.t)∧w.cell? ⟨b,o+4,none⟩=some kv
inductive RdNs (B:Nat) (w:World):Value→List Nd→Prop
 |nil (a:Option Addr) (cap:Nat):RdNs B w (.slice a 0 cap) []
 |row (b off cap:Nat) (ks:List Nd) (kv:Nat→Value) (hb:b < B) (hw:b < w.heap.size) (hl:ks.length≤maxLen∧ks.length≤cap)
   (hc:∀j (h:j < ks.length),NdAt w b (off+j*5) ks[j] (kv j)) (hk:∀j (h:j < ks.length),RdNs B w (kv j) ks[j].kids):RdNs B w (.slice (some ⟨b,off,none⟩) ks.length cap) ks
theorem NdAt.below {w w':World}{B b o:Nat}{x:Nd}{kv:Value}(h:NdAt w b o x kv) (hb:Below B w w') (hB:b < B):NdAt w' b o x kv:=
 ⟨(hb.cell (p:=⟨b,o,none⟩) hB).trans h.1,(hb.cell (p:=⟨b,o+1,none⟩) hB).trans h.2.1,(hb.cell (p:=⟨b,o+2,none⟩) hB).trans h.2.2.1,(hb.cell (p:=⟨b,o+3,none⟩) hB).trans h.2.2.2.1,(hb.cell (p:=⟨b,o+4,none⟩) hB).trans h.2.2.2.2⟩
theorem RdNs.later {B B':Nat}{w w':World}{v:Value}{ks:List Nd}(h:RdNs B w v ks) (hb:Below B' w w') (hB:B≤B'):RdNs B w' v ks:=by
 induction h with
 |nil a cap=>exact .nil a cap
 |row b off cap ks kv h1 h2 h3 h4 _ ih=>exact .row b off cap ks kv h1 (Ah h2 hb.size) h3 (fun j hj=>(h4 j hj).below hb (Ah h1 hB)) ih
theorem RdNs.later' {B:Nat}{w w':World}{v:Value}{ks:List Nd}(h:RdNs B w v ks) (hb:Below w.heap.size w w'):RdNs w.heap.size w' v ks:=by
 induction h with
 |nil a cap=>exact .nil a cap
 |row b off cap ks kv h1 h2 h3 h4 _ ih=>exact .row b off cap ks kv h2 (Ah h2 hb.size) h3 (fun j hj=>(h4 j hj).below hb h2) ih
theorem RdNs.form {B:Nat}{w:World}{v:Value}{ks:List Nd}(h:RdNs B w v ks):∃a cap,v= .slice a ks.length cap:=by
 cases h with
 |nil a cap=>exact⟨a,cap,rfl⟩
 |row b off cap _ kv=>exact⟨_,cap,rfl⟩
theorem RdNs.len {B:Nat}{w:World}{v:Value}{ks:List Nd}(h:RdNs B w v ks):ks.length≤maxLen:=by
 cases h with
 |nil a cap=>simp
 |row b off cap _ kv _ _ hl=>exact hl.1
theorem RdNs.at_ {B:Nat}{w:World}{v:Value}{ks:List Nd}(h:RdNs B w v ks) {j:Nat}(hj:j < ks.length):∃b off cap kv,v= .slice (some ⟨b,off,none⟩) ks.length cap∧b < B∧b < w.heap.size∧ks.length≤cap∧NdAt w b (off+j*5) ks[j] kv∧RdNs B w kv ks[j].kids:=by
 cases h with
 |nil a cap=>simp at hj
 |row b off cap _ kv h1 h2 h3 h4 h5=>exact⟨b,off,cap,kv j,rfl,h1,h2,h3.2,h4 j hj,h5 j hj⟩
theorem RdNs.tail {B:Nat}{w:World}{v:Value}{k:Nd}{ks:List Nd}(h:RdNs B w v (k::ks)):∃b off cap,v= .slice (some ⟨b,off,none⟩) (ks.length+1) cap∧ks.length+1≤cap∧ ∀AD,(ks.length≠0→AD=⟨b,off+5,none⟩)→RdNs B w (.slice (some AD) ks.length (cap - 1)) ks:=by
 cases h with
 |row b off cap _ kv h1 h2 h3 h4 h5=>
  refine⟨b,off,cap,rfl,h3.2,fun AD hAD=> ?_⟩;cases ks with
  |nil=>exact .nil _ _
  |cons y ys=>
   obtain rfl:=hAD (by simp);have hl1:=h3.1;have hl2:=h3.2;simp only[List.length_cons]at hl1 hl2;refine .row b (off+5) (cap - 1) (y::ys) (fun j=>kv (j+1)) h1 h2 ⟨by simp only[List.length_cons];omega,by simp only[List.length_cons];omega⟩ (fun j hj=> ?_) (fun j hj=> ?_)
   ·have:=h4 (j+1) (by simp only[List.length_cons]at hj ⊢;omega);rw[show off+ (j+1)*5=off+5+j*5 from by omega]at this;exact this
   ·exact h5 (j+1) (by simp only[List.length_cons]at hj ⊢;omega)
def Bf:Nd→Nat
 | .mk _ _ _ _ ks=>deepNs ks+1
where deepNs:List Nd→Nat
 | []=>0
 |k::ks=>max (Bf k) (deepNs ks)
def B7:Nd→Nat
 | .mk _ _ _ _ ks=>sizeNs ks+1
where sizeNs:List Nd→Nat
 | []=>0
 |k::ks=>B7 k+sizeNs ks
theorem JL {k:Nd}:∀ {ks:List Nd},k∈ks→B7 k≤B7.sizeNs ks
 |x::xs,h=>by
  unfold B7.sizeNs;rcases List.mem_cons.1 h with rfl |h
  ·omega
  ·have:=JL h;omega
end Go.Proofs.YtifhcbeaiijkcaaGreat
end
section
namespace Go.Proofs.YtifhcbeaiijkcaaGreat
open _root_.Go.World renaming alloc→Wa,setCell→Ws
open _root_.Go.Proofs.Tryz renaming prog→Pq
def BI (s:Str):List Nat:=s.data.toList.map UInt8.toNat
def Cu (c:Nat):Bool:=decide (97≤c)&& decide (c≤122)
def Cv (c:Nat):Bool:=decide (65≤c)&& decide (c≤90)
def A9 (c:Nat):Bool:=Cu c || Cv c
def DC (first:Nat→Bool) (s:Str):Bool:=match BI s with
 | []=>false
 |c::cs=>decide (cs.length≤7)&& (first c&& (c::cs).all A9)
def kws:List (List Nat):=[[100,97,116,97],[108,101,116],[114,101,99],[105,110],[102,117,110],[99,97,115,101],[111,102],[105,102],[116,104,101,110],[101,108,115,101],[112,117,116]]
def BJ (s:Str):Bool:=DC Cu s&& !(kws.contains (BI s))
def Bg (s:Str):Bool:=DC Cv s&& !(BI s==[73,110,116])
def noS (s:Str):Bool:=decide (s=ByteArray.empty)
def Cl (n:Int):Bool:=decide (0≤n)&& decide (n≤1073741823)
mutual
def BQ:Nd→Bool
 | .mk op n s t ks=>noS t&& (if op=17 then decide (n=0)&& (noS s&& decide (ks.length=0))
   else if op=18 then decide (n=0)&& (BJ s&& decide (ks.length=0))
   else if op=19 then Cl n&& (noS s&& decide (ks.length=0))
   else if op=20 then decide (n=0)&& (Bg s&& DR ks)else false)
def DR:List Nd→Bool
 | []=>true
 |k::ks=>BQ k&& DR ks
end
def Ai (op n:Int) (s t:Str) (k:Nat):Bool:=
 if op=1 then decide (k=0)&& (Cl n&& (noS s&& noS t))
 else if op=2 then decide (k=0)&& (decide (n=0)&& (BJ s&& noS t))
 else if op=3 then decide (k=1)&& (decide (n=0)&& (BJ s&& noS t))
 else if op=16 then decide (k=1)&& (decide (n=0)&& (noS s&& noS t))
 else if op=5 then decide (k=2)&& (decide (n=0)&& (BJ s&& noS t))
 else if op=6 then decide (k=2)&& (decide (n=0)&& (BJ s&& BJ t))
 else if op=4∨(10≤op∧op≤14)then decide (k=2)&& (decide (n=0)&& (noS s&& noS t))
 else if op=9 then decide (k=3)&& (decide (n=0)&& (noS s&& noS t))
 else if op=15 then decide (n=0)&& (Bg s&& noS t)
 else false
def CC (op n:Int) (s t:Str) (k:Nat):Bool:=decide (op=8)&& (decide (n=0)&& (noS s&& (noS t&& decide (k=2))))
mutual
def Aj:Nd→Bool
 | .mk op n s t ks=>if op=7 then decide (n=0)&& (noS s&& (noS t&& (decide (2≤ks.length)&& AO ks)))else Ai op n s t ks.length&& AB ks
def AB:List Nd→Bool
 | []=>true
 |k::ks=>Aj k&& AB ks
def AO:List Nd→Bool
 | []=>false
 |k::ks=>Aj k&& Iu ks
def Iu:List Nd→Bool
 | []=>true
 |k::ks=>Cm k&& Iu ks
def Cm:Nd→Bool
 | .mk op n s t ks=>CC op n s t ks.length&& Fb ks
def Fb:List Nd→Bool
 | [p,e]=>BQ p&& Aj e
 |_=>false
end
end Go.Proofs.YtifhcbeaiijkcaaGreat
end
section
namespace Go.Proofs.YtifhcbeaiijkcaaGreat
open Go.RowKit
open _root_.Go.World renaming alloc→Wa,setCell→Ws
open _root_.Go.Proofs.Tryz renaming prog→Pq
def ndV (x:Nd) (kv:Value):Value:= .agg #[.int .i64 x.op,.int .i64 x.n,.string x.s,.string x.t,kv]
theorem Lk (x:Nd):Bf x≤B7 x:=by
 have h:∀m (x:Nd),B7 x≤m→Bf x≤B7 x:=by
  intro m;induction m with
  |zero=>intro x hx;cases x;unfold B7 at hx;omega
  |succ m ih=>
   intro x hx;obtain⟨op,n,s,t,ks⟩:=x;unfold B7 at hx;unfold Bf B7;have:∀l:List Nd,B7.sizeNs l≤m→Bf.deepNs l≤B7.sizeNs l:=by
    intro l;induction l with
    |nil=>intro _;exact Ad _
    |cons k l ihl=>
     intro hl;unfold B7.sizeNs at hl;unfold Bf.deepNs B7.sizeNs;have a:=ih k (by omega);have b:=ihl (by omega);omega
   have:=this ks (by omega);omega
 exact h _ x (Ad _)
theorem I5:∀ (ks:List Nd) (k:Nat) (h:k < ks.length),Bf.deepNs (ks.take (k+1))=max (Bf.deepNs (ks.take k)) (Bf ks[k])
 |x::xs,0,h=>by simp[Bf.deepNs]
 |x::xs,k+1,h=>by
  have:=I5 xs k (by simpa using h);simp only[List.take_succ_cons,List.getElem_cons_succ];unfold Bf.deepNs;rw[this];omega
theorem I6:∀ (ks:List Nd) (k:Nat),Bf.deepNs (ks.take k)≤Bf.deepNs ks
 | [],k=>by simp
 |x::xs,0=>by simp[Bf.deepNs]
 |x::xs,k+1=>by
  have:=I6 xs k;rw[List.take_succ_cons];unfold Bf.deepNs;omega
theorem Hk (x:Nd):Bf x=Bf.deepNs x.kids+1:=by cases x;rfl
theorem Hl (x:Nd):B7 x=B7.sizeNs x.kids+1:=by cases x;rfl
theorem Ll (a b:Int) (w:World):Calls Pq 172 #[.int .i64 a,.int .i64 b] w fun e w'=>e= .returned (.int .i64 (max a b))∧w'=w:=by
 go_enter Tryz.func172,Tryz.ntmps172;by_cases h:a > b
 ·go_wp2;go_ret;exact⟨Ap (by omega),rfl⟩
 ·go_wp2;go_ret;exact⟨Ap (by omega),rfl⟩
theorem Lm:∀ (N:Nat) (x:Nd) (kv:Value) (B:Nat) (w:World),B7 x≤N→B7 x≤4294967296→RdNs B w kv x.kids→
  Calls Pq 113 #[ndV x kv] w fun e w'=>e= .returned (.int .i64 (Bf x))∧Below w.heap.size w w'
 |0,x,kv,B,w,hN,hl,hr=>by have:=Hl x;omega
 |N+1,x,kv,B,w,hN,hl,hr=>by
  have HR:=Aa (fun(W:World) (hb:Below w.heap.size w W)=>hr.later' hb);have hlen:=hr.len;unfold maxLen at hlen;obtain⟨ka,kc,rfl⟩:=hr.form;have hsz:=Hl x;have ih:=fun(j:Nat) (hj:j < x.kids.length) (kv:Value) (B:Nat) (W:World) (h:RdNs B W kv x.kids[j].kids)=>(by
   have:=JL (An hj);exact Lm N x.kids[j] kv B W (by omega) (by omega) h:Calls Pq 113 #[ndV x.kids[j] kv] W fun e w'=>e= .returned (.int .i64 (Bf x.kids[j]))∧Below W.heap.size W w')
  unfold ndV at ih ⊢;have IH:=Aa ih;have HB:=Aa (fun(k:Nat)=>(show Bf.deepNs (x.kids.take k)≤4294967296 from by have:=I6 x.kids k;have:=Lk x;have:=Hk x;omega));have HS:=Aa (I5 x.kids);have HX:=Aa (Hk x);clear hr ih hsz hN;generalize x.op=xop;generalize x.n=xn;generalize x.s=xs;generalize x.t=xt;generalize Bf x=dx at HX ⊢;generalize x.kids=ks at*;go_enter Tryz.func113,Tryz.ntmps113;go_wp2_with fail;generalize hxx:w.alloc _=x0;obtain⟨bb,k1⟩:=Bx.alloc hxx;clear hxx;go_wp2
  go_loopw [3,4] (fun o i wr=>∃k:Nat,k≤ks.length∧i= .int .i64 k∧o= .int .i64 (Bf.deepNs (ks.take k))∧Below w.heap.size w wr∧Bx wr w.heap.size #[.int .i64 xop,.int .i64 xn,.string xs,.string xt,.slice ka ks.length kc]) (fun _ i _=>ks.length - (intOf i).toNat)
  case atStart=>exact⟨0,Ao _,rfl,rfl,bb,k1⟩
  case round=>
   clear bb k1;obtain⟨k,hk,rfl,rfl,bb,k1⟩:=hrel;by_cases hlt:k < ks.length
   ·obtain⟨b,off,cap,kv,hv,hB,hbs,hcap,⟨c0,c1,c2,c3,c4⟩,hkr⟩:=(HR.out wr bb).at_ hlt;cases hv
    have hki:(k:Int) < (ks.length:Int):=by omega
    obtain⟨kva,kvc,rfl⟩:=hkr.form;have HK:=Aa hkr;have q1:=k1.2.1;clear hkr;go_wp2_with fail;clear q1 c0 c1 c2 c3 c4;refine(IH.out k hlt _ _ wr HK.out).mono ?_;rintro e w2 ⟨rfl,b2⟩;replace k1:=k1.below b2 k1.1;replace bb:=bb.trans (b2.mono bb.size);clear b2 HK;have hb1:=HB.out (k+1);have hs1:=HS.out k hlt;go_wp2_with fail;refine(Ll _ _ w2).mono ?_;rintro e w3 ⟨rfl,rfl⟩;go_wp2;go_roundw
    case rel=>
     refine⟨k+1,hlt,by go_num,?_,bb,k1⟩;rw[hs1];exact Bk (Value.int .i64) (by omega)
    case measure=>simp[intOf];omega
   ·obtain rfl:k=ks.length:=by omega
    have hb1:=HB.out ks.length;have hx1:=HX.out;rw[B8]at hb1;simp only[B8];have q1:=k1.2.1;go_wp2;go_ret;exact⟨Ap (by rw[hx1];simp),bb⟩
theorem KJ (c:Nat) (w:World):Calls Pq 204 #[.int .u8 c] w fun e w'=>e= .returned (.bool (Cu c))∧w'=w:=by
 go_enter Tryz.func204,Tryz.ntmps204;by_cases h1:(97:Int)≤ (c:Int)
 ·by_cases h2:(c:Int)≤122
  all_goals
   go_wp2;go_ret;exact⟨Bk (fun b=>Ending.returned (Value.bool b)) (by unfold Cu;simp;omega),rfl⟩
 ·go_wp2;go_ret;exact⟨Bk (fun b=>Ending.returned (Value.bool b)) (by unfold Cu;simp;omega),rfl⟩
theorem KM (c:Nat) (w:World):Calls Pq 206 #[.int .u8 c] w fun e w'=>e= .returned (.bool (Cv c))∧w'=w:=by
 go_enter Tryz.func206,Tryz.ntmps206;by_cases h1:(65:Int)≤ (c:Int)
 ·by_cases h2:(c:Int)≤90
  all_goals
   go_wp2;go_ret;exact⟨Bk (fun b=>Ending.returned (Value.bool b)) (by unfold Cv;simp;omega),rfl⟩
 ·go_wp2;go_ret;exact⟨Bk (fun b=>Ending.returned (Value.bool b)) (by unfold Cv;simp;omega),rfl⟩
theorem Pt (c:Nat) (w:World):Calls Pq 238 #[.int .u8 c] w fun e w'=>e= .returned (.bool (A9 c))∧w'=w:=by
 go_enter Tryz.func238,Tryz.ntmps238;go_wp2_with fail;refine(KJ c w).mono ?_;rintro e w' ⟨rfl,rfl⟩;cases h1:Cu c with
 |true=>
  go_wp2;go_ret;exact⟨by unfold A9;simp[h1],rfl⟩
 |false=>
  go_wp2_with fail;refine(KM c w').mono ?_;rintro e w'' ⟨rfl,rfl⟩;go_wp2;go_ret;exact⟨by unfold A9;simp[h1],rfl⟩
theorem IZ (c:Nat) (w:World):Calls Pq 170 #[.int .u8 c] w fun e w'=>e= .returned (.bool (Cu c))∧w'=w:=by
 go_enter Tryz.func170,Tryz.ntmps170;by_cases h1:(97:Int)≤ (c:Int)
 ·by_cases h2:(c:Int)≤122
  all_goals
   go_wp2;go_ret;exact⟨Bk (fun b=>Ending.returned (Value.bool b)) (by unfold Cu;simp;omega),rfl⟩
 ·go_wp2;go_ret;exact⟨Bk (fun b=>Ending.returned (Value.bool b)) (by unfold Cu;simp;omega),rfl⟩
theorem I1 (c:Nat) (w:World):Calls Pq 171 #[.int .u8 c] w fun e w'=>e= .returned (.bool (Cv c))∧w'=w:=by
 go_enter Tryz.func171,Tryz.ntmps171;by_cases h1:(65:Int)≤ (c:Int)
 ·by_cases h2:(c:Int)≤90
  all_goals
   go_wp2;go_ret;exact⟨Bk (fun b=>Ending.returned (Value.bool b)) (by unfold Cv;simp;omega),rfl⟩
 ·go_wp2;go_ret;exact⟨Bk (fun b=>Ending.returned (Value.bool b)) (by unfold Cv;simp;omega),rfl⟩
end Go.Proofs.YtifhcbeaiijkcaaGreat
end
