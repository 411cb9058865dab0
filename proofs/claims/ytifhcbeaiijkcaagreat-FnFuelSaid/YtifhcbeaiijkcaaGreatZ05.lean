/- Parts of the proof of FnFuel. -/
import Derived.WalkKit
import Derived.WalkSpells
import Derived.WalkLawsBesides
import Derived.Lib.Hide
import Derived.Deep.QuietTactic
import Derived.BigQuiet
import Derived.Laws.AppendOwn
import Derived.Outline
import Derived.Test.YtifhcbeaiijkcaaGreatZ00
import Derived.OpenShut
import Derived.ProofKit
import Derived.ShutString
import Derived.ChangeOld
import Derived.Below
import Derived.Lib.SmallJoins
import Derived.Test.YtifhcbeaiijkcaaGreatRows
import Derived.Lib.SliceRun
import Derived.Maps.AppendAt
import Derived.Deep.RegionHeld3
import Derived.Deep.DrawnRows
import Derived.Deep.AppendLies
import Derived.OwnWalk
import Derived.StillTail
set_option linter.unusedVariables false
set_option linter.unusedSimpArgs false
set_option maxRecDepth 1000000
set_option maxHeartbeats 16000000
section
namespace Go.Proofs.YtifhcbeaiijkcaaGreat
open Go.RowKit
open _root_.Go.World renaming alloc→Wa,setCell→Ws
open _root_.Go.Proofs.Tryz renaming prog→Pq
theorem GV (k:Nat) (m n:Int) (hk:k≤62) (hm:(BitVec.ofInt 64 m).toNat=2^ k - 1):bits .and .i64 n m=n% (2^ k:Nat):=by
 have key:(BitVec.ofInt 64 n&&& BitVec.ofInt 64 m).toNat= (n% ((2^ 64:Nat):Int)).toNat%2^ k:=by
  rw[BitVec.toNat_and,BitVec.toNat_ofInt,hm,Nat.and_two_pow_sub_one_eq_mod]
 show IntKind.i64.wrap ((BitVec.ofInt 64 n&&& BitVec.ofInt 64 m).toNat:Nat)=n% (2^ k:Nat)
 rw[key,IntKind.wrap_i64];have hd:((2^ k:Nat):Int) ∣ ((2^ 64:Nat):Int):=by
  exact Int.natCast_dvd_natCast.2 (Nat.pow_dvd_pow 2 (by omega))
 have h1:0≤n% ((2^ 64:Nat):Int):=KS _ (by decide);have h2:(((n% ((2^ 64:Nat):Int)).toNat%2^ k:Nat):Int)=n% (2^ k:Nat):=by
  rw[Int.natCast_emod,Int.toNat_of_nonneg h1,Int.emod_emod_of_dvd _ hd]
 have h4:2^ k≤2^ 62:=Nat.pow_le_pow_right (by decide) hk;have h3:(n% ((2^ 64:Nat):Int)).toNat%2^ k < 2^ k:=Nat.mod_lt _ (Nat.pow_pos (by decide));rw[←h2];generalize (n% ((2^ 64:Nat):Int)).toNat%2^ k=x at h3 ⊢;have h5:x < 2^ 62:=Aj h3 h4;omega
theorem Tj (n:Int):bits .and .i64 n 1=n%2:=GV 1 1 n (by decide) (by decide)
theorem Tk (n:Int):bits .and .i64 n 63=n%64:=GV 6 63 n (by decide) (by decide)
theorem Tl (n:Int):bits .and .i64 n 255=n%256:=GV 8 255 n (by decide) (by decide)
theorem Tm (n:Int):bits .and .i64 n 1073741823=n%1073741824:=GV 30 1073741823 n (by decide) (by decide)
theorem Tn (n:Int):bits .and .i64 n 2147483647=n%2147483648:=GV 31 2147483647 n (by decide) (by decide)
attribute [go_sem] Tj Tk Tl Tm Tn
def inB (n lo hi:Int):Bool:=decide (lo≤n)&& decide (n≤hi)
theorem IJ {n lo hi:Int}:inB n lo hi=true↔lo≤n∧n≤hi:=by simp[inB]
theorem To {n lo hi:Int}:inB n lo hi=false↔ ¬(lo≤n∧n≤hi):=by rw[←IJ];simp
def EZ (n:Int):Bool:=inB n (-1073741824) 1073741823
theorem Ae {a b:Bool}(h:a=b):Ending.returned (.bool a)= .returned (.bool b):=by rw[h]
theorem AK {k:IntKind}{a b:Int}(h:a=b):Ending.returned (.int k a)= .returned (.int k b):=by rw[h]
def Rd (B:Nat) (k:IntKind) (w:World) (v:Value) (zs:List Int):Prop:=
 (zs=[]∧ ∃a cap,v= .slice a 0 cap)∨
 ∃b off cap,v= .slice (some ⟨b,off,none⟩) zs.length cap∧b < B∧b < w.heap.size∧(zs.length≤maxLen∧zs.length≤cap)∧ ∀j,j < zs.length→w.cell? ⟨b,off+j,none⟩=some (.int k (zs.getD j 0))
theorem Rd.below {B B':Nat}{k:IntKind}{w w':World}{v:Value}{zs:List Int}(h:Rd B k w v zs) (hb:Below B' w w') (hB:B≤B'):Rd B k w' v zs:=by
 rcases h with h |⟨b,off,cap,h1,h2,h3,h4,h5⟩
 ·exact .inl h
 ·exact .inr ⟨b,off,cap,h1,h2,Aj h3 hb.size,h4,fun j hj=>(hb.cell (p:=⟨b,off+j,none⟩) (by show b < B';omega)).trans (h5 j hj)⟩
theorem Rd.below' {B:Nat}{k:IntKind}{w w':World}{v:Value}{zs:List Int}(h:Rd B k w v zs) (hb:Below w.heap.size w w'):Rd w.heap.size k w' v zs:=by
 rcases h with h |⟨b,off,cap,h1,h2,h3,h4,h5⟩
 ·exact .inl h
 ·exact .inr ⟨b,off,cap,h1,h3,Aj h3 hb.size,h4,fun j hj=>(hb.cell (p:=⟨b,off+j,none⟩) h3).trans (h5 j hj)⟩
theorem Rd.mono {B B':Nat}{k:IntKind}{w:World}{v:Value}{zs:List Int}(h:Rd B k w v zs) (hB:B≤B'):Rd B' k w v zs:=by
 rcases h with h |⟨b,off,cap,h1,h2,h3⟩
 ·exact .inl h
 ·exact .inr ⟨b,off,cap,h1,by omega,h3⟩
def Still (w w':World):Prop:=∃n,w'=w.drewN n
theorem Still.below {w w':World}(h:Still w w') (B:Nat):Below B w w':=by
 obtain⟨n,rfl⟩:=h;exact below_drewN (Ac _ _) n
theorem Still.refl (w:World):Still w w:=⟨0,rfl⟩
theorem Still.trans {a b c:World}(h:Still a b) (k:Still b c):Still a c:=by
 obtain⟨n,rfl⟩:=h;obtain⟨m,rfl⟩:=k;exact⟨n+m,by simp⟩
theorem Rd.of_own {base:Nat}{k:IntKind}{e:TypeId}{w:World}{v:Value}{n:Nat}{zs:List Int}(h:w.ownsRow base e 1 v n (zs.map (Value.int k))):Rd w.heap.size k w v zs:=by
 obtain⟨h1,h2⟩:=h;rw[Hk,Nat.mul_one]at h1;subst h1;rcases h2 with ⟨rfl,h0⟩ |⟨g,cap,cur,rfl,hb,hg,hn,hm,hc,ht⟩
 ·exact .inl ⟨List.eq_nil_of_length_eq_zero h0,none,0,rfl⟩
 ·have hlt:g < w.heap.size:=(Gq.1 hg).1;refine .inr ⟨g,0,cap,rfl,hlt,hlt,⟨by omega,hn⟩,fun j hj=> ?_⟩;rw[BU,FM w g j cur e (0,0) hg];have:=AX (fun l=>l[j]?) ht;simp only[Nat.mul_one,Ej,FJ]at this;rw[Ag hj]at this;simp only[Array.getElem?_toList]at this;rw[this,Bl hj];simp[List.getD,Bl hj]
theorem Rd.len {B:Nat}{k:IntKind}{w:World}{v:Value}{zs:List Int}(h:Rd B k w v zs):zs.length≤maxLen:=by
 rcases h with ⟨rfl,_⟩ |⟨b,off,cap,_,_,_,h,_⟩
 ·simp
 ·exact h.1
theorem CE {base B:Nat}{e:TypeId}{sz:Nat}{w w':World}{v:Value}{n:Nat}{xs:List Value}(h:w.ownsRow base e sz v n xs) (hb:Below B w w') (hB:∀k,v.ownBlock=some k→k < B):w'.ownsRow base e sz v n xs:=by
 refine⟨h.1,?_⟩;rcases h.2 with hn |⟨g,cap,cur,rfl,hbs,hg,rest⟩
 ·exact .inl hn
 ·refine .inr ⟨g,cap,cur,rfl,hbs,?_,rest⟩;rw[hb.block g (hB g rfl)];exact hg
theorem Cj {base:Nat}{e:TypeId}{sz:Nat}{w:World}{v:Value}{n:Nat}{xs:List Value}(h:w.ownsRow base e sz v n xs):∀k,v.ownBlock=some k→k < w.heap.size:=fun k hk=>(h.lt k hk).2
theorem Below.of_grown {w w':World}{row:Option Nat}{B:Nat}(hg:w.grownBy w' row) (hB:B≤w.heap.size) (hr:∀k,row=some k→B≤k):Below B w w':=
 (Ac B w).grown hg hB hr
theorem grownBy.refl (w:World) (row:Option Nat):w.grownBy w row:=⟨rfl,rfl,rfl,Ad _,fun _ _ _=>rfl⟩
theorem grownBy.trans {a b c:World}{row:Option Nat}(h:a.grownBy b row) (k:b.grownBy c row):a.grownBy c row:=
 ⟨k.os.trans h.os,k.tape.trans h.tape,k.output.trans h.output,Ar h.size k.size,fun i hi hne=>(k.block i (Aj hi h.size) hne).trans (h.block i hi hne)⟩
theorem _root_.Go.World.grownBy.trans' {a b c:World}{row:Option Nat}(h:a.grownBy b row) (k:b.grownBy c row):a.grownBy c row:=grownBy.trans h k
theorem grownBy.setCell (w:World) (g j:Nat) (u:Value):w.grownBy (w.setCell ⟨g,j,none⟩ u) (some g):=
 ⟨rfl,rfl,rfl,by simp[Ws],fun k _ hne=>Below.heap_setCell _ _ _ _ (by intro h;exact hne (by rw[h]))⟩
theorem J8 {base:Nat}{e:TypeId}{w:World}{g cap n:Nat}{xs:List Value}(h:w.ownsRow base e 1 (.slice (some ⟨g,0,none⟩) n cap) n xs) (j:Nat) (hj:j < n):w.cell? ⟨g,j,none⟩=xs[j]?:=by
 obtain⟨h1,h2⟩:=h;rw[Nat.mul_one]at h1;rcases h2 with ⟨hh,_⟩ |⟨g',cap',cur,hv,hb,hg,hn,hm,hc,ht⟩
 ·cases hh
 ·cases hv
  rw[FM w g j cur e (0,0) hg,←ht,Nat.mul_one,Ej,Ag hj,Array.getElem?_toList]
theorem IN {base:Nat}{e:TypeId}{sz:Nat}{w:World}{g cap n:Nat}{xs:List Value}(h:w.ownsRow base e sz (.slice (some ⟨g,0,none⟩) n cap) n xs) (j:Nat):w.frozen? ⟨g,j,none⟩=false:=by
 rcases h.2 with ⟨hh,_⟩ |⟨g',cap',cur,hv,hb,hg,_⟩
 ·cases hh
 ·cases hv
  simp[World.frozen?,hg]
theorem Tv {xs ys:List Int}{k:Nat}(hl:xs.length=ys.length) (hk:k < xs.length) (h:∀j,j < k→xs.getD j 0=ys.getD j 0) (he:xs.getD k 0=ys.getD k 0):∀j,j < k+1→xs.getD j 0=ys.getD j 0:=by
 intro j hj;by_cases e:j=k
 ·subst e;exact he
 ·exact h j (by omega)
theorem Tx {xs ys:List Int}(hl:xs.length=ys.length) (h:∀j,j < xs.length→xs.getD j 0=ys.getD j 0):xs=ys:=by
 refine List.ext_getElem hl fun i h1 h2=> ?_;have:=h i h1
 simpa [List.getD,Bl h1,Bl h2] using this
theorem Rd.of_row {k:IntKind}{w:World}{a:Option Addr}{len cap:Nat}{zs:List Int}
  (h:(a=none∧len=0∧cap=0∧zs=[])∨ ∃x,a=some x∧len≤cap∧cap≤maxLen∧zs.length=cap∧(∀i,i < zs.length→w.cell? (x.add i)=some (.int k (zs.getD i 0)))∧ ∀n∈zs,(Lit.int k n).wf=true):
  Rd w.heap.size k w (.slice a len cap) (zs.take len):=by
 rcases h with ⟨rfl,rfl,rfl,rfl⟩ |⟨x,rfl,h1,h2,h3,h4,h5⟩
 ·exact .inl ⟨rfl,none,0,rfl⟩
 ·by_cases h0:len=0
  ·subst h0;exact .inl ⟨by simp,some x,cap,rfl⟩
  ·obtain⟨b,off,rfl,hc⟩:=ints_at h4 (by omega);have hb:=World.block_lt_of_cell? w _ (hc 0 (by omega));have hl:(zs.take len).length=len:=by simp;omega
   refine .inr ⟨b,off,cap,by rw[hl],hb,hb,⟨by omega,by omega⟩,fun j hj=> ?_⟩;rw[hl]at hj;rw[hc j (by omega)];simp[List.getD,hj]
theorem Ty {k:IntKind}{w:World}{a:Option Addr}{len cap:Nat}{zs:List Int}
  (h:(a=none∧len=0∧cap=0∧zs=[])∨ ∃x,a=some x∧len≤cap∧cap≤maxLen∧zs.length=cap∧(∀i,i < zs.length→w.cell? (x.add i)=some (.int k (zs.getD i 0)))∧ ∀n∈zs,(Lit.int k n).wf=true):
  (zs.take len).length=len∧ ∀n∈zs.take len,(Lit.int k n).wf=true:=by
 rcases h with ⟨rfl,rfl,rfl,rfl⟩ |⟨x,rfl,h1,h2,h3,h4,h5⟩
 ·simp
 ·exact⟨by simp;omega,fun n hn=>h5 n (List.mem_of_mem_take hn)⟩
theorem Rd.form {B:Nat}{k:IntKind}{w:World}{v:Value}{zs:List Int}(h:Rd B k w v zs):∃a cap,v= .slice a zs.length cap:=by
 rcases h with ⟨rfl,a,cap,rfl⟩ |⟨b,off,cap,rfl,_⟩
 ·exact⟨_,_,rfl⟩
 ·exact⟨_,_,rfl⟩
theorem A2 {base:Nat}{e:TypeId}{sz:Nat}{w:World}{v:Value}{n:Nat}{xs:List Value}(h:w.ownsRow base e sz v n xs):∃a cap,v= .slice a n cap:=by
 rcases h.2 with ⟨rfl,rfl⟩ |⟨g,cap,cur,rfl,_⟩
 ·exact⟨_,_,rfl⟩
 ·exact⟨_,_,rfl⟩
def Bx (w:World) (g:Nat) (cur:Array Value):Prop:=g < w.heap.size∧(∀j,w.cell? ⟨g,j,none⟩=cur[j]?)∧ ∀j,w.frozen? ⟨g,j,none⟩=false
theorem Bx.alloc {w x:World}{cur:Array Value}{e:TypeId}(h:w.alloc (.cells cur e)=x):Below w.heap.size w x∧Bx x w.heap.size cur:=by
 subst h;refine⟨(Ac _ _).alloc (Ad _) _,by simp,fun j=> ?_,fun j=> ?_⟩
 ·exact KI _ _ _ _ rfl
 ·exact World.frozen?_alloc_at _ _ _ _ rfl
theorem Bx.below {w w':World}{g B:Nat}{cur:Array Value}(h:Bx w g cur) (hb:Below B w w') (hg:g < B):Bx w' g cur:=
 ⟨Aj h.1 hb.size,fun j=>(hb.cell (p:=⟨g,j,none⟩) hg).trans (h.2.1 j),fun j=>(hb.frozen (p:=⟨g,j,none⟩) hg).trans (h.2.2 j)⟩
theorem Bx.grown {w w':World}{g:Nat}{row:Option Nat}{cur:Array Value}(h:Bx w g cur) (hg:w.grownBy w' row) (hne:some g≠row):Bx w' g cur:=
 ⟨Aj h.1 hg.size,fun j=>(An (hg.block g h.1 hne)).trans (h.2.1 j),fun j=>(DG (hg.block g h.1 hne)).trans (h.2.2 j)⟩
theorem Ge {w:World}{base g size:Nat}{e:TypeId}(hg:g=w.heap.size) (hb:base≤g):(w.alloc (.cells #[] e)).ownsRow base e size (.slice (some ⟨g,0,none⟩) 0 0) 0 []:=by
 subst hg;exact World.ownsRow_made w #[] 0 hb (Av _) (by simp)
end Go.Proofs.YtifhcbeaiijkcaaGreat
end
section
namespace Go.Proofs.YtifhcbeaiijkcaaGreat
open Go.ChangeShapes Go.WideShapes Go.ChangeAt Go.RowKit
open _root_.Go.World renaming alloc→Wa,setCell→Ws
open _root_.Go.Proofs.Tryz renaming prog→Pq
def OB (b:List Int):Prop:=∀j,0≤b.getD j 0∧b.getD j 0≤255
theorem UR {H:Type}{enc:TypeId×Value→H}{P:Program}{w:World}{base fuel:Nat}{held:Bool}{t e:TypeId}{c:Value}{x:DataW H×List MemPlace}(ht:P.underlying t=some (.slice e)) (he:P.underlying e=some (.int .u8)) (hc:P.cellsOf e=1)
  (h:DataW.trod enc P w base (fun _=>true) held fuel t [c]=some x):∃zs,Rd w.heap.size .u8 w c zs∧OB zs:=by
 rcases open_ints ht he hc h with ⟨hcs,_⟩ |⟨a,len,cap,zs,hcs,_,hl,hm,hz,_,hcell,hwz⟩
 ·simp only[List.cons.injEq,and_true]at hcs;subst hcs;exact⟨[],.inl ⟨rfl,_,_,rfl⟩,fun j=>by simp[List.getD]⟩
 ·simp only[List.cons.injEq,and_true]at hcs;subst hcs;have hrow:(some a=none∧len=0∧cap=0∧zs=[])∨ ∃x,some a=some x∧len≤cap∧cap≤maxLen∧zs.length=cap∧(∀i,i < zs.length→w.cell? (x.add i)=some (.int .u8 (zs.getD i 0)))∧ ∀n∈zs,(Lit.int .u8 n).wf=true:=
   .inr ⟨a,rfl,hl,hm,by simpa using hz,hcell,hwz⟩
  refine⟨zs.take len,Rd.of_row hrow,fun j=> ?_⟩;have:=range_u8 (Ty hrow).2 j
  simpa [List.getD] using this
end Go.Proofs.YtifhcbeaiijkcaaGreat
end
section
namespace Go.Proofs.YtifhcbeaiijkcaaGreat
open Go.RowKit
open _root_.Go.World renaming alloc→Wa,setCell→Ws
open _root_.Go.Proofs.Tryz renaming prog→Pq
theorem Rd.news {B:Nat}{k:IntKind}{w w':World}{ad:Addr}{n cap:Nat}{zs:List Int}(h:Rd B k w (.slice (some ad) n cap) zs) (hb:Below w.heap.size w w'):
  n=zs.length∧ ∀j u,(zs.map (Value.int k))[j]?=some u→w'.cell? (ad.add j)=some u:=by
 rcases h with ⟨rfl,a,c,hv⟩ |⟨b,off,c,hv,_,hbs,_,hc⟩
 ·cases hv
  exact⟨rfl,fun j u hj=>by simp at hj⟩
 ·cases hv
  refine⟨rfl,fun j u hj=> ?_⟩;have hjl:j < zs.length:=by
   rw[FJ]at hj;by_cases h:j < zs.length
   ·exact h
   ·rw[Hc (by omega)]at hj;cases hj
  have hadd:(⟨b,off,none⟩:Addr).add j=⟨b,off+j,none⟩:=by unfold Addr.add;split <;> simp_all
  rw[hadd,hb.cell (p:=⟨b,off+j,none⟩) hbs,hc j hjl];rw[FJ,Bl hjl]at hj;rw[←hj];simp[List.getD,Bl hjl]
section
variable {P:Program}(w:World)
end
theorem Dj {P:Program}{w:World}{ops:Array Oper}{rest:List Oper}{o:Oper}{a:Act}{Q:Exit→Act→World→Prop}(hgd:o.guard=none) (s x:Operand) (t:TypeId)
  (ho:o.op= .call {callee:= .builtin .append,args:= #[s,x],argTypes:= #[t,t]})
  (base:Nat) (e:TypeId) (i:TypeInfo) (z:Value) (size bytes:Nat) (ht:P.underlying t=some (.slice e)) (hi:P.info? e=some i) (hz:i.zero=some z)
  (hsize:i.size=size) (hby:i.bytes=bytes) (hzs:z.cells.size=size) (hsz:0 < size)
  (v:Value) (n:Nat) (xs:List Value) (hs:a.eval s=v) (hown:w.ownsRow base e size v n xs) (us:Array Value) (hus:us.size=size) (h1:∀u∈us.toList,u.oneCell'=true)
  (H:Nat) (hH:w.heap.size=H) (hx:a.eval x= .slice (some ⟨H,0,none⟩) 1 1)
  (h63:n+1≤maxLen) (hbytes:(n+1)*bytes≤140737488355328) (hbase:base≤w.heap.size)
  (h:∀v' w',w'.ownsRow base e size v' (n+1) (xs++us.toList)→w.grownBy w' v.ownBlock→(v'.ownBlock=v.ownBlock∨v'.ownBlock=some (H+1))→wpList P ops Q rest (a.put o.dst v') w'):
  wpList P ops Q (o::rest) a (w.alloc (.cells us e)):=by
 subst hH;refine wpList_plain hgd fun K hK=> ?_;obtain⟨v',w',hrun,h2,h3,_,h5⟩:=run_append_own_at (P:=P) (w.alloc (.cells us e)) base t o.type e i z size bytes ht hi hz hsize hby hzs hsz v n xs (hown.alloc _) ⟨w.heap.size,0,none⟩ 1 1 us.toList (by simp[hus]) (by
  intro j u hj;have hadd:(⟨w.heap.size,0,none⟩:Addr).add j=⟨w.heap.size,j,none⟩:=by unfold Addr.add;split <;> simp_all
  rw[hadd,KI _ _ _ _ rfl]
  simpa using hj) h1 h63 hbytes (by simp;omega)
 unfold Oper.wp execOp;simp only[ho,resolve,invoke,builtin,Sem.run_bind,Sem.run_pure,Result.andThen_ok,List.map_toArray,List.map_cons,List.map_nil,hs,hx,hrun];exact hK _ _ (h v' w' h2 ((World.grownBy_alloc w _ _).trans' h3) (by simpa using h5))
theorem I6 {base:Nat}{e:TypeId}{w:World}{a:Option Addr}{cap n:Nat}{xs:List Value}(h:w.ownsRow base e 1 (.slice a n cap) n xs) (j:Nat) (hj:j < n):∃g,a=some ⟨g,0,none⟩ ∧w.cell? ⟨g,j,none⟩=xs[j]?:=by
 rcases h.2 with ⟨hv,_⟩ |⟨g,cap',cur,hv,_⟩
 ·injection hv with _ h2 _
  omega
 ·cases hv
  exact⟨g,rfl,J8 h j hj⟩
theorem Pu {x:World}{o:Obj}{p:Addr}(h:p.block < x.heap.size):(x.alloc o).frozen? p=x.frozen? p:=((Ac x.heap.size x).alloc (Ad _) o).frozen h
theorem Dk {x:World}{o:Obj}{p:Addr}(h:p.block < x.heap.size):(x.alloc o).cell? p=x.cell? p:=((Ac x.heap.size x).alloc (Ad _) o).cell h
def Has (w:World) (p:Addr):Prop:=∃u,w.cell? p=some u
theorem Has.drew {w:World}{p:Addr}(h:Has w p):Has w.drew p:=h
theorem Has.alloc {w:World}{p:Addr}(h:Has w p) (hp:p.block < w.heap.size) (o:Obj):Has (w.alloc o) p:=by
 obtain⟨u,hu⟩:=h;exact⟨u,(Dk hp).trans hu⟩
theorem Has.grown {w w':World}{p:Addr}{row:Option Nat}(h:Has w p) (hg:w.grownBy w' row) (hp:p.block < w.heap.size) (hne:some p.block≠row):Has w' p:=by
 obtain⟨u,hu⟩:=h;exact⟨u,(hg.cell_far p hp hne).trans hu⟩
theorem Has.setCell {w:World}{p:Addr}(h:Has w p) (q:Addr) (x:Value):Has (w.setCell q x) p:=by
 obtain⟨u,hu⟩:=h;obtain⟨v,hv⟩:=cell?_setCell_some (w:=w) (p:=q) (x:=x) (q:=p) (v:=u) hu;exact⟨v,hv⟩
theorem Below.grown_at {B g:Nat}{w0 w w':World}(hb:Below B w0 w) (hg:w.grownBy w' (some g)) (hB:B≤w.heap.size) (hr:B≤g):Below B w0 w':=
 hb.grown hg hB (fun k hk=>by cases hk;exact hr)
theorem ED {P:Program}{w:World}{o:Oper}{a:Act}{Q:Exit→Act→World→Prop}{K:Act→World→Prop}(s x:Operand) (t:TypeId)
  (ho:o.op= .call {callee:= .builtin .append,args:= #[s,x],argTypes:= #[t,t]})
  (base:Nat) (e:TypeId) (i:TypeInfo) (z:Value) (size bytes:Nat) (ht:P.underlying t=some (.slice e)) (hi:P.info? e=some i) (hz:i.zero=some z)
  (hsize:i.size=size) (hby:i.bytes=bytes) (hzs:z.cells.size=size) (hsz:0 < size)
  (v:Value) (n:Nat) (xs:List Value) (hs:a.eval s=v) (hown:w.ownsRow base e size v n xs) (us:Array Value) (hus:us.size=size) (h1:∀u∈us.toList,u.oneCell'=true)
  (H:Nat) (hx:a.eval x= .slice (some ⟨H,0,none⟩) 1 1) (hc:∀j,w.cell? ⟨H,j,none⟩=us[j]?)
  (h63:n+1≤maxLen) (hbytes:(n+1)*bytes≤140737488355328) (hbase:base≤w.heap.size)
  (h:∀v' w',w'.ownsRow base e size v' (n+1) (xs++us.toList)→w.grownBy w' v.ownBlock→(v'.ownBlock=v.ownBlock∨v'.ownBlock=some w.heap.size)→K (a.put o.dst v') w'):
  Oper.wp P o a w K Q:=by
 obtain⟨v',w',hrun,h2,h3,_,h5⟩:=run_append_own_at (P:=P) w base t o.type e i z size bytes ht hi hz hsize hby hzs hsz v n xs hown ⟨H,0,none⟩ 1 1 us.toList (by simp[hus]) (by
  intro j u hj;have hadd:(⟨H,0,none⟩:Addr).add j=⟨H,j,none⟩:=by unfold Addr.add;split <;> simp_all
  rw[hadd,hc j]
  simpa using hj) h1 h63 hbytes hbase
 unfold Oper.wp execOp;simp only[ho,resolve,invoke,builtin,Sem.run_bind,Sem.run_pure,Result.andThen_ok,List.map_toArray,List.map_cons,List.map_nil,hs,hx,hrun];exact h v' w' h2 h3 h5
theorem Rd.grow {B:Nat}{k:IntKind}{w W:World}{row:Option Nat}{v:Value}{zs:List Int}(h:Rd B k w v zs) (hg:w.grownBy W row) (hne:∀i,v.ownBlock=some i→some i≠row):Rd W.heap.size k W v zs:=by
 rcases h with h |⟨b,off,cap,rfl,h2,h3,h4,h5⟩
 ·exact .inl h
 ·have hl:=Aj h3 hg.size;exact .inr ⟨b,off,cap,rfl,hl,hl,h4,fun j hj=>(An (hg.block b h3 (hne b rfl))).trans (h5 j hj)⟩
end Go.Proofs.YtifhcbeaiijkcaaGreat
end
section
namespace Go.Proofs.YtifhcbeaiijkcaaGreat
open Go
open _root_.Go.World renaming alloc→Wa,setCell→Ws
open _root_.Go.Proofs.Tryz renaming prog→Pq
section
variable {P:Program}{ops:Array Oper}{Q:Exit→Act→World→Prop}{md:Region.Mode}{S:World→Prop}
theorem tkH {i:Nat}{oi:Oper}{v:Value}{fuel:Nat}{listed:Array Bool}{a a':Act}{w:World}(h:wpAnyH P md ops Q S fuel (listed.setIfInBounds i true) a' w) (hi:ops[i]?=some oi:=by (simp only[List.getElem?_toArray,List.getElem?_cons_succ,List.getElem?_cons_zero];rfl))
  (hs:Region.noSelect ops=true:=by kernel_rfl) (hf:Region.free md ops listed i=true:=by kernel_rfl) (hr:(Region.ready md ops listed).contains i=true:=by kernel_rfl)
  (hQ:∀c a w,Q (.panic c) (a.put oi.dst v) w→Q (.panic c) a w:=by exact fun _ _ _ h=>h) (hy:YieldsIf P ops S oi v a:=by exact Or.inl ⟨by rfl,by (intro w hSw;(try dsimp only at hSw);go_simp;(try with_reducible rfl))⟩) (hS:S w:=by assumption)
  (ha:a.put oi.dst v=a':=by first | (simp only[Act.put,List.setIfInBounds_toArray,List.set_cons_zero,List.set_cons_succ];done) | (simp only[Act.put,List.setIfInBounds_toArray,List.set_cons_zero,List.set_cons_succ];rfl) |rfl):wpAnyH P md ops Q S (fuel+1) listed a w:=by
 subst ha;exact wpAnyH_take hi hs hf hr hQ hy hS h
theorem skH {i:Nat}{oi:Oper}{fuel:Nat}{listed:Array Bool}{a a':Act}{w:World}(h:wpAnyH P md ops Q S fuel (listed.setIfInBounds i true) a' w) (hi:ops[i]?=some oi:=by (simp only[List.getElem?_toArray,List.getElem?_cons_succ,List.getElem?_cons_zero];rfl))
  (hs:Region.noSelect ops=true:=by kernel_rfl) (hf:Region.free md ops listed i=true:=by kernel_rfl) (hr:(Region.ready md ops listed).contains i=true:=by kernel_rfl)
  (hQ:∀c a w,Q (.panic c) (a.put oi.dst undef) w→Q (.panic c) a w:=by exact fun _ _ _ h=>h) (hy:YieldsIf P ops S oi undef a:=by exact Or.inr ⟨by rfl,rfl⟩) (hS:S w:=by assumption)
  (ha:a.put oi.dst undef=a':=by first | (simp only[Act.put,List.setIfInBounds_toArray,List.set_cons_zero,List.set_cons_succ];done) | (simp only[Act.put,List.setIfInBounds_toArray,List.set_cons_zero,List.set_cons_succ];rfl) |rfl):wpAnyH P md ops Q S (fuel+1) listed a w:=by
 subst ha;exact wpAnyH_take hi hs hf hr hQ hy hS h
theorem bkH {fuel:Nat}{listed:Array Bool}{a a':Act}{w:World}{K:Act→World→Prop}(hK:Shut (∀a w,S w→(S w→wpAnyH P md ops Q S fuel listed a w)→K a w)) (hS:S w) (h:S w→wpAnyH P md ops Q S fuel listed a' w)
  (ha:a=a':=by first | (simp only[Act.put,List.setIfInBounds_toArray,List.set_cons_zero,List.set_cons_succ];done) | (simp only[Act.put,List.setIfInBounds_toArray,List.set_cons_zero,List.set_cons_succ];rfl) |rfl):K a w:=by
 subst ha;exact hK.out _ _ hS h
theorem rdH {i:Nat}{o:Oper}{fuel:Nat}{listed:Array Bool}{a:Act}{w:World}(h:∀K':Act→World→Prop,Shut (∀a w,S w→(S w→wpAnyH P md ops Q S fuel (listed.setIfInBounds i true) a w)→K' a w)→if Region.wanted o (yielded ops a.tmps)=true then Oper.wp P o a w K' Q else K' (a.put o.dst undef) w)
  (hr:Region.ready md ops listed=[i]:=by kernel_rfl) (ho:ops[i]?=some o:=by (simp only[List.getElem?_toArray,List.getElem?_cons_succ,List.getElem?_cons_zero];rfl)):wpAnyH P md ops Q S (fuel+1) listed a w:=
 wpAnyH_ready hr (by simp) (AllReadyH.cons ho h AllReadyH.nil)
end
section
variable {P:Program}{ops:Array Oper}{Q:Exit→Act→World→Prop}{md:Region.Mode}{S:World→Prop}{n:Nat}
def Cx (P:Program) (md:Region.Mode) (ops:Array Oper) (Q:Exit→Act→World→Prop) (S:World→Prop) (n:Nat):Nat→Array Bool→Act→World→Prop
 |0,listed,a,w=>Region.seqB md ops (ops.size - n) n listed=true∧wpList P ops Q (ops.toList.drop n) a w
 |f+1,listed,a,w=>Region.ready md ops listed≠ []∧ ∀i∈Region.ready md ops listed,i < n∧wpOp P ops Q i (fun a' w'=>S w'∧Cx P md ops Q S n f (listed.setIfInBounds i true) a' w') a w
theorem Nn:∀ (f:Nat) (listed:Array Bool) (a:Act) (w:World),Cx P md ops Q S n f listed a w→wpAny P md ops Q (f+ (ops.size - n)) listed a w
 |0,listed,a,w,h=>by
  have:=wpAny_of_seq (md:=md) (ops:=ops) (Q':=Q) (ops.toList.drop n) n listed a w (fun j=>by simp[Hh]) (by simpa using h.1) h.2
  simpa using this
 |f+1,listed,a,w,h=>by
  rw[show f+1+ (ops.size - n)= (f+ (ops.size - n))+1 by omega];exact⟨fun h0=>absurd h0 h.1,fun i hi=>wpOp_mono (fun a' w' h'=>Nn f _ a' w' h'.2) (h.2 i hi).2⟩
theorem SK {i:Nat}{oi:Oper}{v:Value}(hi:ops[i]?=some oi) (hsel:∀ (j:Nat) (o:Oper) cs b,ops[j]?=some o→o.op≠ .select cs b)
  (hQ:∀c a w,Q (.panic c) (a.put oi.dst v) w→Q (.panic c) a w)
  (hs:Region.sinkB md ops n=true) (hc:Region.chainB md ops n=true) (hn:n < ops.size) (hin:i < n):
  ∀ (f:Nat) (listed:Array Bool) (a:Act) (w:World),HeadInv md ops n listed→
   (∀j oj,ops[j]?=some oj→j≠i→listed.getD j true=false→(∀e∈oj.after,Region.binds md e=true→e.on≠i)→oi.apart ops oj=true)→
   i∈Region.ready md ops listed→YieldsIf P ops S oi v a→S w→
   Cx P md ops Q S n f (listed.setIfInBounds i true) (a.put oi.dst v) w→Cx P md ops Q S n (f+1) listed a w:=by
 intro f;induction f with
 |zero=>
  intro listed a w inv _ hr hy hS H;have hun:=(En.1 hr).1;refine⟨fun h=>(by rw[h]at hr;cases hr),fun j hj=> ?_⟩;have hjn:j < n:=by
   rcases FP j n with h |h
   ·exact h
   ·exact absurd hj (tail_waits hs hc hn inv _ i rfl hin hun j h)
  refine⟨hjn,?_⟩;by_cases hji:j=i
  ·subst hji;exact hy.wpOp hi hS ⟨hS,H⟩
  ·have:=seqB_ready H.1 j (ready_mono hj hji);omega
 |succ f ih=>
  intro listed a w inv hfree hr hy hS H;have hun:=(En.1 hr).1;refine⟨fun h=>(by rw[h]at hr;cases hr),fun j hj=> ?_⟩;have hjn:j < n:=by
   rcases FP j n with h |h
   ·exact h
   ·exact absurd hj (tail_waits hs hc hn inv _ i rfl hin hun j h)
  refine⟨hjn,?_⟩;by_cases hji:j=i
  ·subst hji;exact hy.wpOp hi hS ⟨hS,H⟩
  ·have h1:=(H.2 j (ready_mono hj hji)).2;obtain⟨hjun,oj,hoj,hall⟩:=En.1 hj;have hnot:∀e∈oj.after,Region.binds md e=true→e.on≠i:=fun e he hb heq=>by
    have h1:=hall e he hb;rw[heq,getD_both hun]at h1;cases h1
   have h2:=wpOp_putIf hoj (hfree j oj hoj hji hjun hnot) (fun cs b=>hsel i oi cs b hi) (fun cs b=>hsel j oj cs b hoj) hQ hy h1;have hfree':∀k ok,ops[k]?=some ok→k≠i→(listed.setIfInBounds j true).getD k true=false→
     (∀e∈ok.after,Region.binds md e=true→e.on≠i)→oi.apart ops ok=true:=fun k ok hk hki hun hno=>by
    refine hfree k ok hk hki ?_ hno;by_cases hjk:j=k
    ·subst hjk;exact hjun
    ·rw[getD_set_ne true hjk]at hun;exact hun
   refine wpOp_mono (fun a' w' h3=>⟨h3.2.1,ih (listed.setIfInBounds j true) a' w' (inv.set hj hjn) hfree' (ready_mono hr (Ne.symm hji)) h3.1 h3.2.1 ?_⟩) h2;rw[Array.setIfInBounds_comm _ _ hji];exact h3.2.2
def IB (md:Region.Mode) (ops:Array Oper) (n:Nat) (listed:Array Bool):Bool:=
 decide (listed.size=ops.size)&& ((List.range ops.size).all (fun j=>!listed.getD j false || (match ops[j]? with |some o=>o.after.all fun e=>!Region.binds md e || listed.getD e.on false |none=>true))&&
  (List.range ops.size).all (fun t=>decide (t < n) || !listed.getD t true))
theorem No {listed:Array Bool}(h:IB md ops n listed=true):HeadInv md ops n listed:=by
 simp only[IB,AH,Hl,Be,Hg,EK,I2]at h;obtain⟨h1,h2,h3⟩:=h;refine⟨h1,fun j oj hj hl e he hb=> ?_,fun t ht hts=> ?_⟩
 ·have hlt:j < ops.size:=(Gq.1 hj).1;rcases h2 j hlt with h |h
  ·rw[h]at hl;cases hl
  ·rw[hj]at h;simp only[Array.all_eq_true',EK,I2]at h;rcases h e he with h |h
   ·rw[h]at hb;cases hb
   ·exact h
 ·rcases h3 t hts with h |h
  ·omega
  ·exact h
def J3 (md:Region.Mode) (ops:Array Oper) (n:Nat) (i:Nat) (listed:Array Bool):Bool:=
 Region.noSelect ops&& (Region.sinkB md ops n&& (Region.chainB md ops n&& (decide (n < ops.size)&& (decide (i < n)&& IB md ops n listed))))
theorem SL {i:Nat}{oi:Oper}{v:Value}{fuel:Nat}{listed:Array Bool}{a:Act}{w:World}(hi:ops[i]?=some oi)
  (hs:J3 md ops n i listed=true) (hf:Region.free md ops listed i=true) (hr:(Region.ready md ops listed).contains i=true)
  (hQ:∀c a w,Q (.panic c) (a.put oi.dst v) w→Q (.panic c) a w) (hy:YieldsIf P ops S oi v a) (hS:S w)
  (h:Cx P md ops Q S n fuel (listed.setIfInBounds i true) (a.put oi.dst v) w):Cx P md ops Q S n (fuel+1) listed a w:=by
 simp only[J3,AH,Hl]at hs;obtain⟨h1,h2,h3,h4,h5,h6⟩:=hs;exact SK hi (Region.noSelect_spec h1) hQ h2 h3 h4 h5 fuel listed a w (No h6) (Region.free_spec hi hf) (by simpa using hr) hy hS h
def AllReadyT (P:Program) (md:Region.Mode) (ops:Array Oper) (Q:Exit→Act→World→Prop) (S:World→Prop) (n:Nat) (fuel:Nat) (listed:Array Bool) (a:Act) (w:World) (rs:List Nat):Prop:=
 ∀i∈rs,wpOp P ops Q i (fun a' w'=>S w'∧Cx P md ops Q S n fuel (listed.setIfInBounds i true) a' w') a w
theorem AllReadyT.nil {fuel:Nat}{listed:Array Bool}{a:Act}{w:World}:AllReadyT P md ops Q S n fuel listed a w []:=fun _ h=>by cases h
theorem AllReadyT.cons {fuel:Nat}{listed:Array Bool}{a:Act}{w:World}{i:Nat}{o:Oper}{rs:List Nat}(ho:ops[i]?=some o)
  (h:∀K':Act→World→Prop,Shut (∀a w,S w→(S w→Cx P md ops Q S n fuel (listed.setIfInBounds i true) a w)→K' a w)→if Region.wanted o (yielded ops a.tmps)=true then Oper.wp P o a w K' Q else K' (a.put o.dst undef) w)
  (hs:AllReadyT P md ops Q S n fuel listed a w rs):AllReadyT P md ops Q S n fuel listed a w (i::rs):=fun j hj=>by
 rcases List.mem_cons.1 hj with rfl |hj
 ·exact wpOp_step ho (fun K' hK=>h K' (fun a w hS hW=>hK a w ⟨hS,hW hS⟩))
 ·exact hs j hj
theorem Dn {rs:List Nat}{fuel:Nat}{listed:Array Bool}{a:Act}{w:World}(hr:Region.ready md ops listed=rs) (hne:(rs≠ [])∧ ∀i∈rs,i < n)
  (h:AllReadyT P md ops Q S n fuel listed a w rs):Cx P md ops Q S n (fuel+1) listed a w:=⟨hr▸hne.1,fun i hi=>⟨hne.2 i (hr▸hi),h i (hr▸hi)⟩⟩
theorem BO {listed:Array Bool}{a:Act}{w:World}(hr:Region.seqB md ops (ops.size - n) n listed=true) (h:wpList P ops Q (ops.toList.drop n) a w):Cx P md ops Q S n 0 listed a w:=⟨hr,h⟩
theorem BP (n:Nat) {id:Nat}{a:Act}{w:World}(hm:P.follows .mixedOrders=true) (hn:decide (n≤ops.size)=true) (hS:S w.drew)
  (h:S w.drew→Cx P .any ops Q S n n (Array.replicate ops.size false) a w.drew):(Code.region id ops true).wp P Q a w:=by
 have hn':n≤ops.size:=by simpa using hn
 refine wp_region_any hm ?_;have:=Nn _ _ _ _ (h hS);rw[show n+ (ops.size - n)=ops.size by omega]at this;exact this
end
section
variable {P:Program}{ops:Array Oper}{Q:Exit→Act→World→Prop}{md:Region.Mode}{S:World→Prop}{n:Nat}
theorem tkT {i:Nat}{oi:Oper}{v:Value}{fuel:Nat}{listed:Array Bool}{a a':Act}{w:World}(h:Cx P md ops Q S n fuel (listed.setIfInBounds i true) a' w) (hi:ops[i]?=some oi:=by (simp only[List.getElem?_toArray,List.getElem?_cons_succ,List.getElem?_cons_zero];rfl))
  (hs:J3 md ops n i listed=true:=by kernel_rfl) (hf:Region.free md ops listed i=true:=by kernel_rfl) (hr:(Region.ready md ops listed).contains i=true:=by kernel_rfl)
  (hQ:∀c a w,Q (.panic c) (a.put oi.dst v) w→Q (.panic c) a w:=by exact fun _ _ _ h=>h) (hy:YieldsIf P ops S oi v a:=by exact Or.inl ⟨by rfl,by (intro w hSw;(try dsimp only at hSw);go_simp;(try with_reducible rfl))⟩) (hS:S w:=by assumption)
  (ha:a.put oi.dst v=a':=by first | (simp only[Act.put,List.setIfInBounds_toArray,List.set_cons_zero,List.set_cons_succ];done) | (simp only[Act.put,List.setIfInBounds_toArray,List.set_cons_zero,List.set_cons_succ];rfl) |rfl):Cx P md ops Q S n (fuel+1) listed a w:=by
 subst ha;exact SL hi hs hf hr hQ hy hS h
theorem bkT {fuel:Nat}{listed:Array Bool}{a a':Act}{w:World}{K:Act→World→Prop}(hK:Shut (∀a w,S w→(S w→Cx P md ops Q S n fuel listed a w)→K a w)) (hS:S w) (h:S w→Cx P md ops Q S n fuel listed a' w)
  (ha:a=a':=by first | (simp only[Act.put,List.setIfInBounds_toArray,List.set_cons_zero,List.set_cons_succ];done) | (simp only[Act.put,List.setIfInBounds_toArray,List.set_cons_zero,List.set_cons_succ];rfl) |rfl):K a w:=by
 subst ha;exact hK.out _ _ hS h
theorem rdT {i:Nat}{o:Oper}{fuel:Nat}{listed:Array Bool}{a:Act}{w:World}(h:∀K':Act→World→Prop,Shut (∀a w,S w→(S w→Cx P md ops Q S n fuel (listed.setIfInBounds i true) a w)→K' a w)→if Region.wanted o (yielded ops a.tmps)=true then Oper.wp P o a w K' Q else K' (a.put o.dst undef) w)
  (hr:Region.ready md ops listed=[i]:=by kernel_rfl) (hn:i < n:=by decide) (ho:ops[i]?=some o:=by (simp only[List.getElem?_toArray,List.getElem?_cons_succ,List.getElem?_cons_zero];rfl)):Cx P md ops Q S n (fuel+1) listed a w:=
 Dn hr (by simpa using hn) (AllReadyT.cons ho h AllReadyT.nil)
end
end Go.Proofs.YtifhcbeaiijkcaaGreat
end
section
namespace Go.Proofs.YtifhcbeaiijkcaaGreat
open _root_.Go.World renaming alloc→Wa,setCell→Ws
open _root_.Go.Proofs.Tryz renaming prog→Pq
abbrev Str:=ByteArray
inductive Nd where
 |mk (op n:Int) (s t:Str) (kids:List Nd)
namespace Nd
def op:Nd→Int |mk o _ _ _ _=>o
def n:Nd→Int |mk _ n _ _ _=>n
def s:Nd→Str |mk _ _ s _ _=>s
def t:Nd→Str |mk _ _ _ t _=>t
def kids:Nd→List Nd |mk _ _ _ _ k=>k
def zero:Nd:=mk 0 0 ByteArray.empty ByteArray.empty []
def kid (x:Nd) (i:Nat):Nd:=x.kids.getD i zero
end Nd
inductive Vl where
 |int (n:Int)
 |con (s:Str) (kids:List Vl)
 |fn (arg self:Str) (body:Nd) (env:List (Str×Vl))
abbrev Env:=List (Str×Vl)
structure Es where
 fuel:Nat
 out:List Int
inductive Rs (α:Type) where
 |ok (a:α) (s:Es)
 |bad (code:Int) (out:List Int)
def Rs.out {α:Type}:Rs α→List Int
 | .ok _ s=>s.out
 | .bad _ o=>o
def Rs.bind {α β:Type}(r:Rs α) (k:α→Es→Rs β):Rs β:=
 match r with
 | .ok a s=>k a s
 | .bad c o=> .bad c o
def Es.more (s:Es) (d:Nat):Es:=⟨s.fuel+d,s.out⟩
def look:Env→Str→Option Vl
 | [],_=>none
 | (a,v)::e,s=>if a=s then some v else look e s
mutual
def Br:Nd→Vl→Env→Option Env
 | .mk op n s _ ks,v,env=>
  if op=17 then some env
  else if op=18 then some ((s,v)::env)
  else if op=19 then(match v with | .int a=>if a=n then some env else none |_=>none)
  else match v with
   | .con c vs=>if c=s∧vs.length=ks.length then Bc ks vs env else none
   |_=>none
def Bc:List Nd→List Vl→Env→Option Env
 | [],_,env=>some env
 |k::ks,[],env=>none
 |k::ks,v::vs,env=>match Br k v env with
  |some e=>Bc ks vs e
  |none=>none
end
def Dp (n:Int):Int:=
 let m:=Int.tmod n 2147483648
 if m > 1073741823 then m - 2147483648 else if m < -1073741824 then m+2147483648 else m
def Df (op a b:Int):Int:=
 if op=10 then Dp (a+b)else if op=11 then Dp (a - b)else if op=12 then Dp (a*b)
 else if op=13 then(if a < b then 1 else 0)else if op=14 then(if a=b then 1 else 0)else 0
def asInt (v:Vl) (s:Es):Rs Int:=match v with
 | .int n=> .ok n s
 |_=> .bad 2 s.out
def Bd (E:Nd→Env→Es→Rs Vl) (env:Env):List Nd→Es→Rs (List Vl)
 | [],s=> .ok [] s
 |k::ks,s=>(E k env s).bind fun v s1=>(Bd E env ks s1).bind fun vs s2=> .ok (v::vs) s2
def A5 (E:Nd→Env→Es→Rs Vl) (env:Env) (v:Vl):List Nd→Es→Rs Vl
 | [],s=> .bad 2 s.out
 |a::aS,s=>match Br (a.kid 0) v env with
  |some e=>E (a.kid 1) e s
  |none=>A5 E env v aS s
def Cd (E:Nd→Env→Es→Rs Vl) (f x:Vl) (s:Es):Rs Vl:=match f with
 | .fn arg self body env=>E body ((arg,x)::(if self=ByteArray.empty then env else(self,f)::env)) s
 |_=> .bad 2 s.out
def AF (ar:Str→Option Nat) (E:Nd→Env→Es→Rs Vl) (x:Nd) (env:Env) (s:Es):Rs Vl:=
 if x.op=1 then .ok (.int x.n) s
 else if x.op=2 then(match look env x.s with |some v=> .ok v s |none=> .bad 2 s.out)
 else if x.op=3 then .ok (.fn x.s ByteArray.empty (x.kid 0) env) s
 else if x.op=4 then(E (x.kid 0) env s).bind fun f s1=>(E (x.kid 1) env s1).bind fun a s2=>Cd E f a s2
 else if x.op=6 then E (x.kid 1) ((x.s,.fn x.t x.s (x.kid 0) env)::env) s
 else if x.op=7 then(E (x.kid 0) env s).bind fun v s1=>A5 E env v (x.kids.drop 1) s1
 else if x.op=15 then(Bd E env x.kids s).bind fun vs s1=>if ar x.s=some x.kids.length then .ok (.con x.s vs) s1 else .bad 2 s1.out
 else(E (x.kid 0) env s).bind fun v s1=>
  if x.op=5 then E (x.kid 1) ((x.s,v)::env) s1
  else(asInt v s1).bind fun a s2=>
   if x.op=16 then .ok v ⟨s2.fuel,s2.out++ [a]⟩
   else if x.op=9 then(if a≠0 then E (x.kid 1) env s2 else E (x.kid 2) env s2)
   else(E (x.kid 1) env s2).bind fun v2 s3=>(asInt v2 s3).bind fun b s4=> .ok (.int (Df x.op a b)) s4
def Ai (ar:Str→Option Nat):Nat→Nd→Env→Es→Rs Vl
 |0,_,_,s=> .bad 1 s.out
 |m+1,x,env,s=>match s.fuel with
  |0=> .bad 1 s.out
  |f+1=>AF ar (Ai ar m) x env ⟨f,s.out⟩
def Grows {α:Type}(s:Es) (r:Rs α):Prop:=s.out <+:r.out∧ ∀a s',r= .ok a s'→s'.fuel≤s.fuel
theorem Grows.ok {α:Type}(a:α) (s:Es):Grows s (.ok a s):=⟨I5 _,fun a' s' h=>by cases h;exact Ad _⟩
theorem Grows.bad {α:Type}(c:Int) (s:Es):Grows (α:=α) s (.bad c s.out):=⟨I5 _,fun a' s' h=>by cases h⟩
theorem Grows.bind {α β:Type}{s:Es}{r:Rs α}{k:α→Es→Rs β}(h:Grows s r) (hk:∀a s',r= .ok a s'→s'.fuel≤s.fuel→Grows s' (k a s')):Grows s (r.bind k):=by
 cases r with
 |ok a s1=>
  have h1:=hk a s1 rfl (h.2 a s1 rfl);exact⟨h.1.trans h1.1,fun b s2 e=>Ar (h1.2 b s2 e) (h.2 a s1 rfl)⟩
 |bad c o=>exact⟨h.1,fun b s2 e=>by cases e⟩
theorem FI (v:Vl) (s:Es):Grows s (asInt v s):=by
 cases v with
 |int n=>exact .ok _ _
 |_=>exact .bad _ _
theorem KE {E:Nd→Env→Es→Rs Vl}(hE:∀x env s,Grows s (E x env s)) (env:Env):∀ks s,Grows s (Bd E env ks s)
 | [],s=> .ok _ _
 |k::ks,s=>(hE _ _ _).bind fun v s1 _ _=>(KE hE env ks s1).bind fun vs s2 _ _=> .ok _ _
theorem KG {E:Nd→Env→Es→Rs Vl}(hE:∀x env s,Grows s (E x env s)) (env:Env) (v:Vl):∀aS s,Grows s (A5 E env v aS s)
 | [],s=> .bad _ _
 |a::aS,s=>by
  unfold A5;split
  ·exact hE _ _ _
  ·exact KG hE env v aS s
theorem KH {E:Nd→Env→Es→Rs Vl}(hE:∀x env s,Grows s (E x env s)) (f x:Vl) (s:Es):Grows s (Cd E f x s):=by
 cases f with
 |fn=>exact hE _ _ _
 |_=>exact .bad _ _
theorem Wj {ar:Str→Option Nat}{E:Nd→Env→Es→Rs Vl}(hE:∀x env s,Grows s (E x env s)) (x:Nd) (env:Env) (s:Es):Grows s (AF ar E x env s):=by
 unfold AF;by_cases h1:x.op=1
 ·rw[Ag h1];exact .ok _ _
 rw[Ab h1];by_cases h2:x.op=2
 ·rw[Ag h2];cases look env x.s with
  |some v=>exact .ok _ _
  |none=>exact .bad _ _
 rw[Ab h2];by_cases h3:x.op=3
 ·rw[Ag h3];exact .ok _ _
 rw[Ab h3];by_cases h4:x.op=4
 ·rw[Ag h4];exact(hE _ _ _).bind fun f s1 _ _=>(hE _ _ _).bind fun a s2 _ _=>KH hE _ _ _
 rw[Ab h4];by_cases h6:x.op=6
 ·rw[Ag h6];exact hE _ _ _
 rw[Ab h6];by_cases h7:x.op=7
 ·rw[Ag h7];exact(hE _ _ _).bind fun v s1 _ _=>KG hE _ _ _ _
 rw[Ab h7];by_cases h15:x.op=15
 ·rw[Ag h15];refine(KE hE _ _ _).bind fun vs s1 _ _=> ?_;by_cases ha:ar x.s=some x.kids.length
  ·rw[Ag ha];exact .ok _ _
  ·rw[Ab ha];exact .bad _ _
 rw[Ab h15];refine(hE _ _ _).bind fun v s1 _ _=> ?_;by_cases h5:x.op=5
 ·rw[Ag h5];exact hE _ _ _
 rw[Ab h5];refine(FI _ _).bind fun a s2 _ _=> ?_;by_cases h16:x.op=16
 ·rw[Ag h16];exact⟨List.prefix_append _ _,fun a' s' h=>by cases h;exact Ad _⟩
 rw[Ab h16];by_cases h9:x.op=9
 ·rw[Ag h9];by_cases ha:a≠0
  ·rw[Ag ha];exact hE _ _ _
  ·rw[Ab ha];exact hE _ _ _
 rw[Ab h9];exact(hE _ _ _).bind fun v2 s3 _ _=>(FI _ _).bind fun b s4 _ _=> .ok _ _
theorem CC (ar:Str→Option Nat):∀m x env s,Grows s (Ai ar m x env s)
 |0,x,env,s=> .bad _ _
 |m+1,x,env,s=>by
  unfold Ai;split
  ·exact .bad _ _
  ·rename_i f hf;have h:=Wj (ar:=ar) (CC ar m) x env ⟨f,s.out⟩;exact⟨h.1,fun a s' e=>Ar (h.2 a s' e) (by rw[hf];exact AQ _)⟩
def Up {α:Type}(d:Nat) (r r':Rs α):Prop:=match r with
 | .ok a s=>r'= .ok a (s.more d)
 | .bad c o=>if c=1 then o <+:r'.out else r'= .bad c o
theorem Up.bind {α β:Type}{d:Nat}{r r':Rs α}{k k':α→Es→Rs β}(h:Up d r r') (hk:∀a s,r= .ok a s→Up d (k a s) (k' a (s.more d))) (hg:∀a s,r'= .ok a s→Grows s (k' a s)):Up d (r.bind k) (r'.bind k'):=by
 cases r with
 |ok a s=>
  have h:r'= .ok a (s.more d):=h;subst h;exact hk a s rfl
 |bad c o=>
  unfold Up at h ⊢;dsimp only[Rs.bind]at h ⊢;by_cases hc:c=1
  ·rw[Ag hc]at h ⊢;cases r' with
   |ok a s=>exact h.trans (hg a s rfl).1
   |bad c' o'=>exact h
  ·rw[Ab hc]at h ⊢;subst h;rfl
theorem Ph (v:Vl) (s:Es) (d:Nat):Up d (asInt v s) (asInt v (s.more d)):=by
 cases v with
 |int n=>rfl
 |_=>rfl
def UpE (M d:Nat) (E E':Nd→Env→Es→Rs Vl):Prop:=∀x env s,s.fuel≤M→Up d (E x env s) (E' x env (s.more d))
theorem Pi {M d:Nat}{E E':Nd→Env→Es→Rs Vl}(hE:UpE M d E E') (hG:∀x env s,Grows s (E x env s)) (hG':∀x env s,Grows s (E' x env s)) (env:Env):∀ks s,s.fuel≤M→Up d (Bd E env ks s) (Bd E' env ks (s.more d))
 | [],s,_=>rfl
 |k::ks,s,h=>(hE k env s h).bind (fun v s1 e=>(Pi hE hG hG' env ks s1 (Ar ((hG k env s).2 v s1 e) h)).bind (fun vs s2 _=>rfl) (fun vs s2 _=> .ok _ _))
   (fun v s1 _=>(KE hG' env ks s1).bind fun vs s2 _ _=> .ok _ _)
theorem Pj {M d:Nat}{E E':Nd→Env→Es→Rs Vl}(hE:UpE M d E E') (env:Env) (v:Vl):∀aS s,s.fuel≤M→Up d (A5 E env v aS s) (A5 E' env v aS (s.more d))
 | [],s,_=>rfl
 |a::aS,s,h=>by
  unfold A5;cases Br (a.kid 0) v env with
  |some e=>exact hE _ _ _ h
  |none=>exact Pj hE env v aS s h
theorem Wk {M d:Nat}{E E':Nd→Env→Es→Rs Vl}(hE:UpE M d E E') (f x:Vl) (s:Es) (h:s.fuel≤M):Up d (Cd E f x s) (Cd E' f x (s.more d)):=by
 cases f with
 |fn=>exact hE _ _ _ h
 |_=>rfl
theorem Wl {M d:Nat}{E E':Nd→Env→Es→Rs Vl}(hE:UpE M d E E') (hG:∀x env s,Grows s (E x env s)) (hG':∀x env s,Grows s (E' x env s)) (ar:Str→Option Nat) (x:Nd) (env:Env) (s:Es) (h:s.fuel≤M):Up d (AF ar E x env s) (AF ar E' x env (s.more d)):=by
 unfold AF;by_cases h1:x.op=1
 ·rw[Ag h1,Ag h1];rfl
 rw[Ab h1,Ab h1];by_cases h2:x.op=2
 ·rw[Ag h2,Ag h2];cases look env x.s with
  |some v=>rfl
  |none=>rfl
 rw[Ab h2,Ab h2];by_cases h3:x.op=3
 ·rw[Ag h3,Ag h3];rfl
 rw[Ab h3,Ab h3];by_cases h4:x.op=4
 ·rw[Ag h4,Ag h4];exact(hE _ _ _ h).bind (fun f s1 e=>by
   have hs1:=Ar ((hG _ _ _).2 f s1 e) h;exact(hE _ _ _ hs1).bind (fun a s2 e2=>Wk hE _ _ _ (Ar ((hG _ _ _).2 a s2 e2) hs1)) (fun a s2 _=>KH hG' _ _ _))
   (fun f s1 _=>(hG' _ _ _).bind fun a s2 _ _=>KH hG' _ _ _)
 rw[Ab h4,Ab h4];by_cases h6:x.op=6
 ·rw[Ag h6,Ag h6];exact hE _ _ _ h
 rw[Ab h6,Ab h6];by_cases h7:x.op=7
 ·rw[Ag h7,Ag h7];exact(hE _ _ _ h).bind (fun v s1 e=>Pj hE _ _ _ _ (Ar ((hG _ _ _).2 v s1 e) h)) (fun v s1 _=>KG hG' _ _ _ _)
 rw[Ab h7,Ab h7];by_cases h15:x.op=15
 ·rw[Ag h15,Ag h15];refine(Pi hE hG hG' _ _ _ h).bind (fun vs s1 e=> ?_) (fun vs s1 _=> ?_)
  ·by_cases ha:ar x.s=some x.kids.length
   ·rw[Ag ha,Ag ha];rfl
   ·rw[Ab ha,Ab ha];rfl
  ·by_cases ha:ar x.s=some x.kids.length
   ·rw[Ag ha];exact .ok _ _
   ·rw[Ab ha];exact .bad _ _
 rw[Ab h15,Ab h15];refine(hE _ _ _ h).bind (fun v s1 e=> ?_) (fun v s1 _=> ?_)
 ·have hs1:=Ar ((hG _ _ _).2 v s1 e) h;by_cases h5:x.op=5
  ·rw[Ag h5,Ag h5];exact hE _ _ _ hs1
  rw[Ab h5,Ab h5];refine(Ph v s1 d).bind (fun a s2 e2=> ?_) (fun a s2 _=> ?_)
  ·have hs2:=Ar ((FI _ _).2 a s2 e2) hs1;by_cases h16:x.op=16
   ·rw[Ag h16,Ag h16];rfl
   rw[Ab h16,Ab h16];by_cases h9:x.op=9
   ·rw[Ag h9,Ag h9];by_cases ha:a≠0
    ·rw[Ag ha,Ag ha];exact hE _ _ _ hs2
    ·rw[Ab ha,Ab ha];exact hE _ _ _ hs2
   rw[Ab h9,Ab h9];exact(hE _ _ _ hs2).bind (fun v2 s3 e3=>(Ph v2 s3 d).bind (fun b s4 _=>rfl) (fun b s4 _=> .ok _ _)) (fun v2 s3 _=>(FI _ _).bind fun b s4 _ _=> .ok _ _)
  ·by_cases h16:x.op=16
   ·rw[Ag h16];exact⟨List.prefix_append _ _,fun a' s' h=>by cases h;exact Ad _⟩
   rw[Ab h16];by_cases h9:x.op=9
   ·rw[Ag h9];by_cases ha:a≠0
    ·rw[Ag ha];exact hG' _ _ _
    ·rw[Ab ha];exact hG' _ _ _
   rw[Ab h9];exact(hG' _ _ _).bind fun v2 s3 _ _=>(FI _ _).bind fun b s4 _ _=> .ok _ _
 ·by_cases h5:x.op=5
  ·rw[Ag h5];exact hG' _ _ _
  rw[Ab h5];refine(FI _ _).bind fun a s2 _ _=> ?_;by_cases h16:x.op=16
  ·rw[Ag h16];exact⟨List.prefix_append _ _,fun a' s' h=>by cases h;exact Ad _⟩
  rw[Ab h16];by_cases h9:x.op=9
  ·rw[Ag h9];by_cases ha:a≠0
   ·rw[Ag ha];exact hG' _ _ _
   ·rw[Ab ha];exact hG' _ _ _
  rw[Ab h9];exact(hG' _ _ _).bind fun v2 s3 _ _=>(FI _ _).bind fun b s4 _ _=> .ok _ _
theorem Pk (ar:Str→Option Nat) (d:Nat):∀m m',m≤m'→ ∀x env s,s.fuel≤m→s.fuel+d≤m'→Up d (Ai ar m x env s) (Ai ar m' x env (s.more d))
 |0,m',_,x,env,s,h,h'=>by
  have:=CC ar m' x env (s.more d)
  show s.out <+:_
  exact this.1
 |m+1,0,hm,x,env,s,h,h'=>by omega
 |m+1,m'+1,hm,x,env,s,h,h'=>by
  cases hf:s.fuel with
  |zero=>
   have e1:Ai ar (m+1) x env s= .bad 1 s.out:=by unfold Ai;rw[hf]
   rw[e1];have:=CC ar (m'+1) x env (s.more d)
   show s.out <+:_
   exact this.1
  |succ f=>
   have e1:Ai ar (m+1) x env s=AF ar (Ai ar m) x env ⟨f,s.out⟩:=by conv=> {lhs;unfold Ai};rw[hf]
   have e2:Ai ar (m'+1) x env (s.more d)=AF ar (Ai ar m') x env ⟨f+d,s.out⟩:=by
    have hfd:(s.more d).fuel= (f+d)+1:=by unfold Es.more;dsimp only;omega
    conv=> {lhs;unfold Ai}
    rw[hfd];rfl
   rw[e1,e2];exact Wl (M:=f) (d:=d) (fun y en s2 h2=>Pk ar d m m' (by omega) y en s2 (by omega) (by omega)) (CC ar m) (CC ar m') ar x env ⟨f,s.out⟩ (Ad _)
theorem Wm (ar:Str→Option Nat) (x:Nd) (env:Env) (f F:Nat) (h:f≤F):Up (F - f) (Ai ar f x env ⟨f,[]⟩) (Ai ar F x env ⟨F,[]⟩):=by
 have:=Pk ar (F - f) f F h x env ⟨f,[]⟩ (Nat.le_refl _) (by dsimp only;omega);have e:(⟨f,[]⟩:Es).more (F - f)=⟨F,[]⟩:=by unfold Es.more;dsimp only;rw[Nat.add_sub_cancel' h]
 rw[e]at this;exact this
def Au:Vl→Nat
 | .con _ ks=>1+countVs ks
 |_=>1
where countVs:List Vl→Nat
 | []=>0
 |k::ks=>Au k+countVs ks
end Go.Proofs.YtifhcbeaiijkcaaGreat
end
section
namespace Go.Proofs.YtifhcbeaiijkcaaGreat
open Go.RowKit
open _root_.Go.World renaming alloc→Wa,setCell→Ws
open _root_.Go.Proofs.Tryz renaming prog→Pq
def NdAt (w:World) (b o:Nat) (x:Nd) (kv:Value):Prop:=
 w.cell? ⟨b,o,none⟩=some (.int .i64 x.op)∧w.cell? ⟨b,o+1,none⟩=some (.int .i64 x.n)∧w.cell? ⟨b,o+2,none⟩=some (.string x.s)∧w.cell? ⟨b,o+3,none⟩=some (.string x.t)∧w.cell? ⟨b,o+4,none⟩=some kv
inductive RdNs (B:Nat) (w:World):Value→List Nd→Prop
 |nil (a:Option Addr) (cap:Nat):RdNs B w (.slice a 0 cap) []
 |row (b off cap:Nat) (ks:List Nd) (kv:Nat→Value) (hb:b < B) (hw:b < w.heap.size) (hl:ks.length≤maxLen∧ks.length≤cap)
   (hc:∀j (h:j < ks.length),NdAt w b (off+j*5) ks[j] (kv j)) (hk:∀j (h:j < ks.length),RdNs B w (kv j) ks[j].kids):RdNs B w (.slice (some ⟨b,off,none⟩) ks.length cap) ks
theorem NdAt.below {w w':World}{B b o:Nat}{x:Nd}{kv:Value}(h:NdAt w b o x kv) (hb:Below B w w') (hB:b < B):NdAt w' b o x kv:=
 ⟨(hb.cell (p:=⟨b,o,none⟩) hB).trans h.1,(hb.cell (p:=⟨b,o+1,none⟩) hB).trans h.2.1,(hb.cell (p:=⟨b,o+2,none⟩) hB).trans h.2.2.1,(hb.cell (p:=⟨b,o+3,none⟩) hB).trans h.2.2.2.1,(hb.cell (p:=⟨b,o+4,none⟩) hB).trans h.2.2.2.2⟩
theorem RdNs.later {B B':Nat}{w w':World}{v:Value}{ks:List Nd}(h:RdNs B w v ks) (hb:Below B' w w') (hB:B≤B'):RdNs B w' v ks:=by
 induction h with
 |nil a cap=>exact .nil a cap
 |row b off cap ks kv h1 h2 h3 h4 _ ih=>exact .row b off cap ks kv h1 (Aj h2 hb.size) h3 (fun j hj=>(h4 j hj).below hb (Aj h1 hB)) ih
theorem RdNs.later' {B:Nat}{w w':World}{v:Value}{ks:List Nd}(h:RdNs B w v ks) (hb:Below w.heap.size w w'):RdNs w.heap.size w' v ks:=by
 induction h with
 |nil a cap=>exact .nil a cap
 |row b off cap ks kv h1 h2 h3 h4 _ ih=>exact .row b off cap ks kv h2 (Aj h2 hb.size) h3 (fun j hj=>(h4 j hj).below hb h2) ih
theorem RdNs.form {B:Nat}{w:World}{v:Value}{ks:List Nd}(h:RdNs B w v ks):∃a cap,v= .slice a ks.length cap:=by
 cases h with
 |nil a cap=>exact⟨a,cap,rfl⟩
 |row b off cap _ kv=>exact⟨_,cap,rfl⟩
theorem RdNs.len {B:Nat}{w:World}{v:Value}{ks:List Nd}(h:RdNs B w v ks):ks.length≤maxLen:=by
 cases h with
 |nil a cap=>simp
 |row b off cap _ kv _ _ hl=>exact hl.1
theorem RdNs.at_ {B:Nat}{w:World}{v:Value}{ks:List Nd}(h:RdNs B w v ks) {j:Nat}(hj:j < ks.length):∃b off cap kv,v= .slice (some ⟨b,off,none⟩) ks.length cap∧b < B∧b < w.heap.size∧ks.length≤cap∧NdAt w b (off+j*5) ks[j] kv∧RdNs B w kv ks[j].kids:=by
 cases h with
 |nil a cap=>simp at hj
 |row b off cap _ kv h1 h2 h3 h4 h5=>exact⟨b,off,cap,kv j,rfl,h1,h2,h3.2,h4 j hj,h5 j hj⟩
theorem RdNs.tail {B:Nat}{w:World}{v:Value}{k:Nd}{ks:List Nd}(h:RdNs B w v (k::ks)):∃b off cap,v= .slice (some ⟨b,off,none⟩) (ks.length+1) cap∧ks.length+1≤cap∧ ∀AD,(ks.length≠0→AD=⟨b,off+5,none⟩)→RdNs B w (.slice (some AD) ks.length (cap - 1)) ks:=by
 cases h with
 |row b off cap _ kv h1 h2 h3 h4 h5=>
  refine⟨b,off,cap,rfl,h3.2,fun AD hAD=> ?_⟩;cases ks with
  |nil=>exact .nil _ _
  |cons y ys=>
   obtain rfl:=hAD (by simp);have hl1:=h3.1;have hl2:=h3.2;simp only[List.length_cons]at hl1 hl2;refine .row b (off+5) (cap - 1) (y::ys) (fun j=>kv (j+1)) h1 h2 ⟨by simp only[List.length_cons];omega,by simp only[List.length_cons];omega⟩ (fun j hj=> ?_) (fun j hj=> ?_)
   ·have:=h4 (j+1) (by simp only[List.length_cons]at hj ⊢;omega);rw[show off+ (j+1)*5=off+5+j*5 from by omega]at this;exact this
   ·exact h5 (j+1) (by simp only[List.length_cons]at hj ⊢;omega)
def Ba:Nd→Nat
 | .mk _ _ _ _ ks=>deepNs ks+1
where deepNs:List Nd→Nat
 | []=>0
 |k::ks=>max (Ba k) (deepNs ks)
def BJ:Nd→Nat
 | .mk _ _ _ _ ks=>sizeNs ks+1
where sizeNs:List Nd→Nat
 | []=>0
 |k::ks=>BJ k+sizeNs ks
theorem Kl {k:Nd}:∀ {ks:List Nd},k∈ks→BJ k≤BJ.sizeNs ks
 |x::xs,h=>by
  unfold BJ.sizeNs;rcases List.mem_cons.1 h with rfl |h
  ·omega
  ·have:=Kl h;omega
end Go.Proofs.YtifhcbeaiijkcaaGreat
end
section
namespace Go.Proofs.YtifhcbeaiijkcaaGreat
open _root_.Go.World renaming alloc→Wa,setCell→Ws
open _root_.Go.Proofs.Tryz renaming prog→Pq
def Bq (s:Str):List Nat:=s.data.toList.map UInt8.toNat
def Cm (c:Nat):Bool:=decide (97≤c)&& decide (c≤122)
def Co (c:Nat):Bool:=decide (65≤c)&& decide (c≤90)
def A3 (c:Nat):Bool:=Cm c || Co c
def Do (first:Nat→Bool) (s:Str):Bool:=match Bq s with
 | []=>false
 |c::cs=>decide (cs.length≤7)&& (first c&& (c::cs).all A3)
def kws:List (List Nat):=[[100,97,116,97],[108,101,116],[114,101,99],[105,110],[102,117,110],[99,97,115,101],[111,102],[105,102],[116,104,101,110],[101,108,115,101],[112,117,116]]
def BC (s:Str):Bool:=Do Cm s&& !(kws.contains (Bq s))
def Bb (s:Str):Bool:=Do Co s&& !(Bq s==[73,110,116])
def noS (s:Str):Bool:=decide (s=ByteArray.empty)
def B9 (n:Int):Bool:=decide (0≤n)&& decide (n≤1073741823)
mutual
def BG:Nd→Bool
 | .mk op n s t ks=>noS t&& (if op=17 then decide (n=0)&& (noS s&& decide (ks.length=0))
   else if op=18 then decide (n=0)&& (BC s&& decide (ks.length=0))
   else if op=19 then B9 n&& (noS s&& decide (ks.length=0))
   else if op=20 then decide (n=0)&& (Bb s&& Dy ks)else false)
def Dy:List Nd→Bool
 | []=>true
 |k::ks=>BG k&& Dy ks
end
def Al (op n:Int) (s t:Str) (k:Nat):Bool:=
 if op=1 then decide (k=0)&& (B9 n&& (noS s&& noS t))
 else if op=2 then decide (k=0)&& (decide (n=0)&& (BC s&& noS t))
 else if op=3 then decide (k=1)&& (decide (n=0)&& (BC s&& noS t))
 else if op=16 then decide (k=1)&& (decide (n=0)&& (noS s&& noS t))
 else if op=5 then decide (k=2)&& (decide (n=0)&& (BC s&& noS t))
 else if op=6 then decide (k=2)&& (decide (n=0)&& (BC s&& BC t))
 else if op=4∨(10≤op∧op≤14)then decide (k=2)&& (decide (n=0)&& (noS s&& noS t))
 else if op=9 then decide (k=3)&& (decide (n=0)&& (noS s&& noS t))
 else if op=15 then decide (n=0)&& (Bb s&& noS t)
 else false
def Cu (op n:Int) (s t:Str) (k:Nat):Bool:=decide (op=8)&& (decide (n=0)&& (noS s&& (noS t&& decide (k=2))))
mutual
def Ao:Nd→Bool
 | .mk op n s t ks=>if op=7 then decide (n=0)&& (noS s&& (noS t&& (decide (2≤ks.length)&& AP ks)))else Al op n s t ks.length&& Az ks
def Az:List Nd→Bool
 | []=>true
 |k::ks=>Ao k&& Az ks
def AP:List Nd→Bool
 | []=>false
 |k::ks=>Ao k&& IW ks
def IW:List Nd→Bool
 | []=>true
 |k::ks=>Ca k&& IW ks
def Ca:Nd→Bool
 | .mk op n s t ks=>Cu op n s t ks.length&& Fd ks
def Fd:List Nd→Bool
 | [p,e]=>BG p&& Ao e
 |_=>false
end
end Go.Proofs.YtifhcbeaiijkcaaGreat
end
section
namespace Go.Proofs.YtifhcbeaiijkcaaGreat
open Go.RowKit
open _root_.Go.World renaming alloc→Wa,setCell→Ws
open _root_.Go.Proofs.Tryz renaming prog→Pq
def ndV (x:Nd) (kv:Value):Value:= .agg #[.int .i64 x.op,.int .i64 x.n,.string x.s,.string x.t,kv]
theorem LO (x:Nd):Ba x≤BJ x:=by
 have h:∀m (x:Nd),BJ x≤m→Ba x≤BJ x:=by
  intro m;induction m with
  |zero=>intro x hx;cases x;unfold BJ at hx;omega
  |succ m ih=>
   intro x hx;obtain⟨op,n,s,t,ks⟩:=x;unfold BJ at hx;unfold Ba BJ;have:∀l:List Nd,BJ.sizeNs l≤m→Ba.deepNs l≤BJ.sizeNs l:=by
    intro l;induction l with
    |nil=>intro _;exact Ad _
    |cons k l ihl=>
     intro hl;unfold BJ.sizeNs at hl;unfold Ba.deepNs BJ.sizeNs;have a:=ih k (by omega);have b:=ihl (by omega);omega
   have:=this ks (by omega);omega
 exact h _ x (Ad _)
theorem Jj:∀ (ks:List Nd) (k:Nat) (h:k < ks.length),Ba.deepNs (ks.take (k+1))=max (Ba.deepNs (ks.take k)) (Ba ks[k])
 |x::xs,0,h=>by simp[Ba.deepNs]
 |x::xs,k+1,h=>by
  have:=Jj xs k (by simpa using h);simp only[List.take_succ_cons,List.getElem_cons_succ];unfold Ba.deepNs;rw[this];omega
theorem Jk:∀ (ks:List Nd) (k:Nat),Ba.deepNs (ks.take k)≤Ba.deepNs ks
 | [],k=>by simp
 |x::xs,0=>by simp[Ba.deepNs]
 |x::xs,k+1=>by
  have:=Jk xs k;rw[List.take_succ_cons];unfold Ba.deepNs;omega
theorem Hv (x:Nd):Ba x=Ba.deepNs x.kids+1:=by cases x;rfl
theorem Hw (x:Nd):BJ x=BJ.sizeNs x.kids+1:=by cases x;rfl
theorem LQ (a b:Int) (w:World):Calls Pq 172 #[.int .i64 a,.int .i64 b] w fun e w'=>e= .returned (.int .i64 (max a b))∧w'=w:=by
 go_enter Tryz.func172,Tryz.ntmps172;by_cases h:a > b
 ·go_wp2;go_ret;exact⟨AK (by omega),rfl⟩
 ·go_wp2;go_ret;exact⟨AK (by omega),rfl⟩
theorem LT:∀ (N:Nat) (x:Nd) (kv:Value) (B:Nat) (w:World),BJ x≤N→BJ x≤4294967296→RdNs B w kv x.kids→
  Calls Pq 113 #[ndV x kv] w fun e w'=>e= .returned (.int .i64 (Ba x))∧Below w.heap.size w w'
 |0,x,kv,B,w,hN,hl,hr=>by have:=Hw x;omega
 |N+1,x,kv,B,w,hN,hl,hr=>by
  have HR:=Aa (fun(W:World) (hb:Below w.heap.size w W)=>hr.later' hb);have hlen:=hr.len;unfold maxLen at hlen;obtain⟨ka,kc,rfl⟩:=hr.form;have hsz:=Hw x;have ih:=fun(j:Nat) (hj:j < x.kids.length) (kv:Value) (B:Nat) (W:World) (h:RdNs B W kv x.kids[j].kids)=>(by
   have:=Kl (As hj);exact LT N x.kids[j] kv B W (by omega) (by omega) h:Calls Pq 113 #[ndV x.kids[j] kv] W fun e w'=>e= .returned (.int .i64 (Ba x.kids[j]))∧Below W.heap.size W w')
  unfold ndV at ih ⊢;have IH:=Aa ih;have HB:=Aa (fun(k:Nat)=>(show Ba.deepNs (x.kids.take k)≤4294967296 from by have:=Jk x.kids k;have:=LO x;have:=Hv x;omega));have HS:=Aa (Jj x.kids);have HX:=Aa (Hv x);clear hr ih hsz hN;generalize x.op=xop;generalize x.n=xn;generalize x.s=xs;generalize x.t=xt;generalize Ba x=dx at HX ⊢;generalize x.kids=ks at*;go_enter Tryz.func113,Tryz.ntmps113;go_wp2_with fail;generalize hxx:w.alloc _=x0;obtain⟨bb,k1⟩:=Bx.alloc hxx;clear hxx;go_wp2
  go_loopw [3,4] (fun o i wr=>∃k:Nat,k≤ks.length∧i= .int .i64 k∧o= .int .i64 (Ba.deepNs (ks.take k))∧Below w.heap.size w wr∧Bx wr w.heap.size #[.int .i64 xop,.int .i64 xn,.string xs,.string xt,.slice ka ks.length kc]) (fun _ i _=>ks.length - (intOf i).toNat)
  case atStart=>exact⟨0,Av _,rfl,rfl,bb,k1⟩
  case round=>
   clear bb k1;obtain⟨k,hk,rfl,rfl,bb,k1⟩:=hrel;by_cases hlt:k < ks.length
   ·obtain⟨b,off,cap,kv,hv,hB,hbs,hcap,⟨c0,c1,c2,c3,c4⟩,hkr⟩:=(HR.out wr bb).at_ hlt;cases hv
    have hki:(k:Int) < (ks.length:Int):=by omega
    obtain⟨kva,kvc,rfl⟩:=hkr.form;have HK:=Aa hkr;have q1:=k1.2.1;clear hkr;go_wp2_with fail;clear q1 c0 c1 c2 c3 c4;refine(IH.out k hlt _ _ wr HK.out).mono ?_;rintro e w2 ⟨rfl,b2⟩;replace k1:=k1.below b2 k1.1;replace bb:=bb.trans (b2.mono bb.size);clear b2 HK;have hb1:=HB.out (k+1);have hs1:=HS.out k hlt;go_wp2_with fail;refine(LQ _ _ w2).mono ?_;rintro e w3 ⟨rfl,rfl⟩;go_wp2;go_roundw
    case rel=>
     refine⟨k+1,hlt,by go_num,?_,bb,k1⟩;rw[hs1];exact AX (Value.int .i64) (by omega)
    case measure=>simp[intOf];omega
   ·obtain rfl:k=ks.length:=by omega
    have hb1:=HB.out ks.length;have hx1:=HX.out;rw[CL]at hb1;simp only[CL];have q1:=k1.2.1;go_wp2;go_ret;exact⟨AK (by rw[hx1];simp),bb⟩
theorem Lo (c:Nat) (w:World):Calls Pq 204 #[.int .u8 c] w fun e w'=>e= .returned (.bool (Cm c))∧w'=w:=by
 go_enter Tryz.func204,Tryz.ntmps204;by_cases h1:(97:Int)≤ (c:Int)
 ·by_cases h2:(c:Int)≤122
  all_goals
   go_wp2;go_ret;exact⟨AX (fun b=>Ending.returned (Value.bool b)) (by unfold Cm;simp;omega),rfl⟩
 ·go_wp2;go_ret;exact⟨AX (fun b=>Ending.returned (Value.bool b)) (by unfold Cm;simp;omega),rfl⟩
theorem Lp (c:Nat) (w:World):Calls Pq 206 #[.int .u8 c] w fun e w'=>e= .returned (.bool (Co c))∧w'=w:=by
 go_enter Tryz.func206,Tryz.ntmps206;by_cases h1:(65:Int)≤ (c:Int)
 ·by_cases h2:(c:Int)≤90
  all_goals
   go_wp2;go_ret;exact⟨AX (fun b=>Ending.returned (Value.bool b)) (by unfold Co;simp;omega),rfl⟩
 ·go_wp2;go_ret;exact⟨AX (fun b=>Ending.returned (Value.bool b)) (by unfold Co;simp;omega),rfl⟩
theorem Qc (c:Nat) (w:World):Calls Pq 238 #[.int .u8 c] w fun e w'=>e= .returned (.bool (A3 c))∧w'=w:=by
 go_enter Tryz.func238,Tryz.ntmps238;go_wp2_with fail;refine(Lo c w).mono ?_;rintro e w' ⟨rfl,rfl⟩;cases h1:Cm c with
 |true=>
  go_wp2;go_ret;exact⟨by unfold A3;simp[h1],rfl⟩
 |false=>
  go_wp2_with fail;refine(Lp c w').mono ?_;rintro e w'' ⟨rfl,rfl⟩;go_wp2;go_ret;exact⟨by unfold A3;simp[h1],rfl⟩
theorem Jc (c:Nat) (w:World):Calls Pq 170 #[.int .u8 c] w fun e w'=>e= .returned (.bool (Cm c))∧w'=w:=by
 go_enter Tryz.func170,Tryz.ntmps170;by_cases h1:(97:Int)≤ (c:Int)
 ·by_cases h2:(c:Int)≤122
  all_goals
   go_wp2;go_ret;exact⟨AX (fun b=>Ending.returned (Value.bool b)) (by unfold Cm;simp;omega),rfl⟩
 ·go_wp2;go_ret;exact⟨AX (fun b=>Ending.returned (Value.bool b)) (by unfold Cm;simp;omega),rfl⟩
theorem Jd (c:Nat) (w:World):Calls Pq 171 #[.int .u8 c] w fun e w'=>e= .returned (.bool (Co c))∧w'=w:=by
 go_enter Tryz.func171,Tryz.ntmps171;by_cases h1:(65:Int)≤ (c:Int)
 ·by_cases h2:(c:Int)≤90
  all_goals
   go_wp2;go_ret;exact⟨AX (fun b=>Ending.returned (Value.bool b)) (by unfold Co;simp;omega),rfl⟩
 ·go_wp2;go_ret;exact⟨AX (fun b=>Ending.returned (Value.bool b)) (by unfold Co;simp;omega),rfl⟩
theorem Fb (n lo hi:Int) (w:World):
  Calls Pq 77 #[.int .i64 n,.int .i64 lo,.int .i64 hi] w fun e w'=>e= .returned (.bool (inB n lo hi))∧w=w':=by
 go_enter Tryz.func77,Tryz.ntmps77;go_wp2
 all_goals go_ret
 all_goals exact⟨Ae (by unfold inB;rw[BR];simp;try omega),rfl⟩
theorem Ei (n lo hi:Int) (w:World):
  Calls Pq 65 #[.int .i64 n,.int .i64 lo,.int .i64 hi] w fun e w'=>e= .returned (.bool (inB n lo hi))∧w=w':=by
 go_enter Tryz.func65,Tryz.ntmps65;go_wp2
 all_goals go_ret
 all_goals exact⟨Ae (by unfold inB;rw[BR];simp;try omega),rfl⟩
theorem GX (s:Str):(Bq s).length=s.size:=by
 simp[Bq]
theorem Kf {s:Str}{k:Nat}(h:k < s.size):(Bq s)[k]'(by rw[GX];exact h)=s[k].toNat:=by
 simp[Bq];rfl
theorem Oi {a b:Str}(h:Bq a=Bq b):a=b:=by
 obtain⟨⟨la⟩⟩:=a;obtain⟨⟨lb⟩⟩:=b;unfold Bq at h;have:=(List.map_inj_right (f:=UInt8.toNat) (fun x y e=>UInt8.toNat.inj e)).1 h;simp at this;rw[this]
theorem E8 (first:Nat→Bool) (s:Str):Do first s= (decide (1≤s.size∧s.size≤8)&& (first ((Bq s).getD 0 0)&& (Bq s).all A3)):=by
 have h:=GX s;unfold Do;cases hc:Bq s with
 |nil=>
  rw[hc]at h;simp at h;simp[←h]
 |cons c cs=>
  rw[hc]at h;simp only[List.length_cons]at h;simp only[←h,List.getD_cons_zero]
  congr 1
  simp
theorem Kg {s:Str}{k:Nat}(h:k < s.size) (hl:A3 s[k].toNat=false):(Bq s).all A3=false:=by
 rw[IZ];refine⟨_,As (by rw[GX];exact h),?_⟩;rw[Kf h,hl];simp
theorem Kh {s:Str}(h:∀j (hj:j < s.size),A3 s[j].toNat=true):(Bq s).all A3=true:=by
 rw[Be];intro x hx;obtain⟨j,hj,rfl⟩:=EH hx;rw[GX]at hj;rw[Kf hj];exact h j hj
def IQ (w:World) (b off:Nat) (zs:List Str):Prop:=∀j (h:j < zs.length),w.cell? ⟨b,off+j,none⟩=some (.string zs[j])
def kwS:List Str:=[⟨#[100,97,116,97]⟩,⟨#[108,101,116]⟩,⟨#[114,101,99]⟩,⟨#[105,110]⟩,⟨#[102,117,110]⟩,⟨#[99,97,115,101]⟩,⟨#[111,102]⟩,⟨#[105,102]⟩,⟨#[116,104,101,110]⟩,⟨#[101,108,115,101]⟩,⟨#[112,117,116]⟩]
def inS (zs:List Str) (s:Str):Bool:=zs.any fun z=>decide (z=s)
theorem Od {zs:List Str}{s:Str}{k:Nat}(h:k < zs.length) (e:zs[k]=s):inS zs s=true:=by
 unfold inS;rw[KM];exact⟨_,As h,by simp[e]⟩
theorem Oe {zs:List Str}{s:Str}(h:∀j (h:j < zs.length),zs[j]≠s):inS zs s=false:=by
 unfold inS;rw[List.any_eq_false];intro x hx;obtain⟨j,hj,rfl⟩:=EH hx;simp[h j hj]
theorem Of (s:Str):inS kwS s=kws.contains (Bq s):=by
 have h:kws=kwS.map Bq:=by rfl
 rw[h,BR,KT,Hi];unfold inS;rw[KM];constructor
 ·rintro⟨a,ha,e⟩;exact⟨a,ha,by rw[of_decide_eq_true e]⟩
 ·rintro⟨a,ha,e⟩;exact⟨a,ha,by rw[Oi e];simp⟩
theorem Gg (a b:Str):(a.toList==b.toList)=decide (a=b):=by
 by_cases h:a=b
 ·subst h;simp
 ·rw[AG h,beq_eq_false_iff_ne];intro e;rw[ByteArray.toList_eq,ByteArray.toList_eq]at e;apply h;obtain⟨⟨la⟩⟩:=a;obtain⟨⟨lb⟩⟩:=b;simp at e;rw[e]
theorem Gh {a b:Str}(h:a=b):(a.toList==b.toList)=true:=by rw[Gg];exact AN h
theorem E7 {a b:Str}(h:a≠b):(a.toList==b.toList)=false:=by rw[Gg];exact AG h
theorem TN (zs:List Str) (b off cap:Nat) (s:Str) (w:World) (hl:zs.length≤1048576) (hc:IQ w b off zs):Calls Pq 240 #[.slice (some ⟨b,off,none⟩) zs.length cap,.string s] w fun e w'=>e= .returned (.bool (inS zs s))∧w'=w:=by
 go_enter Tryz.func240,Tryz.ntmps240;go_wp2
 go_loop [5] (fun i=>∃k:Nat,k≤zs.length∧i= .int .i64 k∧Hid (∀j (h:j < zs.length),j < k→zs[j]≠s)) (fun i=>zs.length - (intOf i).toNat)
 case atStart=>exact⟨0,Av _,rfl,Aa (fun j h hk=>absurd hk (Ay j))⟩
 case round=>
  obtain⟨k,hk,rfl,hd⟩:=hrel;by_cases hlt:k < zs.length
  ·have c1:=hc k hlt;have hki:(k:Int) < (zs.length:Int):=by omega
   by_cases he:zs[k]=s
   ·have he':=Aa he;have hq:=Gh he;clear he;go_wp2;go_ret;exact⟨Ae (Od hlt he'.out).symm,rfl⟩
   ·have he':=Aa he;have hq:=E7 he;clear he;go_wp2
    go_round
    case rel=>exact⟨k+1,hlt,by go_num,Aa (fun j h hj=>by
     by_cases e:j=k
     ·subst e;exact he'.out
     ·exact hd.out j h (by omega))⟩
    case measure=>simp[intOf];omega
  ·obtain rfl:k=zs.length:=by omega
   go_wp2;go_ret;exact⟨Ae (Oe (fun j hj=>hd.out j hj hj)).symm,rfl⟩
theorem TO (zs:List Str) (b off cap:Nat) (s:Str) (w:World) (hl:zs.length≤1048576) (hc:IQ w b off zs):Calls Pq 211 #[.slice (some ⟨b,off,none⟩) zs.length cap,.string s] w fun e w'=>(∃r:Int,e= .returned (.int .i64 r)∧(0≤r↔inS zs s=true))∧w'=w:=by
 go_enter Tryz.func211,Tryz.ntmps211;go_wp2
 go_loop [5,8] (fun _ i=>∃k:Nat,k≤zs.length∧i= .int .i64 k∧Hid (∀j (h:j < zs.length),j < k→zs[j]≠s)) (fun _ i=>zs.length - (intOf i).toNat)
 case atStart=>exact⟨0,Av _,rfl,Aa (fun j h hk=>absurd hk (Ay j))⟩
 case round=>
  obtain⟨k,hk,rfl,hd⟩:=hrel;by_cases hlt:k < zs.length
  ·have c1:=hc k hlt;have hki:(k:Int) < (zs.length:Int):=by omega
   by_cases he:zs[k]=s
   ·have he':=Aa he;have hq:=Gh he.symm;clear he;go_wp2;go_ret;exact⟨⟨k,rfl,by rw[Od hlt he'.out];simp⟩,rfl⟩
   ·have he':=Aa he;have hq:=E7 (fun h=>he (Eq.symm h));clear he;go_wp2
    go_round
    case rel=>exact⟨k+1,hlt,by go_num,Aa (fun j h hj=>by
     by_cases e:j=k
     ·subst e;exact he'.out
     ·exact hd.out j h (by omega))⟩
    case measure=>simp[intOf];omega
  ·obtain rfl:k=zs.length:=by omega
   go_wp2;go_ret;exact⟨⟨-1,rfl,by rw[Oe (fun j hj=>hd.out j hj hj)];simp⟩,rfl⟩
theorem Og (zs:List Str) (b off cap:Nat) (s:Str) (w:World) (hl:zs.length≤1048576) (hc:IQ w b off zs):Calls Pq 163 #[.slice (some ⟨b,off,none⟩) zs.length cap,.string s] w fun e w'=>e= .returned (.bool (inS zs s))∧w'=w:=by
 go_enter Tryz.func163,Tryz.ntmps163;go_wp2_with fail;refine(TO zs b off cap s w hl hc).mono ?_;rintro e w' ⟨⟨r,rfl,hr⟩,rfl⟩;have HR:=Aa hr;clear hr;go_wp2
 all_goals go_ret
 all_goals exact⟨Ae (by have:=HR.out;rw[BR];simp only[FO];exact this),rfl⟩
theorem Oh (s:Str) (w:World):Calls Pq 215 #[.string s] w fun e w'=>e= .returned (.bool (kws.contains (Bq s)))∧Below w.heap.size w w':=by
 have HK:=Aa (Of s);go_enter Tryz.func215,Tryz.ntmps215;go_wp2_with fail;generalize hx:w.alloc _=x;obtain⟨bb,k1⟩:=Bx.alloc hx;clear hx;refine(TN kwS w.heap.size 0 11 s x (by decide) (fun j h=> ?_)).mono ?_
 ·have:=k1.2.1 j;rw[BU,this]
  match j,h with
  |0,_=>rfl
  |1,_=>rfl
  |2,_=>rfl
  |3,_=>rfl
  |4,_=>rfl
  |5,_=>rfl
  |6,_=>rfl
  |7,_=>rfl
  |8,_=>rfl
  |9,_=>rfl
  |10,_=>rfl
 rintro e w' ⟨rfl,rfl⟩;go_wp2;go_ret;exact⟨Ae HK.out,bb⟩
theorem TP (s:Str) (w:World):Calls Pq 205 #[.string s] w fun e w'=>e= .returned (.bool (kws.contains (Bq s)))∧Below w.heap.size w w':=by
 have HK:=Aa (Of s);go_enter Tryz.func205,Tryz.ntmps205;go_wp2_with fail;generalize hx:w.alloc _=x;obtain⟨bb,k1⟩:=Bx.alloc hx;clear hx;refine(Og kwS w.heap.size 0 11 s x (by decide) (fun j h=> ?_)).mono ?_
 ·have:=k1.2.1 j;rw[BU,this]
  match j,h with
  |0,_=>rfl
  |1,_=>rfl
  |2,_=>rfl
  |3,_=>rfl
  |4,_=>rfl
  |5,_=>rfl
  |6,_=>rfl
  |7,_=>rfl
  |8,_=>rfl
  |9,_=>rfl
  |10,_=>rfl
 rintro e w' ⟨rfl,rfl⟩;go_wp2;go_ret;exact⟨Ae HK.out,bb⟩
theorem TQ (s:Str) (k:Nat) (h:k < s.size) (hl:A3 s[k].toNat=false):BC s=false:=by
 unfold BC;rw[E8,Kg h hl];simp
theorem TR (s:Str) (k:Nat) (h:k < s.size) (hl:A3 s[k].toNat=false):Bb s=false:=by
 unfold Bb;rw[E8,Kg h hl];simp
theorem IR {s:Str}(h:0 < s.size):(Bq s).getD 0 0=s[0].toNat:=by
 rw[List.getD_eq_getElem?_getD,Bl (by rw[GX];exact h),Option.getD_some,Kf h]
theorem TS {s:Str}(h:∀j (hj:j < s.size),A3 s[j].toNat=true) (h0:0 < s.size) (h8:s.size≤8):BC s= (Cm s[0].toNat&& !(kws.contains (Bq s))):=by
 unfold BC;rw[E8,Kh h,IR h0,AN (⟨h0,h8⟩:1≤s.size∧s.size≤8)];simp
theorem TU {s:Str}(h:¬(1≤s.size∧s.size≤8)):BC s=false:=by
 unfold BC;rw[E8,AG h];simp
theorem Oj (s:Str):Bb s= (Do Co s&& !(decide (s.toList=[73,110,116]))):=by
 unfold Bb;have:(Bq s==[73,110,116])=decide (s.toList=[73,110,116]):=by
  rw[BR,BQ,FO];have h3:(⟨#[73,110,116]⟩:Str).toList=[73,110,116]:=by rw[ByteArray.toList_eq]
  rw[←h3];exact⟨fun e=>by rw[Oi (b:=⟨#[73,110,116]⟩) e],fun e=>by
   have:=Gg s ⟨#[73,110,116]⟩;rw[e]at this;rw[of_decide_eq_true (this.symm.trans (by simp))];rfl⟩
 rw[this]
theorem TV {s:Str}(h:∀j (hj:j < s.size),A3 s[j].toNat=true) (h0:0 < s.size) (h8:s.size≤8):Bb s= (Co s[0].toNat&& !(decide (s.toList=[73,110,116]))):=by
 rw[Oj,E8,Kh h,IR h0,AN (⟨h0,h8⟩:1≤s.size∧s.size≤8)];simp
theorem TX {s:Str}(h:¬(1≤s.size∧s.size≤8)):Bb s=false:=by
 unfold Bb;rw[E8,AG h];simp
theorem Gi (s:Str) (w:World) (hs:s.size≤1048576):Calls Pq 173 #[.string s] w fun e w'=>e= .returned (.bool (BC s))∧Below w.heap.size w w':=by
 have HP:=Aa (TQ s);have HY:=Aa (@TS s);have HZ:=Aa (@TU s);generalize BC s=np at*;go_enter Tryz.func173,Tryz.ntmps173;go_wp2
 go_loop [3] (fun i=>∃k:Nat,k≤s.size∧i= .int .i64 k∧Hid (∀j (h:j < s.size),j < k→A3 s[j].toNat=true)) (fun i=>s.size - (intOf i).toNat)
 case atStart=>exact⟨0,Av _,rfl,Aa (fun j h hk=>absurd hk (Ay j))⟩
 case round=>
  obtain⟨k,hk,rfl,hd⟩:=hrel;by_cases hlt:k < s.size
  ·have hki:(k:Int) < (s.size:Int):=by omega
   go_wp2_with fail;refine(Jc s[k].toNat _).mono ?_;rintro e w1 ⟨rfl,rfl⟩;cases h1:Cm s[k].toNat with
   |true=>
    have hl:=Aa (show A3 s[k].toNat=true by unfold A3;rw[h1];rfl);clear h1;go_wp2
    go_round
    case rel=>exact⟨k+1,hlt,by go_num,Aa (fun j h hj=>by
     by_cases e:j=k
     ·subst e;exact hl.out
     ·exact hd.out j h (by omega))⟩
    case measure=>simp[intOf];omega
   |false=>
    have h1':=Aa h1;clear h1;go_wp2_with fail;refine(Jd s[k].toNat _).mono ?_;rintro e w1 ⟨rfl,rfl⟩;cases h2:Co s[k].toNat with
    |true=>
     have hl:=Aa (show A3 s[k].toNat=true by unfold A3;rw[h2];simp);clear h2;go_wp2
     go_round
     case rel=>exact⟨k+1,hlt,by go_num,Aa (fun j h hj=>by
      by_cases e:j=k
      ·subst e;exact hl.out
      ·exact hd.out j h (by omega))⟩
     case measure=>simp[intOf];omega
    |false=>
     have hl:=Aa (HP.out k hlt (show A3 s[k].toNat=false by unfold A3;rw[h1'.out,h2];rfl));clear h2;go_wp2;go_ret;exact⟨Ae hl.out.symm,Ac _ _⟩
  ·obtain rfl:k=s.size:=by omega
   by_cases h8:1≤s.size∧s.size≤8
   ·have hy:=HY.out (fun j hj=>hd.out j hj hj) (by omega) h8.2;have hy:=Aa hy;have h0:0 < s.size:=by omega
    have hi:=Ei s.size 1 8 w;rw[show inB (s.size:Int) 1 8=true by simp[inB];omega]at hi;go_wp2_with fail;refine hi.mono ?_;rintro e w1 ⟨rfl,rfl⟩;go_wp2_with fail;refine(Jc s[0].toNat _).mono ?_;rintro e w1 ⟨rfl,rfl⟩;cases h1:Cm s[0].toNat with
    |true=>
     rw[h1]at hy;clear h1;go_wp2_with fail;refine(Oh s _).mono ?_;rintro e w2 ⟨rfl,b2⟩;go_wp2;go_ret;exact⟨Ae (by rw[hy.out];simp),b2⟩
    |false=>
     rw[h1]at hy;clear h1;go_wp2;go_ret;exact⟨Ae (by rw[hy.out];simp),Ac _ _⟩
   ·have hz:=Aa (HZ.out h8);have hi:=Ei s.size 1 8 w;rw[show inB (s.size:Int) 1 8=false by simp[inB];omega]at hi;go_wp2_with fail;refine hi.mono ?_;rintro e w1 ⟨rfl,rfl⟩;go_wp2;go_ret;exact⟨Ae hz.out.symm,Ac _ _⟩
theorem GY (s:Str) (w:World) (hs:s.size≤1048576):Calls Pq 110 #[.string s] w fun e w'=>e= .returned (.bool (Bb s))∧Below w.heap.size w w':=by
 have HP:=Aa (TR s);have HY:=Aa (@TV s);have HZ:=Aa (@TX s);generalize Bb s=np at*;go_enter Tryz.func110,Tryz.ntmps110;go_wp2
 go_loop [3] (fun i=>∃k:Nat,k≤s.size∧i= .int .i64 k∧Hid (∀j (h:j < s.size),j < k→A3 s[j].toNat=true)) (fun i=>s.size - (intOf i).toNat)
 case atStart=>exact⟨0,Av _,rfl,Aa (fun j h hk=>absurd hk (Ay j))⟩
 case round=>
  obtain⟨k,hk,rfl,hd⟩:=hrel;by_cases hlt:k < s.size
  ·have hki:(k:Int) < (s.size:Int):=by omega
   go_wp2_with fail;refine(Jc s[k].toNat _).mono ?_;rintro e w1 ⟨rfl,rfl⟩;cases h1:Cm s[k].toNat with
   |true=>
    have hl:=Aa (show A3 s[k].toNat=true by unfold A3;rw[h1];rfl);clear h1;go_wp2
    go_round
    case rel=>exact⟨k+1,hlt,by go_num,Aa (fun j h hj=>by
     by_cases e:j=k
     ·subst e;exact hl.out
     ·exact hd.out j h (by omega))⟩
    case measure=>simp[intOf];omega
   |false=>
    have h1':=Aa h1;clear h1;go_wp2_with fail;refine(Jd s[k].toNat _).mono ?_;rintro e w1 ⟨rfl,rfl⟩;cases h2:Co s[k].toNat with
    |true=>
     have hl:=Aa (show A3 s[k].toNat=true by unfold A3;rw[h2];simp);clear h2;go_wp2
     go_round
     case rel=>exact⟨k+1,hlt,by go_num,Aa (fun j h hj=>by
      by_cases e:j=k
      ·subst e;exact hl.out
      ·exact hd.out j h (by omega))⟩
     case measure=>simp[intOf];omega
    |false=>
     have hl:=Aa (HP.out k hlt (show A3 s[k].toNat=false by unfold A3;rw[h1'.out,h2];rfl));clear h2;go_wp2;go_ret;exact⟨Ae hl.out.symm,Ac _ _⟩
  ·obtain rfl:k=s.size:=by omega
   by_cases h8:1≤s.size∧s.size≤8
   ·have hy:=HY.out (fun j hj=>hd.out j hj hj) (by omega) h8.2;have hy:=Aa hy;have h0:0 < s.size:=by omega
    have hi:=Ei s.size 1 8 w;rw[show inB (s.size:Int) 1 8=true by simp[inB];omega]at hi;go_wp2_with fail;refine hi.mono ?_;rintro e w1 ⟨rfl,rfl⟩;go_wp2_with fail;refine(Jd s[0].toNat _).mono ?_;rintro e w1 ⟨rfl,rfl⟩;cases h1:Co s[0].toNat with
    |true=>
     rw[h1]at hy;clear h1;by_cases h2:s.toList=[73,110,116]
     ·rw[AN h2]at hy;go_wp2;go_ret;exact⟨Ae (by rw[hy.out];simp[h2]),Ac _ _⟩
     ·rw[AG h2]at hy;go_wp2;go_ret;exact⟨Ae (by rw[hy.out];simp[h2]),Ac _ _⟩
    |false=>
     rw[h1]at hy;clear h1;go_wp2;go_ret;exact⟨Ae (by rw[hy.out];simp),Ac _ _⟩
   ·have hz:=Aa (HZ.out h8);have hi:=Ei s.size 1 8 w;rw[show inB (s.size:Int) 1 8=false by simp[inB];omega]at hi;go_wp2_with fail;refine hi.mono ?_;rintro e w1 ⟨rfl,rfl⟩;go_wp2;go_ret;exact⟨Ae hz.out.symm,Ac _ _⟩
def FF (s:Str) (r:Nat):Prop:=r=s.size↔ (Bq s).all A3=true
theorem TJ (s:Str) (k:Nat) (hk:k≤s.size) (h:∀j (hj:j < s.size),j < k→A3 s[j].toNat=true) (he:k=s.size∨ ∃hk:k < s.size,A3 s[k].toNat=false):FF s k:=by
 unfold FF;rcases he with e |⟨h1,h2⟩
 ·subst e;simp only[true_iff];exact Kh fun j hj=>h j hj hj
 ·rw[Kg h1 h2];simp;omega
theorem Oc (s:Str) (w:World) (hs:s.size≤1048576):Calls Pq 237 #[.string s,.int .i64 0,.func (.func 238) #[] #[]] w fun e w'=>(∃r:Nat,e= .returned (.int .i64 r)∧r≤s.size∧FF s r)∧w'=w:=by
 have HR:=Aa (TJ s);go_enter Tryz.func237,Tryz.ntmps237;go_wp2
 go_loop [7] (fun i=>∃k:Nat,k≤s.size∧i= .int .i64 k∧Hid (∀j (h:j < s.size),j < k→A3 s[j].toNat=true)) (fun i=>s.size - (intOf i).toNat)
 case atStart=>exact⟨0,Av _,rfl,Aa (fun j h hk=>absurd hk (Ay j))⟩
 case round=>
  obtain⟨k,hk,rfl,hd⟩:=hrel;by_cases hlt:k < s.size
  ·have hki:(k:Int) < (s.size:Int):=by omega
   have hki0:(0:Int)+ (k:Int) < (s.size:Int):=by omega
   go_wp2_with fail;refine(Qc s[k].toNat _).mono ?_;rintro e w1 ⟨rfl,rfl⟩;cases h1:A3 s[k].toNat with
   |true=>
    have hl:=Aa h1;clear h1;go_wp2
    go_round
    case rel=>exact⟨k+1,hlt,by go_num,Aa (fun j h hj=>by
     by_cases e:j=k
     ·subst e;exact hl.out
     ·exact hd.out j h (by omega))⟩
    case measure=>simp[intOf];omega
   |false=>
    have hl:=Aa (HR.out k hk hd.out (.inr ⟨hlt,h1⟩));clear h1;go_wp2;go_ret;exact⟨⟨k,rfl,hk,hl.out⟩,rfl⟩
  ·obtain rfl:k=s.size:=by omega
   have hr:=Aa (HR.out s.size (Ad _) hd.out (.inl rfl));go_wp2;go_ret;exact⟨⟨s.size,rfl,Ad _,hr.out⟩,rfl⟩
theorem TK (s:Str) (w:World) (hs:s.size≤1048576):Calls Pq 203 #[.string s,.func (.func 204) #[] #[]] w fun e w'=>e= .returned (.bool (Do Cm s))∧w'=w:=by
 have HE:=Aa (E8 Cm s);have HF:=Aa (@IR s);generalize Do Cm s=lp at*;go_enter Tryz.func203,Tryz.ntmps203;by_cases h8:1≤s.size∧s.size≤8
 ·have h0:0 < s.size:=by omega
  have hi:=Fb s.size 1 8 w;rw[show inB (s.size:Int) 1 8=true by simp[inB];omega]at hi;go_wp2_with fail;refine hi.mono ?_;rintro e w1 ⟨rfl,rfl⟩;go_wp2_with fail;refine(Lo s[0].toNat _).mono ?_;rintro e w1 ⟨rfl,rfl⟩;cases h1:Cm s[0].toNat with
  |true=>
   have h1':=Aa h1;clear h1;go_wp2_with fail;refine(Oc s _ hs).mono ?_;rintro e w2 ⟨⟨r,rfl,hr,hq⟩,rfl⟩;have hq':=Aa hq;clear hq hi;by_cases he:r=s.size
   ·subst he;go_wp2;go_ret;exact⟨Ae (by have h2:=hq'.out;unfold FF at h2;rw[HE.out,HF.out h0,h1'.out,AN h8,h2.1 rfl];rfl),rfl⟩
   ·have hen:¬((r:Int)= (s.size:Int)):=by omega
    go_wp2;go_ret;exact⟨Ae (by
     have h2:=hq'.out;unfold FF at h2;have h3:(Bq s).all A3=false:=by
      cases hc:(Bq s).all A3 with
      |true=>exact absurd (h2.2 hc) he
      |false=>rfl
     rw[HE.out,h3];simp[hen]),rfl⟩
  |false=>
   have hl:=Aa (show lp=false by rw[HE.out,HF.out h0,h1];simp);clear h1;go_wp2;go_ret;exact⟨Ae hl.out.symm,rfl⟩
 ·have hl:=Aa (show lp=false by rw[HE.out,AG h8];rfl);have hi:=Fb s.size 1 8 w;rw[show inB (s.size:Int) 1 8=false by simp[inB];omega]at hi;go_wp2_with fail;refine hi.mono ?_;rintro e w1 ⟨rfl,rfl⟩;go_wp2;go_ret;exact⟨Ae hl.out.symm,rfl⟩
theorem TM (s:Str) (w:World) (hs:s.size≤1048576):Calls Pq 203 #[.string s,.func (.func 206) #[] #[]] w fun e w'=>e= .returned (.bool (Do Co s))∧w'=w:=by
 have HE:=Aa (E8 Co s);have HF:=Aa (@IR s);generalize Do Co s=lp at*;go_enter Tryz.func203,Tryz.ntmps203;by_cases h8:1≤s.size∧s.size≤8
 ·have h0:0 < s.size:=by omega
  have hi:=Fb s.size 1 8 w;rw[show inB (s.size:Int) 1 8=true by simp[inB];omega]at hi;go_wp2_with fail;refine hi.mono ?_;rintro e w1 ⟨rfl,rfl⟩;go_wp2_with fail;refine(Lp s[0].toNat _).mono ?_;rintro e w1 ⟨rfl,rfl⟩;cases h1:Co s[0].toNat with
  |true=>
   have h1':=Aa h1;clear h1;go_wp2_with fail;refine(Oc s _ hs).mono ?_;rintro e w2 ⟨⟨r,rfl,hr,hq⟩,rfl⟩;have hq':=Aa hq;clear hq hi;by_cases he:r=s.size
   ·subst he;go_wp2;go_ret;exact⟨Ae (by have h2:=hq'.out;unfold FF at h2;rw[HE.out,HF.out h0,h1'.out,AN h8,h2.1 rfl];rfl),rfl⟩
   ·have hen:¬((r:Int)= (s.size:Int)):=by omega
    go_wp2;go_ret;exact⟨Ae (by
     have h2:=hq'.out;unfold FF at h2;have h3:(Bq s).all A3=false:=by
      cases hc:(Bq s).all A3 with
      |true=>exact absurd (h2.2 hc) he
      |false=>rfl
     rw[HE.out,h3];simp[hen]),rfl⟩
  |false=>
   have hl:=Aa (show lp=false by rw[HE.out,HF.out h0,h1];simp);clear h1;go_wp2;go_ret;exact⟨Ae hl.out.symm,rfl⟩
 ·have hl:=Aa (show lp=false by rw[HE.out,AG h8];rfl);have hi:=Fb s.size 1 8 w;rw[show inB (s.size:Int) 1 8=false by simp[inB];omega]at hi;go_wp2_with fail;refine hi.mono ?_;rintro e w1 ⟨rfl,rfl⟩;go_wp2;go_ret;exact⟨Ae hl.out.symm,rfl⟩
theorem Gf (s:Str) (w:World) (hs:s.size≤1048576):Calls Pq 156 #[.string s] w fun e w'=>e= .returned (.bool (BC s))∧Below w.heap.size w w':=by
 have HN:=Aa (show BC s= (Do Cm s&& !(kws.contains (Bq s)))from rfl);generalize BC s=np at*;go_enter Tryz.func156,Tryz.ntmps156;go_wp2_with fail;refine(TK s w hs).mono ?_;rintro e w1 ⟨rfl,rfl⟩;cases h1:Do Cm s with
 |true=>
  rw[h1]at HN;clear h1;go_wp2_with fail;refine(TP s _).mono ?_;rintro e w2 ⟨rfl,b2⟩;go_wp2;go_ret;exact⟨Ae (by rw[HN.out];simp),b2⟩
 |false=>
  rw[h1]at HN;clear h1;go_wp2;go_ret;exact⟨Ae (by rw[HN.out];simp),Ac _ _⟩
theorem GW (s:Str) (w:World) (hs:s.size≤1048576):Calls Pq 157 #[.string s] w fun e w'=>e= .returned (.bool (Bb s))∧w'=w:=by
 have HN:=Aa (show Bb s= (Do Co s&& !(decide (s.toList=[73,110,116])))from Oj s);generalize Bb s=np at*;go_enter Tryz.func157,Tryz.ntmps157;go_wp2_with fail;refine(TM s w hs).mono ?_;rintro e w1 ⟨rfl,rfl⟩;cases h1:Do Co s with
 |true=>
  rw[h1]at HN;clear h1;by_cases h2:s.toList=[73,110,116]
  ·rw[AN h2]at HN;go_wp2;go_ret;exact⟨Ae (by rw[HN.out];simp[h2]),rfl⟩
  ·rw[AG h2]at HN;go_wp2;go_ret;exact⟨Ae (by rw[HN.out];simp[h2]),rfl⟩
 |false=>
  rw[h1]at HN;clear h1;go_wp2;go_ret;exact⟨Ae (by rw[HN.out];simp),rfl⟩
end Go.Proofs.YtifhcbeaiijkcaaGreat
end
