/- Parts of the proof of FnFuel. -/
import Derived.Test.YtifhcbeaiijkcaaGreatZ03
import Derived.Test.YtifhcbeaiijkcaaGreatZ02
import Derived.Test.YtifhcbeaiijkcaaGreatProg
import Derived.WalkKit
import Derived.Below
set_option linter.unusedVariables false
set_option linter.unusedSimpArgs false
set_option maxRecDepth 1000000
set_option maxHeartbeats 16000000
section
namespace Go.Ev
open Go
deriving instance DecidableEq for S
mutual
def L4:(a b:V)→Decidable (a=b)
 | .o,.o=>isTrue rfl
 | .c a,.c b=>if h:a=b then isTrue (by rw[h])else isFalse (by simp[h])
 | .a a,.a b=>if h:a=b then isTrue (by rw[h])else isFalse (by simp[h])
 | .t a,.t b=>match L5 a b with |isTrue h=>isTrue (by rw[h]) |isFalse h=>isFalse (by simp[h])
 | .o,.c _=>isFalse (by simp) | .o,.a _=>isFalse (by simp) | .o,.t _=>isFalse (by simp)
 | .c _,.o=>isFalse (by simp) | .c _,.a _=>isFalse (by simp) | .c _,.t _=>isFalse (by simp)
 | .a _,.o=>isFalse (by simp) | .a _,.c _=>isFalse (by simp) | .a _,.t _=>isFalse (by simp)
 | .t _,.o=>isFalse (by simp) | .t _,.c _=>isFalse (by simp) | .t _,.a _=>isFalse (by simp)
def L5:(a b:List V)→Decidable (a=b)
 | [],[]=>isTrue rfl
 | [],_::_=>isFalse (by simp)
 |_::_,[]=>isFalse (by simp)
 |a::l,b::m=>match L4 a b with
  |isTrue h1=>match L5 l m with |isTrue h2=>isTrue (by rw[h1,h2]) |isFalse h2=>isFalse (by simp[h2])
  |isFalse h1=>isFalse (by simp[h1])
end
instance:DecidableEq V:=L4
deriving instance DecidableEq for O
deriving instance DecidableEq for W
deriving instance DecidableEq for A
deriving instance DecidableEq for M
deriving instance DecidableEq for R
deriving instance DecidableEq for MO
deriving instance DecidableEq for Stp
deriving instance DecidableEq for MC
deriving instance DecidableEq for MRes
deriving instance DecidableEq for MFn
deriving instance DecidableEq for HS
end Go.Ev
end
section
namespace Go.Ev
open Go Go.Proofs.Tryz
noncomputable def ty:TypeId→Option TyI:=tyI prog
theorem MU:TyOk prog ty:=fun _ _ h=>h
noncomputable def ibs (f:FuncId):Bool:=false
theorem MV:Du prog ibs:=by
 intro f hf;cases hf
theorem follows:prog.follows .mixedOrders=true:=by kernel_rfl
theorem Ak {P:Nat→MFn→Prop}:∀g f,(T.lf:T MFn).get g=some f→P g f:=fun g f h=>by rw[T.get_lf]at h;cases h
theorem Aq {P:MFn→Prop}:∀f,(none:Option MFn)=some f→P f:=fun f h=>by cases h
theorem Am {P:Nat→MFn→Prop}{l r:T MFn}{v:Option MFn}(hl:∀g f,l.get g=some f→P (2*g+1) f) (hv:∀f,v=some f→P 0 f) (hr:∀g f,r.get g=some f→P (2*g+2) f):
  ∀g f,(T.nd l v r).get g=some f→P g f:=by
 intro g f h;rw[T.get_nd]at h;by_cases h0:g=0
 ·subst h0;exact hv f (by simpa using h)
 ·have e0:(g==0)=false:=by simpa using h0
  rw[e0]at h;by_cases h1:g%2=0
  ·have e1:(g%2==0)=true:=by simpa using h1
   rw[e1]at h;have:=hr _ f h;rw[show 2* (g/2 - 1)+2=g by omega]at this;exact this
  ·have e1:(g%2==0)=false:=by simpa using h1
   rw[e1]at h;have:=hl _ f h;rw[show 2* (g/2)+1=g by omega]at this;exact this
noncomputable def Q (h:List (List HS)) (f:Func):Option MFn:=cFn ty ibs (cDraw ty ibs) h f
theorem AJ {g:Nat}{h:List (List HS)}{f:Func}(hf:prog.funcs[g]?=some f):∀m,Q h f=some m→ ∃fn h,prog.funcs[g]?=some fn∧cFn ty ibs (cDraw ty ibs) h fn=some m:=fun m e=>⟨f,h,hf,e⟩
def hN:Nat→List (List HS)
 |0=> []
 |n+1=> []::hN n
def h53:List (List HS):=[[.ev 0,.ev 1,.ev 2,.ev 3,.ev 4,.ev 5,.ev 6,.ev 7,.ev 8,.ev 9,.ev 10,.ev 11,.ev 12,.ev 13,.ev 14,.ev 15,.ev 16,.ev 17,.ev 18,.ev 19,.ev 20,.ev 21,.ev 22,.ev 23,.ev 24,.ev 25]]
def h87:List (List HS):=[[.ev 0,.ev 1,.ev 3,.ev 4,.ev 2,.ev 5,.ev 6,.ev 7]]
def RP:List (List HS):=[[.ev 0,.ev 1,.ev 2,.ev 3,.ev 4,.ev 5,.ev 6,.ev 7,.ev 8,.ev 9,.ev 10,.ev 11,.ev 12],[.ev 0,.ev 1,.ev 2,.ev 3,.ev 4,.ev 5,.ev 6,.ev 7,.ev 8,.ev 9,.ev 10,.ev 11,.ev 12,.ev 13,.ev 14,.ev 15,.ev 16,.ev 17,.ev 18]]
def RQ:List (List HS):=[[.ev 0,.ev 1,.ev 2,.ev 3,.ev 4,.ev 5,.ev 6,.ev 7,.ev 8,.ev 9,.ev 10,.ev 11]]
def RS:List (List HS):=[[.ev 0,.ev 1,.ev 2,.ev 3,.ev 4,.ev 5,.ev 6,.ev 7],[.ev 0,.ev 1,.ev 2,.ev 3,.ev 4,.ev 5,.ev 6]]
def RT:List (List HS):=[[.ev 0,.ev 1,.ev 2,.ev 3,.ev 4,.ev 5,.ev 6,.ev 7,.ev 8,.ev 9,.ev 10,.ev 11]]
def RU:List (List HS):=[[.ev 0,.ev 1,.ev 2,.ev 3,.ev 4,.ev 5,.ev 6,.ev 7,.ev 8,.ev 9,.ev 10,.ev 11],[.ev 0,.ev 1,.ev 2,.ev 3,.ev 4,.ev 5,.ev 6,.ev 7],[.ev 0,.ev 1,.ev 2,.ev 3,.ev 4,.ev 5,.ev 6,.ev 7]]
def RV:List (List HS):=[[.ev 0,.ev 1,.ev 2,.ev 3,.ev 4,.ev 5,.ev 6,.ev 7,.ev 8,.ev 9,.ev 10]]
def RW:List (List HS):=[[.ev 0,.ev 1,.ev 2,.ev 3,.ev 4,.ev 5,.ev 6,.ev 7]]
def RX:List (List HS):=[[.ev 0,.ev 1,.ev 2,.ev 3,.ev 4,.ev 5,.ev 6,.ev 7,.ev 8,.ev 9,.ev 10]]
def RY:List (List HS):=[[.ev 0,.ev 1,.ev 2,.ev 3,.ev 4,.ev 5,.ev 6,.ev 7,.ev 8,.ev 9]]
def RZ:List (List HS):=[[.ev 0,.ev 1,.ev 2,.ev 3,.ev 4,.ev 5,.ev 6]]
def R1:List (List HS):=[[.ev 0,.ev 1,.ev 2,.ev 3,.ev 4,.ev 5,.ev 6,.ev 7]]
def R2:List (List HS):=[[.ev 0,.ev 1,.ev 2,.ev 3,.ev 4,.ev 5,.ev 6,.ev 7]]
def R4:List (List HS):=[[.ev 0,.ev 1,.ev 2,.ev 3,.ev 4,.ev 5,.ev 6,.ev 7]]
noncomputable def tbl:T MFn:=(.nd (.nd (.nd (.nd (.nd (.nd (.nd (.nd (.nd .lf (Q (hN 0) f255) .lf) none .lf) none .lf) none .lf) none (.nd .lf none (.nd (.nd .lf (Q (hN 0) f175) .lf) (Q (hN 0) f111) .lf))) none (.nd (.nd (.nd .lf none (.nd .lf (Q RV f199) .lf)) none (.nd .lf none (.nd .lf (Q RX f231) .lf))) none (.nd (.nd .lf (Q h87 f87) .lf) none (.nd .lf none (.nd .lf (Q RZ f247) .lf))))) none (.nd (.nd (.nd (.nd (.nd (.nd .lf (Q (hN 0) f259) .lf) none .lf) none (.nd .lf (Q (hN 0) f195) .lf)) none (.nd .lf none (.nd .lf (Q (hN 0) f227) .lf))) none (.nd (.nd (.nd .lf (Q RQ f147) .lf) none .lf) none .lf)) none (.nd (.nd .lf none (.nd (.nd .lf (Q (hN 0) f171) .lf) none (.nd .lf (Q (hN 0) f235) .lf))) none (.nd .lf none (.nd .lf none (.nd .lf (Q R1 f251) .lf)))))) none (.nd (.nd (.nd (.nd (.nd (.nd (.nd .lf (Q (hN 0) f257) .lf) none .lf) (Q (hN 0) f65) .lf) none (.nd .lf none (.nd .lf (Q (hN 0) f225) .lf))) none (.nd .lf none (.nd .lf (Q (hN 0) f113) .lf))) none (.nd (.nd .lf none (.nd .lf none (.nd .lf (Q (hN 0) f233) .lf))) none (.nd .lf none (.nd .lf none (.nd .lf (Q (hN 0) f249) .lf))))) none (.nd (.nd (.nd (.nd .lf none (.nd .lf (Q RU f197) .lf)) none (.nd .lf none (.nd .lf (Q RW f229) .lf))) none (.nd .lf (Q h53 f53) (.nd .lf none (.nd .lf (Q (hN 0) f245) .lf)))) none (.nd (.nd .lf none (.nd (.nd .lf (Q (hN 0) f173) .lf) none .lf)) none (.nd .lf none (.nd .lf none (.nd .lf (Q (hN 0) f253) .lf))))))) none (.nd (.nd (.nd (.nd (.nd (.nd (.nd (.nd .lf (Q (hN 0) f256) .lf) none .lf) none .lf) none (.nd .lf none (.nd .lf (Q (hN 0) f224) .lf))) none (.nd .lf none (.nd .lf (Q (hN 0) f112) .lf))) none (.nd (.nd (.nd .lf none (.nd .lf (Q (hN 0) f200) .lf)) none (.nd .lf none (.nd .lf (Q (hN 0) f232) .lf))) none (.nd (.nd .lf none (.nd .lf (Q (hN 0) f216) .lf)) none (.nd .lf none (.nd .lf (Q (hN 0) f248) .lf))))) none (.nd (.nd (.nd (.nd .lf (Q (hN 0) f68) (.nd .lf (Q (hN 0) f196) .lf)) none (.nd .lf none (.nd .lf (Q (hN 0) f228) .lf))) none (.nd (.nd (.nd .lf (Q RS f148) .lf) none .lf) none .lf)) none (.nd (.nd .lf none (.nd (.nd .lf (Q (hN 0) f172) .lf) none (.nd .lf (Q (hN 0) f236) .lf))) none (.nd .lf none (.nd .lf none (.nd .lf (Q (hN 0) f252) .lf)))))) none (.nd (.nd (.nd (.nd (.nd (.nd (.nd .lf (Q R4 f258) .lf) none .lf) none (.nd .lf (Q RT f194) .lf)) none (.nd .lf none (.nd .lf (Q (hN 0) f226) .lf))) none (.nd (.nd (.nd .lf (Q RP f146) .lf) none .lf) none (.nd .lf (Q (hN 0) f114) .lf))) none (.nd (.nd .lf none (.nd (.nd .lf (Q (hN 0) f170) .lf) none (.nd .lf (Q RY f234) .lf))) none (.nd .lf none (.nd .lf none (.nd .lf (Q (hN 0) f250) .lf))))) none (.nd (.nd (.nd (.nd .lf (Q (hN 0) f70) (.nd .lf (Q (hN 0) f198) .lf)) none (.nd .lf none (.nd .lf (Q (hN 0) f230) .lf))) none (.nd .lf none (.nd .lf none (.nd .lf (Q (hN 0) f246) .lf)))) none (.nd (.nd .lf none (.nd (.nd .lf (Q (hN 0) f174) .lf) (Q (hN 0) f110) .lf)) none (.nd .lf none (.nd .lf none (.nd .lf (Q R2 f254) .lf))))))))
theorem R5:Mv prog ty ibs (cDraw ty ibs) tbl:=(Am (Am (Am (Am (Am (Am (Am (Am (Am Ak (AJ func255) Ak) Aq Ak) Aq Ak) Aq Ak) Aq (Am Ak Aq (Am (Am Ak (AJ func175) Ak) (AJ func111) Ak))) Aq (Am (Am (Am Ak Aq (Am Ak (AJ func199) Ak)) Aq (Am Ak Aq (Am Ak (AJ func231) Ak))) Aq (Am (Am Ak (AJ func87) Ak) Aq (Am Ak Aq (Am Ak (AJ func247) Ak))))) Aq (Am (Am (Am (Am (Am (Am Ak (AJ func259) Ak) Aq Ak) Aq (Am Ak (AJ func195) Ak)) Aq (Am Ak Aq (Am Ak (AJ func227) Ak))) Aq (Am (Am (Am Ak (AJ func147) Ak) Aq Ak) Aq Ak)) Aq (Am (Am Ak Aq (Am (Am Ak (AJ func171) Ak) Aq (Am Ak (AJ func235) Ak))) Aq (Am Ak Aq (Am Ak Aq (Am Ak (AJ func251) Ak)))))) Aq (Am (Am (Am (Am (Am (Am (Am Ak (AJ func257) Ak) Aq Ak) (AJ func65) Ak) Aq (Am Ak Aq (Am Ak (AJ func225) Ak))) Aq (Am Ak Aq (Am Ak (AJ func113) Ak))) Aq (Am (Am Ak Aq (Am Ak Aq (Am Ak (AJ func233) Ak))) Aq (Am Ak Aq (Am Ak Aq (Am Ak (AJ func249) Ak))))) Aq (Am (Am (Am (Am Ak Aq (Am Ak (AJ func197) Ak)) Aq (Am Ak Aq (Am Ak (AJ func229) Ak))) Aq (Am Ak (AJ func53) (Am Ak Aq (Am Ak (AJ func245) Ak)))) Aq (Am (Am Ak Aq (Am (Am Ak (AJ func173) Ak) Aq Ak)) Aq (Am Ak Aq (Am Ak Aq (Am Ak (AJ func253) Ak))))))) Aq (Am (Am (Am (Am (Am (Am (Am (Am Ak (AJ func256) Ak) Aq Ak) Aq Ak) Aq (Am Ak Aq (Am Ak (AJ func224) Ak))) Aq (Am Ak Aq (Am Ak (AJ func112) Ak))) Aq (Am (Am (Am Ak Aq (Am Ak (AJ func200) Ak)) Aq (Am Ak Aq (Am Ak (AJ func232) Ak))) Aq (Am (Am Ak Aq (Am Ak (AJ func216) Ak)) Aq (Am Ak Aq (Am Ak (AJ func248) Ak))))) Aq (Am (Am (Am (Am Ak (AJ func68) (Am Ak (AJ func196) Ak)) Aq (Am Ak Aq (Am Ak (AJ func228) Ak))) Aq (Am (Am (Am Ak (AJ func148) Ak) Aq Ak) Aq Ak)) Aq (Am (Am Ak Aq (Am (Am Ak (AJ func172) Ak) Aq (Am Ak (AJ func236) Ak))) Aq (Am Ak Aq (Am Ak Aq (Am Ak (AJ func252) Ak)))))) Aq (Am (Am (Am (Am (Am (Am (Am Ak (AJ func258) Ak) Aq Ak) Aq (Am Ak (AJ func194) Ak)) Aq (Am Ak Aq (Am Ak (AJ func226) Ak))) Aq (Am (Am (Am Ak (AJ func146) Ak) Aq Ak) Aq (Am Ak (AJ func114) Ak))) Aq (Am (Am Ak Aq (Am (Am Ak (AJ func170) Ak) Aq (Am Ak (AJ func234) Ak))) Aq (Am Ak Aq (Am Ak Aq (Am Ak (AJ func250) Ak))))) Aq (Am (Am (Am (Am Ak (AJ func70) (Am Ak (AJ func198) Ak)) Aq (Am Ak Aq (Am Ak (AJ func230) Ak))) Aq (Am Ak Aq (Am Ak Aq (Am Ak (AJ func246) Ak)))) Aq (Am (Am Ak Aq (Am (Am Ak (AJ func174) Ak) (AJ func110) Ak)) Aq (Am Ak Aq (Am Ak Aq (Am Ak (AJ func254) Ak))))))))
end Go.Ev
end
section
namespace Go.Ev
open Go Go.RowKit
def JP:Rho:=fun _=>none
theorem Rel.zero (w:World):Rel JP St.zero w:=by
 have h0:∀x b,St.zero.h.get x=some b→False:=fun x b h=>by
  rw[show St.zero.h.get x=Option.none from T.get_lf x]at h;cases h
 refine⟨?_,?_,?_,?_,?_,?_,?_⟩
 ·intro x y h;cases h
 ·intro x cb sh z h;cases h
 ·intro x cb sh z b h;cases h
 ·intro x y cb sh sh' z z' bx b' hne h;cases h
 ·intro x b f h;exact(h0 x b h).elim
 ·intro x b h;exact(h0 x b h).elim
 ·intro x b h;exact(h0 x b h).elim
theorem ER.upd {ρ:Rho}{e:E}{a:Act}(h:ER ρ e a) {t:Nat}{v:V}(hv:VR ρ v (a.tmps.getD t undef)):ER ρ (T.upd (some v) e t) a:=by
 intro x u hu;rw[T.get_upd]at hu;split at hu
 ·rename_i hx;simp only[Af]at hu;subst hu hx;exact hv
 ·exact h x u hu
theorem ER.lf {ρ:Rho}{a:Act}:ER ρ T.lf a:=fun t v h=>by rw[T.get_lf]at h;cases h
theorem Go.below {s s':St}{ρ ρ':Rho}{w w':World}(h:Go s ρ w s' ρ' w') {B:Nat}(hB:B≤w.heap.size) (hρ:∀x cb sh z,ρ x=some (cb,sh,z)→B≤cb):Below B w w':=
 ⟨h.os,h.tape,h.output,h.size,fun k hk=>h.block k (Aj hk hB) fun x sh z e=>absurd (hρ _ _ _ _ e) (by omega)⟩
def Ent (P:Program) (g:Nat) (vs:List V) (u:St) (v:V) (u':St):Prop:=
 ∀ (ρ:Rho) (w:World) (cargs:List Value),LR (VR ρ) vs cargs→Rel ρ u w→
  (callFunc g cargs.toArray).run P w= .ok (.enter g cargs.toArray) w∧
  Calls P g cargs.toArray w fun e w'=>∃cv ρ',e= .returned cv∧VR ρ' v cv∧Rel ρ' u' w'∧Go u ρ w u' ρ' w'
theorem Q5 {P:Program}{call:Nat→List V→St→Option (V×St)}(hc:CT P call) {g:Nat}{vs:List V}{u u':St}{v:V}(h:call g vs u=some (v,u')):Ent P g vs u v u':=
 fun ρ w cargs hl hr=>hc g vs u v u' h ρ w cargs hl hr
def isP (v:V) (k:List S→Bool):Bool:=match v with | .t [.a p,.c (.i (.negSucc 0))]=>k p |_=>false
theorem Q6 {v:V}{k:List S→Bool}(h:isP v k=true):∃p,v= .t [.a p,.c (.i (-1))]∧k p=true:=by
 unfold isP at h;split at h
 ·exact⟨_,rfl,h⟩
 ·cases h
theorem Rel.later {ρ:Rho}{u:St}{w w':World}(h:Rel ρ u w) (hb:Below w.heap.size w w'):Rel ρ u w':=by
 have hlt:∀x cb sh z,ρ x=some (cb,sh,z)→cb < w.heap.size:=fun x cb sh z e=>by
  obtain⟨cs,el,e1,_⟩:=h.blk x cb sh z e;rcases FP cb w.heap.size with h |h
  ·exact h
  ·rw[KQ h]at e1;cases e1
 refine⟨h.dom,fun x cb sh z e=> ?_,fun x cb sh z b e e'=> ?_,h.inj,h.fam,h.nfl,h.lt⟩
 ·rw[hb.block cb (hlt _ _ _ _ e)];exact h.blk x cb sh z e
 ·obtain⟨k1,k2⟩:=h.con x cb sh z b e e';refine⟨k1,fun i sv hi=> ?_⟩;rw[hb.cell (p:=⟨cb,sh+i,Option.none⟩) (hlt _ _ _ _ e)];exact k2 i sv hi
def Far (ρ:Rho) (w:World) (c:Nat):Prop:=c < w.heap.size∧ ∀x sh z,ρ x≠some (c,sh,z)
structure Left (ρ:Rho) (w:World) (ρ':Rho) (w':World):Prop where
 le:ρ.le ρ'
 size:w.heap.size≤w'.heap.size
 keep:∀c,Far ρ w c→Far ρ' w' c∧w'.heap[c]?=w.heap[c]?
theorem Far.later {ρ:Rho}{w w':World}{c:Nat}(h:Far ρ w c) (hb:Below w.heap.size w w'):Far ρ w' c:=⟨Aj h.1 hb.size,h.2⟩
theorem Left.of {u u':St}{ρ ρ':Rho}{w w':World}(g:Go u ρ w u' ρ' w'):Left ρ w ρ' w':=
 ⟨g.le,g.size,fun c hc=>⟨⟨Aj hc.1 g.size,fun x sh z e=>by
  rcases g.new x c sh z e with ⟨x0,sh0,z0,e0⟩ |h
  ·exact hc.2 _ _ _ e0
  ·exact absurd hc.1 (by omega)⟩,g.block c hc.1 hc.2⟩⟩
end Go.Ev
end
