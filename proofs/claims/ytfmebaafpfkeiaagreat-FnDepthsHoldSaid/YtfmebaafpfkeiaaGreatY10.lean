/- Parts of the proof of FnDepthsHold, FnEnds, FnMeant, FnMovedWhenever, FnSizes. -/
import Derived.Test.YtfmebaafpfkeiaaGreatY09
set_option linter.unusedVariables false
set_option linter.unusedSimpArgs false
set_option maxRecDepth 1000000
set_option maxHeartbeats 16000000
section
namespace Go.Ev
open Go Go.RowKit
theorem EntK.drop {P:Program}{g:Nat}{vs:List V}{u:St}{p:List S}{v:V}(h:EntK P g vs (alloc u p) v):EntK P g vs u v:=by
 intro ρ w cargs hl hr;obtain⟨h1,h2⟩:=h ρ w cargs hl (hr.known p);refine⟨h1,h2.mono ?_⟩;rintro e w' ⟨cv,rfl,k1,k2,k3⟩;have hg:∀x b,u.h.get x=some b→(alloc u p).h.get x=some b:=fun x b e=>by
  rw[BJ,if_neg (by have:=hr.lt x b e;omega)];exact e
 obtain⟨k4,k5⟩:=hr.keep k2 (show Go u ρ w (alloc u p) ρ w' from⟨k3.le,k3.os,k3.tape,k3.output,k3.size,k3.block,k3.new,Nat.le_succ _,fun x y e=> .inl e⟩) hg;exact⟨cv,rfl,k1,k4,k5⟩
theorem Rel.later {ρ:Rho}{u:St}{w w':World}(h:Rel ρ u w) (hb:Below w.heap.size w w'):Rel ρ u w':=by
 have hlt:∀x cb sh z,ρ x=some (cb,sh,z)→cb < w.heap.size:=fun x cb sh z e=>by
  obtain⟨cs,el,e1,_⟩:=h.blk x cb sh z e;rcases Nat.lt_or_ge cb w.heap.size with h |h
  ·exact h
  ·rw[Array.getElem?_eq_none h]at e1;cases e1
 refine⟨h.dom,fun x cb sh z e=> ?_,fun x cb sh z b e e'=> ?_,h.inj,h.fam,h.nfl,h.lt⟩
 ·rw[hb.block cb (hlt _ _ _ _ e)];exact h.blk x cb sh z e
 ·obtain⟨k1,k2⟩:=h.con x cb sh z b e e';refine⟨k1,fun i sv hi=> ?_⟩;rw[hb.cell (p:=⟨cb,sh+i,Option.none⟩) (hlt _ _ _ _ e)];exact k2 i sv hi
structure Kn (w0:World) (ρ:Rho) (u:St) (w:World):Prop where
 rel:Rel ρ u w
 low:∀x cb sh z,ρ x=some (cb,sh,z)→w0.heap.size≤cb
 below:Below w0.heap.size w0 w
def Far (ρ:Rho) (w:World) (c:Nat):Prop:=c < w.heap.size∧ ∀x sh z,ρ x≠some (c,sh,z)
structure Left (ρ:Rho) (w:World) (ρ':Rho) (w':World):Prop where
 le:ρ.le ρ'
 size:w.heap.size≤w'.heap.size
 keep:∀c,Far ρ w c→Far ρ' w' c∧w'.heap[c]?=w.heap[c]?
theorem Kn.zero (w:World):Kn w Il St.zero w:=⟨Rel.zero w,(fun x cb sh z e=>by cases e),Below.refl _ _⟩
theorem Kn.later {w0:World}{ρ:Rho}{u:St}{w w':World}(h:Kn w0 ρ u w) (hb:Below w.heap.size w w'):Kn w0 ρ u w':=
 ⟨h.rel.later hb,h.low,h.below.trans (hb.mono h.below.size)⟩
theorem Far.later {ρ:Rho}{w w':World}{c:Nat}(h:Far ρ w c) (hb:Below w.heap.size w w'):Far ρ w' c:=⟨Nat.lt_of_lt_of_le h.1 hb.size,h.2⟩
theorem Kn.far {w0:World}{ρ:Rho}{u:St}{w w':World}(h:Kn w0 ρ u w) {c:Nat}(hc:w.heap.size≤c) (h':c < w'.heap.size):Far ρ w' c:=by
 refine⟨h',fun x sh z e=> ?_⟩;obtain⟨cs,el,e1,_⟩:=h.rel.blk x c sh z e;rw[Array.getElem?_eq_none hc]at e1;cases e1
theorem Left.of {u u':St}{ρ ρ':Rho}{w w':World}(g:Go u ρ w u' ρ' w'):Left ρ w ρ' w':=
 ⟨g.le,g.size,fun c hc=>⟨⟨Nat.lt_of_lt_of_le hc.1 g.size,fun x sh z e=>by
  rcases g.new x c sh z e with ⟨x0,sh0,z0,e0⟩ |h
  ·exact hc.2 _ _ _ e0
  ·exact absurd hc.1 (by omega)⟩,g.block c hc.1 hc.2⟩⟩
theorem Kn.next {w0:World}{ρ ρ':Rho}{u u':St}{w w':World}(h:Kn w0 ρ u w) (r:Rel ρ' u' w') (g:Go u ρ w u' ρ' w'):Kn w0 ρ' u' w':=
 ⟨r,fun x cb sh z e=>by
  rcases g.new x cb sh z e with ⟨x0,sh0,z0,e0⟩ |hh
  ·exact h.low _ _ _ _ e0
  ·exact Nat.le_trans h.below.size hh,
 h.below.trans (g.below h.below.size h.low)⟩
theorem Kn.ent {P:Program}{g:Nat}{vs:List V}{u u':St}{v:V}(E:Ent P g vs u v u') {w0:World}{ρ:Rho}{w:World}(h:Kn w0 ρ u w) {cargs:List Value}(hl:LR (VR ρ) vs cargs):
  Calls P g cargs.toArray w fun e w'=>∃cv ρ',e= .returned cv∧VR ρ' v cv∧Kn w0 ρ' u' w'∧Left ρ w ρ' w':=
 (E ρ w cargs hl h.rel).2.mono fun e w' ⟨cv,ρ',he,k1,k2,k3⟩=>⟨cv,ρ',he,k1,h.next k2 k3,Left.of k3⟩
theorem Kn.entK {P:Program}{g:Nat}{vs:List V}{u:St}{v:V}(E:EntK P g vs u v) {w0:World}{ρ:Rho}{w:World}(h:Kn w0 ρ u w) {cargs:List Value}(hl:LR (VR ρ) vs cargs):
  Calls P g cargs.toArray w fun e w'=>∃cv,e= .returned cv∧VR ρ v cv∧Kn w0 ρ u w'∧Left ρ w ρ w':=
 (E ρ w cargs hl h.rel).2.mono fun e w' ⟨cv,he,k1,k2,k3⟩=>⟨cv,he,k1,h.next k2 k3,Left.of k3⟩
end Go.Ev
end
section
namespace Go.Ev
def src0:List Nat:=[100,97,116,97,32,76,105,115,116,32,97,32,61,32,78,105,108,32,124,32,67,111,110,115,32,97,32,40,76,105,115,116,32,97,41,59,10,114,101,99,32,109,97,112,32,102,32,61,32,102,117,110,32,108,32,45,62,32,99,97,115,101,32,108,32,111,102,32,123,32,78,105,108,32,45,62,32,78,105,108,59,32,67,111,110,115,32,120,32,116,32,45,62,32,67,111,110,115,32,40,102,32,120,41,32,40,109,97,112,32,102,32,116,41,32,125,32,105,110,10,114,101,99,32,115,117,109,32,108,32,61,32,99,97,115,101,32,108,32,111,102,32,123,32,78,105,108,32,45,62,32,48,59,32,67,111,110,115,32,120,32,116,32,45,62,32,120,32,43,32,115,117,109,32,116,32,125,32,105,110,10,115,117,109,32,40,109,97,112,32,40,102,117,110,32,120,32,45,62,32,120,32,42,32,120,41,32,40,67,111,110,115,32,49,32,40,67,111,110,115,32,50,32,40,67,111,110,115,32,51,32,78,105,108,41,41,41,41,10]
def Ot:List Bs:=[(0,[(5,1,0),(5,3,0),(2,2,0),(2,1,0),(5,4,0),(6,0,0),(1,1,0),(1,2,0),(1,3,0),(8,0,0),(8,1,2),(8,1,2),(8,1,2),(6,0,0),(6,0,0),(20,0,0),(20,0,0),(7,0,0)]),(0,[(2,0,0),(4,0,0),(5,2,2),(7,0,0)]),(2,[(2,0,0),(2,1,0),(10,0,5),(8,0,0),(19,20,0),(2,1,0),(10,1,19),(3,0,0),(2,1,0),(9,0,0),(6,0,0),(3,1,0),(3,0,0),(6,0,0),(2,1,0),(9,1,0),(6,0,0),(8,1,2),(19,20,0),(21,0,0),(20,0,0),(7,0,0)]),(0,[(2,0,0),(2,1,0),(10,0,5),(1,0,0),(19,16,0),(2,1,0),(10,1,15),(2,1,0),(9,0,0),(4,0,0),(2,1,0),(9,1,0),(6,0,0),(12,0,0),(19,16,0),(21,0,0),(20,0,0),(7,0,0)]),(0,[(2,0,0),(2,0,0),(14,0,0),(7,0,0)])]
def src1:List Nat:=[100,97,116,97,32,80,97,105,114,32,97,32,98,32,61,32,80,97,105,114,32,97,32,98,59,10,100,97,116,97,32,66,111,111,108,32,61,32,84,114,117,101,32,124,32,70,97,108,115,101,59,10,108,101,116,32,105,100,32,61,32,102,117,110,32,120,32,45,62,32,120,32,105,110,10,108,101,116,32,112,32,61,32,80,97,105,114,32,40,105,100,32,51,41,32,40,105,100,32,84,114,117,101,41,32,105,110,10,99,97,115,101,32,112,32,111,102,32,123,32,80,97,105,114,32,110,32,84,114,117,101,32,45,62,32,112,117,116,32,40,110,32,43,32,49,41,59,32,80,97,105,114,32,95,32,70,97,108,115,101,32,45,62,32,48,32,125,10]
def Ou:List Bs:=[(0,[(5,1,0),(2,1,0),(1,3,0),(6,0,0),(2,1,0),(8,1,0),(6,0,0),(8,0,2),(2,2,0),(2,3,0),(10,0,27),(2,3,0),(9,1,0),(10,1,20),(2,3,0),(9,0,0),(1,1,0),(12,0,0),(17,0,0),(19,26,0),(2,3,0),(9,1,0),(10,2,25),(1,0,0),(19,26,0),(21,0,0),(19,28,0),(21,0,0),(20,0,0),(20,0,0),(20,0,0),(7,0,0)]),(0,[(2,0,0),(7,0,0)])]
def src2:List Nat:=[114,101,99,32,102,97,99,116,32,110,32,61,32,105,102,32,110,32,116,104,101,110,32,110,32,42,32,102,97,99,116,32,40,110,32,45,32,49,41,32,101,108,115,101,32,49,32,105,110,10,108,101,116,32,120,32,61,32,112,117,116,32,40,102,97,99,116,32,53,41,32,105,110,10,102,97,99,116,32,50,48,10]
def Ov:List Bs:=[(0,[(5,1,0),(2,1,0),(1,5,0),(6,0,0),(17,0,0),(2,1,0),(1,20,0),(6,0,0),(20,0,0),(20,0,0),(7,0,0)]),(0,[(2,0,0),(18,10,0),(2,0,0),(4,0,0),(2,0,0),(1,1,0),(13,0,0),(6,0,0),(14,0,0),(19,11,0),(1,1,0),(7,0,0)])]
def src3:List Nat:=[100,97,116,97,32,84,114,101,101,32,61,32,76,101,97,102,32,124,32,78,111,100,101,32,84,114,101,101,32,73,110,116,32,84,114,101,101,59,10,114,101,99,32,105,110,115,32,120,32,61,32,102,117,110,32,116,32,45,62,32,99,97,115,101,32,116,32,111,102,32,123,32,76,101,97,102,32,45,62,32,78,111,100,101,32,76,101,97,102,32,120,32,76,101,97,102,59,32,78,111,100,101,32,108,32,121,32,114,32,45,62,32,105,102,32,120,32,60,32,121,32,116,104,101,110,32,78,111,100,101,32,40,105,110,115,32,120,32,108,41,32,121,32,114,32,101,108,115,101,32,78,111,100,101,32,108,32,121,32,40,105,110,115,32,120,32,114,41,32,125,32,105,110,10,114,101,99,32,119,97,108,107,32,116,32,61,32,99,97,115,101,32,116,32,111,102,32,123,32,76,101,97,102,32,45,62,32,48,59,32,78,111,100,101,32,108,32,121,32,114,32,45,62,32,108,101,116,32,97,32,61,32,119,97,108,107,32,108,32,105,110,32,108,101,116,32,98,32,61,32,112,117,116,32,121,32,105,110,32,97,32,43,32,119,97,108,107,32,114,32,43,32,49,32,125,32,105,110,10,119,97,108,107,32,40,105,110,115,32,51,32,40,105,110,115,32,57,32,40,105,110,115,32,49,32,40,105,110,115,32,53,32,76,101,97,102,41,41,41,41,10]
def Ow:List Bs:=[(0,[(5,1,0),(5,3,0),(2,2,0),(2,1,0),(1,3,0),(6,0,0),(2,1,0),(1,9,0),(6,0,0),(2,1,0),(1,1,0),(6,0,0),(2,1,0),(1,5,0),(6,0,0),(8,0,0),(6,0,0),(6,0,0),(6,0,0),(6,0,0),(6,0,0),(20,0,0),(20,0,0),(7,0,0)]),(0,[(2,0,0),(4,0,0),(5,2,2),(7,0,0)]),(2,[(2,0,0),(2,1,0),(10,0,8),(8,0,0),(3,0,0),(8,0,0),(8,1,3),(19,40,0),(2,1,0),(10,1,39),(3,0,0),(2,1,0),(9,1,0),(15,0,0),(18,27,0),(3,1,0),(3,0,0),(6,0,0),(2,1,0),(9,0,0),(6,0,0),(2,1,0),(9,1,0),(2,1,0),(9,2,0),(8,1,3),(19,38,0),(2,1,0),(9,0,0),(2,1,0),(9,1,0),(3,1,0),(3,0,0),(6,0,0),(2,1,0),(9,2,0),(6,0,0),(8,1,3),(19,40,0),(21,0,0),(20,0,0),(7,0,0)]),(0,[(2,0,0),(2,1,0),(10,0,5),(1,0,0),(19,26,0),(2,1,0),(10,1,25),(4,0,0),(2,1,0),(9,0,0),(6,0,0),(2,1,0),(9,1,0),(17,0,0),(2,2,0),(4,0,0),(2,1,0),(9,2,0),(6,0,0),(12,0,0),(1,1,0),(12,0,0),(20,0,0),(20,0,0),(19,26,0),(21,0,0),(20,0,0),(7,0,0)])]
def src4:List Nat:=[100,97,116,97,32,79,112,116,32,97,32,61,32,78,111,110,101,32,124,32,83,111,109,101,32,97,59,10,100,97,116,97,32,76,105,115,116,32,97,32,61,32,78,105,108,32,124,32,67,111,110,115,32,97,32,40,76,105,115,116,32,97,41,59,10,114,101,99,32,102,105,110,100,32,107,32,61,32,102,117,110,32,108,32,45,62,32,99,97,115,101,32,108,32,111,102,32,123,32,78,105,108,32,45,62,32,78,111,110,101,59,32,67,111,110,115,32,40,83,111,109,101,32,120,41,32,116,32,45,62,32,105,102,32,120,32,61,61,32,107,32,116,104,101,110,32,83,111,109,101,32,120,32,101,108,115,101,32,102,105,110,100,32,107,32,116,59,32,67,111,110,115,32,78,111,110,101,32,116,32,45,62,32,102,105,110,100,32,107,32,116,32,125,32,105,110,10,99,97,115,101,32,102,105,110,100,32,50,32,40,67,111,110,115,32,78,111,110,101,32,40,67,111,110,115,32,40,83,111,109,101,32,50,41,32,78,105,108,41,41,32,111,102,32,123,32,78,111,110,101,32,45,62,32,48,59,32,83,111,109,101,32,50,32,45,62,32,50,50,59,32,83,111,109,101,32,110,32,45,62,32,110,32,125,10]
def Ox:List Bs:=[(0,[(5,1,0),(2,1,0),(1,2,0),(6,0,0),(8,0,0),(1,2,0),(8,1,1),(8,2,0),(8,3,2),(8,3,2),(6,0,0),(2,2,0),(10,0,15),(1,0,0),(19,26,0),(2,2,0),(10,1,25),(2,2,0),(9,0,0),(11,2,22),(1,22,0),(19,24,0),(2,2,0),(9,0,0),(19,26,0),(21,0,0),(20,0,0),(20,0,0),(7,0,0)]),(0,[(2,0,0),(4,0,0),(5,2,2),(7,0,0)]),(2,[(2,0,0),(2,1,0),(10,2,5),(8,0,0),(19,41,0),(2,1,0),(10,3,40),(2,1,0),(9,0,0),(10,1,28),(2,1,0),(9,0,0),(9,0,0),(3,0,0),(16,0,0),(18,21,0),(2,1,0),(9,0,0),(9,0,0),(8,1,1),(19,27,0),(3,1,0),(3,0,0),(6,0,0),(2,1,0),(9,1,0),(6,0,0),(19,39,0),(2,1,0),(9,0,0),(10,0,38),(3,1,0),(3,0,0),(6,0,0),(2,1,0),(9,1,0),(6,0,0),(19,39,0),(21,0,0),(19,41,0),(21,0,0),(20,0,0),(7,0,0)])]
def src5:List Nat:=[114,101,99,32,108,111,111,112,32,110,32,61,32,105,102,32,110,32,116,104,101,110,32,108,111,111,112,32,40,110,32,45,32,49,41,32,101,108,115,101,32,55,32,105,110,32,108,111,111,112,32,54,48,10]
def Oy:List Bs:=[(0,[(5,1,0),(2,1,0),(1,60,0),(6,0,0),(20,0,0),(7,0,0)]),(0,[(2,0,0),(18,8,0),(4,0,0),(2,0,0),(1,1,0),(13,0,0),(6,0,0),(19,9,0),(1,7,0),(7,0,0)])]
def src6:List Nat:=[100,97,116,97,32,78,97,116,32,61,32,90,32,124,32,83,32,78,97,116,59,10,114,101,99,32,97,100,100,32,97,32,61,32,102,117,110,32,98,32,45,62,32,99,97,115,101,32,97,32,111,102,32,123,32,90,32,45,62,32,98,59,32,83,32,110,32,45,62,32,83,32,40,97,100,100,32,110,32,98,41,32,125,32,105,110,10,108,101,116,32,116,119,111,32,61,32,83,32,40,83,32,90,41,32,105,110,10,108,101,116,32,99,111,109,112,32,61,32,102,117,110,32,102,32,45,62,32,102,117,110,32,103,32,45,62,32,102,117,110,32,120,32,45,62,32,102,32,40,103,32,120,41,32,105,110,10,99,111,109,112,32,40,97,100,100,32,116,119,111,41,32,40,97,100,100,32,116,119,111,41,32,40,83,32,90,41,10]
def Oz:List Bs:=[(0,[(5,1,0),(8,0,0),(8,1,1),(8,1,1),(5,3,0),(2,3,0),(2,1,0),(2,2,0),(6,0,0),(6,0,0),(2,1,0),(2,2,0),(6,0,0),(6,0,0),(8,0,0),(8,1,1),(6,0,0),(20,0,0),(20,0,0),(20,0,0),(7,0,0)]),(0,[(2,0,0),(4,0,0),(5,2,2),(7,0,0)]),(2,[(3,0,0),(2,1,0),(10,0,5),(2,0,0),(19,16,0),(2,1,0),(10,1,15),(3,1,0),(2,1,0),(9,0,0),(6,0,0),(2,0,0),(6,0,0),(8,1,1),(19,16,0),(21,0,0),(20,0,0),(7,0,0)]),(0,[(2,0,0),(5,4,1),(7,0,0)]),(1,[(3,0,0),(2,0,0),(5,5,2),(7,0,0)]),(2,[(3,0,0),(3,1,0),(2,0,0),(6,0,0),(6,0,0),(7,0,0)])]
end Go.Ev
end
section
namespace Go.Ev
open Go Go.Proofs.Tryz
noncomputable def noK:By:=fun _ _ _ _=>false
theorem Xm:Da noK Ik:=fun g vs s k u r h=>by cases h
noncomputable def Bz:By:=fnK tbl 100000 noK 400
noncomputable def Oq:Nat→List V→St→Option (V×St):=fn tbl 100000 Ik 400
theorem Cx:Da Bz Oq:=Kv Xm 400
theorem CQ:BK prog Oq:=So JJ JK follows MI 100000 400
noncomputable def GL:T MFn:=T.upd none tbl 152
theorem Xn:Ie prog ty ibs (Bm ty ibs) GL:=by
 intro g f h;unfold GL at h;rw[T.get_upd]at h;split at h
 ·cases h
 ·exact MI g f h
noncomputable def EI (src:List Nat):Bool:=Bz 13 [.c (.s src)] KS.zero fun v sP=>isP v fun p=>Nat.beq (Ad p) 6&& BR sP (mkB p 0 0) fun sQ=>
 Bz 152 [.a p] sQ fun v s=>isI 11 v&& CP sQ s sQ.nb
noncomputable def EJ (src:List Nat) (L:List Bs):Bool:=Bz 13 [.c (.s src)] KS.zero fun v sP=>isP v fun p=>BR sP (mkB p 0 0) fun sQ=>
 Bz 153 [.a p] sQ (fun v s=>isT v&& CP sQ s sQ.nb)&&
 fnK GL 100000 (Kw 152 [.a p] sQ (unT 11)) 400 154 [.a p] sP fun v sC=>FQ v fun b=>Bz 155 [.c b] sC fun v sG=>FQ v fun f=>
  GK (Cj sG) L f&& Bz 156 [.c f] sG fun v s=>isT v&& CP sG s sG.nb
structure PipeI (src:List Nat) (L:List Bs) (p:List S) (b f:S) (uP uC uG:St):Prop where
 parse:Ent prog 13 [.c (.s src)] St.zero (.t [.a p,.c (.i (-1))]) uP
 infer:EntK prog 152 [.a p] (alloc uP p) (unT 11)
 covered:EntK prog 153 [.a p] (alloc uP p) (.c (.b true))
 close:Ent prog 154 [.a p] uP (.t [.c b,.c (.b true)]) uC
 gen:Ent prog 155 [.c b] uC (.t [.c f,.c (.b true)]) uG
 verify:EntK prog 156 [.c f] uG (.c (.b true))
 len:p.length=6
 funs:GK (cellsAt uG) L f=true
theorem Ef:RS KS.zero St.zero:=by
 have hall:∀ (α:Type) (a:α) (n x:Nat),(AA α n x).g (Tw.all a n)=a:=by
  intro α a n;induction n with
  |zero=>intro x;rfl
  |succ n ih=>
   intro x
   show(Ln.comp (sel (Tw α n) (Nat.mod x 8)) (AA α n (Nat.div x 8))).g (N8.all (Tw.all a n))=a
   rw[Ln.comp_g];have:(sel (Tw α n) (Nat.mod x 8)).g (N8.all (Tw.all a n))=Tw.all a n:=by
    have h1:Nat.mod x 8 < 8:=Nat.mod_lt _ (by decide);generalize Nat.mod x 8=d at h1;have h2:d=0∨d=1∨d=2∨d=3∨d=4∨d=5∨d=6∨d=7:=by omega
    rcases h2 with rfl |rfl |rfl |rfl |rfl |rfl |rfl |rfl <;> rfl
   rw[this,ih]
 have hg:∀x,AI KS.zero x=none:=by
  intro x
  show(Bd x).g HK.zero=none
  by_cases h:x≤262143
  ·rw[blk_ok h]
   show(Ln.comp (AA (Tw (Option KB) 3) 3 (x%512)) (AA (Option KB) 3 (x/512))).g HK.zero=none
   rw[Ln.comp_g];have e1:(AA (Tw (Option KB) 3) 3 (x%512)).g HK.zero=Tw.all none 3:=hall _ _ _ _;rw[e1];exact hall _ _ _ _
  ·rw[Kl h]
 exact⟨rfl,rfl,rfl,fun x=>by rw[hg];exact T.get_lf x,fun x b h=>by rw[hg]at h;cases h⟩
theorem WF.alloc {u:St}(h:WF u) (l:List S):WF (Ev.alloc u l):=by
 have hget:∀x,(Ev.alloc u l).h.get x=if x=u.nb then some (⟨l,0,0⟩:Bk)else u.h.get x:=fun x=>by show(T.upd (some ⟨l,0,0⟩) u.h u.nb).get x=_;rw[T.get_upd]
 refine⟨fun x b f hx hf=> ?_,fun x b hx=> ?_,fun x b hx=> ?_⟩
 ·rw[hget]at hx;split at hx
  ·simp only[Option.some.injEq]at hx;subst hx;cases hf
  ·exact h.fam x b f hx hf
 ·rw[hget]at hx;split at hx
  ·simp only[Option.some.injEq]at hx;subst hx;exact Nat.zero_le _
  ·exact h.nfl x b hx
 ·rw[hget]at hx
  show x < Nat.succ u.nb
  split at hx
  ·rename_i e;subst e;exact Nat.lt_succ_self _
  ·exact Nat.lt_succ_of_lt (h.lt x b hx)
theorem FR {g:Nat}{vs:List V}{sQ:KS}{u:St}(r:RS sQ u) {chk:V→Bool}{v':V}(hw:∀v,chk v=true→Wk v v') (h:Bz g vs sQ (fun v s=>chk v&& CP sQ s sQ.nb)=true):EntK prog g vs u v':=by
 obtain⟨v,s',u',h1,h2,h3⟩:=Cx g vs sQ _ u r h;obtain⟨h4,h5⟩:=(Bool.and_eq_true _ _).mp h3;refine Xe (CO CQ h1) (hw v h4) fun x b hx hb=> ?_;rw[←IU r h2 h5 x (by rw[←r.nb];exact hx)];exact hb
theorem wkT (v:V) (h:isT v=true):Wk v (.c (.b true)):=by rw[Xh h];exact Xi true
theorem Fj {src:List Nat}{L:List Bs}(h1:EI src=true) (h2:EJ src L=true):∃p b f uP uC uG,PipeI src L p b f uP uC uG:=by
 obtain⟨v,sP,uP,a1,a2,a3⟩:=Cx _ _ _ _ _ Ef h1;obtain⟨p,rfl,a4⟩:=Ee a3;obtain⟨a40,a4⟩:=(Bool.and_eq_true _ _).mp a4;have a41:p.length=6:=by rw[←AB];exact Nat.eq_of_beq_eq_true a40
 obtain⟨sQ,a5,a6⟩:=a2.alloc a4;have hI:=FR a6 (fun v=>Om) a5;obtain⟨v,sP',uP',b1,b2,b3⟩:=Cx _ _ _ _ _ Ef h2;rw[a1]at b1;simp only[Option.some.injEq,Prod.mk.injEq]at b1;obtain⟨rfl,rfl⟩:=b1;obtain⟨p',hp',b4⟩:=Ee b3;simp only[V.t.injEq,List.cons.injEq,V.a.injEq,and_true]at hp';subst hp';obtain⟨sQ',b5,b6⟩:=b2.alloc b4;obtain⟨c1,c2⟩:=(Bool.and_eq_true _ _).mp b5;have hC:=FR b6 wkT c1;obtain⟨v,sC,uC,d1,d2,d3⟩:=Kv (tbl:=GL) (N:=100000) (Xj (g₀:=152) (vs₀:=[.a p]) (v₀:=unT 11) b6) 400 _ _ _ _ _ b2 c2;obtain⟨b,rfl,d4⟩:=IV d3;obtain⟨v,sG,uG,e1,e2,e3⟩:=Cx _ _ _ _ _ d2 d4;obtain⟨f,rfl,e4⟩:=IV e3;obtain⟨e5,e6⟩:=(Bool.and_eq_true _ _).mp e4;refine⟨p,b,f,uP,uC,uG,CO CQ a1,hI,hC,?_,CO CQ e1,FR e2 wkT e6,a41,Xl (fun x o n l h=>e2.cells h) e5⟩;intro ρ w cargs hl hr;have hext:=Xk hI (hr.wf.alloc p);have hcall:BK prog (fn GL 100000 (GJ 152 [.a p] (Ev.alloc uP p) (unT 11)) 400):=
  JF JJ JK Xn 100000 (fun call nt hc=>Mz follows JJ JK hc) hext 400
 exact hcall _ _ _ _ _ d1 ρ w cargs hl hr
noncomputable def EL (src:List Nat):Bool:=Bz 35 [.c (.s src)] KS.zero fun v sP=>isP v fun p=>Nat.beq (Ad p) 6&& BR sP (mkB p 0 0) fun sQ=>
 Bz 36 [.a p] sQ fun v s=>isI 11 v&& CP sQ s sQ.nb
noncomputable def EM (src:List Nat):Bool:=Bz 35 [.c (.s src)] KS.zero fun v sP=>isP v fun p=>BR sP (mkB p 0 0) fun sQ=>
 Bz 37 [.a p] sQ (fun v s=>isT v&& CP sQ s sQ.nb)&&
 Bz 38 [.a p] sP fun v sC=>FQ v fun b=>Bz 39 [.c b] sC fun v sG=>FQ v fun f=>Bz 40 [.c f] sG fun v s=>isT v&& CP sG s sG.nb
structure PipeS (src:List Nat) (p:List S) (b f:S) (uP uC uG:St):Prop where
 parse:Ent prog 35 [.c (.s src)] St.zero (.t [.a p,.c (.i (-1))]) uP
 infer:EntK prog 36 [.a p] (alloc uP p) (unT 11)
 covered:EntK prog 37 [.a p] (alloc uP p) (.c (.b true))
 close:Ent prog 38 [.a p] uP (.t [.c b,.c (.b true)]) uC
 gen:Ent prog 39 [.c b] uC (.t [.c f,.c (.b true)]) uG
 verify:EntK prog 40 [.c f] uG (.c (.b true))
 len:p.length=6
theorem Fk {src:List Nat}(h1:EL src=true) (h2:EM src=true):∃p b f uP uC uG,PipeS src p b f uP uC uG:=by
 obtain⟨v,sP,uP,a1,a2,a3⟩:=Cx _ _ _ _ _ Ef h1;obtain⟨p,rfl,a4⟩:=Ee a3;obtain⟨a40,a4⟩:=(Bool.and_eq_true _ _).mp a4;have a41:p.length=6:=by rw[←AB];exact Nat.eq_of_beq_eq_true a40
 obtain⟨sQ,a5,a6⟩:=a2.alloc a4;have hI:=FR a6 (fun v=>Om) a5;obtain⟨v,sP',uP',b1,b2,b3⟩:=Cx _ _ _ _ _ Ef h2;rw[a1]at b1;simp only[Option.some.injEq,Prod.mk.injEq]at b1;obtain⟨rfl,rfl⟩:=b1;obtain⟨p',hp',b4⟩:=Ee b3;simp only[V.t.injEq,List.cons.injEq,V.a.injEq,and_true]at hp';subst hp';obtain⟨sQ',b5,b6⟩:=b2.alloc b4;obtain⟨c1,c2⟩:=(Bool.and_eq_true _ _).mp b5;have hC:=FR b6 wkT c1;obtain⟨v,sC,uC,d1,d2,d3⟩:=Cx _ _ _ _ _ b2 c2;obtain⟨b,rfl,d4⟩:=IV d3;obtain⟨v,sG,uG,e1,e2,e3⟩:=Cx _ _ _ _ _ d2 d4;obtain⟨f,rfl,e4⟩:=IV e3;exact⟨p,b,f,uP,uC,uG,CO CQ a1,hI,hC,CO CQ d1,CO CQ e1,FR e2 wkT e4,a41⟩
end Go.Ev
end
