/- Parts of the proof of FnNoRoom. -/
import Derived.Test.YtfmebaafpfkeiaaGreatZ17
import Derived.Test.YtfmebaafpfkeiaaGreatZ15
import Derived.Test.YtfmebaafpfkeiaaGreatZ14
import Derived.StillTail
import Derived.Test.YtfmebaafpfkeiaaGreatZ18
import Derived.Test.YtfmebaafpfkeiaaGreatZ16
import Derived.IntWalk
import Derived.Test.YtfmebaafpfkeiaaGreatZ12
import Derived.StillTailTactics
set_option linter.unusedVariables false
set_option linter.unusedSimpArgs false
section
namespace Go.Proofs.YtfmebaafpfkeiaaGreat
open Go.RowKit
structure OwnV (base :Nat) (w :World) (fv hv sv cv ov :Value) (L :VmL) :Prop where
 f :OwnF base w fv L.fs
 z :w.ownsRow base 3 1 hv L.zs.length (L.zs.map (Value.int .i64))
 s :w.ownsRow base 3 1 sv L.ss.length (L.ss.map (Value.int .i64))
 c :w.ownsRow base 63 3 cv L.cs.length (flat O3.enc L.cs)
 o :w.ownsRow base 3 1 ov L.os.length (L.os.map (Value.int .i64))
theorem RdV.forms {B :Nat} {w :World} {fv hv sv cv ov :Value} {L :VmL} (h :RdV B w fv hv sv cv ov L) : ∃fa fc ha hc sa sc ca cc oa oc,fv= .slice fa L.fs.length fc∧hv= .slice ha L.zs.length hc∧sv= .slice sa L.ss.length sc∧cv= .slice ca L.cs.length cc∧ov= .slice oa L.os.length oc :=by
 obtain ⟨fa,fc,e1⟩ :=h.f.form
 obtain ⟨ha,hc,e2⟩ :=h.z.form
 obtain ⟨sa,sc,e3⟩ :=h.s.form
 obtain ⟨ca,cc,e4⟩ :=h.c.form
 obtain ⟨oa,oc,e5⟩ :=h.o.form
 exact ⟨fa,fc,ha,hc,sa,sc,ca,cc,oa,oc,e1,e2,e3,e4,e5⟩
theorem RdV.of_own {base :Nat} {w :World} {fv hv sv cv ov :Value} {L :VmL} (h :OwnV base w fv hv sv cv ov L) :RdV w.heap.size w fv hv sv cv ov L :=
 ⟨RdF.of_own h.f,Rd.of_own h.z,Rd.of_own h.s,RdE.of_own O3.enc_len h.c,Rd.of_own h.o⟩
theorem OwnV.below {base :Nat} {w w' :World} {fv hv sv cv ov :Value} {L :VmL} (h :OwnV base w fv hv sv cv ov L) (hb :Below w.heap.size w w') :OwnV base w' fv hv sv cv ov L :=
 ⟨h.f.below hb,own_below h.z hb (own_lt h.z),own_below h.s hb (own_lt h.s),own_below h.c hb (own_lt h.c),own_below h.o hb (own_lt h.o)⟩
theorem OwnF.setCell {base :Nat} {w :World} {v :Value} {fs :List F2} (h :OwnF base w v fs) {a :Addr} (ha :a.block < base) (u :Value) :OwnF base (w.setCell a u) v fs :=by
 obtain ⟨fl,h1,h2,h3,h4⟩ :=h
 exact ⟨fl,ownsRow_setCell_below h1 ha u,h2,fun j a b=> ⟨(h3 j a b).1,ownsRow_setCell_below (h3 j a b).2 ha u⟩,h4⟩
structure Tv (w :World) (g :Nat) (A Z C :Array Value) :Prop where
 k1 :Bx w g A
 k2 :Bx w (g+1) Z
 k3 :Bx w (g+2) C
theorem Tv.below {w w' :World} {g :Nat} {A Z C :Array Value} (t :Tv w g A Z C) (hb :Below w.heap.size w w') :Tv w' g A Z C :=⟨t.k1.below hb t.k1.1,t.k2.below hb t.k2.1,t.k3.below hb t.k3.1⟩
theorem Tv.set {w :World} {g :Nat} {A Z C :Array Value} (t :Tv w g A Z C) (i :Nat) (hi :i < C.size) (u :Value) :Tv (w.setCell ⟨g+2,i,none⟩ u) g A Z (C.setIfInBounds i u) :=
 ⟨t.k1.grown (grownBy.setCell w (g+2) i u) (fun h=> by have :=Option.some.inj h;omega),t.k2.grown (grownBy.setCell w (g+2) i u) (fun h=> by have :=Option.some.inj h;omega),t.k3.put i hi u⟩
end Go.Proofs.YtfmebaafpfkeiaaGreat
end
section
namespace Go.Proofs.YtfmebaafpfkeiaaGreat
open Go.RowKit
theorem Rd.grow {B :Nat} {k :IntKind} {w W :World} {row :Option Nat} {v :Value} {zs :List Int} (h :Rd B k w v zs) (hg :w.grownBy W row) (hne : ∀i,v.ownBlock=some i→some i≠row) :Rd W.heap.size k W v zs :=by
 rcases h with h | ⟨b,off,cap,rfl,h2,h3,h4,h5⟩
 ·exact .inl h
 ·have hl :=Nat.lt_of_lt_of_le h3 hg.size
  exact .inr ⟨b,off,cap,rfl,hl,hl,h4,fun j hj=> (World.cell?_of_block (hg.block b h3 (hne b rfl))).trans (h5 j hj)⟩
abbrev slv (g n cap :Nat) :Value := .slice (some ⟨g,0,none⟩) n cap
theorem own_slv {base :Nat} {e :TypeId} {sz n :Nat} {w :World} {v :Value} {xs :List Value} (h :w.ownsRow base e sz v n xs) (hn :0 < n) : ∃g cap,v=slv g n cap∧base≤g∧g < w.heap.size :=by
 rcases h.2 with ⟨_,h0⟩ | ⟨g,cap,cur,rfl,hb,_⟩
 ·omega
 ·exact ⟨g,cap,rfl,(h.lt g rfl).1,(h.lt g rfl).2⟩
structure RunV (base :Nat) (w :World) (g gs gc :Nat) (fv hv ov :Value) (p q :Nat) (L :VmL) :Prop where
 bx :Bx w g #[fv,hv, .int .i64 L.h, .int .i64 L.b, .int .i64 L.n,slv gs L.ss.length p,slv gc L.cs.length q,ov, .int .i64 L.code, .bool L.each]
 hb :base≤w.heap.size
 hg :base≤g
 f :RdF base w fv L.fs
 z :Rd w.heap.size .i64 w hv L.zs
 s :w.ownsRow base 3 1 (slv gs L.ss.length p) L.ss.length (L.ss.map (Value.int .i64))
 c :w.ownsRow base 63 3 (slv gc L.cs.length q) L.cs.length (flat O3.enc L.cs)
 o :w.ownsRow base 3 1 ov L.os.length (L.os.map (Value.int .i64))
 n1 :g≠gs
 n2 :g≠gc
 n3 :gs≠gc
 oa : ∀k,ov.ownBlock=some k→k≠g∧k≠gs∧k≠gc
 za : ∀k,hv.ownBlock=some k→k≠g∧k≠gs∧k≠gc∧ov.ownBlock≠some k
theorem RunV.below {base :Nat} {w w' :World} {g gs gc :Nat} {fv hv ov :Value} {p q :Nat} {L :VmL} (h :RunV base w g gs gc fv hv ov p q L) (hb :Below w.heap.size w w') :RunV base w' g gs gc fv hv ov p q L :=
 ⟨h.bx.below hb h.bx.1,Nat.le_trans h.hb hb.size,h.hg,h.f.below hb h.hb,(h.z.below' hb).mono hb.size,own_below h.s hb (own_lt h.s),own_below h.c hb (own_lt h.c),own_below h.o hb (own_lt h.o),h.n1,h.n2,h.n3,h.oa,h.za⟩
theorem RunV.lts {base :Nat} {w :World} {g gs gc :Nat} {fv hv ov :Value} {p q :Nat} {L :VmL} (h :RunV base w g gs gc fv hv ov p q L) :(base≤gs∧gs < w.heap.size)∧(base≤gc∧gc < w.heap.size) :=⟨h.s.lt gs rfl,h.c.lt gc rfl⟩
theorem RunV.zlt {base :Nat} {w :World} {g gs gc :Nat} {fv hv ov :Value} {p q :Nat} {L :VmL} (h :RunV base w g gs gc fv hv ov p q L) (hz :L.zs≠ []) : ∀k,hv.ownBlock=some k→k < w.heap.size :=by
 rcases h.z with ⟨h0,_⟩ | ⟨b,off,cap,rfl,_,h3,_⟩
 ·exact absurd h0 hz
 ·intro k hk;cases hk;exact h3
theorem RunV.off {base :Nat} {w :World} {g gs gc :Nat} {fv hv ov :Value} {p q :Nat} {L :VmL} (h :RunV base w g gs gc fv hv ov p q L) {i :Nat} (hi : ∀k,ov.ownBlock=some k→k≠i) :ov.ownBlock=none∨ov.ownBlock≠some i :=by
 rcases hv :ov.ownBlock with _ | k
 ·exact .inl rfl
 ·exact .inr (fun e=> hi k hv (Option.some.inj e))
theorem RunV.stack {base :Nat} {w w1 :World} {g gs gc :Nat} {fv hv ov :Value} {p q :Nat} {L :VmL} (h :RunV base w g gs gc fv hv ov p q L) (hz :L.zs≠ []) {v' :Value} {ss :List Int}
  (hg :w.grownBy w1 (some gs)) (ho :w1.ownsRow base 3 1 v' ss.length (ss.map (Value.int .i64))) (hn :0 < ss.length) (hat : ∀k,v'.ownBlock=some k→k=gs∨w.heap.size≤k) :
  ∃gs' p',v'=slv gs' ss.length p'∧RunV base (w1.setCell ⟨g,5,none⟩ v') g gs' gc fv hv ov p' q {L with ss :=ss}∧Below base w (w1.setCell ⟨g,5,none⟩ v') :=by
 obtain ⟨gs',p',rfl,hb1,hl1⟩ :=own_slv ho hn
 obtain ⟨⟨l1,l2⟩,l3,l4⟩ :=h.lts
 have hgl :=h.bx.1
 have n1 :=h.n1
 have n2 :=h.n2
 have n3 :=h.n3
 have hx :=hat gs' rfl
 have hng :g≠gs' :=by rcases hx with e | e <;> omega
 have hnc :gs'≠gc :=by rcases hx with e | e <;> omega
 have hw :w.heap.size≤w1.heap.size :=hg.size
 have hbw :=h.hb
 have k1 :=h.bx.grown hg (fun e=> n1 (Option.some.inj e))
 have k2 :=k1.set 5 (by simp) (slv gs' ss.length p')
 have b1 :Below base w w1 :=Below.of_grown hg h.hb (fun k e=> by cases e;exact l1)
 have b2 :=b1.setCell (p :=⟨g,5,none⟩) h.hg (slv gs' ss.length p')
 have g2 :=grownBy.setCell w1 g 5 (slv gs' ss.length p')
 refine ⟨gs',p',rfl,⟨k2,by simp;omega,h.hg,h.f.below b2 (Nat.le_refl _),?_,?_,?_,?_,hng,n2,hnc,?_,?_⟩,b2⟩
 ·exact (h.z.grow hg (fun i hi e=> (h.za i hi).2.1 (Option.some.inj e))).grow g2 (fun i hi e=> (h.za i hi).1 (Option.some.inj e))
 ·exact ownsRow_setCell_other ho (fun e=> hng (Option.some.inj e).symm) _
 ·exact ownsRow_setCell_other (h.c.kept hg (.inr (fun e=> n3 (Option.some.inj e).symm))) (fun e=> n2 (Option.some.inj e).symm) _
 ·have hk :=h.o.kept hg (h.off (fun k hk=> (h.oa k hk).2.1))
  exact ownsRow_setCell_other hk (fun e=> (h.oa g e).1 rfl) _
 ·intro k hk
  have :=h.oa k hk
  have :=(h.o.lt k hk).2
  rcases hx with e | e <;> refine ⟨by omega,by omega,by omega⟩
 ·intro k hk
  have :=h.za k hk
  have :=h.zlt hz k hk
  rcases hx with e | e <;> refine ⟨by omega,by omega,by omega,by simp_all⟩
end Go.Proofs.YtfmebaafpfkeiaaGreat
end
section
namespace Go.Proofs.YtfmebaafpfkeiaaGreat
open Go
section
variable {P :Program} {ops :Array Oper} {Q :Exit→Act→World→Prop} {md :Region.Mode} {S :World→Prop} {n :Nat}
def wpAnyT (P :Program) (md :Region.Mode) (ops :Array Oper) (Q :Exit→Act→World→Prop) (S :World→Prop) (n :Nat) :Nat→Array Bool→Act→World→Prop
 | 0,listed,a,w=> Region.seqB md ops (ops.size-n) n listed=true∧wpList P ops Q (ops.toList.drop n) a w
 | f+1,listed,a,w=> Region.ready md ops listed≠ []∧∀i∈Region.ready md ops listed,i < n∧wpOp P ops Q i (fun a' w'=> S w'∧wpAnyT P md ops Q S n f (listed.setIfInBounds i true) a' w') a w
theorem wpAny_of_T : ∀(f :Nat) (listed :Array Bool) (a :Act) (w :World),wpAnyT P md ops Q S n f listed a w→wpAny P md ops Q (f+(ops.size-n)) listed a w
 | 0,listed,a,w,h=> by
  have :=wpAny_of_seq (md :=md) (ops :=ops) (Q' :=Q) (ops.toList.drop n) n listed a w (fun j=> by simp [List.getElem?_drop]) (by simpa using h.1) h.2
  simpa using this
 | f+1,listed,a,w,h=> by
  rw [show f+1+(ops.size-n)=(f+(ops.size-n))+1 by omega]
  exact ⟨fun h0=> absurd h0 h.1,fun i hi=> wpOp_mono (fun a' w' h'=> wpAny_of_T f _ a' w' h'.2) (h.2 i hi).2⟩
theorem wpAnyT_first {i :Nat} {oi :Oper} {v :Value} (hi :ops[i]?=some oi) (hsel : ∀(j :Nat) (o :Oper) cs b,ops[j]?=some o→o.op≠ .select cs b)
  (hQ : ∀c a w,Q (.panic c) (a.put oi.dst v) w→Q (.panic c) a w)
  (hs :Region.sinkB md ops n=true) (hc :Region.chainB md ops n=true) (hn :n < ops.size) (hin :i < n) :
  ∀(f :Nat) (listed :Array Bool) (a :Act) (w :World),HeadInv md ops n listed→
   (∀j oj,ops[j]?=some oj→j≠i→listed.getD j true=false→(∀e∈oj.after,Region.binds md e=true→e.on≠i)→oi.apart ops oj=true)→
   i∈Region.ready md ops listed→YieldsIf P ops S oi v a→S w→
   wpAnyT P md ops Q S n f (listed.setIfInBounds i true) (a.put oi.dst v) w→wpAnyT P md ops Q S n (f+1) listed a w :=by
 intro f
 induction f with
 | zero=>
  intro listed a w inv _ hr hy hS H
  have hun :=(mem_ready.1 hr).1
  refine ⟨fun h=> (by rw [h] at hr;cases hr),fun j hj=> ?_⟩
  have hjn :j < n :=by
   rcases Nat.lt_or_ge j n with h | h
   ·exact h
   ·exact absurd hj (tail_waits hs hc hn inv _ i rfl hin hun j h)
  refine ⟨hjn,?_⟩
  by_cases hji :j=i
  ·subst hji;exact hy.wpOp hi hS ⟨hS,H⟩
  ·have :=seqB_ready H.1 j (ready_mono hj hji)
   omega
 | succ f ih=>
  intro listed a w inv hfree hr hy hS H
  have hun :=(mem_ready.1 hr).1
  refine ⟨fun h=> (by rw [h] at hr;cases hr),fun j hj=> ?_⟩
  have hjn :j < n :=by
   rcases Nat.lt_or_ge j n with h | h
   ·exact h
   ·exact absurd hj (tail_waits hs hc hn inv _ i rfl hin hun j h)
  refine ⟨hjn,?_⟩
  by_cases hji :j=i
  ·subst hji;exact hy.wpOp hi hS ⟨hS,H⟩
  ·have h1 :=(H.2 j (ready_mono hj hji)).2
   obtain ⟨hjun,oj,hoj,hall⟩ :=mem_ready.1 hj
   have hnot : ∀e∈oj.after,Region.binds md e=true→e.on≠i :=fun e he hb heq=> by
    have h1 :=hall e he hb
    rw [heq,getD_both hun] at h1
    cases h1
   have h2 :=wpOp_putIf hoj (hfree j oj hoj hji hjun hnot) (fun cs b=> hsel i oi cs b hi) (fun cs b=> hsel j oj cs b hoj) hQ hy h1
   have hfree' : ∀k ok,ops[k]?=some ok→k≠i→(listed.setIfInBounds j true).getD k true=false→
     (∀e∈ok.after,Region.binds md e=true→e.on≠i)→oi.apart ops ok=true :=fun k ok hk hki hun hno=> by
    refine hfree k ok hk hki ?_ hno
    by_cases hjk :j=k
    ·subst hjk;exact hjun
    ·rw [getD_set_ne true hjk] at hun;exact hun
   refine wpOp_mono (fun a' w' h3=> ⟨h3.2.1,ih (listed.setIfInBounds j true) a' w' (inv.set hj hjn) hfree' (ready_mono hr (Ne.symm hji)) h3.1 h3.2.1 ?_⟩) h2
   rw [Array.setIfInBounds_comm _ _ hji]
   exact h3.2.2
def headB (md :Region.Mode) (ops :Array Oper) (n :Nat) (listed :Array Bool) :Bool :=
 decide (listed.size=ops.size)&&((List.range ops.size).all (fun j=> !listed.getD j false || (match ops[j]? with | some o=> o.after.all fun e=> !Region.binds md e || listed.getD e.on false | none=> true))&&
  (List.range ops.size).all (fun t=> decide (t < n) || !listed.getD t true))
theorem headB_inv {listed :Array Bool} (h :headB md ops n listed=true) :HeadInv md ops n listed :=by
 simp only [headB,Bool.and_eq_true,decide_eq_true_eq,List.all_eq_true,List.mem_range,Bool.or_eq_true,Bool.not_eq_true'] at h
 obtain ⟨h1,h2,h3⟩ :=h
 refine ⟨h1,fun j oj hj hl e he hb=> ?_,fun t ht hts=> ?_⟩
 ·have hlt :j < ops.size :=(Array.getElem?_eq_some_iff.1 hj).1
  rcases h2 j hlt with h | h
  ·rw [h] at hl;cases hl
  ·rw [hj] at h
   simp only [Array.all_eq_true',Bool.or_eq_true,Bool.not_eq_true'] at h
   rcases h e he with h | h
   ·rw [h] at hb;cases hb
   ·exact h
 ·rcases h3 t hts with h | h
  ·omega
  ·exact h
def tailB (md :Region.Mode) (ops :Array Oper) (n :Nat) (i :Nat) (listed :Array Bool) :Bool :=
 Region.noSelect ops&&(Region.sinkB md ops n&&(Region.chainB md ops n&&(decide (n < ops.size)&&(decide (i < n)&&headB md ops n listed))))
theorem wpAnyT_take {i :Nat} {oi :Oper} {v :Value} {fuel :Nat} {listed :Array Bool} {a :Act} {w :World} (hi :ops[i]?=some oi)
  (hs :tailB md ops n i listed=true) (hf :Region.free md ops listed i=true) (hr :(Region.ready md ops listed).contains i=true)
  (hQ : ∀c a w,Q (.panic c) (a.put oi.dst v) w→Q (.panic c) a w) (hy :YieldsIf P ops S oi v a) (hS :S w)
  (h :wpAnyT P md ops Q S n fuel (listed.setIfInBounds i true) (a.put oi.dst v) w) :wpAnyT P md ops Q S n (fuel+1) listed a w :=by
 simp only [tailB,Bool.and_eq_true,decide_eq_true_eq] at hs
 obtain ⟨h1,h2,h3,h4,h5,h6⟩ :=hs
 exact wpAnyT_first hi (Region.noSelect_spec h1) hQ h2 h3 h4 h5 fuel listed a w (headB_inv h6) (Region.free_spec hi hf) (by simpa using hr) hy hS h
def AllReadyT (P :Program) (md :Region.Mode) (ops :Array Oper) (Q :Exit→Act→World→Prop) (S :World→Prop) (n :Nat) (fuel :Nat) (listed :Array Bool) (a :Act) (w :World) (rs :List Nat) :Prop :=
 ∀i∈rs,wpOp P ops Q i (fun a' w'=> S w'∧wpAnyT P md ops Q S n fuel (listed.setIfInBounds i true) a' w') a w
theorem AllReadyT.nil {fuel :Nat} {listed :Array Bool} {a :Act} {w :World} :AllReadyT P md ops Q S n fuel listed a w [] :=fun _ h=> by cases h
theorem AllReadyT.cons {fuel :Nat} {listed :Array Bool} {a :Act} {w :World} {i :Nat} {o :Oper} {rs :List Nat} (ho :ops[i]?=some o)
  (h : ∀K' :Act→World→Prop,Shut (∀a w,S w→(S w→wpAnyT P md ops Q S n fuel (listed.setIfInBounds i true) a w)→K' a w)→if Region.wanted o (yielded ops a.tmps)=true then Oper.wp P o a w K' Q else K' (a.put o.dst undef) w)
  (hs :AllReadyT P md ops Q S n fuel listed a w rs) :AllReadyT P md ops Q S n fuel listed a w (i ::rs) :=fun j hj=> by
 rcases List.mem_cons.1 hj with rfl | hj
 ·exact wpOp_step ho (fun K' hK=> h K' (fun a w hS hW=> hK a w ⟨hS,hW hS⟩))
 ·exact hs j hj
theorem wpAnyT_ready {rs :List Nat} {fuel :Nat} {listed :Array Bool} {a :Act} {w :World} (hr :Region.ready md ops listed=rs) (hne :(rs≠ [])∧∀i∈rs,i < n)
  (h :AllReadyT P md ops Q S n fuel listed a w rs) :wpAnyT P md ops Q S n (fuel+1) listed a w :=⟨hr▸hne.1,fun i hi=> ⟨hne.2 i (hr▸hi),h i (hr▸hi)⟩⟩
theorem wpAnyT_done {listed :Array Bool} {a :Act} {w :World} (hr :Region.seqB md ops (ops.size-n) n listed=true) (h :wpList P ops Q (ops.toList.drop n) a w) :wpAnyT P md ops Q S n 0 listed a w :=⟨hr,h⟩
theorem wp_region_tail_drew (n :Nat) {id :Nat} {a :Act} {w :World} (hm :P.follows .mixedOrders=true) (hn :decide (n≤ops.size)=true) (hS :S w.drew)
  (h :S w.drew→wpAnyT P .any ops Q S n n (Array.replicate ops.size false) a w.drew) :(Code.region id ops true).wp P Q a w :=by
 have hn' :n≤ops.size :=by simpa using hn
 refine wp_region_any hm ?_
 have :=wpAny_of_T _ _ _ _ (h hS)
 rw [show n+(ops.size-n)=ops.size by omega] at this
 exact this
end
section
variable {P :Program} {ops :Array Oper} {Q :Exit→Act→World→Prop} {md :Region.Mode} {S :World→Prop} {n :Nat}
theorem tkT {i :Nat} {oi :Oper} {v :Value} {fuel :Nat} {listed :Array Bool} {a a' :Act} {w :World} (h :wpAnyT P md ops Q S n fuel (listed.setIfInBounds i true) a' w) (hi :ops[i]?=some oi :=by (simp only [List.getElem?_toArray,List.getElem?_cons_succ,List.getElem?_cons_zero];rfl))
  (hs :tailB md ops n i listed=true :=by kernel_rfl) (hf :Region.free md ops listed i=true :=by kernel_rfl) (hr :(Region.ready md ops listed).contains i=true :=by kernel_rfl)
  (hQ : ∀c a w,Q (.panic c) (a.put oi.dst v) w→Q (.panic c) a w :=by exact fun _ _ _ h=> h) (hy :YieldsIf P ops S oi v a :=by exact Or.inl ⟨by rfl,by (intro w hSw;(try dsimp only at hSw);go_simp;(try with_reducible rfl))⟩) (hS :S w :=by assumption)
  (ha :a.put oi.dst v=a' :=by first | (simp only [Act.put,List.setIfInBounds_toArray,List.set_cons_zero,List.set_cons_succ];done) | (simp only [Act.put,List.setIfInBounds_toArray,List.set_cons_zero,List.set_cons_succ];rfl) | rfl) :wpAnyT P md ops Q S n (fuel+1) listed a w :=by
 subst ha
 exact wpAnyT_take hi hs hf hr hQ hy hS h
theorem bkT {fuel :Nat} {listed :Array Bool} {a a' :Act} {w :World} {K :Act→World→Prop} (hK :Shut (∀a w,S w→(S w→wpAnyT P md ops Q S n fuel listed a w)→K a w)) (hS :S w) (h :S w→wpAnyT P md ops Q S n fuel listed a' w)
  (ha :a=a' :=by first | (simp only [Act.put,List.setIfInBounds_toArray,List.set_cons_zero,List.set_cons_succ];done) | (simp only [Act.put,List.setIfInBounds_toArray,List.set_cons_zero,List.set_cons_succ];rfl) | rfl) :K a w :=by
 subst ha
 exact hK.out _ _ hS h
theorem rdT {i :Nat} {o :Oper} {fuel :Nat} {listed :Array Bool} {a :Act} {w :World} (h : ∀K' :Act→World→Prop,Shut (∀a w,S w→(S w→wpAnyT P md ops Q S n fuel (listed.setIfInBounds i true) a w)→K' a w)→if Region.wanted o (yielded ops a.tmps)=true then Oper.wp P o a w K' Q else K' (a.put o.dst undef) w)
  (hr :Region.ready md ops listed= [i] :=by kernel_rfl) (hn :i < n :=by decide) (ho :ops[i]?=some o :=by (simp only [List.getElem?_toArray,List.getElem?_cons_succ,List.getElem?_cons_zero];rfl)) :wpAnyT P md ops Q S n (fuel+1) listed a w :=
 wpAnyT_ready hr (by simpa using hn) (AllReadyT.cons ho h AllReadyT.nil)
end
end Go.Proofs.YtfmebaafpfkeiaaGreat
end
section
namespace Go.Proofs.YtfmebaafpfkeiaaGreat
open Go.RowKit
theorem own_take {base :Nat} {e :TypeId} {sz :Nat} {w :World} {g n cap :Nat} {xs :List Value} (h :w.ownsRow base e sz (slv g n cap) n xs) {k :Nat} (hk :k≤n) :w.ownsRow base e sz (slv g k cap) k (xs.take (k*sz)) :=by
 obtain ⟨h1,h2⟩ :=h
 have hm :k*sz≤n*sz :=Nat.mul_le_mul_right _ hk
 refine ⟨by rw [List.length_take];omega,?_⟩
 rcases h2 with ⟨hh,_⟩ | ⟨g',cap',cur,hv,hb,hg,hn,hc,hs,ht⟩
 ·cases hh
 ·cases hv
  refine .inr ⟨g,cap,cur,rfl,hb,hg,by omega,hc,hs,?_⟩
  rw [← ht,List.take_take,Nat.min_eq_left hm]
theorem own_cap {base :Nat} {e :TypeId} {sz :Nat} {w :World} {g n cap :Nat} {xs :List Value} (h :w.ownsRow base e sz (slv g n cap) n xs) :n≤cap :=by
 rcases h.2 with ⟨hh,_⟩ | ⟨g',cap',cur,hv,hb,hg,hn,_⟩
 ·cases hh
 ·cases hv
  exact hn
theorem step_app1 {P :Program} {w :World} {o :Oper} {a :Act} {Q :Exit→Act→World→Prop} {K :Act→World→Prop} (s x :Operand) (t :TypeId)
  (ho :o.op= .call {callee := .builtin .append,args := #[s,x],argTypes := #[t,t]})
  (base :Nat) (e :TypeId) (i :TypeInfo) (z :Value) (size bytes :Nat) (ht :P.underlying t=some (.slice e)) (hi :P.info? e=some i) (hz :i.zero=some z)
  (hsize :i.size=size) (hby :i.bytes=bytes) (hzs :z.cells.size=size) (hsz :0 < size)
  (v :Value) (n :Nat) (xs :List Value) (hs :a.eval s=v) (hown :w.ownsRow base e size v n xs) (us :Array Value) (hus :us.size=size) (h1 : ∀u∈us.toList,u.oneCell'=true)
  (H :Nat) (hx :a.eval x= .slice (some ⟨H,0,none⟩) 1 1) (hc : ∀j,w.cell? ⟨H,j,none⟩ =us[j]?)
  (h63 :n+1≤maxLen) (hbytes :(n+1)*bytes≤140737488355328) (hbase :base≤w.heap.size)
  (h : ∀v' w',w'.ownsRow base e size v' (n+1) (xs++us.toList)→w.grownBy w' v.ownBlock→(v'.ownBlock=v.ownBlock∨v'.ownBlock=some w.heap.size)→K (a.put o.dst v') w') :
  Oper.wp P o a w K Q :=by
 obtain ⟨v',w',hrun,h2,h3,_,h5⟩ :=run_append_own_at (P :=P) w base t o.type e i z size bytes ht hi hz hsize hby hzs hsz v n xs hown ⟨H,0,none⟩ 1 1 us.toList (by simp [hus]) (by
  intro j u hj
  have hadd :(⟨H,0,none⟩ :Addr).add j=⟨H,j,none⟩ :=by unfold Addr.add;split <;> simp_all
  rw [hadd,hc j]
  simpa using hj) h1 h63 hbytes hbase
 unfold Oper.wp execOp
 simp only [ho,resolve,invoke,builtin,Sem.run_bind,Sem.run_pure,Result.andThen_ok,List.map_toArray,List.map_cons,List.map_nil,hs,hx,hrun]
 exact h v' w' h2 h3 h5
set_option maxHeartbeats 1600000 in
set_option maxRecDepth 100000 in
theorem push_any {base :Nat} {w :World} {g gs gc :Nat} {fv hv ov :Value} {p q :Nat} {L :VmL} (h :RunV base w g gs gc fv hv ov p q L) (hz :L.zs≠ []) (hl :L.ss.length≤4294967296) (t :Nat) (ht :t≤L.ss.length) (x :Int) :
  Calls Tryz.prog 231 #[.pointer (some ⟨g,0,none⟩), .int .i64 t, .int .i64 x] w fun e w'=> e= .returned (.int .i64 (pushL L.ss t x).1)∧
   (∃gs' p',RunV base w' g gs' gc fv hv ov p' q {L with ss :=(pushL L.ss t x).2})∧Below base w w' :=by
 obtain ⟨i0,hi,hz0,hz1,hz2⟩ :=info_parts Tryz.infoI2
 have HH :=Lib.hid h
 have HZ :=Lib.hid hz
 have q5 :=h.bx.2.1 5
 have f1 :=h.bx.2.2
 have y1 :=h.bx.1
 simp at q5
 have hb :=h.hb
 clear h hz
 by_cases hc :600 < (L.ss.length :Int)-t+1
 ·have HP :=Lib.hid (show pushL L.ss t x=(3,L.ss) from if_pos hc)
  go_enter Tryz.func231,Tryz.ntmps231
  go_wp2
  go_ret
  rw [HP.out]
  exact ⟨rfl,⟨gs,p,HH.out⟩,Below.refl _ _⟩
 ·have HP :=Lib.hid (show pushL L.ss t x=(0,L.ss.take (L.ss.length-t)++ [x]) from if_neg hc)
  go_enter Tryz.func231,Tryz.ntmps231
  go_wp2_with fail
  obtain ⟨n,hn⟩ : ∃n,L.ss.length-t=n :=⟨_,rfl⟩
  have e1 :IntKind.i64.wrap ((L.ss.length :Int)-(t :Int))=(n :Int) :=by rw [IntWalk.i64_in _ (by omega)];omega
  have hnp :n≤p :=by have :=own_cap HH.out.s;omega
  refine wp_region_tail_drew 18 (S :=(fun w'=> w'.cell? ⟨g,5,none⟩ =some (slv gs L.ss.length p))) (by kernel_rfl) (by kernel_rfl) (by first | (dsimp only;exact q5) | (exact q5)) (fun hHeld=> ?_)
  refine tkT (i :=0) ?_
  refine tkT (i :=1) ?_
  refine tkT (i :=2) ?_
  refine tkT (i :=3) ?_
  refine tkT (i :=4) ?_
  refine tkT (i :=5) ?_
  refine tkT (i :=6) ?_
  refine tkT (i :=7) ?_
  refine tkT (i :=8) ?_
  refine tkT (i :=9) ?_
  refine tkT (i :=10) ?_
  refine tkT (i :=11) ?_
  refine tkT (i :=12) ?_
  refine tkT (i :=13) ?_
  refine tkT (i :=14) ?_
  refine tkT (i :=15) ?_
  generalize hxd :w.drew=x0 at hHeld
  have hd :Below w.heap.size w x0 :=by rw [← hxd];exact (Below.refl _ _).drew
  have r0 :=HH.out.below hd
  clear hxd
  refine rdT (i :=16) (fun K hK=> ?_)
  go_simp
  generalize hy :x0.alloc _=x1
  obtain ⟨b1,k1⟩ :=Bx.alloc hy
  clear hy
  have r1 :=r0.below b1
  refine bkT hK (by first | (dsimp only;exact (b1.cell (by dsimp only;exact r0.bx.1)).trans hHeld) | (exact (b1.cell (by dsimp only;exact r0.bx.1)).trans hHeld)) (fun hHeld=> ?_)
  clear hK K
  refine wpAnyT_ready (rs := [17]) (by kernel_rfl) (by simp) ?_
  refine AllReadyT.cons (by (simp only [List.getElem?_toArray,List.getElem?_cons_succ,List.getElem?_cons_zero];rfl)) (fun K hK=> ?_) AllReadyT.nil
  rw [if_pos (by rfl)]
  have os :=own_take r1.s (show n≤L.ss.length by omega)
  refine step_app1 _ _ 27 rfl base 3 i0 (.int .i64 0) 1 8 Tryz.underlying27 hi hz0 hz1 hz2 rfl (by decide) _ _ _ rfl os #[.int .i64 x] rfl ?_ x0.heap.size rfl ?_ ?_ ?_ ?_ ?_
  ·simp [Value.oneCell']
  ·exact k1.2.1
  ·unfold maxLen;omega
  ·omega
  ·exact r1.hb
  ·intro v' x2 ho hg hat
   have e2 :(L.ss.map (Value.int .i64)).take (n*1)++ #[.int .i64 x].toList=(L.ss.take n++ [x]).map (Value.int .i64) :=by simp
   rw [e2] at ho
   have hl2 :(L.ss.take n++ [x]).length=n+1 :=by simp;omega
   have R2 :=Lib.hid (r1.stack HZ.out (ss :=L.ss.take n++ [x]) hg (by rw [hl2];exact ho) (by omega) (fun k hk=> by
    rcases hat with e | e
    ·exact .inl (Option.some.inj (hk.symm.trans e))
    ·exact .inr (by have :=Option.some.inj (hk.symm.trans e);omega)))
   have hk2 :=r1.bx.grown hg (fun e=> r1.n1 (Option.some.inj e))
   refine hK.out _ _ (by first | (dsimp only;exact hk2.2.1 5) | (exact hk2.2.1 5)) (fun hHeld=> ?_)
   clear hK K
   try simp only [Act.put,List.setIfInBounds_toArray,List.set_cons_zero,List.set_cons_succ]
   have c2 :=hk2.2.1
   have f2 :=hk2.2.2
   have y2 :=hk2.1
   have bb :=(hd.trans (b1.mono hd.size)).mono HH.out.hb
   have BB :=Lib.hid bb
   have hp :=HP.out
   clear bb hg ho hk2 os r1 r0 k1 b1 hd hat
   obtain ⟨gs',p',rfl,R3,b3⟩ :=R2.out
   have R3 :=Lib.hid R3
   clear R2
   refine wpAnyT_done (by kernel_rfl) ?_
   dsimp only [List.drop]
   go_wp2
   go_ret
   have R4 :=R3.out
   rw [hl2] at R4 b3
   exact ⟨rfl,⟨gs',p',R4⟩,BB.out.trans b3⟩
end Go.Proofs.YtfmebaafpfkeiaaGreat
end
section
namespace Go.Proofs.YtfmebaafpfkeiaaGreat
open Go.RowKit
set_option maxHeartbeats 1600000 in
set_option maxRecDepth 100000 in
theorem copyFuns_any {B :Nat} (v :Value) (fs :List F2) (w :World) (hr :RdF B w v fs) (hn :fs.length≤1000) (hm :tot fs≤4294967296) :
  Calls Tryz.prog 147 #[v] w fun e w'=> ∃v',e= .returned v'∧OwnF w.heap.size w' v' fs∧Below w.heap.size w w' :=by
 obtain ⟨ti,hi,hz0,hz1,hz2⟩ :=info_parts Tryz.infoFun
 have HR :=Lib.hid (fun (W :World) (hb :Below w.heap.size w W)=> hr.below' hb)
 obtain ⟨fa,fc,rfl⟩ :=hr.form
 clear hr
 go_enter Tryz.func147,Tryz.ntmps147
 go_wp2_with fail
 generalize hz :w.alloc _=z
 have hown :OwnH w.heap.size z.heap.size z (.slice (some ⟨w.heap.size,0,none⟩) 0 0) [] :=by
  subst hz
  exact OwnH.nil (own_empty rfl (Nat.le_refl _)) (fun q hq=> by cases hq;simp)
 obtain ⟨bz,_⟩ :=Bx.alloc hz
 clear hz
 go_loopw [3,9] (fun s t wr=> ∃(k :Nat),k≤fs.length∧t= .int .i64 k∧Below w.heap.size w wr∧OwnH w.heap.size wr.heap.size wr s (fs.take k)) (fun _ t _=> fs.length-(intOf t).toNat)
 case atStart=> exact ⟨0,Nat.zero_le _,rfl,bz,by simpa using hown⟩
 case round=>
  clear bz hown
  obtain ⟨k,hk,rfl,bb,hown⟩ :=hrel
  by_cases hlt :k < fs.length
  ·obtain ⟨b,off,cap',lv,hs,hB,hbs,hcap,c0,c1,ro⟩ :=(HR.out _ bb).at_ hlt
   cases hs
   obtain ⟨la,lc,rfl⟩ :=ro.form
   have hmem :=tot_mem (List.getElem_mem hlt)
   have hki :(k :Int) < (fs.length :Int) :=by omega
   obtain ⟨va,vc,hv⟩ :=hown.form
   have htl :(fs.take k).length=k :=by rw [List.length_take];omega
   rw [htl] at hv
   subst hv
   go_wp2_with fail
   generalize hx :wr.alloc _=x0
   obtain ⟨bx,k5⟩ :=Bx.alloc hx
   clear hx
   replace hown :OwnH w.heap.size wr.heap.size x0 _ (fs.take k) :=hown.same (fun q _ hq=> bx.block q hq)
   refine wp_region_held_drew (S :=(fun w'=> ∀j,w'.cell? ⟨wr.heap.size,j,none⟩ = #[.int .i64 fs[k].f, .slice la fs[k].os.length lc][j]?)) (by kernel_rfl) (by first | (dsimp only;exact k5.2.1) | (exact k5.2.1)) (fun hHeld=> ?_)
   refine tkH (i :=0) ?_
   refine tkH (i :=1) ?_
   refine tkH (i :=2) ?_
   refine tkH (i :=3) ?_
   refine tkH (i :=4) ?_
   generalize hxd :x0.drew=x1 at hHeld
   have hd :Below x0.heap.size x0 x1 :=by rw [← hxd];exact (Below.refl _ _).drew
   replace k5 :=k5.below hd k5.1
   replace hown :=hown.same (w' :=x1) (fun q _ hq=> hd.block q (Nat.lt_of_lt_of_le hq bx.size))
   replace bx :=bx.trans (hd.mono bx.size)
   clear hxd hd
   refine rdH (i :=5) (fun K hK=> ?_)
   go_simp
   refine (cloneO_any _ fs[k].os x1 (RdE.below' ro bx) (by omega)).mono ?_
   rintro e w2 ⟨u,rfl,ou,b2⟩
   obtain ⟨ua,uc,rfl⟩ :=own_form ou
   refine bkH hK (by first | (dsimp only;exact (k5.below b2 k5.1).2.1) | (exact (k5.below b2 k5.1).2.1)) (fun hHeld=> ?_)
   clear hK K
   replace k5 :=k5.below b2 k5.1
   replace hown :=hown.same (w' :=w2) (fun q _ hq=> b2.block q (Nat.lt_of_lt_of_le hq bx.size))
   have hx2 :=b2.size
   have hx1 :=bx.size
   have hul : ∀q,(Value.slice ua fs[k].os.length uc).ownBlock=some q→wr.heap.size≤q :=fun q hq=> by have :=(ou.lt q hq).1;omega
   replace bx :=bx.trans (b2.mono bx.size)
   refine tkH (i :=6) ?_
   refine rdH (i :=7) (fun K hK=> ?_)
   go_simp
   generalize hy :w2.alloc _=w3
   obtain ⟨b3,k3⟩ :=Bx.alloc hy
   refine bkH hK (by first | (dsimp only;exact (k5.below b3 k5.1).2.1) | (exact (k5.below b3 k5.1).2.1)) (fun hHeld=> ?_)
   clear hK K
   refine wpAnyH_ready (rs := [8]) (by kernel_rfl) (by simp) ?_
   refine AllReadyH.cons (by (simp only [List.getElem?_toArray,List.getElem?_cons_succ,List.getElem?_cons_zero];rfl)) (fun K hK=> ?_) AllReadyH.nil
   rw [if_pos (by rfl)]
   obtain ⟨xs,hrow,hrb⟩ :=hown.row
   have hrow2 :=hrow
   rw [htl] at hrow2
   refine step_app1 _ _ 26 rfl w.heap.size 68 ti (.agg #[.int .i64 0, .slice none 0 0]) 2 32 Tryz.underlying26 hi hz0 hz1 hz2 rfl (by decide) _ _ _ rfl (own_below hrow2 b3 (own_lt hrow2)) #[.int .i64 fs[k].f, .slice ua fs[k].os.length uc] rfl ?_ w2.heap.size rfl ?_ ?_ ?_ ?_ ?_
   ·simp [Value.oneCell']
   ·exact k3.2.1
   ·unfold maxLen;omega
   ·omega
   ·have :=bb.size;have :=b3.size;omega
   ·intro v3 w4 o3 g3 alt
    have g2 :w2.grownBy w4 (Value.slice va k vc).ownBlock :=by
     have :=World.grownBy_alloc w2 (.cells #[.int .i64 fs[k].f, .slice ua fs[k].os.length uc] 68) (Value.slice va k vc).ownBlock
     rw [hy] at this
     exact this.trans' g3
    have hbs0 :=bb.size
    have hw3 :w3.heap.size=w2.heap.size+1 :=by rw [← hy,World.size_alloc]
    have hown3 :=OwnH.snoc (x :=fs[k]) hown (own_base ou (show w.heap.size≤x1.heap.size by omega)) hul (by omega) g2 (fun ys hy=> by rw [htl];exact (own_uniq hy hrow)▸o3) (by rw [← hw3];exact alt)
    rw [List.take_append_getElem hlt] at hown3
    have K6 :=(k5.below b3 k5.1).grown g3 (fun e=> by have :=hrb _ e.symm;omega)
    have BB :=Lib.hid (bb.trans (((bx.trans (b3.mono bx.size)).mono bb.size).trans (Below.of_grown g3 (by have :=b3.size;omega) (fun q hq=> (hrb q hq).1))))
    have H3 :=Lib.hid hown3
    refine hK.out _ _ (by first | (dsimp only;exact K6.2.1) | (exact K6.2.1)) (fun hHeld=> ?_)
    clear hK K K6 hown3 g2 g3 alt o3 hrow hrow2 hrb hy b3 k3 k5 hown ou hul bx b2 bb ro
    try simp only [Act.put,List.setIfInBounds_toArray,List.set_cons_zero,List.set_cons_succ]
    refine tkH (i :=9) ?_
    refine wpAnyH_done (by kernel_rfl) ?_ _
    go_wp2
    go_roundw
    case rel=> exact ⟨k+1,hlt,by go_num,BB.out,H3.out⟩
    case measure=> simp [intOf];omega
  ·have hki : ¬((k :Int) < (fs.length :Int)) :=by omega
   obtain rfl :k=fs.length :=by omega
   rw [List.take_length] at hown
   go_wp2
   go_ret
   exact ⟨_,rfl,hown.to_f,bb⟩
end Go.Proofs.YtfmebaafpfkeiaaGreat
end
section
namespace Go.Proofs.YtfmebaafpfkeiaaGreat
open Go.RowKit
structure Out (base hi :Nat) (w w' :World) :Prop where
 os :w'.os=w.os
 tape :w'.tape=w.tape
 output :w'.output=w.output
 size :w.heap.size≤w'.heap.size
 block : ∀q,q < w.heap.size→(q < base∨hi≤q)→w'.heap[q]?=w.heap[q]?
theorem Out.refl (base hi :Nat) (w :World) :Out base hi w w :=⟨rfl,rfl,rfl,Nat.le_refl _,fun _ _ _=> rfl⟩
theorem Out.grown {base hi :Nat} {w w' w'' :World} {row :Option Nat} (h :Out base hi w w') (g :w'.grownBy w'' row) (hr : ∀q,row=some q→base≤q∧q < hi) :Out base hi w w'' :=
 ⟨g.os.trans h.os,g.tape.trans h.tape,g.output.trans h.output,Nat.le_trans h.size g.size,fun q h1 h2=> (g.block q (Nat.lt_of_lt_of_le h1 h.size) (fun e=> by have :=hr q e.symm;omega)).trans (h.block q h1 h2)⟩
theorem Out.below {base hi :Nat} {w w' :World} (h :Out base hi w w') {B :Nat} (hb :B≤base) (hB :B≤w.heap.size) :Below B w w' :=
 ⟨h.os,h.tape,h.output,h.size,fun q hq=> h.block q (by omega) (.inl (by omega))⟩
theorem flat_set {α :Type} {enc :α→List Value} {xs :List α} {k :Nat} {x :α} (h :k < xs.length) :(xs.set k x).flatMap enc=(xs.take k).flatMap enc++(enc x++(xs.drop (k+1)).flatMap enc) :=by
 rw [List.set_eq_take_append_cons_drop,if_pos h,List.flatMap_append,List.flatMap_cons]
theorem flatF_put {fl :List (Int×Value)} {k :Nat} (hk :k < fl.length) (a :Int) :(flat encFV fl).set (k*2) (.int .i64 a)=flat encFV (fl.set k (a,fl[k].2)) :=by
 have h1 :flat encFV fl=(fl.take k).flatMap encFV++(encFV fl[k]++(fl.drop (k+1)).flatMap encFV) :=by
  have :=flat_set (enc :=encFV) (x :=fl[k]) hk
  rw [List.set_getElem_self] at this
  exact this
 have hl :((fl.take k).flatMap encFV).length=k*2 :=by
  have :=flat_len encFV_len (fl.take k)
  unfold flat at this
  rw [this,List.length_take,Nat.min_eq_left (by omega)]
 rw [h1,List.set_append_right _ _ (by omega),hl,Nat.sub_self]
 unfold flat
 rw [flat_set hk]
 rfl
theorem OwnH.turn {base hi :Nat} {w :World} {v :Value} {fs :List F2} (h :OwnH base hi w v fs) {k :Nat} (hk :k < fs.length) (hhi :hi≤w.heap.size) : ∃(g cap :Nat) (u :Value),v= .slice (some ⟨g,0,none⟩) fs.length cap∧(base≤g∧g < hi)∧(∃c,w.cell? ⟨g,k*2,none⟩ =some c)∧w.cell? ⟨g,k*2+1,none⟩ =some u∧
  w.frozen? ⟨g,k*2,none⟩ =false∧(∀q,u.ownBlock=some q→base≤q∧q < hi)∧(∃ua uc,u= .slice ua fs[k].os.length uc)∧∀(a :Int),(w.setCell ⟨g,k*2,none⟩ (.int .i64 a)).ownsRow base 65 3 u fs[k].os.length (flat O3.enc fs[k].os)∧
  ∀(os' :List O3) (W' :World),os'.length=fs[k].os.length→(w.setCell ⟨g,k*2,none⟩ (.int .i64 a)).grownBy W' u.ownBlock→W'.ownsRow base 65 3 u os'.length (flat O3.enc os')→OwnH base hi W' v (fs.set k ⟨a,os'⟩) :=by
 obtain ⟨fl,⟨h1,h2,h3,h4,h5⟩,h6,h7⟩ :=h
 have hkf :k < fl.length :=by omega
 have hv : ∃g cap,v= .slice (some ⟨g,0,none⟩) fs.length cap :=by
  rcases h1.2 with ⟨_,h0⟩ | ⟨g,cap,cur,hv,_⟩
  ·omega
  ·exact ⟨g,cap,hv⟩
 obtain ⟨g,cap,rfl⟩ :=hv
 have hgb :=(h1.lt g rfl).1
 have hgh :=h6 g rfl
 have hlen :(flat encFV fl).length=fl.length*2 :=flat_len encFV_len fl
 have e0 :=own_cellN h1 (k*2) (by omega)
 have e1 :=own_cellN h1 (k*2+1) (by omega)
 rw [flat_at encFV_len fl k _ (List.getElem?_eq_getElem hkf) 1 (by decide)] at e1
 rw [List.getElem?_eq_getElem (by omega)] at e0
 have hu :=(h3 k hkf hk).2
 have hne :fl[k].2.ownBlock≠some g :=fun hq=> h4 _ (List.getElem_mem hkf) g g rfl hq rfl
 refine ⟨g,cap,fl[k].2,rfl,⟨hgb,hgh⟩,⟨_,e0⟩,e1,own_frozen h1 _,fun q hq=> ⟨(hu.lt q hq).1,h7 _ (List.getElem_mem hkf) q hq⟩,own_form hu,fun a=> ?_⟩
 have gs :=grownBy.setCell w g (k*2) (.int .i64 a)
 refine ⟨hu.kept gs (.inr hne),fun os' W' hl hg ho=> ?_⟩
 have hrow :W'.ownsRow base 68 2 (.slice (some ⟨g,0,none⟩) fs.length cap) fs.length (flat encFV (fl.set k (a,fl[k].2))) :=by
  rw [← flatF_put hkf]
  exact (own_setN h1 (k*2) (by omega) _).kept hg (.inr (fun hh=> hne hh.symm))
 have hoth : ∀j (h :j < fl.length) (h' :j < fs.length),j≠k→W'.ownsRow base 65 3 fl[j].2 fs[j].os.length (flat O3.enc fs[j].os) :=by
  intro j a b hj
  have hjg :fl[j].2.ownBlock≠some g :=fun hq=> h4 _ (List.getElem_mem a) g g rfl hq rfl
  refine ((h3 j a b).2.kept gs (.inr hjg)).kept hg ?_
  cases hq :fl[j].2.ownBlock with
  | none=> exact .inl rfl
  | some p=>
   refine .inr (fun hh=> ?_)
   rcases Nat.lt_or_gt_of_ne hj with hjk | hjk
   ·exact (List.pairwise_iff_getElem.1 h5 j k a hkf hjk) p p hq hh.symm rfl
   ·exact (List.pairwise_iff_getElem.1 h5 k j hkf a hjk) p p hh.symm hq rfl
 have hmem : ∀x∈fl.set k (a,fl[k].2),∃y∈fl,x.2=y.2 :=by
  intro x hx
  rcases List.mem_or_eq_of_mem_set hx with hx | rfl
  ·exact ⟨x,hx,rfl⟩
  ·exact ⟨_,List.getElem_mem hkf,rfl⟩
 refine ⟨fl.set k (a,fl[k].2),⟨by rw [List.length_set];exact hrow,by simp [h2],fun j b c=> ?_,fun x hx=> ?_,?_⟩,h6,fun x hx q hq=> ?_⟩
 ·simp only [List.length_set] at b c
  by_cases hj :j=k
  ·subst hj
   simp only [List.getElem_set_self]
   exact ⟨trivial,ho⟩
  ·simp only [List.getElem_set_ne (fun h=> hj h.symm)]
   exact ⟨(h3 j b c).1,hoth j b c hj⟩
 ·obtain ⟨y,hy,e⟩ :=hmem x hx
  rw [e]
  exact h4 y hy
 ·rw [List.pairwise_iff_getElem]
  intro i j hi hj hij
  simp only [List.length_set] at hi hj
  have e : ∀i (hi :i < fl.length),((fl.set k (a,fl[k].2))[i]'(by simp;omega)).2=fl[i].2 :=by
   intro i hi
   rw [List.getElem_set]
   split
   ·rename_i h;subst h;rfl
   ·rfl
  rw [e i hi,e j hj]
  exact List.pairwise_iff_getElem.1 h5 i j hi hj hij
 ·obtain ⟨y,hy,e⟩ :=hmem x hx
  exact h7 y hy q (e▸hq)
end Go.Proofs.YtfmebaafpfkeiaaGreat
end
section
namespace Go.Proofs.YtfmebaafpfkeiaaGreat
open Go.RowKit
theorem flat_take {α :Type} {enc :α→List Value} {size :Nat} (hs : ∀x,(enc x).length=size) : ∀(xs :List α) (k :Nat),(flat enc xs).take (k*size)=flat enc (xs.take k)
 | [],k=> by simp [flat]
 | x ::xs,0=> by simp [flat]
 | x ::xs,k+1=> by
  have ih :=flat_take hs xs k
  unfold flat at ih ⊢
  rw [List.flatMap_cons,List.take_succ_cons,List.flatMap_cons,Nat.succ_mul,Nat.add_comm,List.take_append,List.take_of_length_le (by rw [hs];omega),hs,Nat.add_sub_cancel_left,ih]
theorem RunV.calls {base :Nat} {w w1 :World} {g gs gc :Nat} {fv hv ov :Value} {p q :Nat} {L :VmL} (h :RunV base w g gs gc fv hv ov p q L) (hz :L.zs≠ []) {v' :Value} {cs :List O3}
  (hg :w.grownBy w1 (some gc)) (ho :w1.ownsRow base 63 3 v' cs.length (flat O3.enc cs)) (hn :0 < cs.length) (hat : ∀k,v'.ownBlock=some k→k=gc∨w.heap.size≤k) :
  ∃gc' q',v'=slv gc' cs.length q'∧RunV base (w1.setCell ⟨g,6,none⟩ v') g gs gc' fv hv ov p q' {L with cs :=cs}∧Below base w (w1.setCell ⟨g,6,none⟩ v') :=by
 obtain ⟨gc',q',rfl,hb1,hl1⟩ :=own_slv ho hn
 obtain ⟨⟨l1,l2⟩,l3,l4⟩ :=h.lts
 have hgl :=h.bx.1
 have n1 :=h.n1
 have n2 :=h.n2
 have n3 :=h.n3
 have hx :=hat gc' rfl
 have hng :g≠gc' :=by rcases hx with e | e <;> omega
 have hnc :gs≠gc' :=by rcases hx with e | e <;> omega
 have hw :w.heap.size≤w1.heap.size :=hg.size
 have hbw :=h.hb
 have k1 :=h.bx.grown hg (fun e=> n2 (Option.some.inj e))
 have k2 :=k1.set 6 (by simp) (slv gc' cs.length q')
 have b1 :Below base w w1 :=Below.of_grown hg h.hb (fun k e=> by cases e;exact l3)
 have b2 :=b1.setCell (p :=⟨g,6,none⟩) h.hg (slv gc' cs.length q')
 have g2 :=grownBy.setCell w1 g 6 (slv gc' cs.length q')
 refine ⟨gc',q',rfl,⟨k2,by simp;omega,h.hg,h.f.below b2 (Nat.le_refl _),?_,?_,?_,?_,n1,hng,hnc,?_,?_⟩,b2⟩
 ·exact (h.z.grow hg (fun i hi e=> (h.za i hi).2.2.1 (Option.some.inj e))).grow g2 (fun i hi e=> (h.za i hi).1 (Option.some.inj e))
 ·exact ownsRow_setCell_other (h.s.kept hg (.inr (fun e=> n3 (Option.some.inj e)))) (fun e=> n1 (Option.some.inj e).symm) _
 ·exact ownsRow_setCell_other ho (fun e=> hng (Option.some.inj e).symm) _
 ·have hk :=h.o.kept hg (h.off (fun k hk=> (h.oa k hk).2.2))
  exact ownsRow_setCell_other hk (fun e=> (h.oa g e).1 rfl) _
 ·intro k hk
  have :=h.oa k hk
  have :=(h.o.lt k hk).2
  rcases hx with e | e <;> refine ⟨by omega,by omega,by omega⟩
 ·intro k hk
  have :=h.za k hk
  have :=h.zlt hz k hk
  rcases hx with e | e <;> refine ⟨by omega,by omega,by omega,by simp_all⟩
theorem RunV.set {base :Nat} {w :World} {g gs gc :Nat} {fv hv ov :Value} {p q :Nat} {L :VmL} (h :RunV base w g gs gc fv hv ov p q L) (i :Nat) (u :Value) :
  Below base w (w.setCell ⟨g,i,none⟩ u)∧Rd (w.setCell ⟨g,i,none⟩ u).heap.size .i64 (w.setCell ⟨g,i,none⟩ u) hv L.zs∧(w.setCell ⟨g,i,none⟩ u).ownsRow base 3 1 (slv gs L.ss.length p) L.ss.length (L.ss.map (Value.int .i64))∧
   (w.setCell ⟨g,i,none⟩ u).ownsRow base 63 3 (slv gc L.cs.length q) L.cs.length (flat O3.enc L.cs)∧(w.setCell ⟨g,i,none⟩ u).ownsRow base 3 1 ov L.os.length (L.os.map (Value.int .i64)) :=
 ⟨(Below.refl base w).setCell (p :=⟨g,i,none⟩) h.hg u,h.z.grow (grownBy.setCell w g i u) (fun j hj e=> (h.za j hj).1 (Option.some.inj e)),ownsRow_setCell_other h.s (fun e=> h.n1 (Option.some.inj e).symm) _,
  ownsRow_setCell_other h.c (fun e=> h.n2 (Option.some.inj e).symm) _,ownsRow_setCell_other h.o (fun e=> (h.oa g e).1 rfl) _⟩
theorem RunV.cut {base :Nat} {w :World} {g gs gc :Nat} {fv hv ov :Value} {p q :Nat} {L :VmL} (h :RunV base w g gs gc fv hv ov p q L) {k :Nat} (hk :k≤L.ss.length) :
  RunV base (w.setCell ⟨g,5,none⟩ (slv gs k p)) g gs gc fv hv ov p q {L with ss :=L.ss.take k}∧Below base w (w.setCell ⟨g,5,none⟩ (slv gs k p)) :=by
 have hlen :(L.ss.take k).length=k :=by rw [List.length_take];omega
 obtain ⟨b,z,s,c,o⟩ :=h.set 5 (slv gs k p)
 have k2 :=h.bx.set 5 (by simp) (slv gs k p)
 have s2 :=own_take s hk
 rw [Nat.mul_one,← List.map_take] at s2
 rw [show slv gs k p=slv gs (L.ss.take k).length p by rw [hlen]] at b z k2 s2 c o ⊢
 exact ⟨⟨k2,by simp;exact h.hb,h.hg,h.f.below b (Nat.le_refl _),z,by rw [hlen] at s2 ⊢;exact s2,c,o,h.n1,h.n2,h.n3,h.oa,h.za⟩,b⟩
theorem RunV.cutC {base :Nat} {w :World} {g gs gc :Nat} {fv hv ov :Value} {p q :Nat} {L :VmL} (h :RunV base w g gs gc fv hv ov p q L) {k :Nat} (hk :k≤L.cs.length) :
  RunV base (w.setCell ⟨g,6,none⟩ (slv gc k q)) g gs gc fv hv ov p q {L with cs :=L.cs.take k}∧Below base w (w.setCell ⟨g,6,none⟩ (slv gc k q)) :=by
 have hlen :(L.cs.take k).length=k :=by rw [List.length_take];omega
 obtain ⟨b,z,s,c,o⟩ :=h.set 6 (slv gc k q)
 have k2 :=h.bx.set 6 (by simp) (slv gc k q)
 have c2 :=own_take c hk
 rw [flat_take O3.enc_len] at c2
 rw [show slv gc k q=slv gc (L.cs.take k).length q by rw [hlen]] at b z k2 s c2 o ⊢
 exact ⟨⟨k2,by simp;exact h.hb,h.hg,h.f.below b (Nat.le_refl _),z,s,by rw [hlen] at c2 ⊢;exact c2,o,h.n1,h.n2,h.n3,h.oa,h.za⟩,b⟩
end Go.Proofs.YtfmebaafpfkeiaaGreat
end
section
namespace Go.Proofs.YtfmebaafpfkeiaaGreat
open Go.RowKit
theorem flatO_put {cs :List O3} {k :Nat} (hk :k < cs.length) (a :Int) :(flat O3.enc cs).set (k*3+1) (.int .i64 a)=flat O3.enc (cs.set k {cs[k] with n :=a}) :=by
 have h1 :flat O3.enc cs=(cs.take k).flatMap O3.enc++(O3.enc cs[k]++(cs.drop (k+1)).flatMap O3.enc) :=by
  have :=flat_set (enc :=O3.enc) (x :=cs[k]) hk
  rw [List.set_getElem_self] at this
  exact this
 have hl :((cs.take k).flatMap O3.enc).length=k*3 :=by
  have :=flat_len O3.enc_len (cs.take k)
  unfold flat at this
  rw [this,List.length_take,Nat.min_eq_left (by omega)]
 rw [h1,List.set_append_right _ _ (by omega),hl,show k*3+1-k*3=1 by omega]
 unfold flat
 rw [flat_set hk]
 rfl
theorem RunV.pc {base :Nat} {w :World} {g gs gc :Nat} {fv hv ov :Value} {p q :Nat} {L :VmL} (h :RunV base w g gs gc fv hv ov p q L) {k :Nat} (hk :k < L.cs.length) (a :Int) :
  RunV base (w.setCell ⟨gc,k*3+1,none⟩ (.int .i64 a)) g gs gc fv hv ov p q {L with cs :=L.cs.set k {L.cs[k] with n :=a}}∧Below base w (w.setCell ⟨gc,k*3+1,none⟩ (.int .i64 a)) :=by
 obtain ⟨_,l3,l4⟩ :=h.lts
 have hlen :(L.cs.set k {L.cs[k] with n :=a}).length=L.cs.length :=List.length_set
 have b :Below base w (w.setCell ⟨gc,k*3+1,none⟩ (.int .i64 a)) :=(Below.refl base w).setCell (p :=⟨gc,k*3+1,none⟩) l3 _
 have g2 :=grownBy.setCell w gc (k*3+1) (.int .i64 a)
 have k2 :=h.bx.grown g2 (fun e=> h.n2 (Option.some.inj e))
 have hfl :(flat O3.enc L.cs).length=L.cs.length*3 :=flat_len O3.enc_len _
 have c2 :=own_setN h.c (k*3+1) (by omega) (.int .i64 a)
 rw [flatO_put hk] at c2
 refine ⟨⟨?_,by rw [World.size_setCell];exact h.hb,h.hg,h.f.below b (Nat.le_refl _),?_,?_,?_,?_,h.n1,h.n2,h.n3,h.oa,h.za⟩,b⟩
 ·dsimp only
  rw [hlen]
  exact k2
 ·exact h.z.grow g2 (fun i hi e=> (h.za i hi).2.2.1 (Option.some.inj e))
 ·exact ownsRow_setCell_other h.s (by intro e;exact h.n3 (Option.some.inj e)) _
 ·dsimp only
  rw [hlen]
  exact c2
 ·exact ownsRow_setCell_other h.o (fun e=> (h.oa gc e).2.2 rfl) _
theorem setPc_eq {cs :List O3} {k :Nat} (h :cs.length-1=k) (hk :k < cs.length) (a :Int) :setPc cs a=cs.set k {cs[k] with n :=a} :=by
 unfold setPc
 rw [h,List.getD_eq_getElem?_getD,List.getElem?_eq_getElem hk]
 rfl
end Go.Proofs.YtfmebaafpfkeiaaGreat
end
section
namespace Go.Proofs.YtfmebaafpfkeiaaGreat
open Go.RowKit
theorem Kept2.refl (w :World) (g gr :Nat) :Kept2 w w g gr :=⟨Nat.le_refl _,fun _ _ _ _=> rfl⟩
theorem RunV.kept {base :Nat} {w w' :World} {g gr gs gc :Nat} {fv hv hv' ov :Value} {p q :Nat} {L :VmL} {zs :List Int} {h b n :Int} (R :RunV base w g gs gc fv hv ov p q L) (k :Kept2 w w' g gr) (bb :Below base w w')
  (hgr :gr≠gs∧gr≠gc∧ov.ownBlock≠some gr)
  (bx :Bx w' g #[fv,hv', .int .i64 h, .int .i64 b, .int .i64 n,slv gs L.ss.length p,slv gc L.cs.length q,ov, .int .i64 L.code, .bool L.each]) (z :Rd w'.heap.size .i64 w' hv' zs)
  (za : ∀k,hv'.ownBlock=some k→k≠g∧k≠gs∧k≠gc∧ov.ownBlock≠some k) :RunV base w' g gs gc fv hv' ov p q {L with zs :=zs,h :=h,b :=b,n :=n} :=by
 obtain ⟨g1,g2,g3⟩ :=hgr
 refine ⟨bx,Nat.le_trans R.hb k.1,R.hg,R.f.below bb (Nat.le_refl _),z,?_,?_,?_,R.n1,R.n2,R.n3,R.oa,za⟩
 ·exact own_kept2 R.s k (fun i hi=> by cases hi;exact ⟨fun e=> R.n1 e.symm,fun e=> g1 e.symm⟩)
 ·exact own_kept2 R.c k (fun i hi=> by cases hi;exact ⟨fun e=> R.n2 e.symm,fun e=> g2 e.symm⟩)
 ·exact own_kept2 R.o k (fun i hi=> ⟨(R.oa i hi).1,fun e=> g3 (e▸hi)⟩)
theorem RunV.stack2 {base :Nat} {w :World} {g gs gc :Nat} {fv hv ov :Value} {p q :Nat} {L :VmL} (R :RunV base w g gs gc fv hv ov p q L) {v' :Value} {ss :List Int}
  (ho :w.ownsRow base 3 1 v' ss.length (ss.map (Value.int .i64))) (hn :0 < ss.length) (hv' : ∀k,v'.ownBlock=some k→k≠g∧k≠gc∧ov.ownBlock≠some k∧hv.ownBlock≠some k) :
  ∃gs' p',v'=slv gs' ss.length p'∧RunV base (w.setCell ⟨g,5,none⟩ v') g gs' gc fv hv ov p' q {L with ss :=ss}∧Below base w (w.setCell ⟨g,5,none⟩ v') :=by
 obtain ⟨gs',p',rfl,hb1,hl1⟩ :=own_slv ho hn
 obtain ⟨a1,a2,a3,a4⟩ :=hv' gs' rfl
 obtain ⟨b,z,s,c,o⟩ :=R.set 5 (slv gs' ss.length p')
 have k2 :=R.bx.set 5 (by simp) (slv gs' ss.length p')
 have s2 :=ownsRow_setCell_other (a :=⟨g,5,none⟩) ho (by intro e;exact a1 (Option.some.inj e)) (slv gs' ss.length p')
 refine ⟨gs',p',rfl,⟨k2,by simp;exact R.hb,R.hg,R.f.below b (Nat.le_refl _),z,s2,c,o,fun e=> a1 e.symm,R.n2,a2,fun k hk=> ⟨(R.oa k hk).1,fun e=> a3 (e▸hk),(R.oa k hk).2.2⟩,fun k hk=> ⟨(R.za k hk).1,fun e=> a4 (e▸hk),(R.za k hk).2.2.1,(R.za k hk).2.2.2⟩⟩,b⟩
theorem RunV.kidsRd {base :Nat} {w :World} {g gs gc :Nat} {fv hv ov :Value} {p q :Nat} {L :VmL} (R :RunV base w g gs gc fv hv ov p q L) {m k c :Nat} (hm :m+k=L.ss.length) (hc :k≤c) (hl :L.ss.length≤4294967296) :
  Rd w.heap.size .i64 w (.slice (some ⟨gs,m,none⟩) k c) (L.ss.drop m) :=by
 have hlen :(L.ss.drop m).length=k :=by rw [List.length_drop];omega
 have hlt :=(R.s.lt gs rfl).2
 refine .inr ⟨gs,m,c,by rw [hlen],hlt,hlt,⟨by rw [hlen];unfold maxLen;omega,by omega⟩,fun j hj=> ?_⟩
 rw [hlen] at hj
 have :=own_cell R.s (m+j) (by omega)
 rw [List.getElem?_map,List.getElem?_eq_getElem (by omega),Option.map_some] at this
 rw [this,List.getD_eq_getElem?_getD,List.getElem?_drop,List.getElem?_eq_getElem (by omega)]
 rfl
theorem RunV.heap4 {base :Nat} {w :World} {g gs gc :Nat} {fv hv ov :Value} {p q :Nat} {L :VmL} (R :RunV base w g gs gc fv hv ov p q L) {u :Value} {zs :List Int} {h b n :Int} (z :Rd w.heap.size .i64 w u zs)
  (za : ∀k,u.ownBlock=some k→k≠g∧k≠gs∧k≠gc∧ov.ownBlock≠some k) :
  RunV base ((((w.setCell ⟨g,1,none⟩ u).setCell ⟨g,2,none⟩ (.int .i64 h)).setCell ⟨g,3,none⟩ (.int .i64 b)).setCell ⟨g,4,none⟩ (.int .i64 n)) g gs gc fv u ov p q {L with zs :=zs,h :=h,b :=b,n :=n}∧
   Below base w ((((w.setCell ⟨g,1,none⟩ u).setCell ⟨g,2,none⟩ (.int .i64 h)).setCell ⟨g,3,none⟩ (.int .i64 b)).setCell ⟨g,4,none⟩ (.int .i64 n))∧
   w.grownBy ((((w.setCell ⟨g,1,none⟩ u).setCell ⟨g,2,none⟩ (.int .i64 h)).setCell ⟨g,3,none⟩ (.int .i64 b)).setCell ⟨g,4,none⟩ (.int .i64 n)) (some g) :=by
 have g1 :=grownBy.setCell w g 1 u
 have g2 :=g1.trans' (grownBy.setCell _ g 2 (.int .i64 h))
 have g3 :=g2.trans' (grownBy.setCell _ g 3 (.int .i64 b))
 have g4 :=g3.trans' (grownBy.setCell _ g 4 (.int .i64 n))
 have bb :Below base w _ :=Below.of_grown g4 R.hb (fun k e=> by cases e;exact R.hg)
 have k4 :=(((R.bx.set 1 (by simp) u).set 2 (by simp) (.int .i64 h)).set 3 (by simp) (.int .i64 b)).set 4 (by simp) (.int .i64 n)
 refine ⟨R.kept ((Kept2.refl w g g).grown g4 (.inl rfl)) bb ⟨R.n1,R.n2,fun e=> (R.oa g e).1 rfl⟩ ?_ (z.grow g4 (fun i hi e=> (za i hi).1 (Option.some.inj e))) za,bb,g4⟩
 simpa using k4
end Go.Proofs.YtfmebaafpfkeiaaGreat
end
section
namespace Go.Proofs.YtfmebaafpfkeiaaGreat
open Go.RowKit
set_option maxHeartbeats 800000 in
set_option maxRecDepth 100000 in
theorem allocR_any {base B g :Nat} (v vk fv sv cv ov_ cd ec :Value) (ws ks :List Int) (h b :Int) (n :Nat) (f :Bool) (tag :Int) (w :World) (kb :Bx w g #[fv,v, .int .i64 h, .int .i64 b, .int .i64 n,sv,cv,ov_,cd,ec])
  (ho :w.ownsRow base 3 1 v ws.length (ws.map (Value.int .i64))) (hg :base≤g) (hne :some g≠v.ownBlock) (rk :Rd B .i64 w vk ks) (hvk : ∀k,vk.ownBlock=some k→v.ownBlock≠some k) (h0 :0≤tag) (h1 :tag≤3000) (h2 :ks.length≤20) (hfit :n+1+ks.length≤ws.length) (hlen :ws.length≤6000) :
  Calls Tryz.prog 142 #[.pointer (some ⟨g,1,none⟩), .bool f, .int .i64 tag,vk] w fun e w'=> e= .returned (.int .i64 n)∧
   w'.ownsRow base 3 1 v ws.length ((ov ws n (hdOf f tag ks.length ::ks)).map (Value.int .i64))∧Bx w' g #[fv,v, .int .i64 h, .int .i64 b, .int .i64 (n+(1+ks.length)),sv,cv,ov_,cd,ec]∧Below base w w'∧∀gr,v.ownBlock=some gr→Kept2 w w' g gr :=by
 obtain ⟨a,cap,rfl⟩ :=own_form ho
 obtain ⟨ka,kc,rfl⟩ :=rk.form
 rcases ho.2 with ⟨hv,_⟩ | ⟨gr,cap',cur',hv,_⟩
 ·injection hv;omega
 cases hv
 have hbg :base≤gr :=(ho.lt gr rfl).1
 have hcap :ws.length≤cap :=by obtain ⟨_,_,_,_,h⟩ :=own_cells ho;exact h
 have q1 :=kb.2.1
 have f1 :=kb.2.2
 have y1 :=kb.1
 have hnn :(n :Int) < (ws.length :Int) :=by omega
 have hgr : ¬g=gr :=fun h=> hne (by rw [h];rfl)
 have hgr' : ¬gr=g :=fun h=> hgr h.symm
 obtain ⟨i0,hi,hz0,hz1,hz2⟩ :=info_parts Tryz.infoI2
 have hhd :=hdOf_in f tag ks.length h0 h1 h2
 obtain ⟨hd,hhe⟩ : ∃hd,hdOf f tag ks.length=hd :=⟨_,rfl⟩
 have hC :=fun (w :World)=> header_any f tag ks.length w h0 h1 h2
 rw [hhe] at hC hhd ⊢
 obtain ⟨hd0,hd1⟩ :=hhd
 have HC :=Lib.hid hC
 clear hC hhe
 generalize hwd :w.drew=w2
 have bd :Below w.heap.size w w2 :=by rw [← hwd];exact (Below.refl _ _).drew
 have k2 :=kb.below bd y1
 have bb :=bd.mono (show base≤w.heap.size by omega)
 have o2 :=own_below ho bd (own_lt ho)
 have o3 :=own_set o2 n (by omega) (.int .i64 hd)
 rw [← List.map_set,ov_one _ (by omega)] at o3
 have k3 :=k2.grown (grownBy.setCell w2 gr n (.int .i64 hd)) (fun h=> hgr (Option.some.inj h))
 have bb3 :=bb.setCell (p :=⟨gr,n,none⟩) hbg (.int .i64 hd)
 have r3 :=(rk.below' bd).grow (grownBy.setCell w2 gr n (.int .i64 hd)) (fun i hi e=> hvk i hi e.symm)
 have c1 :=own_cell o2 n (by omega)
 rw [List.getElem?_map,List.getElem?_eq_getElem (by omega),Option.map_some] at c1
 have c2 :=own_frozen o2 n
 have q2 :=k2.2.1
 have f2 :=k2.2.2
 have q3 :=k3.2.1
 have kp :=(Kept2.drew w g gr)
 rw [hwd] at kp
 have KP :=Lib.hid (kp.grown (grownBy.setCell w2 gr n (.int .i64 hd)) (.inr rfl))
 clear kp
 have HW :=Lib.hid hwd
 have O3 :=Lib.hid o3
 have K3 :=Lib.hid k3
 have B3 :=Lib.hid bb3
 have R3 :=Lib.hid r3
 clear kb ho k2 bb bd o2 o3 k3 bb3 r3 rk hwd
 by_cases hk :ks.length=0
 ·have hkn :ks= [] :=List.eq_nil_of_length_eq_zero hk
  subst hkn
  by_cases hcp :cap=n+1
  ·subst hcp
   go_enter Tryz.func142,Tryz.ntmps142
   go_wp2_with fail
   go_still_tail 11,(by kernel_rfl)
   still_call (HC.out _)
   repeat still_step
   try refine wpStill_nil ?_
   change wpList _ _ _ _ _ w.drew
   rw [HW.out]
   go_wp2_with ((with_reducible (show wpList _ _ _ (⟨_, .call ⟨.builtin .copy,_,_⟩,_,_,_,_⟩ ::_) _ _));refine wpList_copy_nothing rfl _ _ 27 27 rfl 3 Tryz.underlying27 (by kernel_rfl) _ _ _ _ _ _ rfl rfl (Nat.zero_min _) ?_)
   have o4 :=O3.out
   have k4 :=K3.out
   have bb4 :=B3.out
   have q4 :=k4.2.1
   have f4 :=k4.2.2
   have K4 :=Lib.hid k4
   have O4 :=Lib.hid o4
   have B4 :=Lib.hid bb4
   clear k4 o4 bb4
   go_wp2
   go_ret
   exact ⟨rfl,ownsRow_setCell_other O4.out (by intro h;exact hgr' (Option.some.inj h)) _,K4.out.set 4 (by simp) _,B4.out.setCell hg _,fun r hr=> by cases hr;exact KP.out.grown (grownBy.setCell _ g 4 _) (.inl rfl)⟩
  ·go_enter Tryz.func142,Tryz.ntmps142
   go_wp2_with fail
   go_still_tail 11,(by kernel_rfl)
   still_call (HC.out _)
   repeat still_step
   try refine wpStill_nil ?_
   change wpList _ _ _ _ _ w.drew
   rw [HW.out]
   go_wp2_with ((with_reducible (show wpList _ _ _ (⟨_, .call ⟨.builtin .copy,_,_⟩,_,_,_,_⟩ ::_) _ _));refine wpList_copy_nothing rfl _ _ 27 27 rfl 3 Tryz.underlying27 (by kernel_rfl) _ _ _ _ _ _ rfl rfl (Nat.zero_min _) ?_)
   have o4 :=O3.out
   have k4 :=K3.out
   have bb4 :=B3.out
   have q4 :=k4.2.1
   have f4 :=k4.2.2
   have K4 :=Lib.hid k4
   have O4 :=Lib.hid o4
   have B4 :=Lib.hid bb4
   clear k4 o4 bb4
   go_wp2
   go_ret
   exact ⟨rfl,ownsRow_setCell_other O4.out (by intro h;exact hgr' (Option.some.inj h)) _,K4.out.set 4 (by simp) _,B4.out.setCell hg _,fun r hr=> by cases hr;exact KP.out.grown (grownBy.setCell _ g 4 _) (.inl rfl)⟩
 ·have hcp : ¬cap=n+1 :=by omega
  have hka : ∃ad,ka=some ad :=by
   rcases R3.out with ⟨h,_⟩ | ⟨_,_,_,h,_⟩
   ·exact absurd (by rw [h];rfl) hk
   ·injection h with h;exact ⟨_,h⟩
  obtain ⟨ad,rfl⟩ :=hka
  have hnews :=(R3.out.news (Below.refl _ _)).2
  obtain ⟨cur,hc,hcl,_,_⟩ :=own_cells O3.out
  have HN :=Lib.hid hnews
  have HCU :=Lib.hid hc
  clear hnews hc
  go_enter Tryz.func142,Tryz.ntmps142
  go_wp2_with fail
  go_still_tail 11,(by kernel_rfl)
  still_call (HC.out _)
  repeat still_step
  try refine wpStill_nil ?_
  change wpList _ _ _ _ _ w.drew
  rw [HW.out]
  go_wp2_with ((with_reducible (show wpList _ _ _ (⟨_, .call ⟨.builtin .copy,_,_⟩,_,_,_,_⟩ ::_) _ _));refine wpList_copy_own rfl _ _ 27 27 rfl 3 Tryz.underlying27 (by kernel_rfl) gr (n+1) _ _ ad _ _ rfl rfl cur.toArray 3 HCU.out (ks.map (Value.int .i64)) (by rw [List.length_map];exact (Nat.min_eq_left (by omega)).symm) HN.out (by rw [List.size_toArray,List.length_map];omega) (ints_one _ _) ?_;generalize hw4 :World.setRow _ _ _=w4;have g4 :=grownBy.row _ hw4;have hh4 :w4.heap[gr]?=some (.cells (splice cur (n+1) (ks.map (Value.int .i64))).toArray 3 (0,0)) :=(by rw [← hw4,setRow_heap _ gr _ _ _ _ HCU.out];simp [splice]);have k4 :=K3.out.grown g4 (fun h=> hgr (Option.some.inj h));have q4 :=k4.2.1;have f4 :=k4.2.2;have K4 :=Lib.hid k4;have H4 :=Lib.hid hh4;have G4 :=Lib.hid g4;clear k4 hh4 g4 hw4)
  have o4 :=own_splice O3.out cur HCU.out (n+1) (ks.map (Value.int .i64)) H4.out (by simp;omega)
  rw [show splice ((ov ws n [hd]).map (Value.int .i64)) (n+1) (ks.map (Value.int .i64))=(ov ws n (hd ::ks)).map (Value.int .i64) by rw [splice_map];exact congrArg _ (ov_cons _ _ _ _ (by omega)).symm] at o4
  have bb4 :=B3.out.trans (Below.of_grown (B :=base) G4.out (by have :=B3.out.size;omega) (fun k h=> by cases h;exact hbg))
  have O4 :=Lib.hid o4
  have B4 :=Lib.hid bb4
  clear o4 bb4
  go_ret
  exact ⟨rfl,ownsRow_setCell_other O4.out (by intro h;exact hgr' (Option.some.inj h)) _,K4.out.set 4 (by simp) _,B4.out.setCell hg _,fun r hr=> by cases hr;exact (KP.out.grown G4.out (.inr rfl)).grown (grownBy.setCell _ g 4 _) (.inl rfl)⟩
end Go.Proofs.YtfmebaafpfkeiaaGreat
end
