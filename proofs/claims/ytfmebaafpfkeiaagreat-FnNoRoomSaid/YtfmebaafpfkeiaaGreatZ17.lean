/- Parts of the proof of FnNoRoom. -/
import Derived.Test.YtfmebaafpfkeiaaGreatZ16
import Derived.Test.YtfmebaafpfkeiaaGreatZ14
import Derived.Test.YtfmebaafpfkeiaaGreatZ12
import Derived.Test.YtfmebaafpfkeiaaGreatRows
import Derived.Deep.QuietTactic
import Derived.BigQuiet
import Derived.Deep.RegionHeld3
import Derived.Deep.Slices
import Derived.Deep.Strs
import Derived.Deep.SlicePairs
import Derived.Lib.SmallJoins
import Derived.Test.YtfmebaafpfkeiaaGreatZ15
import Derived.Test.YtfmebaafpfkeiaaGreatZ13
set_option linter.unusedVariables false
set_option linter.unusedSimpArgs false
section
namespace Go.Proofs.YtfmebaafpfkeiaaGreat
open Go.RowKit
def OwnH (base hi :Nat) (w :World) (v :Value) (fs :List F2) :Prop := ∃fl :List (Int×Value),(w.ownsRow base 68 2 v fs.length (flat encFV fl)∧fl.length=fs.length∧
 (∀j (h :j < fl.length) (h' :j < fs.length),fl[j].1=fs[j].f∧w.ownsRow base 65 3 fl[j].2 fs[j].os.length (flat O3.enc fs[j].os))∧(∀x∈fl,Blk v x.2)∧fl.Pairwise (fun x y=> Blk x.2 y.2))∧
 (∀q,v.ownBlock=some q→q < hi)∧∀x∈fl,∀q,x.2.ownBlock=some q→q < hi
theorem OwnF.to_h {base :Nat} {w :World} {v :Value} {fs :List F2} (h :OwnF base w v fs) :OwnH base w.heap.size w v fs :=by
 obtain ⟨fl,h1,h2,h3,h4⟩ :=h
 refine ⟨fl,⟨h1,h2,h3,h4⟩,own_lt h1,fun x hx q hq=> ?_⟩
 obtain ⟨j,hj,rfl⟩ :=List.mem_iff_getElem.1 hx
 exact own_lt (h3 j hj (by omega)).2 q hq
theorem OwnH.to_f {base hi :Nat} {w :World} {v :Value} {fs :List F2} (h :OwnH base hi w v fs) :OwnF base w v fs :=by
 obtain ⟨fl,h1,_⟩ :=h
 exact ⟨fl,h1⟩
theorem own_blocks {base hi :Nat} {e :TypeId} {sz n :Nat} {w w' :World} {v :Value} {xs :List Value} (h :w.ownsRow base e sz v n xs) (hv : ∀q,v.ownBlock=some q→q < hi) (hs : ∀k,base≤k→k < hi→w'.heap[k]?=w.heap[k]?) :w'.ownsRow base e sz v n xs :=by
 refine ⟨h.1,?_⟩
 rcases h.2 with hn | ⟨b,cap,cur,rfl,hbs,hg,rest⟩
 ·exact .inl hn
 ·exact .inr ⟨b,cap,cur,rfl,hbs,by rw [hs b hbs (hv b rfl)];exact hg,rest⟩
theorem OwnH.same {base hi :Nat} {w w' :World} {v :Value} {fs :List F2} (h :OwnH base hi w v fs) (hs : ∀k,base≤k→k < hi→w'.heap[k]?=w.heap[k]?) :OwnH base hi w' v fs :=by
 obtain ⟨fl,⟨h1,h2,h3,h4⟩,h5,h6⟩ :=h
 exact ⟨fl,⟨own_blocks h1 h5 hs,h2,fun j a b=> ⟨(h3 j a b).1,own_blocks (h3 j a b).2 (h6 _ (List.getElem_mem a)) hs⟩,h4⟩,h5,h6⟩
theorem OwnH.mono {base hi hi' :Nat} {w :World} {v :Value} {fs :List F2} (h :OwnH base hi w v fs) (hh :hi≤hi') :OwnH base hi' w v fs :=by
 obtain ⟨fl,h1,h5,h6⟩ :=h
 exact ⟨fl,h1,fun q hq=> Nat.lt_of_lt_of_le (h5 q hq) hh,fun x hx q hq=> Nat.lt_of_lt_of_le (h6 x hx q hq) hh⟩
theorem OwnH.row {base hi :Nat} {w :World} {v :Value} {fs :List F2} (h :OwnH base hi w v fs) : ∃xs,w.ownsRow base 68 2 v fs.length xs∧∀q,v.ownBlock=some q→base≤q∧q < hi :=by
 obtain ⟨fl,⟨h1,_⟩,h5,_⟩ :=h
 exact ⟨_,h1,fun q hq=> ⟨(h1.lt q hq).1,h5 q hq⟩⟩
theorem OwnH.form {base hi :Nat} {w :World} {v :Value} {fs :List F2} (h :OwnH base hi w v fs) : ∃a cap,v= .slice a fs.length cap :=by
 obtain ⟨xs,h1,_⟩ :=h.row
 exact own_form h1
theorem OwnH.nil {base hi :Nat} {w :World} {v :Value} (h :w.ownsRow base 68 2 v 0 []) (hv : ∀q,v.ownBlock=some q→q < hi) :OwnH base hi w v [] :=
 ⟨[],⟨h,rfl,fun j a=> absurd a (by simp),fun x hx=> by simp at hx,List.Pairwise.nil⟩,hv,fun x hx=> by simp at hx⟩
theorem own_uniq {base :Nat} {e :TypeId} {sz n :Nat} {w :World} {v :Value} {xs ys :List Value} (h :w.ownsRow base e sz v n xs) (k :w.ownsRow base e sz v n ys) :xs=ys :=by
 have hl :=h.1
 have kl :=k.1
 rcases h.2 with ⟨rfl,h0⟩ | ⟨g,cap,cur,hv,hb,hg,hn,hm,hc,ht⟩
 ·subst h0
  rw [Nat.zero_mul] at hl kl
  rw [List.eq_nil_of_length_eq_zero hl,List.eq_nil_of_length_eq_zero kl]
 ·rcases k.2 with ⟨kv,_⟩ | ⟨g',cap',cur',kv,kb,kg,kn,km,kc,kt⟩
  ·rw [hv] at kv;cases kv
  ·rw [hv] at kv
   cases kv
   rw [hg] at kg
   cases kg
   rw [← ht,← kt]
theorem OwnH.snoc {base hi :Nat} {W W' :World} {v v' u :Value} {fs :List F2} {x :F2} (h :OwnH base hi W v fs) (ho :W.ownsRow base 65 3 u x.os.length (flat O3.enc x.os)) (hu : ∀q,u.ownBlock=some q→hi≤q)
  (hhi :hi≤W.heap.size) (hg :W.grownBy W' v.ownBlock) (hr : ∀xs,W.ownsRow base 68 2 v fs.length xs→W'.ownsRow base 68 2 v' (fs.length+1) (xs++ [.int .i64 x.f,u]))
  (hv' :v'.ownBlock=v.ownBlock∨v'.ownBlock=some (W.heap.size+1)) :OwnH base W'.heap.size W' v' (fs++ [x]) :=by
 obtain ⟨fl,⟨h1,h2,h3,h4,h5⟩,h6,h7⟩ :=h
 have hoc :=own_lt ho
 have hnew :W'.ownsRow base 68 2 v' (fs++ [x]).length (flat encFV (fl++ [(x.f,u)])) :=by
  rw [flat_snoc,List.length_append]
  exact hr _ h1
 have hvu :Blk v u :=fun p q hp hq=> by have :=h6 p hp;have :=hu q hq;omega
 have hko :W'.ownsRow base 65 3 u x.os.length (flat O3.enc x.os) :=ho.kept hg (by
  cases hq :u.ownBlock with
  | none=> exact .inl rfl
  | some k=> exact .inr (fun hh=> hvu k k hh.symm hq rfl))
 have hke : ∀j (h :j < fl.length) (h' :j < fs.length),W'.ownsRow base 65 3 fl[j].2 fs[j].os.length (flat O3.enc fs[j].os) :=fun j a b=> (h3 j a b).2.kept hg (by
  cases hq :fl[j].2.ownBlock with
  | none=> exact .inl rfl
  | some k=> exact .inr (fun hh=> h4 _ (List.getElem_mem a) k k hh.symm hq rfl))
 have hsz :=hg.size
 have hblk : ∀y∈fl++ [(x.f,u)],Blk v' y.2∧∀q,y.2.ownBlock=some q→q < W.heap.size :=by
  intro y hy
  have :Blk v y.2∧∀q,y.2.ownBlock=some q→q < W.heap.size :=by
   rcases List.mem_append.1 hy with hy | hy
   ·exact ⟨h4 y hy,fun q hq=> Nat.lt_of_lt_of_le (h7 y hy q hq) hhi⟩
   ·rw [List.mem_singleton] at hy
    subst hy
    exact ⟨hvu,hoc⟩
  refine ⟨fun p q hp hq=> ?_,this.2⟩
  rcases hv' with e | e
  ·exact this.1 p q (e▸hp) hq
  ·rw [e] at hp
   cases hp
   have :=this.2 q hq
   omega
 refine ⟨fl++ [(x.f,u)],⟨hnew,by simp [h2],fun j a b=> ?_,fun y hy=> (hblk y hy).1,?_⟩,own_lt hnew,fun y hy q hq=> Nat.lt_of_lt_of_le ((hblk y hy).2 q hq) hsz⟩
 ·by_cases hj :j < fl.length
  ·have hj' :j < fs.length :=by omega
   rw [List.getElem_append_left hj,List.getElem_append_left hj']
   exact ⟨(h3 j hj hj').1,hke j hj hj'⟩
  ·have e1 :j=fl.length :=by simp at a;omega
   subst e1
   rw [List.getElem_append_right (Nat.le_refl _),List.getElem_append_right (by omega)]
   simp only [h2,Nat.sub_self,List.getElem_cons_zero]
   exact ⟨trivial,hko⟩
 ·rw [List.pairwise_append]
  refine ⟨h5,List.pairwise_singleton _ _,fun a ha b hb p q hp hq=> ?_⟩
  rw [List.mem_singleton] at hb
  subst hb
  have :=h7 a ha p hp
  have :=hu q hq
  omega
theorem OwnH.grown {base hi :Nat} {w w' :World} {row :Option Nat} {v :Value} {fs :List F2} (h :OwnH base hi w v fs) (g :w.grownBy w' row) (hh :hi≤w.heap.size) (hr : ∀r,row=some r→r < base∨hi≤r) :OwnH base hi w' v fs :=
 h.same (fun q h1 h2=> g.block q (by omega) (fun e=> by have :=hr q e.symm;omega))
theorem OwnH.below {base hi B :Nat} {w w' :World} {v :Value} {fs :List F2} (h :OwnH base hi w v fs) (b :Below B w w') (hh :hi≤B) :OwnH base hi w' v fs :=
 h.same (fun q h1 h2=> b.block q (by omega))
theorem Bx.put {w :World} {g :Nat} {cur :Array Value} (h :Bx w g cur) (i :Nat) (hi :i < cur.size) (u :Value) :Bx (w.setCell ⟨g,i,none⟩ u) g (cur.setIfInBounds i u) :=by
 refine ⟨by rw [World.size_setCell];exact h.1,fun j=> ?_,fun j=> by rw [World.frozen?_setCell];exact h.2.2 j⟩
 by_cases hj :i=j
 ·subst hj
  rw [World.cell?_setCell_same _ _ _ ((h.2.1 i).trans (Array.getElem?_eq_getElem hi))]
  simp [hi]
 ·rw [World.cell?_setCell_other _ _ _ _ (by intro he;injection he;exact hj (by assumption)),h.2.1 j,Array.getElem?_setIfInBounds_ne hj]
end Go.Proofs.YtfmebaafpfkeiaaGreat
end
section
namespace Go.Proofs.YtfmebaafpfkeiaaGreat
open Go.RowKit
theorem Tryz.infoCall :(Tryz.prog.info? 63).map (fun i=> (i.zero,i.size,i.bytes))=some (some (.agg #[.int .i64 0, .int .i64 0, .int .i64 0]),3,24) :=by kernel_rfl
end Go.Proofs.YtfmebaafpfkeiaaGreat
end
section
namespace Go.Proofs.YtfmebaafpfkeiaaGreat
open Go.RowKit
structure VmL where
 fs :List F2
 zs :List Int
 h :Int
 b :Int
 n :Int
 ss :List Int
 cs :List O3
 os :List Int
 code :Int
 each :Bool
structure RdV (B :Nat) (w :World) (fv hv sv cv ov :Value) (L :VmL) :Prop where
 f :RdF B w fv L.fs
 z :Rd B .i64 w hv L.zs
 s :Rd B .i64 w sv L.ss
 c :RdO B w cv L.cs
 o :Rd B .i64 w ov L.os
theorem RdV.below' {B :Nat} {w w' :World} {fv hv sv cv ov :Value} {L :VmL} (h :RdV B w fv hv sv cv ov L) (hb :Below w.heap.size w w') :RdV w.heap.size w' fv hv sv cv ov L :=
 ⟨h.f.below' hb,h.z.below' hb,h.s.below' hb,RdE.below' h.c hb,h.o.below' hb⟩
theorem RdV.below {B B' :Nat} {w w' :World} {fv hv sv cv ov :Value} {L :VmL} (h :RdV B w fv hv sv cv ov L) (hb :Below B' w w') (hB :B≤B') :RdV B w' fv hv sv cv ov L :=
 ⟨h.f.below hb hB,h.z.below hb hB,h.s.below hb hB,RdE.below h.c hb hB,h.o.below hb hB⟩
def vmV (fv hv sv cv ov :Value) (L :VmL) :Value := .agg #[fv,hv, .int .i64 L.h, .int .i64 L.b, .int .i64 L.n,sv,cv,ov, .int .i64 L.code, .bool L.each]
def vmSz (L :VmL) :Nat :=(L.fs.length+tot L.fs)+L.zs.length+L.ss.length+L.cs.length+L.os.length
end Go.Proofs.YtfmebaafpfkeiaaGreat
end
section
namespace Go.Proofs.YtfmebaafpfkeiaaGreat
open Go.ChangeShapes Go.WideShapes Go.ChangeAt Go.RowKit
def vmIn (L :VmL) :Prop :=(∀x∈L.fs,fnIn x)∧intsIn L.zs∧(-9223372036854775808≤L.h∧L.h≤9223372036854775807)∧(-9223372036854775808≤L.b∧L.b≤9223372036854775807)∧(-9223372036854775808≤L.n∧L.n≤9223372036854775807)∧
 intsIn L.ss∧(∀x∈L.cs,o3In x)∧intsIn L.os∧(-9223372036854775808≤L.code∧L.code≤9223372036854775807)
end Go.Proofs.YtfmebaafpfkeiaaGreat
end
section
namespace Go.Proofs.YtfmebaafpfkeiaaGreat
open Go.RowKit
def c0 :O3 :=⟨0,0,0⟩
def callOk (fs :List F2) (ns :Nat) (cs :List O3) (i :Nat) :Bool :=
 (inB (cs.getD i c0).c 0 ((fs.length :Int)-1)&&inB (cs.getD i c0).n 0 (((fs.getD (cs.getD i c0).c.toNat fn0).os.length :Int)-1))&&(inB (cs.getD i c0).m 1 ((ns :Int)-1)&&(decide (i=0) || decide ((cs.getD (i-1) c0).m < (cs.getD i c0).m)))
def callsAll (fs :List F2) (ns :Nat) (cs :List O3) :Bool :=(List.range cs.length).all (callOk fs ns cs)
def callsOk (fs :List F2) (ns :Nat) (cs :List O3) (code :Int) :Bool :=callsAll fs ns cs&&(decide (cs.length≤120)&&((code !=0) || decide (0 < cs.length)))
theorem callsAll_bad {fs :List F2} {ns :Nat} {cs :List O3} {i :Nat} (hi :i < cs.length) (h :callOk fs ns cs i=false) :callsAll fs ns cs=false :=by
 unfold callsAll
 rw [List.all_eq_false]
 exact ⟨i,List.mem_range.2 hi,by simp [h]⟩
theorem callsAll_yes {fs :List F2} {ns :Nat} {cs :List O3} (h : ∀j,j < cs.length→callOk fs ns cs j=true) :callsAll fs ns cs=true :=by
 unfold callsAll
 rw [List.all_eq_true]
 exact fun j hj=> h j (List.mem_range.1 hj)
theorem cs_getD {cs :List O3} {i :Nat} (h :i < cs.length) :cs.getD i c0=cs[i] :=by rw [List.getD_eq_getElem?_getD,List.getElem?_eq_getElem h];rfl
set_option maxHeartbeats 3200000 in
set_option maxRecDepth 100000 in
theorem iCallsOk_any {B :Nat} (fv hv sv cv ov :Value) (L :VmL) (w :World) (hr :RdV B w fv hv sv cv ov L) (hl :vmSz L≤1048576) :
  Calls Tryz.prog 55 #[vmV fv hv sv cv ov L] w fun e w'=> e= .returned (.bool (callsOk L.fs L.ss.length L.cs L.code))∧Below w.heap.size w w' :=by
 obtain ⟨fs,zs,h,b,n,ss,cs,os,code,each⟩ :=L
 unfold vmSz at hl
 dsimp only at hl ⊢
 have RF :=Lib.hid (fun (W :World) (hb :Below w.heap.size w W)=> hr.f.below' hb)
 have RC :=Lib.hid (fun (W :World) (hb :Below w.heap.size w W)=> RdE.below' hr.c hb)
 obtain ⟨fa,fc,rfl⟩ :=hr.f.form
 obtain ⟨ha,hc,rfl⟩ :=hr.z.form
 obtain ⟨sa,sc,rfl⟩ :=hr.s.form
 obtain ⟨ca,cc,rfl⟩ :=hr.c.form
 obtain ⟨oa,oc,rfl⟩ :=hr.o.form
 clear hr
 unfold vmV
 dsimp only at RF RC ⊢
 have e1 :IntKind.i64.wrap ((fs.length :Int)-1)=(fs.length :Int)-1 :=IntWalk.i64_in _ (by omega)
 have e2 :IntKind.i64.wrap ((ss.length :Int)-1)=(ss.length :Int)-1 :=IntWalk.i64_in _ (by omega)
 have HW :=Lib.hid (fun (a b c :Int) (W :World)=> (within_any a b c W).mono (fun e w' h=> And.intro h.1 h.2.symm))
 go_enter Tryz.func55,Tryz.ntmps55
 go_wp2_with fail
 generalize hx :w.alloc _=x
 obtain ⟨bx,k1⟩ :=Bx.alloc hx
 clear hx
 have qx :=k1.2.1
 have BX :=Lib.hid bx
 have K1 :=Lib.hid k1
 have hxz :=bx.size
 clear bx k1
 go_wp2
 clear qx
 go_loopw [8] (fun i wr=> ∃k :Nat,k≤cs.length∧i= .int .i64 k∧Below x.heap.size x wr∧Hid (∀j,j < k→callOk fs ss.length cs j=true)) (fun i _=> cs.length-(intOf i).toNat)
 case atStart=> exact ⟨0,Nat.zero_le _,rfl,Below.refl _ _,Lib.hid (fun j h=> absurd h (by omega))⟩
 case round=>
  obtain ⟨k,hk,rfl,hb,hd⟩ :=hrel
  have hbw :=BX.out.trans (hb.mono hxz)
  have k1 :=K1.out.below hb K1.out.1
  have q1 :=k1.2.1
  have y1 :=k1.1
  by_cases hlt :k < cs.length
  ·obtain ⟨bo,offo,capo,hso,_,hbso,_,d0,d1,d2⟩ :=RdO.at_ (RC.out _ hbw) hlt
   cases hso
   have hkl :(k :Int) < (cs.length :Int) :=by omega
   obtain ⟨o,ho⟩ : ∃o,cs[k]=o :=⟨_,rfl⟩
   have hog :cs.getD k c0=o :=by rw [cs_getD hlt,ho]
   rw [ho] at d0 d1 d2
   obtain ⟨a,p,m⟩ :=o
   dsimp only at d0 d1 d2
   have HOG :=Lib.hid hog
   have HB :=Lib.hid hb
   have HBW :=Lib.hid hbw
   have hbz :=hb.size
   have HRF :=Lib.hid (fun (W :World) (h :Below wr.heap.size wr W)=> RF.out W (HBW.out.trans (h.mono (by have :=HBW.out.size;omega))))
   clear ho hog hb hbw k1
   go_wp2_with fail
   generalize hz :wr.alloc _=z
   obtain ⟨bz,kz⟩ :=Bx.alloc hz
   clear hz
   replace q1 : ∀j :Nat,z.cell? ⟨w.heap.size,j,none⟩ =_ :=fun j=> (bz.cell (p :=⟨w.heap.size,j,none⟩) y1).trans (q1 j)
   have qz :=kz.2.1
   have HD0 :=Lib.hid (fun (t :Nat)=> bz.cell (p :=⟨bo,t,none⟩) hbso)
   have BZ :=Lib.hid bz
   have hzz :=bz.size
   clear bz kz d0 d1 d2
   have HB4 :=Lib.hid (HB.out.trans (BZ.out.mono HB.out.size))
   by_cases ha :inB a 0 ((fs.length :Int)-1)=true
   ·have ha2 :=inB_true.1 ha
    obtain ⟨ka,rfl⟩ : ∃k :Nat,a=(k :Int) :=⟨a.toNat,by omega⟩
    have hka :ka < fs.length :=by omega
    obtain ⟨bf,offf,capf,lv,hsf,_,hbsf,_,_,c1,ro⟩ :=(HRF.out _ BZ.out).at_ hka
    cases hsf
    obtain ⟨la,lc,rfl⟩ :=ro.form
    obtain ⟨E,hE⟩ : ∃E,fs[ka].os.length=E :=⟨_,rfl⟩
    rw [hE] at c1
    have hEb :E≤1048576 :=by have :=tot_mem (List.getElem_mem hka);omega
    have hFE :(fs.getD (ka :Int).toNat fn0).os.length=E :=by rw [Int.toNat_natCast,fs_getD hka,hE]
    have HFE :=Lib.hid hFE
    have e3 :IntKind.i64.wrap ((E :Int)-1)=(E :Int)-1 :=IntWalk.i64_in _ (by omega)
    have hka0 :(0 :Int)≤(ka :Int) :=by omega
    have hka1 :(ka :Int) < (fs.length :Int) :=by omega
    have H1 :=Lib.hid (fun (W :World)=> (by have :=HW.out (ka :Int) 0 ((fs.length :Int)-1) W;rw [ha] at this;exact this :Calls Tryz.prog 54 #[.int .i64 (ka :Int), .int .i64 0, .int .i64 ((fs.length :Int)-1)] W _))
    have HA :=Lib.hid ha
    clear ro hE hFE ha2 ha
    by_cases hp :inB p 0 ((E :Int)-1)=true
    ·have H2 :=Lib.hid (fun (W :World)=> (by have :=HW.out p 0 ((E :Int)-1) W;rw [hp] at this;exact this :Calls Tryz.prog 54 #[.int .i64 p, .int .i64 0, .int .i64 ((E :Int)-1)] W _))
     have HP :=Lib.hid hp
     clear hp
     by_cases hm :inB m 1 ((ss.length :Int)-1)=true
     ·have H3 :=Lib.hid (fun (W :World)=> (by have :=HW.out m 1 ((ss.length :Int)-1) W;rw [hm] at this;exact this :Calls Tryz.prog 54 #[.int .i64 m, .int .i64 1, .int .i64 ((ss.length :Int)-1)] W _))
      have HM :=Lib.hid hm
      clear hm
      by_cases hk0 :k=0
      ·subst hk0
       go_quiet ((go_at_call 54;first | (with_reducible exact Calls.quiet_of_same (H1.out _)) | (with_reducible exact Calls.quiet_of_same (H2.out _)) | (with_reducible exact Calls.quiet_of_same (H3.out _))))
       go_wp2
       go_roundw
       case rel=> exact ⟨1,hlt,by go_num,below_drewN HB4.out nq,Lib.hid (fun j hj=> by
        obtain rfl :j=0 :=by omega
        unfold callOk
        rw [HOG.out]
        dsimp only
        rw [HFE.out,HA.out,HP.out,HM.out]
        rfl)⟩
       case measure=> simp [intOf];omega
      ·obtain ⟨kp,rfl⟩ : ∃kp,k=kp+1 :=⟨k-1,by omega⟩
       obtain ⟨b2,off2,cap2,hs2,_,_,_,_,_,c5⟩ :=RdO.at_ (RC.out _ (HBW.out.trans (BZ.out.mono (by have :=HBW.out.size;omega)))) (show kp < cs.length by omega)
       cases hs2
       obtain ⟨pm,hpm⟩ : ∃pm,cs[kp].m=pm :=⟨_,rfl⟩
       rw [hpm] at c5
       have HPM :=Lib.hid (show (cs.getD kp c0).m=pm by rw [cs_getD (by omega),hpm])
       have e4 :IntKind.i64.wrap (((kp+1 :Nat) :Int)-1)=(kp :Int) :=by rw [IntWalk.i64_in _ (by omega)];omega
       have e5 :IntKind.i64.wrap ((kp :Int)+1-1)=(kp :Int) :=by rw [IntWalk.i64_in _ (by omega)];omega
       have hg0 :(0 :Int) < (kp :Int)+1 :=by omega
       have hkp :(kp :Int) < (cs.length :Int) :=by omega
       by_cases hlm :m≤pm
       ·have HBAD :=Lib.hid (callsAll_bad (fs :=fs) (ns :=ss.length) hlt (by
         unfold callOk
         rw [HOG.out,Nat.add_sub_cancel,HPM.out]
         dsimp only
         rw [show decide (pm < m)=false by simp;omega]
         simp))
        clear hpm
        go_quiet ((go_at_call 54;first | (with_reducible exact Calls.quiet_of_same (H1.out _)) | (with_reducible exact Calls.quiet_of_same (H2.out _)) | (with_reducible exact Calls.quiet_of_same (H3.out _))))
        go_wp2
        go_ret
        exact ⟨ret_bool (by unfold callsOk;rw [HBAD.out];rfl),BX.out.trans ((below_drewN HB4.out nq).mono hxz)⟩
       ·have hlm2 : ¬(m≤pm) :=hlm
        clear hpm
        go_quiet ((go_at_call 54;first | (with_reducible exact Calls.quiet_of_same (H1.out _)) | (with_reducible exact Calls.quiet_of_same (H2.out _)) | (with_reducible exact Calls.quiet_of_same (H3.out _))))
        go_wp2
        go_roundw
        case rel=> exact ⟨kp+1+1,hlt,by go_num,below_drewN HB4.out nq,Lib.hid (fun j hj=> by
         by_cases e :j=kp+1
         ·subst e
          unfold callOk
          rw [HOG.out,Nat.add_sub_cancel,HPM.out]
          dsimp only
          rw [HFE.out,HA.out,HP.out,HM.out,show decide (pm < m)=true by simp;omega]
          simp
         ·exact hd.out j (by omega))⟩
        case measure=> simp [intOf];omega
     ·have hm :inB m 1 ((ss.length :Int)-1)=false :=by simpa using hm
      have H3 :=Lib.hid (fun (W :World)=> (by have :=HW.out m 1 ((ss.length :Int)-1) W;rw [hm] at this;exact this :Calls Tryz.prog 54 #[.int .i64 m, .int .i64 1, .int .i64 ((ss.length :Int)-1)] W _))
      have HBAD :=Lib.hid (callsAll_bad (fs :=fs) (ns :=ss.length) hlt (by
       unfold callOk
       rw [HOG.out]
       dsimp only
       rw [hm]
       simp))
      clear hm
      go_quiet ((go_at_call 54;first | (with_reducible exact Calls.quiet_of_same (H1.out _)) | (with_reducible exact Calls.quiet_of_same (H2.out _)) | (with_reducible exact Calls.quiet_of_same (H3.out _))))
      go_wp2
      go_ret
      exact ⟨ret_bool (by unfold callsOk;rw [HBAD.out];rfl),BX.out.trans ((below_drewN HB4.out nq).mono hxz)⟩
    ·have hp :inB p 0 ((E :Int)-1)=false :=by simpa using hp
     have H2 :=Lib.hid (fun (W :World)=> (by have :=HW.out p 0 ((E :Int)-1) W;rw [hp] at this;exact this :Calls Tryz.prog 54 #[.int .i64 p, .int .i64 0, .int .i64 ((E :Int)-1)] W _))
     have H3 :=H2
     have HBAD :=Lib.hid (callsAll_bad (fs :=fs) (ns :=ss.length) hlt (by
      unfold callOk
      rw [HOG.out]
      dsimp only
      rw [HFE.out,hp]
      simp))
     clear hp
     go_quiet ((go_at_call 54;first | (with_reducible exact Calls.quiet_of_same (H1.out _)) | (with_reducible exact Calls.quiet_of_same (H2.out _)) | (with_reducible exact Calls.quiet_of_same (H3.out _))))
     go_wp2
     go_ret
     exact ⟨ret_bool (by unfold callsOk;rw [HBAD.out];rfl),BX.out.trans ((below_drewN HB4.out nq).mono hxz)⟩
   ·have ha :inB a 0 ((fs.length :Int)-1)=false :=by simpa using ha
    have H1 :=Lib.hid (fun (W :World)=> (by have :=HW.out a 0 ((fs.length :Int)-1) W;rw [ha] at this;exact this :Calls Tryz.prog 54 #[.int .i64 a, .int .i64 0, .int .i64 ((fs.length :Int)-1)] W _))
    have H2 :=H1
    have H3 :=H1
    have HBAD :=Lib.hid (callsAll_bad (fs :=fs) (ns :=ss.length) hlt (by
     unfold callOk
     rw [HOG.out]
     dsimp only
     rw [ha]
     rfl))
    clear ha
    go_quiet ((go_at_call 54;first | (with_reducible exact Calls.quiet_of_same (H1.out _)) | (with_reducible exact Calls.quiet_of_same (H2.out _)) | (with_reducible exact Calls.quiet_of_same (H3.out _))))
    go_wp2
    go_ret
    exact ⟨ret_bool (by unfold callsOk;rw [HBAD.out];rfl),BX.out.trans ((below_drewN HB4.out nq).mono hxz)⟩
  ·obtain rfl :k=cs.length :=by omega
   have HYES :=Lib.hid (callsAll_yes (fun j hj=> hd.out j hj))
   have HBW :=Lib.hid hbw
   clear hb hbw k1
   by_cases hc1 :cs.length≤120
   ·have c1 :(cs.length :Int)≤120 :=by omega
    by_cases hc2 :code=0
    ·subst hc2
     by_cases hc3 :0 < cs.length
     ·have c3 :(0 :Int) < (cs.length :Int) :=by omega
      go_wp2
      go_ret
      exact ⟨ret_bool (by unfold callsOk;rw [HYES.out,decide_eq_true hc1,decide_eq_true hc3];rfl),HBW.out⟩
     ·have c3 : ¬((0 :Int) < (cs.length :Int)) :=by omega
      go_wp2
      go_ret
      exact ⟨ret_bool (by unfold callsOk;rw [HYES.out,decide_eq_true hc1,decide_eq_false hc3];rfl),HBW.out⟩
    ·have c2 :(code !=0)=true :=by simp [hc2]
     go_wp2
     go_ret
     exact ⟨ret_bool (by unfold callsOk;rw [HYES.out,decide_eq_true hc1,c2];rfl),HBW.out⟩
   ·have c1 : ¬((cs.length :Int)≤120) :=by omega
    go_wp2
    go_ret
    exact ⟨ret_bool (by unfold callsOk;rw [HYES.out,decide_eq_false hc1];rfl),HBW.out⟩
end Go.Proofs.YtfmebaafpfkeiaaGreat
end
section
namespace Go.Proofs.YtfmebaafpfkeiaaGreat
open Go.RowKit
set_option maxHeartbeats 3200000 in
set_option maxRecDepth 100000 in
theorem iFunsOk_any {B :Nat} (v :Value) (fs :List F2) (w :World) (hr :RdF B w v fs) (hf : ∀x∈fs,fnIn x) (hlen :fs.length≤4294967296) :
  Calls Tryz.prog 52 #[v] w fun e w'=> e= .returned (.bool (funsOk fs))∧Below w.heap.size w w' :=by
 have HR :=Lib.hid (fun (W :World) (hb :Below w.heap.size w W)=> hr.below' hb)
 have HF :=Lib.hid hf
 have HI :=Lib.hid (fun (a b c :Int) (W :World)=> within_any a b c W)
 by_cases hq :inB (fs.length :Int) 1 60=true
 ·have hl :=inB_true.1 hq
  have h0 :0 < fs.length :=by omega
  obtain ⟨b,off,cap,lv,rfl,hB,hbs,hcap,q0,q1,ro⟩ :=hr.at_ h0
  obtain ⟨la,lc,rfl⟩ :=ro.form
  have hz :fs[0]=fs.getD 0 fn0 :=(fs_getD h0).symm
  rw [hz] at q0
  obtain ⟨F,hF⟩ : ∃F,(fs.getD 0 fn0).f=F :=⟨_,rfl⟩
  rw [hF] at q0
  rw [Nat.zero_mul,Nat.add_zero] at q0
  have h0i :(0 :Int) < (fs.length :Int) :=by omega
  by_cases hF0 :F=0
  ·subst hF0
   have HH :=Lib.hid (show (inB (fs.length :Int) 1 60&&((fs.getD 0 fn0).f==0))=true by rw [hq,hF];rfl)
   clear hr hf hF hz ro q1
   go_enter Tryz.func52,Tryz.ntmps52
   go_wp2_with (go_at_call 54;refine (within_any _ _ _ _).mono ?_;rw [hq];rintro e w' ⟨rfl,rfl⟩)
   clear q0
   go_loopw [23] (fun i wr=> ∃k :Nat,k≤fs.length∧i= .int .i64 k∧Below w.heap.size w wr∧Hid (∀j (h :j < fs.length),j < k→fnHead fs[j]=true)) (fun i _=> fs.length-(intOf i).toNat)
   case atStart=> exact ⟨0,Nat.zero_le _,rfl,Below.refl _ _,Lib.hid (fun j _ h=> absurd h (by omega))⟩
   case round=>
    obtain ⟨k,hk,rfl,hb,hd⟩ :=hrel
    by_cases hlt :k < fs.length
    ·obtain ⟨b',off',cap',lv',hs,_,hbs',_,c0,c1,ro⟩ :=(HR.out _ hb).at_ hlt
     cases hs
     obtain ⟨la',lc',rfl⟩ :=ro.form
     have hkl :(k :Int) < (fs.length :Int) :=by omega
     obtain ⟨x,hx⟩ : ∃x,fs[k]=x :=⟨_,rfl⟩
     obtain ⟨q3,hq3⟩ : ∃q,inB x.f 0 20=q :=⟨_,rfl⟩
     obtain ⟨q4,hq4⟩ : ∃q,inB (x.os.length :Int) 1 3000=q :=⟨_,rfl⟩
     rw [hx] at c0 c1
     have HX :=Lib.hid hx
     have HB :=Lib.hid hb
     clear hx ro hb
     cases q3
     ·have HBAD :=Lib.hid (funsOk_bad hlt (by rw [HX.out];unfold fnHead;rw [hq3];rfl))
      go_wp2_with (go_at_call 54;refine (within_any _ _ _ _).mono ?_;simp only [hq3];rintro e w' ⟨rfl,rfl⟩)
      go_ret
      exact ⟨ret_bool HBAD.out.symm,HB.out.alloc HB.out.size _⟩
     cases q4
     ·have HBAD :=Lib.hid (funsOk_bad hlt (by rw [HX.out];unfold fnHead;rw [hq3,hq4];rfl))
      go_wp2_with (go_at_call 54;refine (within_any _ _ _ _).mono ?_;simp only [hq3,hq4];rintro e w' ⟨rfl,rfl⟩)
      go_ret
      exact ⟨ret_bool HBAD.out.symm,HB.out.alloc HB.out.size _⟩
     ·go_wp2_with (go_at_call 54;refine (within_any _ _ _ _).mono ?_;simp only [hq3,hq4];rintro e w' ⟨rfl,rfl⟩)
      go_roundw
      case rel=> exact ⟨k+1,hlt,by go_num,HB.out.alloc HB.out.size _,Lib.hid (fun j h hj=> by
       by_cases e :j=k
       ·subst e;rw [HX.out];unfold fnHead;rw [hq3,hq4];rfl
       ·exact hd.out j h (by omega))⟩
      case measure=> simp [intOf];omega
    ·obtain rfl :k=fs.length :=by omega
     have HB :=Lib.hid hb
     clear hb
     go_wp2
     go_loopw [41] (fun i wr=> ∃k :Nat,k≤fs.length∧i= .int .i64 k∧Below w.heap.size w wr∧Hid (∀j,j < k→fnOk fs j=true)) (fun i _=> fs.length-(intOf i).toNat)
     case atStart=> exact ⟨0,Nat.zero_le _,rfl,HB.out,Lib.hid (fun j h=> absurd h (by omega))⟩
     case round=>
      clear HB
      obtain ⟨k,hk,rfl,hb,hd2⟩ :=hrel
      by_cases hlt :k < fs.length
      ·obtain ⟨b',off',cap',lv',hs,_,hbs',_,c0,c1,ro⟩ :=(HR.out _ hb).at_ hlt
       cases hs
       obtain ⟨la',lc',rfl⟩ :=ro.form
       have hkl :(k :Int) < (fs.length :Int) :=by omega
       have hhd :=hd.out k hlt hlt
       unfold fnHead at hhd
       rw [Bool.and_eq_true] at hhd
       have hh1 :=inB_true.1 hhd.1
       have hh2 :=inB_true.1 hhd.2
       have hoi :=(HF.out _ (List.getElem_mem hlt)).2
       have HO :=Lib.hid (fun (W :World) (hb :Below w.heap.size w W) (o :O3) (ho :o3In o)=> iOpOk_any _ fs k o W (HR.out W hb) hlt ho hh1 (by omega) (by omega))
       have HOI :=Lib.hid hoi
       obtain ⟨x,hx⟩ : ∃x,fs[k]=x :=⟨_,rfl⟩
       rw [hx] at c0 c1 ro hh2
       have HOX :=Lib.hid (by rw [hx] at hoi;exact hoi : ∀o∈x.os,o3In o)
       have HX :=Lib.hid hx
       have RO :=Lib.hid (fun (W :World) (h :Below wr.heap.size wr W)=> RdE.below' ro h)
       have HB :=Lib.hid hb
       have hbz :=hb.size
       clear hx hb hhd hh1 hoi ro
       go_wp2_with fail
       clear c0 c1
       generalize hz :wr.alloc _=z
       obtain ⟨bz,kz⟩ :=Bx.alloc hz
       clear hz
       have BZ :=Lib.hid bz
       have KZ :=Lib.hid kz
       have hzz :=bz.size
       clear bz kz
       go_loopw [49] (fun i wy=> ∃t :Nat,t≤x.os.length∧i= .int .i64 t∧Below z.heap.size z wy∧Hid (∀j (h :j < x.os.length),j < t→opOk fs k x.os[j]=true)) (fun i _=> x.os.length-(intOf i).toNat)
       case atStart=> exact ⟨0,Nat.zero_le _,rfl,Below.refl _ _,Lib.hid (fun j _ h=> absurd h (by omega))⟩
       case round=>
        obtain ⟨t,ht,rfl,hb,hd3⟩ :=hrel
        have hbr :=BZ.out.trans (hb.mono BZ.out.size)
        have hbw :=HB.out.trans (hbr.mono hbz)
        by_cases htl :t < x.os.length
        ·obtain ⟨bo,offo,capo,hso,_,hbso,_,d0,d1,d2⟩ :=RdO.at_ (RO.out _ hbr) htl
         cases hso
         have htt :(t :Int) < (x.os.length :Int) :=by omega
         have hoo :=HOX.out _ (List.getElem_mem htl)
         obtain ⟨q5,hq5⟩ : ∃q,opOk fs k x.os[t]=q :=⟨_,rfl⟩
         have ho :=fun (W :World) (hb :Below w.heap.size w W)=> HO.out W hb x.os[t] hoo
         rw [hq5] at ho
         have HO5 :=Lib.hid ho
         have HQ5 :=Lib.hid hq5
         have HB3 :=Lib.hid hb
         have HBW :=Lib.hid hbw
         clear ho hq5 hoo hb hbr hbw
         go_wp2_with fail
         refine (HO5.out _ (HBW.out.alloc HBW.out.size _)).mono ?_
         rintro e w9 ⟨rfl,b9⟩
         have b9z :Below z.heap.size z w9 :=(HB3.out.alloc HB3.out.size _).trans (b9.mono (by simp;have :=HB3.out.size;omega))
         have B9 :=Lib.hid b9z
         have BW9 :=Lib.hid ((HBW.out.alloc HBW.out.size _).trans (b9.mono (by simp;have :=HBW.out.size;omega)))
         clear b9 b9z d0 d1 d2 HB3 HBW HO5
         cases q5
         ·have HBAD :=Lib.hid (funsOk_fn hlt (fnOk_op hlt (by rw [HX.out];exact htl) (by have :=HQ5.out;simp only [HX.out];exact this)))
          go_wp2
          go_ret
          exact ⟨ret_bool HBAD.out.symm,BW9.out⟩
         ·go_wp2
          go_roundw
          case rel=> exact ⟨t+1,htl,by go_num,B9.out,Lib.hid (fun j h hj=> by
           by_cases e :j=t
           ·subst e;exact HQ5.out
           ·exact hd3.out j h (by omega))⟩
          case measure=> simp [intOf];omega
        ·obtain rfl :t=x.os.length :=by omega
         obtain ⟨E,hE⟩ : ∃E :Nat,x.os.length-1=E :=⟨_,rfl⟩
         have hEl :E < x.os.length :=by omega
         obtain ⟨bo,offo,capo,hso,_,hbso,_,d0,_,_⟩ :=RdO.at_ (RO.out _ hbr) hEl
         cases hso
         have e1 :IntKind.i64.wrap ((x.os.length :Int)-1)=(E :Int) :=by rw [IntWalk.i64_in _ (by omega)];omega
         have e2 :(E :Int) < (x.os.length :Int) :=by omega
         have kz :=KZ.out.below hb KZ.out.1
         have qz :=kz.2.1
         have yz :=kz.1
         obtain ⟨C,hC⟩ : ∃C,x.os[E].c=C :=⟨_,rfl⟩
         rw [hC] at d0
         have hlc :lastC x=C :=by
          obtain ⟨_,h2⟩ :=lastC_at (x :=x) rfl (by omega)
          rw [← h2,← hC]
          simp only [hE]
         have HLC :=Lib.hid hlc
         have HB3 :=Lib.hid hb
         have HBW :=Lib.hid hbw
         have HD3 :=hd3
         clear hC hlc hE hb hbr hbw kz
         by_cases hC :C=7∨C=19∨C=21
         ·have HYES :=Lib.hid (fnOk_yes hlt (fun j hj=> by
           have h1 :j < x.os.length :=by rw [← HX.out];exact hj
           have h2 :=HD3.out j h1 h1
           simp only [HX.out]
           exact h2) (by rw [HX.out];unfold fnLast;rw [HLC.out];rcases hC with rfl | rfl | rfl <;> rfl))
          rcases hC with rfl | rfl | rfl
          all_goals go_wp2
          all_goals go_roundw
          all_goals first
           | exact ⟨k+1,hlt,by go_num,HBW.out,Lib.hid (fun j hj=> by
             by_cases e :j=k
             ·subst e;exact HYES.out
             ·exact hd2.out j (by omega))⟩
           | (simp [intOf];omega)
         ·have HBAD :=Lib.hid (funsOk_fn hlt (fnOk_last hlt (by rw [HX.out];unfold fnLast;rw [HLC.out];simp;omega)))
          have n1 :(C !=7)=true :=by simp;omega
          have n2 :(C !=19)=true :=by simp;omega
          have n3 :(C !=21)=true :=by simp;omega
          have n4 :C≠7 :=by omega
          have n5 :C≠19 :=by omega
          have n6 :C≠21 :=by omega
          clear hC
          go_wp2
          go_ret
          exact ⟨ret_bool HBAD.out.symm,HBW.out⟩
      ·obtain rfl :k=fs.length :=by omega
       have HYES :=Lib.hid (funsOk_yes HH.out (fun j h=> hd.out j h h) (fun j hj=> hd2.out j hj))
       go_wp2
       go_ret
       exact ⟨ret_bool HYES.out.symm,hb⟩
  ·have HH :=Lib.hid (funsOk_head (fs :=fs) (by rw [hF];simp [hF0]))
   have hFn :(F !=0)=true :=by simp [hF0]
   clear hr hf hF hz ro q1
   go_enter Tryz.func52,Tryz.ntmps52
   go_wp2_with (go_at_call 54;refine (within_any _ _ _ _).mono ?_;rw [hq];rintro e w' ⟨rfl,rfl⟩)
   go_ret
   exact ⟨ret_bool HH.out.symm,Below.refl _ _⟩
 ·have hq :inB (fs.length :Int) 1 60=false :=by simpa using hq
  have HH :=Lib.hid (funsOk_head (fs :=fs) (by rw [hq];rfl))
  obtain ⟨a,cap,rfl⟩ :=hr.form
  clear hr hf
  go_enter Tryz.func52,Tryz.ntmps52
  go_wp2_with (go_at_call 54;refine (within_any _ _ _ _).mono ?_;rw [hq];rintro e w' ⟨rfl,rfl⟩)
  go_ret
  exact ⟨ret_bool HH.out.symm,Below.refl _ _⟩
end Go.Proofs.YtfmebaafpfkeiaaGreat
end
section
namespace Go.Proofs.YtfmebaafpfkeiaaGreat
open Go.RowKit
def FoundNo (xs :List Int) (e :Ending) :Prop := ∃r :Int,e= .returned (.int .i64 r)∧(0≤r↔xs.all wordB=false)
theorem no_here {xs :List Int} {x :Int} {k :Nat} (hk :k < xs.length) (hx :xs.getD k 0=x) (h :wordB x=false) :xs.all wordB=false :=by
 rw [List.all_eq_false]
 exact ⟨x,mem_of_get hk hx,by rw [h];simp⟩
theorem no_none {xs :List Int} (h : ∀j,j < xs.length→wordB (xs.getD j 0)=true) :xs.all wordB=true :=by
 rw [List.all_eq_true]
 intro x hx
 obtain ⟨i,hi,he⟩ :=List.getElem_of_mem hx
 have :=h i hi
 simpa [List.getD,List.getElem?_eq_getElem hi,he] using this
theorem no_step {xs :List Int} {k :Nat} (h : ∀j,j < k→wordB (xs.getD j 0)=true) (he :wordB (xs.getD k 0)=true) : ∀j,j < k+1→wordB (xs.getD j 0)=true :=by
 intro j hj
 by_cases e :j=k
 ·subst e;exact he
 ·exact h j (by omega)
set_option maxHeartbeats 400000 in
theorem vmOk1_fun (x :Int) (w :World) :
  Calls Tryz.prog 57 #[.int .i64 x] w fun e w'=> e= .returned (.bool (!wordB x))∧w=w' :=by
 go_enter Tryz.func57,Tryz.ntmps57
 go_wp2_with (go_at_call 58;refine (iWordOk_any _ _).mono ?_;rintro e w' ⟨rfl,rfl⟩)
 go_ret
 exact ⟨rfl,rfl⟩
set_option maxHeartbeats 400000 in
theorem vmOk1_index {B :Nat} (u :Value) (xs :List Int) (w :World) (hu :Rd B .i64 w u xs) :
  Calls Tryz.prog 124 #[u, .func (.func 57) #[] #[]] w fun e w'=> FoundNo xs e∧w=w' :=by
 have hx :=hu.len
 unfold maxLen at hx
 have HF :=Lib.hid (fun x=> vmOk1_fun x w)
 rcases hu with ⟨rfl,a,cap,rfl⟩ | ⟨b,off,cap,rfl,hB,hbs,hm,hc⟩
 ·go_enter Tryz.func124,Tryz.ntmps124
  go_wp2
  refine wp_loop_rounds 1 ?_
  rw [rounds_succ]
  go_wp2
  go_ret
  exact ⟨⟨-1,rfl,by simp⟩,rfl⟩
 ·go_enter Tryz.func124,Tryz.ntmps124
  go_wp2
  go_loop [5,8] (fun _ i=> ∃k :Nat,k≤xs.length∧i= .int .i64 k∧Hid (∀j,j < k→wordB (xs.getD j 0)=true)) (fun _ i=> xs.length-(intOf i).toNat)
  case atStart=> exact ⟨0,Nat.zero_le _,rfl,fun j hj=> by omega⟩
  case round=>
   obtain ⟨k,hk,rfl,hd⟩ :=hrel
   by_cases hlt :k < xs.length
   ·have c1 :=hc k hlt
    obtain ⟨x,hx⟩ : ∃x,xs.getD k 0=x :=⟨_,rfl⟩
    rw [hx] at c1
    have HX :=Lib.hid hx
    clear hc hx
    cases he :wordB x
    ·go_wp2_with fail
     refine (HF.out x).mono ?_
     rintro e w' ⟨rfl,rfl⟩
     rw [he]
     go_wp2
     go_ret
     exact ⟨⟨k,rfl,by simp only [Int.natCast_nonneg,true_iff];exact no_here hlt HX.out he⟩,rfl⟩
    ·go_wp2_with fail
     refine (HF.out x).mono ?_
     rintro e w' ⟨rfl,rfl⟩
     rw [he]
     go_wp2
     go_round
     case rel=> exact ⟨k+1,hlt,by go_num,no_step hd.out (by rw [HX.out];exact he)⟩
     case measure=> simp [intOf];omega
   ·go_wp2
    go_ret
    exact ⟨⟨-1,rfl,⟨fun h=> by omega,fun h=> by rw [no_none (fun j hj=> hd.out j (by omega))] at h;cases h⟩⟩,rfl⟩
set_option maxHeartbeats 400000 in
theorem vmOk1_contains {B :Nat} (u :Value) (xs :List Int) (w :World) (hu :Rd B .i64 w u xs) :
  Calls Tryz.prog 56 #[u, .func (.func 57) #[] #[]] w fun e w'=> e= .returned (.bool (!xs.all wordB))∧w=w' :=by
 have HI :=Lib.hid (vmOk1_index u xs w hu)
 clear hu
 go_enter Tryz.func56,Tryz.ntmps56
 go_wp2_with fail
 refine HI.out.mono ?_
 rintro e w' ⟨⟨r,rfl,hr⟩,rfl⟩
 have HR :=Lib.hid hr
 clear hr
 go_wp2
 all_goals go_ret
 all_goals exact ⟨ret_bool (by have :=HR.out;rw [Bool.eq_iff_iff];simp only [decide_eq_true_iff,Bool.not_eq_true'];exact this),rfl⟩
def vmOk (L :VmL) :Bool :=funsOk L.fs&&(rightOf L.zs L.h L.b L.n L.ss&&(decide (L.ss.length≤600)&&(inB L.code 0 5&&(callsOk L.fs L.ss.length L.cs L.code&&L.os.all wordB))))
set_option maxHeartbeats 1600000 in
set_option maxRecDepth 100000 in
theorem iVmOk_any {B :Nat} (fv hv sv cv ov :Value) (L :VmL) (w :World) (hr :RdV B w fv hv sv cv ov L) (hi :vmIn L) (hl :vmSz L≤1048576) :
  Calls Tryz.prog 17 #[vmV fv hv sv cv ov L] w fun e w'=> e= .returned (.bool (vmOk L))∧Below w.heap.size w w' :=by
 have hcl :=fun (W :World) (hb :Below w.heap.size w W)=> iCallsOk_any fv hv sv cv ov L W (hr.below' hb) hl
 obtain ⟨fs,zs,h,b,n,ss,cs,os,code,each⟩ :=L
 obtain ⟨if_,iz,ih,ib,in_,is,_,hio,hcd⟩ :=hi
 dsimp only at if_ iz ih ib in_ is hio hcd hcl
 unfold vmSz at hl
 dsimp only at hl
 have hfn :=fun (W :World) (hb :Below w.heap.size w W)=> iFunsOk_any fv fs W (hr.f.below' hb) if_ (by omega)
 have hro :=fun (W :World) (hb :Below w.heap.size w W)=> iRootsOk_any hv sv zs ss h b n W (hr.z.below' hb) iz (by omega) (hr.s.below' hb) ih ib in_
 have hco :=fun (W :World) (hb :Below w.heap.size w W)=> vmOk1_contains ov os W (hr.o.below' hb)
 obtain ⟨fa,fc,rfl⟩ :=hr.f.form
 obtain ⟨ha,hc,rfl⟩ :=hr.z.form
 obtain ⟨sa,sc,rfl⟩ :=hr.s.form
 obtain ⟨ca,cc,rfl⟩ :=hr.c.form
 obtain ⟨oa,oc,rfl⟩ :=hr.o.form
 clear hr if_ iz ih ib in_ is hio hcd
 unfold vmV at hcl ⊢
 unfold vmOk
 dsimp only at hcl ⊢
 obtain ⟨q1,hq1⟩ : ∃q,funsOk fs=q :=⟨_,rfl⟩
 obtain ⟨q2,hq2⟩ : ∃q,rightOf zs h b n ss=q :=⟨_,rfl⟩
 obtain ⟨q3,hq3⟩ : ∃q,decide (ss.length≤600)=q :=⟨_,rfl⟩
 obtain ⟨q4,hq4⟩ : ∃q,inB code 0 5=q :=⟨_,rfl⟩
 obtain ⟨q5,hq5⟩ : ∃q,callsOk fs ss.length cs code=q :=⟨_,rfl⟩
 obtain ⟨q6,hq6⟩ : ∃q,os.all wordB=q :=⟨_,rfl⟩
 rw [hq1] at hfn
 rw [hq2] at hro
 rw [hq5] at hcl
 rw [hq6] at hco
 rw [hq1,hq2,hq3,hq4,hq5,hq6]
 have HQ3 :=Lib.hid hq3
 have HF :=Lib.hid hfn
 have HRO :=Lib.hid hro
 have HW :=Lib.hid (fun (W :World)=> (by have :=within_any code 0 5 W;rw [hq4] at this;exact this :Calls Tryz.prog 54 #[.int .i64 code, .int .i64 0, .int .i64 5] W _))
 have HC :=Lib.hid hcl
 have HO :=Lib.hid hco
 clear hq1 hq2 hq3 hq4 hq5 hq6 hfn hro hcl hco
 go_enter Tryz.func17,Tryz.ntmps17
 go_wp2_with fail
 generalize hx :w.alloc _=x
 obtain ⟨bb,k1⟩ :=Bx.alloc hx
 clear hx
 have ck1 :=k1.2.1
 have yk1 :=k1.1
 go_wp2_with fail
 refine (HF.out _ bb).mono ?_
 rintro e w1 ⟨rfl,b1⟩
 clear ck1 yk1
 replace k1 :=k1.below b1 k1.1
 replace bb :=bb.trans (b1.mono bb.size)
 clear b1
 cases q1
 ·go_wp2
  go_ret
  exact ⟨rfl,bb⟩
 have ck1 :=k1.2.1
 have yk1 :=k1.1
 go_wp2_with fail
 refine (HRO.out _ bb).mono ?_
 rintro e w2 ⟨rfl,b2⟩
 clear ck1 yk1
 replace k1 :=k1.below b2 k1.1
 replace bb :=bb.trans (b2.mono bb.size)
 clear b2
 have ck1 :=k1.2.1
 have yk1 :=k1.1
 cases q2
 ·go_wp2
  go_ret
  exact ⟨rfl,bb⟩
 cases q3
 case true=>
  have h3i :(ss.length :Int)≤600 :=by have :=of_decide_eq_true HQ3.out;omega
  go_wp2_with fail
  refine (HW.out _).mono ?_
  rintro e w3 ⟨rfl,rfl⟩
  cases q4
  ·go_wp2
   go_ret
   exact ⟨rfl,bb⟩
  go_wp2_with fail
  refine (HC.out _ bb).mono ?_
  rintro e w4 ⟨rfl,b4⟩
  clear ck1 yk1
  replace k1 :=k1.below b4 k1.1
  replace bb :=bb.trans (b4.mono bb.size)
  clear b4
  have ck1 :=k1.2.1
  have yk1 :=k1.1
  cases q5
  ·go_wp2
   go_ret
   exact ⟨rfl,bb⟩
  go_wp2_with fail
  refine (HO.out _ bb).mono ?_
  rintro e w5 ⟨rfl,rfl⟩
  cases q6
  ·go_wp2
   go_ret
   exact ⟨rfl,bb⟩
  ·go_wp2
   go_ret
   exact ⟨rfl,bb⟩
 case false=>
  have h3i : ¬((ss.length :Int)≤600) :=by have :=of_decide_eq_false HQ3.out;omega
  go_wp2
  go_ret
  exact ⟨rfl,bb⟩
end Go.Proofs.YtfmebaafpfkeiaaGreat
end
section
namespace Go.Proofs.YtfmebaafpfkeiaaGreat
open Go.RowKit
def lastW (ss :List Int) (k :Nat) :Int :=ss.getD (ss.length-1-k) 0
def pushL (ss :List Int) (t :Nat) (x :Int) :Int×List Int :=if 600 < (ss.length :Int)-t+1 then (3,ss) else (0,ss.take (ss.length-t)++ [x])
def roundL (n :Int) :Int :=if 1073741823 < n.tmod 2147483648 then n.tmod 2147483648-2147483648 else if n.tmod 2147483648 < -1073741824 then n.tmod 2147483648+2147483648 else n.tmod 2147483648
def reckN (op a b :Int) :Int :=if op=10 then roundL (a+b) else if op=11 then roundL (a-b) else if op=12 then roundL (a*b) else if (op=13∧a < b)∨(op=14∧a=b) then 1 else 0
def takesOf (c m :Int) :Int :=
 if c=5∨c=8 then m else if c=6∨c=12∨c=13∨c=14∨c=15∨c=16∨c=20 then 2 else if c=7∨c=10∨c=11∨c=18∨c=9∨c=17 then 1 else 0
def putsOf (c :Int) :Int :=
 if c=7∨c=10∨c=11∨c=18∨c=19∨c=21 then 0 else if 1≤c∧c≤21 then 1 else 0
def isBlk (zs :List Int) (x :Int) (f :Bool) :Bool :=decide (x%2=0)&&(hFun (zs.getD (x/2).toNat 0)==f)
def tagAt (zs :List Int) (x :Int) :Int :=hTag (zs.getD (x/2).toNat 0)
def kidsOf (zs :List Int) (x :Int) :List Int :=kidsAt zs (x/2).toNat
def roomL (L :VmL) :Int :=L.b+L.h-L.n
def movedL (L :VmL) :VmL :=let C :=collectOf L.zs L.h L.b L.n L.ss;{L with zs :=C.ws,b :=C.base,n :=C.next,ss :=C.roots}
def putL (L :VmL) (f :Bool) (tag :Int) (k :Nat) :Int×VmL :=
 if roomL L < 1+k then (2,L)
 else let r :=pushL L.ss k (2*L.n);(r.1,{L with zs :=ov L.zs L.n.toNat (hdOf f tag k ::L.ss.drop (L.ss.length-k)),n :=L.n+(1+k),ss :=r.2})
def makeL (L :VmL) (f :Bool) (tag :Int) (k :Nat) :Int×VmL :=
 putL (if L.each=true∨roomL L < 1+k then movedL L else L) f tag k
def setPc (cs :List O3) (pc :Int) :List O3 :=cs.set (cs.length-1) {cs.getD (cs.length-1) c0 with n :=pc}
def callL (L :VmL) :Int×VmL :=
 let x :=lastW L.ss 1
 if isBlk L.zs x true=false∨(L.fs.length :Int)≤tagAt L.zs x then (5,L)
 else if L.cs.length=120 then (3,L) else (0,{L with cs :=L.cs++ [⟨tagAt L.zs x,0,(L.ss.length :Int)-1⟩]})
def retL (L :VmL) (base :Int) :Int×VmL :=
 if (L.ss.length :Int)≠base+2 then (5,L)
 else (if L.cs.length=1 then 1 else 0,{L with ss :=L.ss.take (base-1).toNat++ [lastW L.ss 0],cs :=L.cs.dropLast})
def kidL (L :VmL) (x :Int) (f :Bool) (n :Int) (t :Nat) :Int×VmL :=
 if isBlk L.zs x f=false∨((kidsOf L.zs x).length :Int)≤n then (5,L)
 else let r :=pushL L.ss t ((kidsOf L.zs x).getD n.toNat 0);(r.1,{L with ss :=r.2})
def goesL (zs :List Int) (o :O3) (x :Int) :Bool :=
 if o.c=10 then !(isBlk zs x false&&decide (tagAt zs x=o.n)) else if o.c=11 then decide (x≠intW o.n) else decide (x=1)
def branchL (L :VmL) (o :O3) :Int×VmL :=
 let x :=lastW L.ss 0
 if o.c=18∧x%2=0 then (5,L)
 else (0,{L with ss :=L.ss.take (L.ss.length-1),cs :=if goesL L.zs o x then setPc L.cs (if o.c=18 then o.n else o.m) else L.cs})
def reckL (L :VmL) (c :Int) :Int×VmL :=
 let a :=lastW L.ss 1;let b :=lastW L.ss 0
 if a%2=0∨b%2=0 then (5,L) else let r :=pushL L.ss 2 (intW (reckN (c-12+10) (a/2) (b/2)));(r.1,{L with ss :=r.2})
def pushR (L :VmL) (t :Nat) (x :Int) :Int×VmL :=let r :=pushL L.ss t x;(r.1,{L with ss :=r.2})
def doL (L :VmL) (o c :O3) :Int×VmL :=
 let self :=L.ss.getD (c.m-1).toNat 0
 if (L.ss.length :Int)-c.m-1 < takesOf o.c o.m then (5,L)
 else if o.c=1 then pushR L 0 (intW o.n)
 else if o.c=2 then (if (L.ss.length :Int)≤c.m+o.n then (5,L) else pushR L 0 (L.ss.getD (c.m+o.n).toNat 0))
 else if o.c=3 then kidL L self true o.n 0
 else if o.c=4 then pushR L 0 self
 else if o.c=5∨o.c=8 then makeL L (decide (o.c=5)) o.n o.m.toNat
 else if o.c=6 then callL L
 else if o.c=7 then retL L c.m
 else if o.c=9 then kidL L (lastW L.ss 0) false o.n 1
 else if o.c=10∨o.c=11∨o.c=18 then branchL L o
 else if o.c=17 then (if lastW L.ss 0%2=0 then (5,L) else (0,{L with os :=L.os++ [lastW L.ss 0/2]}))
 else if o.c=19 then (0,{L with cs :=setPc L.cs o.n})
 else if o.c=20 then pushR L 2 (lastW L.ss 0)
 else if o.c=21 then (4,L)
 else reckL L o.c
def topC (L :VmL) :O3 :=L.cs.getD (L.cs.length-1) c0
def opL (L :VmL) (c :O3) :O3 :=(L.fs.getD c.c.toNat fn0).os.getD c.n.toNat ⟨0,0,0⟩
def stepL (L :VmL) :VmL :=
 let c :=topC L
 let r :=doL {L with cs :=setPc L.cs (c.n+1),code :=0} (opL L c) c
 if r.1=0∨r.1=1 then {r.2 with code :=r.1} else {L with code :=r.1}
def runL :Nat→VmL→VmL
 | 0,L=> L
 | k+1,L=> if L.code=0 then runL k (stepL L) else L
end Go.Proofs.YtfmebaafpfkeiaaGreat
end
section
namespace Go.Proofs.YtfmebaafpfkeiaaGreat
open Go.RowKit
theorem mid_block {X ks Y :List Int} {x :Int} (hk :hK x=ks.length) :(X++(x ::ks++Y)).getD X.length 0=x∧kidsAt (X++(x ::ks++Y)) X.length=ks :=by
 have h0 :(X++(x ::ks++Y)).getD X.length 0=x :=by
  rw [List.getD_eq_getElem?_getD,List.getElem?_append_right (Nat.le_refl _),Nat.sub_self]
  rfl
 refine ⟨h0,?_⟩
 unfold kidsAt
 rw [h0,hk,List.drop_append,List.drop_eq_nil_of_le (by omega),List.nil_append,show X.length+1-X.length=1 by omega,List.cons_append,List.drop_succ_cons,List.drop_zero,List.take_left]
structure Mvg (ws rs :List Int) (h b n :Nat) (ps o :List Nat) :Prop where
 right :Right ws h b n ps
 roots :rs.all (wordIn ps)=true
 ord :o=orderOf ws rs
theorem Mvg.ok {ws rs :List Int} {h b n :Nat} {ps o :List Nat} (M :Mvg ws rs h b n ps o) :Ordered ps o :=by rw [M.ord];exact order_ok M.right M.roots
theorem Mvg.at_ {ws rs :List Int} {h b n :Nat} {ps o :List Nat} (M :Mvg ws rs h b n ps o) {p :Nat} (hp :p∈o) :b≤p∧p < n∧hOk (ws.getD p 0)=true∧p+1+hK (ws.getD p 0)≤n∧(kidsAt ws p).all (wordIn ps)=true :=M.right.at_ (M.ok.2 p hp)
theorem Mvg.klen {ws rs :List Int} {h b n :Nat} {ps o :List Nat} (M :Mvg ws rs h b n ps o) {p :Nat} (hp :p∈o) :(kidsAt ws p).length=hK (ws.getD p 0) :=by
 have h1 :=(M.at_ hp).2.2.2.1
 have h2 :=M.right.n_le.1
 exact kidsAt_len (by omega)
abbrev qAt (ws :List Int) (h b :Nat) (o :List Nat) (p :Nat) :Nat :=newAt ws (h-b) o p
abbrev tsOf (ws :List Int) (h b :Nat) (o :List Nat) :List Int :=lay (h-b) ws.length (mvd ws (h-b) o o)
theorem idx_getD {o :List Nat} (ho :o.Nodup) {k :Nat} (hk :k < o.length) :o.idxOf (o.getD k 0)=k :=by
 rw [List.getD_eq_getElem?_getD,List.getElem?_eq_getElem hk,Option.getD_some]
 exact ho.idxOf_getElem k hk
theorem Mvg.q {ws rs :List Int} {h b n :Nat} {ps o :List Nat} (M :Mvg ws rs h b n ps o) {k :Nat} (hk :k < o.length) :qAt ws h b o (o.getD k 0)=(h-b)+(raw ws (o.take k)).length :=by
 unfold qAt newAt
 rw [idx_getD M.ok.1 hk]
theorem mvd_app (ws :List Int) (b :Nat) (o x y :List Nat) :mvd ws b o (x++y)=mvd ws b o x++mvd ws b o y :=by simp [mvd]
theorem Mvg.block {ws rs :List Int} {h b n :Nat} {ps o :List Nat} (M :Mvg ws rs h b n ps o) {p :Nat} (hp :p∈o) :
  (tsOf ws h b o).getD (qAt ws h b o p) 0=ws.getD p 0∧kidsAt (tsOf ws h b o) (qAt ws h b o p)=(kidsAt ws p).map (mv ws (h-b) o) :=by
 obtain ⟨k,hk,rfl⟩ :=List.mem_iff_getElem.1 hp
 have e :o[k]=o.getD k 0 :=by rw [List.getD_eq_getElem?_getD,List.getElem?_eq_getElem hk];rfl
 have hq :=M.q hk
 rw [← e] at hq
 rw [hq]
 have hl :(List.replicate (h-b) (0 :Int)++mvd ws (h-b) o (o.take k)).length=(h-b)+(raw ws (o.take k)).length :=by rw [List.length_append,List.length_replicate,mvd_len]
 have ht :tsOf ws h b o=(List.replicate (h-b) (0 :Int)++mvd ws (h-b) o (o.take k))++((ws.getD o[k] 0 ::(kidsAt ws o[k]).map (mv ws (h-b) o))++(mvd ws (h-b) o (o.drop (k+1))++List.replicate (ws.length-(h-b)-(mvd ws (h-b) o o).length) 0)) :=by
  unfold tsOf lay
  have e2 :mvd ws (h-b) o o=mvd ws (h-b) o (o.take k)++(mblk ws (h-b) o o[k]++mvd ws (h-b) o (o.drop (k+1))) :=by
   have :o=o.take k++([o[k]]++o.drop (k+1)) :=by rw [List.singleton_append,← List.drop_eq_getElem_cons hk,List.take_append_drop]
   have e3 :mvd ws (h-b) o (o.take k++([o[k]]++o.drop (k+1)))=mvd ws (h-b) o (o.take k)++(mblk ws (h-b) o o[k]++mvd ws (h-b) o (o.drop (k+1))) :=by
    rw [mvd_app,mvd_app]
    congr 2
    simp [mvd]
   rw [← this] at e3
   exact e3
  conv=> lhs;rw [show mvd ws (h-b) o o++List.replicate (ws.length-(h-b)-(mvd ws (h-b) o o).length) 0=(mvd ws (h-b) o (o.take k)++(mblk ws (h-b) o o[k]++mvd ws (h-b) o (o.drop (k+1))))++List.replicate (ws.length-(h-b)-(mvd ws (h-b) o o).length) 0 from by rw [← e2]]
  simp only [mblk,List.append_assoc,List.cons_append]
 have hm :=mid_block (X :=List.replicate (h-b) (0 :Int)++mvd ws (h-b) o (o.take k)) (ks :=(kidsAt ws o[k]).map (mv ws (h-b) o)) (Y :=mvd ws (h-b) o (o.drop (k+1))++List.replicate (ws.length-(h-b)-(mvd ws (h-b) o o).length) 0) (x :=ws.getD o[k] 0) (by rw [List.length_map,M.klen hp])
 rw [← ht,hl] at hm
 exact hm
theorem raw_split (ws :List Int) (o :List Nat) (k :Nat) :(raw ws o).length=(raw ws (o.take k)).length+(raw ws (o.drop k)).length :=by
 conv=> lhs;rw [← List.take_append_drop k o,raw_append,List.length_append]
theorem Mvg.places {ws rs :List Int} {h b n :Nat} {ps o :List Nat} (M :Mvg ws rs h b n ps o) :
  ∀(m k f :Nat),k+m=o.length→(raw ws (o.drop k)).length≤f→places (tsOf ws h b o) ((h-b)+(raw ws o).length) f ((h-b)+(raw ws (o.take k)).length)=some ((o.drop k).map (qAt ws h b o)) :=by
 intro m
 induction m with
 | zero=>
  intro k f hk hf
  rw [show o.take k=o by rw [List.take_of_length_le];omega,show o.drop k= [] by rw [List.drop_eq_nil_of_le];omega,places_end (by omega)]
  rfl
 | succ m ih=>
  intro k f hk hf
  have hkl :k < o.length :=by omega
  have hp :o[k]∈o :=List.getElem_mem hkl
  have e :o[k]=o.getD k 0 :=by rw [List.getD_eq_getElem?_getD,List.getElem?_eq_getElem hkl];rfl
  have hq :=M.q hkl
  rw [← e] at hq
  obtain ⟨b1,b2⟩ :=M.block hp
  rw [hq] at b1
  have hd :o.drop k=o[k] ::o.drop (k+1) :=List.drop_eq_getElem_cons hkl
  have hbl :(blk ws o[k]).length=1+hK (ws.getD o[k] 0) :=blk_len (by have h1 :=(M.at_ hp).2.2.2.1;have h2 :=M.right.n_le.1;omega)
  have hs :=raw_split ws o k
  have hs1 :=raw_split ws o (k+1)
  have ht :(raw ws (o.take (k+1))).length=(raw ws (o.take k)).length+(1+hK (ws.getD o[k] 0)) :=by
   rw [← List.take_append_getElem hkl,raw_snoc,List.length_append,hbl]
  have hfd :(raw ws (o.drop k)).length=(1+hK (ws.getD o[k] 0))+(raw ws (o.drop (k+1))).length :=by omega
  obtain ⟨f,rfl⟩ : ∃g,f=g+1 :=⟨f-1,by omega⟩
  rw [places_go (by omega) (by rw [b1];exact (M.at_ hp).2.2.1) (by rw [b1];omega),b1,hd,List.map_cons,hq]
  have :=ih (k+1) f (by omega) (by omega)
  rw [ht,show (h-b)+((raw ws (o.take k)).length+(1+hK (ws.getD o[k] 0)))=(h-b)+(raw ws (o.take k)).length+1+hK (ws.getD o[k] 0) by omega] at this
  rw [this]
  rfl
abbrev psOf (ws :List Int) (h b :Nat) (o :List Nat) :List Nat :=o.map (qAt ws h b o)
theorem Mvg.some_ {ws rs :List Int} {h b n :Nat} {ps o :List Nat} (M :Mvg ws rs h b n ps o) :placesOf (tsOf ws h b o) (h-b) ((h-b)+(raw ws o).length)=some (psOf ws h b o) :=by
 have :=M.places o.length 0 ((h-b)+(raw ws o).length-(h-b)) (by omega) (by simp)
 simpa [placesOf,raw_nil] using this
theorem Mvg.word {ws rs :List Int} {h b n :Nat} {ps o :List Nat} (M :Mvg ws rs h b n ps o) {x :Int} (hx :wordIn ps x=true) (hc :x%2=0→(x/2).toNat∈o) :wordIn (psOf ws h b o) (mv ws (h-b) o x)=true :=by
 unfold mv
 split
 ·rename_i he
  unfold wordIn
  rw [if_pos (by omega),decide_eq_true_eq]
  exact ⟨_,List.mem_map_of_mem (hc he),by show ((newAt ws (h-b) o (x/2).toNat :Nat) :Int)=_;omega⟩
 ·rename_i he
  unfold wordIn at hx ⊢
  rw [if_neg he] at hx ⊢
  exact hx
theorem Mvg.words {ws rs :List Int} {h b n :Nat} {ps o :List Nat} (M :Mvg ws rs h b n ps o) {xs :List Int} (hx :xs.all (wordIn ps)=true) (hc :Cl o xs) :(xs.map (mv ws (h-b) o)).all (wordIn (psOf ws h b o))=true :=by
 rw [List.all_eq_true] at hx ⊢
 intro y hy
 obtain ⟨x,hxm,rfl⟩ :=List.mem_map.1 hy
 exact M.word (hx x hxm) (hc x hxm)
theorem Mvg.kcl {ws rs :List Int} {h b n :Nat} {ps o :List Nat} (M :Mvg ws rs h b n ps o) {p :Nat} (hp :p∈o) :Cl o (kidsAt ws p) :=by
 have :=M.ord
 subst this
 exact order_kids M.right M.roots hp
theorem Mvg.rcl {ws rs :List Int} {h b n :Nat} {ps o :List Nat} (M :Mvg ws rs h b n ps o) :Cl o rs :=by
 have :=M.ord
 subst this
 exact order_roots ws rs
theorem Mvg.tlen {ws rs :List Int} {h b n :Nat} {ps o :List Nat} (M :Mvg ws rs h b n ps o) :(tsOf ws h b o).length=ws.length :=by
 refine lay_len ?_
 rw [mvd_len]
 have h1 :=M.right.raw_le M.ok
 have h2 :=M.right.frame.len
 have h3 :=M.right.frame.base
 omega
theorem Mvg.rightT {ws rs :List Int} {h b n :Nat} {ps o :List Nat} (M :Mvg ws rs h b n ps o) :Right (tsOf ws h b o) h (h-b) ((h-b)+(raw ws o).length) (psOf ws h b o) :=by
 have h1 :=M.right.raw_le M.ok
 have F :=M.right.frame
 have hb :=F.base
 refine ⟨⟨F.h0,F.h1,by rw [M.tlen];exact F.len,by omega,by omega,by omega⟩,M.some_,?_⟩
 unfold blocksFit
 rw [List.all_eq_true]
 intro q hq
 obtain ⟨p,hp,rfl⟩ :=List.mem_map.1 hq
 rw [(M.block hp).2]
 exact M.words (M.at_ hp).2.2.2.2 (M.kcl hp)
theorem Mvg.inj {ws rs :List Int} {h b n :Nat} {ps o :List Nat} (M :Mvg ws rs h b n ps o) {p p' :Nat} (hp :p∈o) (hp' :p'∈o) (he :qAt ws h b o p=qAt ws h b o p') :p=p' :=by
 have hs :=M.rightT.sorted
 obtain ⟨i,hi,rfl⟩ :=List.mem_iff_getElem.1 hp
 obtain ⟨j,hj,rfl⟩ :=List.mem_iff_getElem.1 hp'
 rw [List.pairwise_iff_getElem] at hs
 rcases Nat.lt_trichotomy i j with hij | hij | hij
 ·have :=hs i j (by simpa using hi) (by simpa using hj) hij
  simp only [List.getElem_map] at this
  omega
 ·subst hij;rfl
 ·have :=hs j i (by simpa using hj) (by simpa using hi) hij
  simp only [List.getElem_map] at this
  omega
theorem Mvg.seeW {ws rs :List Int} {h b n :Nat} {ps o :List Nat} (M :Mvg ws rs h b n ps o) {S :List Nat} {x :Int} (hS : ∀p∈S,p∈o) (hc :x%2=0→(x/2).toNat∈o) :
  seeW (S.map (qAt ws h b o)) (mv ws (h-b) o x)=(seeW S x).map (qAt ws h b o)∧∀p∈seeW S x,p∈o :=by
 unfold Go.Proofs.YtfmebaafpfkeiaaGreat.seeW mv
 split
 ·rename_i he
  have hm :=hc he
  rw [if_pos (by omega),show (2*((newAt ws (h-b) o (x/2).toNat :Nat) :Int)/2).toNat=qAt ws h b o (x/2).toNat by show _=newAt ws (h-b) o (x/2).toNat;omega]
  by_cases hi :(x/2).toNat∈S
  ·rw [if_pos (List.mem_map_of_mem hi),if_pos hi]
   exact ⟨rfl,hS⟩
  ·rw [if_neg,if_neg hi]
   ·refine ⟨by simp,fun p hp=> ?_⟩
    rcases List.mem_append.1 hp with hp | hp
    ·exact hS p hp
    ·rw [List.mem_singleton.1 hp];exact hm
   ·intro hh
    obtain ⟨p,hp,hpe⟩ :=List.mem_map.1 hh
    have :=M.inj (hS p hp) hm hpe
    exact hi (this▸hp)
 ·rename_i he
  exact ⟨rfl,hS⟩
theorem Mvg.seeL {ws rs :List Int} {h b n :Nat} {ps o :List Nat} (M :Mvg ws rs h b n ps o) : ∀(xs :List Int) (S :List Nat),(∀p∈S,p∈o)→Cl o xs→
  seeL (S.map (qAt ws h b o)) (xs.map (mv ws (h-b) o))=(seeL S xs).map (qAt ws h b o)∧∀p∈seeL S xs,p∈o :=by
 intro xs
 induction xs with
 | nil=> intro S hS _;exact ⟨rfl,hS⟩
 | cons x xs ih=>
  intro S hS hc
  obtain ⟨h1,h2⟩ :=M.seeW hS (hc x (List.mem_cons_self ..))
  have :=ih (Go.Proofs.YtfmebaafpfkeiaaGreat.seeW S x) h2 (fun y hy=> hc y (List.mem_cons_of_mem _ hy))
  rw [← h1] at this
  exact this
theorem Mvg.bfs {ws rs :List Int} {h b n :Nat} {ps o :List Nat} (M :Mvg ws rs h b n ps o) : ∀(f i :Nat) (S :List Nat),(∀p∈S,p∈o)→bfs (tsOf ws h b o) f i (S.map (qAt ws h b o))=(bfs ws f i S).map (qAt ws h b o) :=by
 intro f
 induction f with
 | zero=> intro i S _;rfl
 | succ f ih=>
  intro i S hS
  by_cases hi :i < S.length
  ·have hp :S.getD i 0∈o :=hS _ (get_mem hi)
   have e :(S.map (qAt ws h b o)).getD i 0=qAt ws h b o (S.getD i 0) :=by
    rw [List.getD_eq_getElem?_getD,List.getD_eq_getElem?_getD,List.getElem?_map,List.getElem?_eq_getElem hi];rfl
   obtain ⟨h1,h2⟩ :=M.seeL (kidsAt ws (S.getD i 0)) S hS (M.kcl hp)
   rw [bfs_go hi,bfs_go (by simpa using hi),e,(M.block hp).2,h1]
   exact ih (i+1) _ h2
  ·rw [bfs_end hi,bfs_end (by simpa using hi)]
theorem Mvg.order {ws rs :List Int} {h b n :Nat} {ps o :List Nat} (M :Mvg ws rs h b n ps o) :orderOf (tsOf ws h b o) (rs.map (mv ws (h-b) o))=psOf ws h b o :=by
 obtain ⟨h1,h2⟩ :=M.seeL rs [] (by simp) M.rcl
 unfold orderOf
 rw [M.tlen]
 have :=M.bfs ws.length 0 (Go.Proofs.YtfmebaafpfkeiaaGreat.seeL [] rs) h2
 rw [← h1] at this
 refine this.trans ?_
 have e :=M.ord
 unfold orderOf at e
 rw [← e]
theorem Mvg.idx {ws rs :List Int} {h b n :Nat} {ps o :List Nat} (M :Mvg ws rs h b n ps o) {p :Nat} (hp :p∈o) : ∀l :List Nat,(∀y∈l,y∈o)→(l.map (qAt ws h b o)).idxOf (qAt ws h b o p)=l.idxOf p :=by
 intro l
 induction l with
 | nil=> intro _;rfl
 | cons y l ih=>
  intro hl
  rw [List.map_cons,List.idxOf_cons,List.idxOf_cons,ih (fun z hz=> hl z (List.mem_cons_of_mem _ hz))]
  by_cases hy :y=p
  ·subst hy;simp
  ·have : ¬qAt ws h b o y=qAt ws h b o p :=fun he=> hy (M.inj (hl y (List.mem_cons_self ..)) hp he)
   have e1 :(qAt ws h b o y==qAt ws h b o p)=false :=by simpa using this
   have e2 :(y==p)=false :=by simpa using hy
   rw [e1,e2]
theorem Mvg.numOf {ws rs :List Int} {h b n :Nat} {ps o :List Nat} (M :Mvg ws rs h b n ps o) {p :Nat} (hp :p∈o) :numOf (psOf ws h b o) (qAt ws h b o p)=numOf o p :=by
 unfold Go.Proofs.YtfmebaafpfkeiaaGreat.numOf
 rw [if_pos (List.mem_map_of_mem hp),if_pos hp,M.idx hp o (fun _ h=> h)]
theorem Mvg.rightB {ws rs :List Int} {h b n :Nat} {ps o :List Nat} (M :Mvg ws rs h b n ps o) :heapOk ws h b n=true∧rightOf ws h b n rs=true :=by
 have hF :heapFrame ws h b n=true :=by
  unfold heapFrame
  rw [decide_eq_true_eq]
  have F :=M.right.frame
  have f1 :=F.h0
  have f2 :=F.h1
  have f3 :=F.len
  have f4 :=F.base
  have f5 :=F.n0
  have f6 :=F.n1
  omega
 have h1 :heapOk ws h b n=true :=by rw [heapOk_places hF M.right.some];exact M.right.fit
 exact ⟨h1,by rw [rightOf_at h1 M.right.some];exact M.roots⟩
end Go.Proofs.YtfmebaafpfkeiaaGreat
end
