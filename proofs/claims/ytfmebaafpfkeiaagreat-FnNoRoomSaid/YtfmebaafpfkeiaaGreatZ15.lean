/- Parts of the proof of FnNoRoom. -/
import Derived.Test.YtfmebaafpfkeiaaGreatZ14
import Derived.Test.YtfmebaafpfkeiaaGreatZ12
import Derived.Deep.RegionHeld3
import Derived.OwnWalk
import Derived.Test.YtfmebaafpfkeiaaGreatZ13
import Derived.IntWalk
import Derived.Deep.DeepCutAuto
import Derived.Deep.CutRange
set_option linter.unusedVariables false
set_option linter.unusedSimpArgs false
section
namespace Go.Proofs.YtfmebaafpfkeiaaGreat
open Go.RowKit
def Diff (u v :Value) :Prop := ∀k,u.ownBlock=some k→v.ownBlock≠some k
theorem Diff.of {base base' :Nat} {e e' :TypeId} {sz sz' n n' :Nat} {w w' :World} {u v :Value} {xs ys :List Value} (h :w.ownsRow base e sz u n xs) (h' :w'.ownsRow base' e' sz' v n' ys) (hb :w.heap.size≤base') :Diff u v :=fun k hk hk'=> by
 have h1 :=(h.lt k hk).2
 have h2 :=(h'.lt k hk').1
 omega
theorem own_diff {u v :Value} (h :Diff u v) :v.ownBlock=none∨v.ownBlock≠u.ownBlock :=by
 rcases hv :v.ownBlock with _ | k
 ·exact .inl rfl
 ·exact .inr (fun e=> h k e.symm hv)
def mix (ws :List Int) (b :Nat) (o q :List Nat) (k :Nat) :List Int :=mvd ws b o (q.take k)++raw ws (q.drop k)
def mixB (ws :List Int) (b :Nat) (o :List Nat) (p j :Nat) :List Int :=ws.getD p 0 ::(((kidsAt ws p).take j).map (mv ws b o)++(kidsAt ws p).drop j)
def mix2 (ws :List Int) (b :Nat) (o q :List Nat) (k p j :Nat) :List Int :=mvd ws b o (q.take k)++(mixB ws b o p j++raw ws (q.drop (k+1)))
theorem mix_zero (ws :List Int) (b :Nat) (o q :List Nat) :mix ws b o q 0=raw ws q :=by simp [mix,mvd]
theorem mix_all (ws :List Int) (b :Nat) (o q :List Nat) :mix ws b o q q.length=mvd ws b o q :=by simp [mix,raw]
theorem mix2_zero {ws :List Int} {b :Nat} {o q :List Nat} {k p :Nat} (h :k < q.length) (hp :q[k]=p) :mix2 ws b o q k p 0=mix ws b o q k :=by
 unfold mix2 mix mixB
 rw [List.drop_eq_getElem_cons h,hp,List.take_zero,List.map_nil,List.nil_append,List.drop_zero]
 simp [raw,blk]
theorem mix2_all {ws :List Int} {b :Nat} {o q :List Nat} {k p :Nat} (h :k < q.length) (hp :q[k]=p) :mix2 ws b o q k p (kidsAt ws p).length=mix ws b o q (k+1) :=by
 unfold mix2 mix mixB
 rw [← List.take_append_getElem h,mvd_snoc,hp,List.take_length,List.drop_length,List.append_nil,List.append_assoc]
 rfl
theorem mixB_len (ws :List Int) (b :Nat) (o :List Nat) (p j :Nat) :(mixB ws b o p j).length=(blk ws p).length :=by
 unfold mixB blk
 simp
 omega
theorem mix2_len {ws :List Int} {b :Nat} {o q :List Nat} {k p :Nat} (j :Nat) (h :k < q.length) (hp :q[k]=p) :(mix2 ws b o q k p j).length=(raw ws q).length :=by
 have h1 :raw ws q=raw ws (q.take k)++(blk ws p++raw ws (q.drop (k+1))) :=by
  have h2 :q=q.take k++(p ::q.drop (k+1)) :=by rw [← hp,← List.drop_eq_getElem_cons h,List.take_append_drop]
  conv=> lhs;rw [h2]
  rw [raw_append]
  rfl
 rw [h1]
 unfold mix2
 rw [List.length_append,List.length_append,List.length_append,List.length_append,mvd_len,mixB_len]
theorem mix_hd {ws :List Int} {b :Nat} {o q :List Nat} {k p :Nat} (h :k < q.length) (hp :q[k]=p) :(mix ws b o q k).getD (raw ws (q.take k)).length 0=ws.getD p 0 :=by
 rw [← mix2_zero h hp]
 unfold mix2 mixB
 rw [List.getD_eq_getElem?_getD,List.getElem?_append_right (by rw [mvd_len];exact Nat.le_refl _),mvd_len]
 simp
theorem mix2_get {ws :List Int} {b :Nat} {o q :List Nat} {k p j :Nat} (hj :j < (kidsAt ws p).length) :(mix2 ws b o q k p j)[(raw ws (q.take k)).length+1+j]?=some ((kidsAt ws p).getD j 0) :=by
 unfold mix2 mixB
 rw [List.getElem?_append_right (by rw [mvd_len];omega),mvd_len,show (raw ws (q.take k)).length+1+j-(raw ws (q.take k)).length=j+1 by omega,List.cons_append,List.getElem?_cons_succ,List.append_assoc,
  List.getElem?_append_right (by simp;omega),List.length_map,List.length_take,Nat.min_eq_left (by omega),Nat.sub_self,List.getElem?_append_left (by simp;omega),List.getElem?_drop,Nat.add_zero,List.getD_eq_getElem?_getD,List.getElem?_eq_getElem hj]
 rfl
theorem mix2_set {ws :List Int} {b :Nat} {o q :List Nat} {k p j :Nat} (hj :j < (kidsAt ws p).length) :(mix2 ws b o q k p j).set ((raw ws (q.take k)).length+1+j) (mv ws b o ((kidsAt ws p).getD j 0))=mix2 ws b o q k p (j+1) :=by
 unfold mix2 mixB
 have h1 :((kidsAt ws p).take j).length=j :=by simp;omega
 have h2 :(kidsAt ws p).getD j 0=(kidsAt ws p)[j] :=by simp [List.getD_eq_getElem?_getD,hj]
 rw [List.set_append_right _ _ (by rw [mvd_len];omega),mvd_len,show (raw ws (q.take k)).length+1+j-(raw ws (q.take k)).length=j+1 by omega,List.cons_append,List.set_cons_succ,List.append_assoc,
  List.set_append_right _ _ (by simp;omega),List.length_map,h1,Nat.sub_self,List.drop_eq_getElem_cons hj,List.cons_append,List.set_cons_zero,h2,← List.take_append_getElem hj,List.map_append]
 simp
theorem mv_ok {ws :List Int} {h b n b' :Nat} {ps o :List Nat} (hR :Right ws h b n ps) (ho :Ordered ps o) (hb :b'+h≤6000) {x :Int} (hx : -9223372036854775808≤x∧x≤9223372036854775807) : -9223372036854775808≤mv ws b' o x∧mv ws b' o x≤9223372036854775807 :=by
 unfold mv
 split
 ·have :=newAt_le (b' :=b') hR ho (x/2).toNat
  omega
 ·exact hx
theorem blk_ok {ws :List Int} (hw :intsOk ws) (p :Nat) :intsOk (blk ws p) :=by
 refine intsOk_of fun x hx=> ?_
 unfold blk at hx
 rcases List.mem_cons.1 hx with rfl | hx
 ·exact hw p
 ·exact intsOk_mem hw x (List.mem_of_mem_drop (List.mem_of_mem_take hx))
theorem raw_ok {ws :List Int} (hw :intsOk ws) (o :List Nat) :intsOk (raw ws o) :=by
 refine intsOk_of fun x hx=> ?_
 unfold raw at hx
 obtain ⟨p,_,h⟩ :=List.mem_flatMap.1 hx
 exact intsOk_mem (blk_ok hw p) x h
theorem mvd_ok {ws :List Int} {h b n b' :Nat} {ps o :List Nat} (hR :Right ws h b n ps) (ho :Ordered ps o) (hb :b'+h≤6000) (hw :intsOk ws) (q :List Nat) :intsOk (mvd ws b' o q) :=by
 refine intsOk_of fun x hx=> ?_
 unfold mvd at hx
 obtain ⟨p,_,h⟩ :=List.mem_flatMap.1 hx
 unfold mblk at h
 rcases List.mem_cons.1 h with rfl | h
 ·exact hw p
 ·obtain ⟨y,hy,rfl⟩ :=List.mem_map.1 h
  exact mv_ok hR ho hb (intsOk_mem hw y (List.mem_of_mem_drop (List.mem_of_mem_take hy)))
theorem mix_ok {ws :List Int} {h b n b' :Nat} {ps o :List Nat} (hR :Right ws h b n ps) (ho :Ordered ps o) (hb :b'+h≤6000) (hw :intsOk ws) (q :List Nat) (k :Nat) :intsOk (mix ws b' o q k) :=by
 refine intsOk_of fun x hx=> ?_
 unfold mix at hx
 rcases List.mem_append.1 hx with h | h
 ·exact intsOk_mem (mvd_ok hR ho hb hw _) x h
 ·exact intsOk_mem (raw_ok hw _) x h
end Go.Proofs.YtfmebaafpfkeiaaGreat
end
section
namespace Go.Proofs.YtfmebaafpfkeiaaGreat
open Go.RowKit
structure HeapIn (ws :List Int) (h b n :Int) :Prop where
 ok :intsOk ws
 pos :0 < ws.length
 le :ws.length≤6000
 h :i64In h
 b :i64In b
 n :i64In n
theorem intsOk_cons {x :Int} {ks :List Int} (hx :i64In x) (h :intsOk ks) :intsOk (x ::ks) :=intsOk_of fun y hy=> by
 rcases List.mem_cons.1 hy with rfl | hy
 ·exact hx
 ·exact intsOk_mem h y hy
theorem intsOk_append {xs ys :List Int} (h :intsOk xs) (k :intsOk ys) :intsOk (xs++ys) :=intsOk_of fun y hy=> by
 rcases List.mem_append.1 hy with hy | hy
 ·exact intsOk_mem h y hy
 ·exact intsOk_mem k y hy
theorem intsOk_nil :intsOk [] :=intsOk_of fun x hx=> by cases hx
theorem HeapIn.alloc {ws :List Int} {h b n :Int} {f :Bool} {tag :Int} {ks :List Int} (H :HeapIn ws h b n) (hk :intsOk ks) :
  HeapIn (allocOf ws h b n f tag ks).ws h b (allocOf ws h b n f tag ks).next∧(allocOf ws h b n f tag ks).ws.length=ws.length∧i64In (allocOf ws h b n f tag ks).at_∧((allocOf ws h b n f tag ks).ok=true→0≤(allocOf ws h b n f tag ks).at_∧(allocOf ws h b n f tag ks).at_≤6000) :=by
 cases hok :(allocOf ws h b n f tag ks).ok
 ·rw [alloc_no hok]
  exact ⟨H,rfl,by unfold i64In;dsimp only;omega,by simp⟩
 ·obtain ⟨h',b',n',ps,rfl,rfl,rfl,hR,hP⟩ :=alloc_ok hok
  generalize allocOf ws h' b' n' f tag ks=P at hP hok ⊢
  have hl :=hR.frame.len
  have hb :=hR.frame.base
  have h1 :=hR.frame.h1
  have hfit :=hP.fit
  have hd :=hdOf_in f tag ks.length hP.tag0.1 hP.tag0.2 hP.kids
  have e :P.ws.length=ws.length :=by rw [hP.ws_];exact ov_len (by simp only [List.length_cons];omega)
  refine ⟨⟨?_,by rw [e];exact H.pos,by rw [e];exact H.le,H.h,H.b,?_⟩,e,?_,fun _=> ?_⟩
  ·rw [hP.ws_]
   exact ov_ok H.ok (intsOk_cons (by unfold i64In;omega) hk)
  ·rw [hP.next];unfold i64In;omega
  ·rw [hP.at_];unfold i64In;omega
  ·rw [hP.at_];omega
theorem grow_step {w0 w w' :World} {g :Nat} {r :Option Nat} (h :w0.grownBy w (some g)) (k :w.grownBy w' r) (hr : ∀i,r=some i→i=g∨w0.heap.size≤i) :w0.grownBy w' (some g) :=by
 refine ⟨k.os.trans h.os,k.tape.trans h.tape,k.output.trans h.output,Nat.le_trans h.size k.size,fun i hi hne=> ?_⟩
 refine (k.block i (Nat.lt_of_lt_of_le hi h.size) (fun e=> ?_)).trans (h.block i hi hne)
 rcases hr i e.symm with rfl | h'
 ·exact hne rfl
 ·omega
theorem grow_of_below {w w' :World} (h :Below w.heap.size w w') (r :Option Nat) :w.grownBy w' r :=⟨h.os,h.tape,h.output,h.size,fun i hi _=> h.block i hi⟩
theorem Cur.below {w w' :World} {g m :Nat} {v :Value} (h :Cur w g v m) (hb :Below w.heap.size w w') :Cur w' g v m :=by
 obtain ⟨i,x,k,hh⟩ :=h
 exact ⟨i,x,k.below hb k.1,hh⟩
theorem Cur.lt {w :World} {g m :Nat} {v :Value} (h :Cur w g v m) :g < w.heap.size :=by
 obtain ⟨i,x,k,hh⟩ :=h
 exact k.1
theorem Cur.kept {w w' :World} {g m :Nat} {v :Value} {r :Option Nat} (h :Cur w g v m) (hg :w.grownBy w' r) (hr :some g≠r) :Cur w' g v m :=by
 obtain ⟨i,x,k,hh⟩ :=h
 exact ⟨i,x,k.grown hg hr,hh⟩
theorem own_far {base :Nat} {e :TypeId} {sz n :Nat} {w :World} {v :Value} {xs :List Value} (h :w.ownsRow base e sz v n xs) {g :Nat} (hg :g < base) :v.ownBlock=none∨v.ownBlock≠some g :=by
 rcases hv :v.ownBlock with _ | k
 ·exact .inl rfl
 ·right
  intro he
  have :=(h.lt k hv).1
  injection he with he
  omega
end Go.Proofs.YtfmebaafpfkeiaaGreat
end
section
namespace Go.Proofs.YtfmebaafpfkeiaaGreat
open Go
theorem step_make_full {P :Program} (w :World) {o :Oper} {a :Act} {Q :Exit→Act→World→Prop} {K :Act→World→Prop}
  (l c :Operand) (t :TypeId) (hop :o.op=Op.makeSlice t l c)
  (base :Nat) (e :TypeId) (i :TypeInfo) (z :Value) (size :Nat) (h1 :P.underlying t=some (.slice e)) (h2 :P.info? e=some i) (h3 :i.zero=some z) (h4 :i.size=size)
  (kl kc :IntKind) (L C :Int) (n :Nat) (hl :a.eval l= .int kl L) (hc :a.eval c= .int kc C) (hL :L=(n :Int)) (hC :C=(n :Int)) (b2 :i.bytes*n≤281474976710656) (b3 :n≤maxLen) (b4 :base≤w.heap.size)
  (hK : ∀w',w'.ownsRow base e size (.slice (some ⟨w.heap.size,0,none⟩) n n) n (madeCells z.cells (n*size)).toList→w.grownBy w' none→K (a.put o.dst (.slice (some ⟨w.heap.size,0,none⟩) n n)) w') :
  Oper.wp P o a w K Q :=by
 obtain ⟨w',hrun,r1,r2⟩ :=run_make_full (P :=P) w base t e i z size h1 h2 h3 h4 kl kc n b2 b3 b4
 subst hL
 subst hC
 unfold Oper.wp Oper.upon
 simp [execOp,hop,hl,hc,hrun,Result.andThen]
 exact hK w' r1 r2
section
variable {P :Program} {ops :Array Oper} {Q :Exit→Act→World→Prop} {md :Region.Mode} {S :World→Prop}
theorem tkH {i :Nat} {oi :Oper} {v :Value} {fuel :Nat} {listed :Array Bool} {a a' :Act} {w :World} (h :wpAnyH P md ops Q S fuel (listed.setIfInBounds i true) a' w) (hi :ops[i]?=some oi :=by (simp only [List.getElem?_toArray,List.getElem?_cons_succ,List.getElem?_cons_zero];rfl))
  (hs :Region.noSelect ops=true :=by kernel_rfl) (hf :Region.free md ops listed i=true :=by kernel_rfl) (hr :(Region.ready md ops listed).contains i=true :=by kernel_rfl)
  (hQ : ∀c a w,Q (.panic c) (a.put oi.dst v) w→Q (.panic c) a w :=by exact fun _ _ _ h=> h) (hy :YieldsIf P ops S oi v a :=by exact Or.inl ⟨by rfl,by (intro w hSw;(try dsimp only at hSw);go_simp;(try with_reducible rfl))⟩) (hS :S w :=by assumption)
  (ha :a.put oi.dst v=a' :=by first | (simp only [Act.put,List.setIfInBounds_toArray,List.set_cons_zero,List.set_cons_succ];done) | (simp only [Act.put,List.setIfInBounds_toArray,List.set_cons_zero,List.set_cons_succ];rfl) | rfl) :wpAnyH P md ops Q S (fuel+1) listed a w :=by
 subst ha
 exact wpAnyH_take hi hs hf hr hQ hy hS h
theorem skH {i :Nat} {oi :Oper} {fuel :Nat} {listed :Array Bool} {a a' :Act} {w :World} (h :wpAnyH P md ops Q S fuel (listed.setIfInBounds i true) a' w) (hi :ops[i]?=some oi :=by (simp only [List.getElem?_toArray,List.getElem?_cons_succ,List.getElem?_cons_zero];rfl))
  (hs :Region.noSelect ops=true :=by kernel_rfl) (hf :Region.free md ops listed i=true :=by kernel_rfl) (hr :(Region.ready md ops listed).contains i=true :=by kernel_rfl)
  (hQ : ∀c a w,Q (.panic c) (a.put oi.dst undef) w→Q (.panic c) a w :=by exact fun _ _ _ h=> h) (hy :YieldsIf P ops S oi undef a :=by exact Or.inr ⟨by rfl,rfl⟩) (hS :S w :=by assumption)
  (ha :a.put oi.dst undef=a' :=by first | (simp only [Act.put,List.setIfInBounds_toArray,List.set_cons_zero,List.set_cons_succ];done) | (simp only [Act.put,List.setIfInBounds_toArray,List.set_cons_zero,List.set_cons_succ];rfl) | rfl) :wpAnyH P md ops Q S (fuel+1) listed a w :=by
 subst ha
 exact wpAnyH_take hi hs hf hr hQ hy hS h
theorem bkH {fuel :Nat} {listed :Array Bool} {a a' :Act} {w :World} {K :Act→World→Prop} (hK :Shut (∀a w,S w→(S w→wpAnyH P md ops Q S fuel listed a w)→K a w)) (hS :S w) (h :S w→wpAnyH P md ops Q S fuel listed a' w)
  (ha :a=a' :=by first | (simp only [Act.put,List.setIfInBounds_toArray,List.set_cons_zero,List.set_cons_succ];done) | (simp only [Act.put,List.setIfInBounds_toArray,List.set_cons_zero,List.set_cons_succ];rfl) | rfl) :K a w :=by
 subst ha
 exact hK.out _ _ hS h
theorem rdH {i :Nat} {o :Oper} {fuel :Nat} {listed :Array Bool} {a :Act} {w :World} (h : ∀K' :Act→World→Prop,Shut (∀a w,S w→(S w→wpAnyH P md ops Q S fuel (listed.setIfInBounds i true) a w)→K' a w)→if Region.wanted o (yielded ops a.tmps)=true then Oper.wp P o a w K' Q else K' (a.put o.dst undef) w)
  (hr :Region.ready md ops listed= [i] :=by kernel_rfl) (ho :ops[i]?=some o :=by (simp only [List.getElem?_toArray,List.getElem?_cons_succ,List.getElem?_cons_zero];rfl)) :wpAnyH P md ops Q S (fuel+1) listed a w :=
 wpAnyH_ready hr (by simp) (AllReadyH.cons ho h AllReadyH.nil)
end
end Go.Proofs.YtfmebaafpfkeiaaGreat
end
section
namespace Go.Proofs.YtfmebaafpfkeiaaGreat
open Go.RowKit
def LiesAt (u :Value) (bl at_ m :Nat) :Prop := ∃a k c,u= .slice a k c∧k=m∧(m=0∨a=some ⟨bl,at_,none⟩)
set_option maxHeartbeats 800000 in
set_option maxRecDepth 100000 in
theorem blockAt_lies {B :Nat} (bl off cap :Nat) (ws :List Int) (h b n :Int) (p :Nat) (w :World) (hr :Rd B .i64 w (.slice (some ⟨bl,off,none⟩) ws.length cap) ws) (hw :intsOk ws) (hh :hOk (ws.getD p 0)=true) (hfit :p+1+hK (ws.getD p 0)≤ws.length) (hlen :ws.length≤4294967296) :
  Calls Tryz.prog 74 #[.agg #[.slice (some ⟨bl,off,none⟩) ws.length cap, .int .i64 h, .int .i64 b, .int .i64 n], .int .i64 p] w fun e w'=>
   ∃u,e= .returned (.tuple #[.bool (hFun (ws.getD p 0)), .int .i64 (hTag (ws.getD p 0)),u])∧LiesAt u bl (off+(p+1)) (hK (ws.getD p 0))∧Below w.heap.size w w' :=by
 rcases hr with ⟨hnil,_⟩ | ⟨bl',off',cap',hv,hB,hbs,hm,hc⟩
 ·rw [hnil] at hfit;simp at hfit
 cases hv
 obtain ⟨hm1,hm2⟩ :=hm
 have c2 :=hc p (by omega)
 obtain ⟨x,hxx⟩ : ∃x,ws.getD p 0=x :=⟨_,rfl⟩
 have hx :=hw p
 rw [hxx] at hx hh hfit c2 ⊢
 obtain ⟨hx0,hx1⟩ :=hx
 have HX :=Lib.hid hxx
 have hkn :=hK_cast x
 have HKN :=Lib.hid hkn
 have hkb :=hKids_nonneg x
 rw [← hkn] at hkb
 obtain ⟨hkb1,hkb2⟩ :=hkb
 clear hxx hkn hw hc
 by_cases hcp :cap=p+1
 ·have h0 :hK x=0 :=by omega
  subst hcp
  go_enter Tryz.func74,Tryz.ntmps74
  go_wp2_with fail
  refine (headed_ok _ _ hh hx1).mono ?_
  rw [← HKN.out]
  rintro e w' ⟨rfl,rfl⟩
  go_wp2_with fail
  go_quiet (fail)
  go_wp2
  go_ret3
  exact ⟨_,rfl,⟨_,_,_,rfl,by omega, .inl (by omega)⟩,below_drewN ((Below.refl _ _).alloc (Nat.le_refl _) _) _⟩
 ·go_enter Tryz.func74,Tryz.ntmps74
  go_wp2_with fail
  refine (headed_ok _ _ hh hx1).mono ?_
  rw [← HKN.out]
  rintro e w' ⟨rfl,rfl⟩
  go_wp2_with fail
  go_quiet (fail)
  go_wp2
  go_ret3
  exact ⟨_,rfl,⟨_,_,_,rfl,by omega, .inr rfl⟩,below_drewN ((Below.refl _ _).alloc (Nat.le_refl _) _) _⟩
end Go.Proofs.YtfmebaafpfkeiaaGreat
end
section
namespace Go.Proofs.YtfmebaafpfkeiaaGreat
open Go.RowKit
theorem Rd.of_nums {base :Nat} {w :World} {a :Option Addr} {c :Nat} {S :List Nat} (h :w.ownsRow base 3 1 (.slice a S.length c) S.length (S.map ofN)) :Rd w.heap.size .i64 w (.slice a S.length c) (nums S) :=by
 rw [map_ofN] at h
 have h2 :w.ownsRow base 3 1 (.slice a S.length c) (nums S).length ((nums S).map (Value.int .i64)) :=by rw [nums_len];exact h
 exact Rd.of_own h2
end Go.Proofs.YtfmebaafpfkeiaaGreat
end
section
namespace Go.Proofs.YtfmebaafpfkeiaaGreat
open Go.RowKit
structure Mvs (w :World) (H g8 gr g9 N :Nat) (h b nx :Int) (ts :List Int) (pv :Value) (pl :List Nat) :Prop where
 b8 :Bx w g8 #[.slice (some ⟨gr,0,none⟩) N N, .int .i64 h, .int .i64 b, .int .i64 nx]
 tr :w.ownsRow H 3 1 (.slice (some ⟨gr,0,none⟩) N N) N (ts.map (Value.int .i64))
 b9 :Bx w g9 #[pv]
 pr :w.ownsRow H 3 1 pv pl.length (pl.map ofN)
 ap : ∀k,pv.ownBlock=some k→k≠g8∧k≠gr∧k≠g9
theorem Bx.kept2 {w w' :World} {g gr i :Nat} {cur :Array Value} (h :Bx w i cur) (k :Kept2 w w' g gr) (h1 :i≠g) (h2 :i≠gr) :Bx w' i cur :=
 ⟨Nat.lt_of_lt_of_le h.1 k.1,fun j=> (World.cell?_of_block (k.2 i h.1 h1 h2)).trans (h.2.1 j),fun j=> (World.frozen?_of_block (k.2 i h.1 h1 h2)).trans (h.2.2 j)⟩
theorem own_kept2 {base :Nat} {e :TypeId} {sz :Nat} {w w' :World} {v :Value} {n g gr :Nat} {xs :List Value} (h :w.ownsRow base e sz v n xs) (k :Kept2 w w' g gr) (hB : ∀i,v.ownBlock=some i→i≠g∧i≠gr) :w'.ownsRow base e sz v n xs :=by
 refine ⟨h.1,?_⟩
 rcases h.2 with hn | ⟨b,cap,cur,rfl,hbs,hg,rest⟩
 ·exact .inl hn
 ·refine .inr ⟨b,cap,cur,rfl,hbs,?_,rest⟩
  rw [k.2 b (own_lt h b rfl) (hB b rfl).1 (hB b rfl).2];exact hg
structure Sep (H g8 gr g9 :Nat) :Prop where
 a :H≤g8
 b :H≤gr
 c :H≤g9
 d :g8≠gr
 e :g8≠g9
 f :gr≠g9
theorem Mvs.below {w w' :World} {H g8 gr g9 N :Nat} {h b nx :Int} {ts :List Int} {pv :Value} {pl :List Nat} (m :Mvs w H g8 gr g9 N h b nx ts pv pl) (hb :Below w.heap.size w w') :Mvs w' H g8 gr g9 N h b nx ts pv pl :=
 ⟨m.b8.below hb m.b8.1,own_below m.tr hb (own_lt m.tr),m.b9.below hb m.b9.1,own_below m.pr hb (own_lt m.pr),m.ap⟩
theorem Mvs.turn {w :World} {H g8 gr g9 N :Nat} {h b nx :Int} {ts :List Int} {pv :Value} {pl :List Nat} (m :Mvs w H g8 gr g9 N h b nx ts pv pl) (se :Sep H g8 gr g9) {i :Nat} (hi :i < N) (y :Int) :
  Mvs (w.setCell ⟨gr,i,none⟩ (.int .i64 y)) H g8 gr g9 N h b nx (ts.set i y) pv pl :=by
 refine ⟨m.b8.grown (grownBy.setCell w gr i _) (fun h=> se.d (Option.some.inj h)),?_,m.b9.grown (grownBy.setCell w gr i _) (fun h=> se.f (Option.some.inj h).symm),?_,m.ap⟩
 ·rw [List.map_set]
  exact own_set m.tr i hi _
 ·exact ownsRow_setCell_other (a :=⟨gr,i,none⟩) m.pr (fun h=> (m.ap _ h).2.1 rfl) _
theorem lay_get? {b N i :Nat} {l :List Int} (h :i < l.length) :(lay b N l)[b+i]?=l[i]? :=by
 unfold lay
 rw [List.getElem?_append_right (by simp),List.getElem?_append_left (by simp;omega)]
 simp
theorem rd_own {base N :Nat} {w :World} {gr cap :Nat} {ts :List Int} (h :w.ownsRow base 3 1 (.slice (some ⟨gr,0,none⟩) N cap) N (ts.map (Value.int .i64))) (hl :ts.length=N) :Rd w.heap.size .i64 w (.slice (some ⟨gr,0,none⟩) N cap) ts :=by
 subst hl
 exact Rd.of_own h
set_option maxHeartbeats 4000000 in
set_option maxRecDepth 100000 in
theorem collect_any {B :Nat} (v vr :Value) (ws rs :List Int) (h b n :Nat) (ps :List Nat) (w :World) (hR :Right ws h b n ps) (hr :Rd B .i64 w v ws) (hw :intsOk ws) (hq :Rd B .i64 w vr rs) (hx :rs.all (wordIn ps)=true) (hrl :rs.length≤4294967296) :
  Calls Tryz.prog 68 #[.agg #[v, .int .i64 h, .int .i64 b, .int .i64 n],vr] w fun e w'=> ∃uv qv,e= .returned (.tuple #[.agg #[uv, .int .i64 h, .int .i64 (h-b :Nat), .int .i64 (h-b+(raw ws (orderOf ws rs)).length :Nat)],qv])∧
   w'.ownsRow w.heap.size 3 1 uv ws.length ((lay (h-b) ws.length (mvd ws (h-b) (orderOf ws rs) (orderOf ws rs))).map (Value.int .i64))∧
   w'.ownsRow w.heap.size 3 1 qv rs.length ((rs.map (mv ws (h-b) (orderOf ws rs))).map (Value.int .i64))∧Below w.heap.size w w'∧Diff uv qv :=by
 obtain ⟨i0,hi,hz0,hz1,hz2⟩ :=info_parts Tryz.infoI2
 have hN0 :=hR.n_le
 have HNL :=Lib.hid hR.frame.len
 have hNz :0 < ws.length :=by have :=hR.frame.h0;have :=HNL.out;omega
 obtain ⟨hN1,hN2⟩ :=hN0
 have hbh :b≤h :=by have :=hR.frame.base;omega
 obtain ⟨b',hb'⟩ : ∃b',h-b=b' :=⟨_,rfl⟩
 have hbb :b'≤3000∧h≤3000 :=by have :=hR.frame.h1;omega
 have hb1 :b'≤h :=by omega
 have hsub :=Lib.hid (show (h :Int)-(b :Int)=(b' :Int) by omega)
 rw [hb']
 have HBE :=Lib.hid hb'
 clear hb'
 have hmt :=fun (W :World) (hb :Below w.heap.size w W)=> met_any v vr ws rs h b n ps W hR (hr.below' hb) hw (hq.below' hb) hx hrl
 have hO :Ordered ps (orderOf ws rs) :=bfs_ok hR _ _ _ (seeL_ok (ordered_nil ps) hx)
 obtain ⟨o,ho⟩ : ∃o,orderOf ws rs=o :=⟨_,rfl⟩
 have hcl :=fun p hp=> order_kids hR hx (p :=p) hp
 have hcr :=order_roots ws rs
 rw [ho] at hmt hO hcl hcr ⊢
 have HM :=Lib.hid hmt
 have RW :=Lib.hid (fun (W :World) (hb :Below w.heap.size w W)=> hr.below' hb)
 have RQ :=Lib.hid (fun (W :World) (hb :Below w.heap.size w W)=> hq.below' hb)
 obtain ⟨a,cap,rfl⟩ :=hr.form
 obtain ⟨qa,qc,rfl⟩ :=hq.form
 have HO :=Lib.hid hO
 have HCL :=Lib.hid hcl
 have HCR :=Lib.hid hcr
 have HRi :=Lib.hid hR
 have HXR :=Lib.hid hx
 clear hr hq hmt ho hx hcl hcr
 go_enter Tryz.func68,Tryz.ntmps68
 go_wp2_with fail
 generalize hx :(w.alloc _).alloc _=x
 obtain ⟨bx,k0,k4,sx⟩ :=alloc_box2 hx
 clear hx
 refine (HM.out _ bx).mono ?_
 rintro e w1 ⟨ov,nv,rfl,oo,rn,b1⟩
 replace k0 :=k0.below b1 k0.1
 replace k4 :=k4.below b1 k4.1
 obtain ⟨na,nc,rfl⟩ :=rn.form
 obtain ⟨oa,oc,rfl⟩ :=own_form oo
 have hol :o.length≤6000 :=by have :=HRi.out.ord_len HO.out;omega
 have bb :=bx.trans (b1.mono bx.size)
 have zx1 :=b1.size
 clear bx b1
 have q0 :=k0.2.1 0
 have q1 :=k0.2.1 1
 have q2 :=k0.2.1 2
 simp at q0 q1 q2
 have y0 :=k0.1
 go_wp2_with fail
 generalize hy :w1.alloc _=x1
 obtain ⟨b2,k7⟩ :=Bx.alloc hy
 clear hy
 replace q0 :=(b2.cell (p :=⟨w.heap.size,0,none⟩) y0).trans q0
 replace q1 :=(b2.cell (p :=⟨w.heap.size,1,none⟩) y0).trans q1
 replace q2 :=(b2.cell (p :=⟨w.heap.size,2,none⟩) y0).trans q2
 replace k0 :=k0.below b2 k0.1
 replace k4 :=k4.below b2 k4.1
 replace oo :=own_below oo b2 (own_lt oo)
 replace rn :=rn.below' b2
 replace bb :=bb.trans (b2.mono bb.size)
 replace y0 :=k0.1
 have K0 :=Lib.hid k0
 have K4 :=Lib.hid k4
 have K7 :=Lib.hid k7
 have OO :=Lib.hid oo
 have RN :=Lib.hid rn
 have BB :=Lib.hid bb
 have zx2 :=b2.size
 clear k0 k4 k7 oo rn bb b2
 go_cut [8] from 32 to 43 (fun p W=> ∃g8 gr :Nat,p= .pointer (some ⟨g8,0,none⟩)∧Below x1.heap.size x1 W∧x1.heap.size≤g8∧x1.heap.size≤gr∧g8≠gr∧Bx W g8 #[.slice (some ⟨gr,0,none⟩) ws.length ws.length, .int .i64 h, .int .i64 b', .int .i64 0]∧
  W.ownsRow x1.heap.size 3 1 (.slice (some ⟨gr,0,none⟩) ws.length ws.length) ws.length (List.replicate ws.length (.int .i64 0)))
 case first=>
  refine wp_region_held_drew (S :=(fun w'=> w'.cell? ⟨w.heap.size,0,none⟩ =some (.slice a ws.length cap)∧w'.cell? ⟨w.heap.size,1,none⟩ =some (.int .i64 h)∧w'.cell? ⟨w.heap.size,2,none⟩ =some (.int .i64 b))) (by kernel_rfl) (by first | (dsimp only;exact ⟨q0,q1,q2⟩) | (exact ⟨q0,q1,q2⟩)) (fun hHeld=> ?_)
  have e1 :IntKind.i64.wrap ((h :Int)-(b :Int))=(b' :Int) :=by rw [hsub.out];exact IntWalk.i64_in _ (by omega)
  refine tkH (i :=0) ?_
  refine tkH (i :=1) ?_
  refine tkH (i :=2) ?_
  refine tkH (i :=4) ?_
  refine tkH (i :=5) ?_
  refine tkH (i :=6) ?_
  refine tkH (i :=7) ?_
  refine tkH (i :=8) ?_
  refine tkH (i :=9) ?_
  refine tkH (i :=10) ?_
  have hxd :x1.drew.heap.size=x1.heap.size :=World.size_drew _
  generalize hxw :x1.drew=xd at hHeld hxd
  have bxd :Below x1.heap.size x1 xd :=by rw [← hxw];exact (Below.refl _ _).drew
  clear hxw
  refine wpAnyH_ready (rs := [3,12]) (by kernel_rfl) (by simp) ?_
  refine AllReadyH.cons (by (simp only [List.getElem?_toArray,List.getElem?_cons_succ,List.getElem?_cons_zero];rfl)) (fun K hK=> ?_) (AllReadyH.cons (by (simp only [List.getElem?_toArray,List.getElem?_cons_succ,List.getElem?_cons_zero];rfl)) (fun K hK=> ?_) AllReadyH.nil)
  ·
   rw [if_pos (by rfl)]
   refine step_make_full _ (.tmp 34) (.tmp 34) 27 rfl xd.heap.size 3 i0 (.int .i64 0) 1 Tryz.underlying27 hi hz0 hz1 .i64 .i64 _ _ ws.length rfl rfl rfl rfl (by rw [hz2];omega) (by unfold maxLen;omega) (Nat.le_refl _) ?_
   intro w2 hown hgrow
   have b9 :Below xd.heap.size xd w2 :=(Below.refl _ _).grown hgrow (Nat.le_refl _) (by simp)
   rw [show (Value.int IntKind.i64 0).cells= #[.int .i64 0] from rfl,Nat.mul_one,toList_madeCells_one] at hown
   refine hK.out _ _ (by first | (dsimp only;exact ⟨(b9.cell (by dsimp only;omega)).trans hHeld.1,(b9.cell (by dsimp only;omega)).trans hHeld.2.1,(b9.cell (by dsimp only;omega)).trans hHeld.2.2⟩) | (exact ⟨(b9.cell (by dsimp only;omega)).trans hHeld.1,(b9.cell (by dsimp only;omega)).trans hHeld.2.1,(b9.cell (by dsimp only;omega)).trans hHeld.2.2⟩)) (fun hHeld=> ?_)
   clear hK K
   try simp only [Act.put,List.setIfInBounds_toArray,List.set_cons_zero,List.set_cons_succ]
   refine tkH (i :=11) ?_
   refine wpAnyH_ready (rs := [12]) (by kernel_rfl) (by simp) ?_
   refine AllReadyH.cons (by (simp only [List.getElem?_toArray,List.getElem?_cons_succ,List.getElem?_cons_zero];rfl)) (fun K hK=> ?_) AllReadyH.nil
   go_simp
   generalize hy :w2.alloc _=x2
   obtain ⟨b8,k8⟩ :=Bx.alloc hy
   clear hy
   have b9z :=b9.size
   refine hK.out _ _ (by first | (dsimp only;exact ⟨(b8.cell (by dsimp only;omega)).trans hHeld.1,(b8.cell (by dsimp only;omega)).trans hHeld.2.1,(b8.cell (by dsimp only;omega)).trans hHeld.2.2⟩) | (exact ⟨(b8.cell (by dsimp only;omega)).trans hHeld.1,(b8.cell (by dsimp only;omega)).trans hHeld.2.1,(b8.cell (by dsimp only;omega)).trans hHeld.2.2⟩)) (fun hHeld=> ?_)
   clear hK K
   try simp only [Act.put,List.setIfInBounds_toArray,List.set_cons_zero,List.set_cons_succ]
   have c8 :=k8.2.1
   have f8 :=k8.2.2
   refine wpAnyH_ready (rs := [13]) (by kernel_rfl) (by simp) ?_
   refine AllReadyH.cons (by (simp only [List.getElem?_toArray,List.getElem?_cons_succ,List.getElem?_cons_zero];rfl)) (fun K hK=> ?_) AllReadyH.nil
   go_simp
   have b10 :=((((Below.refl w2.heap.size x2).setCell (p :=⟨w2.heap.size,0,none⟩) (Nat.le_refl _) (.slice (some ⟨x1.heap.size,0,none⟩) ws.length ws.length)).setCell (p :=⟨w2.heap.size,1,none⟩) (Nat.le_refl _) (.int .i64 h)).setCell (p :=⟨w2.heap.size,2,none⟩) (Nat.le_refl _) (.int .i64 b')).setCell (p :=⟨w2.heap.size,3,none⟩) (Nat.le_refl _) (.int .i64 0)
   have K10 :=Lib.hid ((((k8.set 0 (by simp) (.slice (some ⟨x1.heap.size,0,none⟩) ws.length ws.length)).set 1 (by simp) (.int .i64 h)).set 2 (by simp) (.int .i64 b')).set 3 (by simp) (.int .i64 0))
   have ow :=hown
   rw [hxd] at ow
   have O10 :=Lib.hid (own_below (own_below ow b8 (own_lt ow)) b10 (fun k hk=> by have :=own_lt ow k hk;omega))
   have B10 :=Lib.hid (((bxd.trans (b9.mono bxd.size)).trans (b8.mono (by have :=bxd.size;omega))).trans (b10.mono (by have :=bxd.size;omega)))
   have hne :=(own_lt ow) _ rfl
   have hge :x1.heap.size≤w2.heap.size :=by omega
   generalize hww :World.setCell _ _ _=W4 at b10 K10 O10 B10 ⊢
   clear hww
   refine hK.out _ _ (by exact ⟨(b10.cell (by dsimp only;omega)).trans hHeld.1,(b10.cell (by dsimp only;omega)).trans hHeld.2.1,(b10.cell (by dsimp only;omega)).trans hHeld.2.2⟩) (fun hHeld=> ?_)
   clear hK K
   refine wpAnyH_done (by kernel_rfl) ?_ _
   go_wp2_with fail
   go_meet
   exact ⟨_,_,rfl,B10.out,hge,Nat.le_refl _,by omega,K10.out,O10.out⟩
  ·
   go_simp
   generalize hy :xd.alloc _=x2
   obtain ⟨b9,k8⟩ :=Bx.alloc hy
   clear hy
   have b9z :=b9.size
   refine hK.out _ _ (by exact ⟨(b9.cell (by dsimp only;omega)).trans hHeld.1,(b9.cell (by dsimp only;omega)).trans hHeld.2.1,(b9.cell (by dsimp only;omega)).trans hHeld.2.2⟩) (fun hHeld=> ?_)
   clear hK K
   try simp only [Act.put,List.setIfInBounds_toArray,List.set_cons_zero,List.set_cons_succ]
   refine wpAnyH_ready (rs := [3]) (by kernel_rfl) (by simp) ?_
   refine AllReadyH.cons (by (simp only [List.getElem?_toArray,List.getElem?_cons_succ,List.getElem?_cons_zero];rfl)) (fun K hK=> ?_) AllReadyH.nil
   rw [if_pos (by rfl)]
   refine step_make_full _ (.tmp 34) (.tmp 34) 27 rfl x2.heap.size 3 i0 (.int .i64 0) 1 Tryz.underlying27 hi hz0 hz1 .i64 .i64 _ _ ws.length rfl rfl rfl rfl (by rw [hz2];omega) (by unfold maxLen;omega) (Nat.le_refl _) ?_
   intro w2 hown hgrow
   have b8 :Below x2.heap.size x2 w2 :=(Below.refl _ _).grown hgrow (Nat.le_refl _) (by simp)
   rw [show (Value.int IntKind.i64 0).cells= #[.int .i64 0] from rfl,Nat.mul_one,toList_madeCells_one] at hown
   refine hK.out _ _ (by exact ⟨(b8.cell (by dsimp only;omega)).trans hHeld.1,(b8.cell (by dsimp only;omega)).trans hHeld.2.1,(b8.cell (by dsimp only;omega)).trans hHeld.2.2⟩) (fun hHeld=> ?_)
   clear hK K
   try simp only [Act.put,List.setIfInBounds_toArray,List.set_cons_zero,List.set_cons_succ]
   refine tkH (i :=11) ?_
   have hxl :=k8.1
   replace k8 :=k8.below b8 hxl
   rw [hxd] at k8 hxl
   have c8 :=k8.2.1
   have f8 :=k8.2.2
   refine wpAnyH_ready (rs := [13]) (by kernel_rfl) (by simp) ?_
   refine AllReadyH.cons (by (simp only [List.getElem?_toArray,List.getElem?_cons_succ,List.getElem?_cons_zero];rfl)) (fun K hK=> ?_) AllReadyH.nil
   go_simp
   have b10 :=((((Below.refl x1.heap.size w2).setCell (p :=⟨x1.heap.size,0,none⟩) (Nat.le_refl _) (.slice (some ⟨x2.heap.size,0,none⟩) ws.length ws.length)).setCell (p :=⟨x1.heap.size,1,none⟩) (Nat.le_refl _) (.int .i64 h)).setCell (p :=⟨x1.heap.size,2,none⟩) (Nat.le_refl _) (.int .i64 b')).setCell (p :=⟨x1.heap.size,3,none⟩) (Nat.le_refl _) (.int .i64 0)
   have K10 :=Lib.hid ((((k8.set 0 (by simp) (.slice (some ⟨x2.heap.size,0,none⟩) ws.length ws.length)).set 1 (by simp) (.int .i64 h)).set 2 (by simp) (.int .i64 b')).set 3 (by simp) (.int .i64 0))
   have O10 :=Lib.hid (ownsRow_setCell_other (a :=⟨x1.heap.size,3,none⟩) (ownsRow_setCell_other (a :=⟨x1.heap.size,2,none⟩) (ownsRow_setCell_other (a :=⟨x1.heap.size,1,none⟩) (ownsRow_setCell_other (a :=⟨x1.heap.size,0,none⟩) (own_base hown (show x1.heap.size≤x2.heap.size by omega)) (fun h=> absurd (Option.some.inj h) (by show ¬(x2.heap.size=x1.heap.size);omega)) (.slice (some ⟨x2.heap.size,0,none⟩) ws.length ws.length)) (fun h=> absurd (Option.some.inj h) (by show ¬(x2.heap.size=x1.heap.size);omega)) (.int .i64 h)) (fun h=> absurd (Option.some.inj h) (by show ¬(x2.heap.size=x1.heap.size);omega)) (.int .i64 b')) (fun h=> absurd (Option.some.inj h) (by show ¬(x2.heap.size=x1.heap.size);omega)) (.int .i64 0))
   have B10 :=Lib.hid (((bxd.trans (b9.mono bxd.size)).trans (b8.mono (by have :=bxd.size;omega))).trans b10)
   generalize hww :World.setCell _ _ _=W4 at b10 K10 O10 B10 ⊢
   clear hww
   refine hK.out _ _ (by exact ⟨(b10.cell (by dsimp only;omega)).trans hHeld.1,(b10.cell (by dsimp only;omega)).trans hHeld.2.1,(b10.cell (by dsimp only;omega)).trans hHeld.2.2⟩) (fun hHeld=> ?_)
   clear hK K
   refine wpAnyH_done (by kernel_rfl) ?_ _
   go_wp2_with fail
   go_meet
   exact ⟨_,_,rfl,B10.out,Nat.le_refl _,by omega,by omega,K10.out,O10.out⟩
 case rest=>
  obtain ⟨g8,gr,rfl,bc,hg8,hgr,hne,k8,ot⟩ :=hcut
  have hzz :List.replicate ws.length (Value.int .i64 0)=(lay b' ws.length (raw ws [])).map (Value.int .i64) :=by
   rw [raw_nil,lay_nil (by have :=HNL.out;omega),List.map_replicate]
  rw [hzz] at ot
  have g8n :some g8≠(Value.slice (some ⟨gr,0,none⟩) ws.length ws.length).ownBlock :=fun h=> hne (Option.some.inj h)
  have lr :=(ot.lt gr rfl).2
  have l8 :=k8.1
  have bz :=bc.size
  have q8 :=k8.2.1
  have f8 :=k8.2.2
  have y8 :=k8.1
  have SM :Mvs (((wc.setCell ⟨g8,3,none⟩ (.int .i64 b')).alloc (Obj.cells #[] 3)).alloc (Obj.cells #[.slice (some ⟨wc.heap.size,0,none⟩) 0 0] 27)) x1.heap.size g8 gr (wc.heap.size+1) ws.length h b' b' (lay b' ws.length (raw ws [])) (.slice (some ⟨wc.heap.size,0,none⟩) 0 0) [] :=by
   have hz :(wc.setCell ⟨g8,3,none⟩ (.int .i64 b')).heap.size=wc.heap.size :=by simp
   have k8a :=k8.set 3 (by simp) (.int .i64 b')
   have ota :=ownsRow_setCell_other (a :=⟨g8,3,none⟩) ot (fun h=> absurd (Option.some.inj h) (by show ¬(gr=g8);omega)) (.int .i64 b')
   generalize hwa :wc.setCell _ _=wa at hz k8a ota ⊢
   obtain ⟨b1,k1⟩ :=Bx.alloc (w :=wa) (cur := #[]) (e :=3) rfl
   have o1 :(wa.alloc (Obj.cells #[] 3)).ownsRow x1.heap.size 3 1 (.slice (some ⟨wc.heap.size,0,none⟩) 0 0) 0 [] :=by
    rw [← hz]
    exact own_empty rfl (by omega)
   have hz1 :(wa.alloc (Obj.cells #[] 3)).heap.size=wc.heap.size+1 :=by rw [← hz];simp
   have k8b :=k8a.below b1 k8a.1
   have otb :=own_below ota b1 (own_lt ota)
   generalize hwb :wa.alloc _=wb at b1 o1 hz1 k8b otb ⊢
   obtain ⟨b2,k2⟩ :=Bx.alloc (w :=wb) (cur := #[.slice (some ⟨wc.heap.size,0,none⟩) 0 0]) (e :=27) rfl
   rw [hz1] at k2
   exact ⟨k8b.below b2 k8b.1,own_below otb b2 (own_lt otb),k2,own_below o1 b2 (own_lt o1),fun k hk=> by have e :wc.heap.size=k :=Option.some.inj hk;subst e;exact ⟨by omega,by omega,by omega⟩⟩
  have BM :Below x1.heap.size x1 (((wc.setCell ⟨g8,3,none⟩ (.int .i64 b')).alloc (Obj.cells #[] 3)).alloc (Obj.cells #[.slice (some ⟨wc.heap.size,0,none⟩) 0 0] 27)) :=
   ((bc.setCell (p :=⟨g8,3,none⟩) hg8 _).alloc (by simp;omega) _).alloc (by simp;omega) _
  have SE :Sep x1.heap.size g8 gr (wc.heap.size+1) :=⟨hg8,hgr,by omega,hne,by omega,by omega⟩
  have HSM :=Lib.hid SM
  have HBM :=Lib.hid BM
  clear hzz bc SM BM q0 q1 q2
  go_wp2
  generalize hwl :World.alloc _ _=wl at HSM HBM ⊢
  clear hwl
  obtain ⟨g9,hg9⟩ : ∃g9,wc.heap.size+1=g9 :=⟨_,rfl⟩
  rw [hg9] at SE HSM ⊢
  clear hg9 k8 ot q8 f8 y8 l8 lr bz hne hg8 hgr g8n
  have HSE :=Lib.hid SE
  have e8 :=SE.a
  have er :=SE.b
  have e9 :=SE.c
  have hlen6 :ws.length≤6000 :=hN2
  have hbl :=fun (W :World) (p :Nat) (hp :p∈ps) (hb :Below w.heap.size w W)=> blockAt_any _ ws h b n p W (RW.out W hb) hw (hR.at_ hp).2.2.1 (Nat.le_trans (hR.at_ hp).2.2.2.1 hN1) (by omega)
  have HBL :=Lib.hid hbl
  have hhx :w.heap.size≤x1.heap.size :=by have :=BB.out.size;omega
  have HW :=Lib.hid hw
  clear hbl hw hR SE
  go_loopw [50] (fun i wr=> ∃(k :Nat) (pv :Value),k≤o.length∧i= .int .i64 k∧Mvs wr x1.heap.size g8 gr g9 ws.length h b' ((b'+(raw ws (o.take k)).length :Nat) :Int) (lay b' ws.length (raw ws (o.take k))) pv (newPl ws b' (o.take k))∧Below x1.heap.size x1 wr) (fun i _=> o.length-(intOf i).toNat)
  case atStart=> exact ⟨0,_,Nat.zero_le _,rfl,HSM.out,HBM.out⟩
  case round=>
   clear HSM HBM
   obtain ⟨k,pv,hk,rfl,hM,hb⟩ :=hrel
   by_cases hlt :k < o.length
   ·have oo :=own_below OO.out hb (own_lt OO.out)
    obtain ⟨og,rfl,co⟩ :=own_cell_any oo k hlt
    rw [List.getElem?_map,List.getElem?_eq_getElem hlt,Option.map_some] at co
    have hpm :=HO.out.2 _ (List.getElem_mem hlt)
    obtain ⟨p,hpp⟩ : ∃p,o[k]=p :=⟨_,rfl⟩
    rw [hpp] at co hpm
    unfold ofN at co
    obtain ⟨r1,r2,r3,r4,r5⟩ :=HRi.out.at_ hpm
    have k0 :=K0.out.below hb K0.out.1
    have q0 :=k0.2.1 0
    have q1 :=k0.2.1 1
    have q2 :=k0.2.1 2
    have q3 :=k0.2.1 3
    simp at q0 q1 q2 q3
    have hki :(k :Int) < (o.length :Int) :=by omega
    have bw :=BB.out.trans (hb.mono hhx)
    have BW :=Lib.hid bw
    have M1 :=Lib.hid hM
    have B1 :=Lib.hid hb
    have HPP :=Lib.hid hpp
    have R3 :=Lib.hid r3
    have R4 :=Lib.hid r4
    clear hM hb oo k0 bw hpp r3 r4 r5
    go_wp2_with fail
    refine (HBL.out _ p hpm BW.out).mono ?_
    rintro e w5 ⟨u,rfl,ru,b5⟩
    obtain ⟨ua,uc,rfl⟩ :=ru.form
    have hM :=M1.out.below b5
    have hb5 :=B1.out.trans (b5.mono B1.out.size)
    have hq :o.take (k+1)=o.take k++ [p] :=by rw [← List.take_append_getElem hlt,HPP.out]
    have hrl2 :=HRi.out.raw_le HO.out
    have htl :=raw_take_le ws o (k+1)
    have hkl :(kidsAt ws p).length=hK (ws.getD p 0) :=kidsAt_len (Nat.le_trans R4.out hN1)
    have hbl2 :(blk ws p).length=1+hK (ws.getD p 0) :=by simp [blk,hkl];omega
    have hLL :(lay b' ws.length (raw ws (o.take k))).length=ws.length :=lay_len (by have :=raw_take_le ws o k;have :=HNL.out;omega)
    obtain ⟨t1,t2,t3,t4⟩ :=hOk_true.1 R3.out
    have hk20 :hK (ws.getD p 0)≤20 :=by have :=hK_cast (ws.getD p 0);omega
    have ht0 :0≤hTag (ws.getD p 0) :=by unfold hTag;omega
    have hrs :(raw ws (o.take (k+1))).length=(raw ws (o.take k)).length+(1+hK (ws.getD p 0)) :=by rw [hq,raw_snoc,List.length_append,hbl2]
    have hP :=alloc_any2 (base :=x1.heap.size) (.slice (some ⟨gr,0,none⟩) ws.length ws.length) (.slice ua (kidsAt ws p).length uc) (lay b' ws.length (raw ws (o.take k))) (kidsAt ws p) h b' (b'+(raw ws (o.take k)).length) (hFun (ws.getD p 0)) (hTag (ws.getD p 0)) w5 hM.b8 (by rw [hLL];exact hM.tr) e8 (fun h=> HSE.out.d (Option.some.inj h)) ru hhx ht0 t3 (by omega) (by have :=HNL.out;omega) (by omega)
    have hov :ov (lay b' ws.length (raw ws (o.take k))) (b'+(raw ws (o.take k)).length) (hdOf (hFun (ws.getD p 0)) (hTag (ws.getD p 0)) (kidsAt ws p).length ::kidsAt ws p)=lay b' ws.length (raw ws (o.take (k+1))) :=by
     rw [hkl,hd_of R3.out,hq,raw_snoc]
     exact lay_push (ks :=blk ws p) (by rw [hbl2];have :=HNL.out;omega)
    rw [hov,hLL,show (((b'+(raw ws (o.take k)).length :Nat) :Int)+(1+((kidsAt ws p).length :Int)))=((b'+(raw ws (o.take (k+1))).length :Nat) :Int) by rw [hrs,hkl];omega] at hP
    have hns :newPl ws b' (o.take (k+1))=newPl ws b' (o.take k)++ [b'+(raw ws (o.take k)).length] :=by rw [hq,newPl_snoc]
    have hnl :(newPl ws b' (o.take k)).length=k :=by rw [newPl_len,List.length_take];omega
    have hN5 :b'+(raw ws (o.take k)).length≤6000 :=by have :=HNL.out;omega
    obtain ⟨X,hXX⟩ : ∃X,ws.getD p 0=X :=⟨_,rfl⟩
    rw [hXX] at hP ⊢
    obtain ⟨at_,hat⟩ : ∃at_,b'+(raw ws (o.take k)).length=at_ :=⟨_,rfl⟩
    rw [hat] at hP hns hN5
    have HP :=Lib.hid hP
    have HNS :=Lib.hid hns
    have HNLk :=Lib.hid hnl
    have M5 :=Lib.hid hM
    have B5 :=Lib.hid hb5
    have y5 :=hM.b9.2.1
    have b5z :=b5.size
    clear hP hns hnl hM hb5 hq hrl2 htl hkl hbl2 hLL t1 t2 t3 t4 hk20 ht0 hrs hov hXX hat ru b5 q0 q1 q2 q3 co M1 B1
    go_wp2_with fail
    refine HP.out.mono ?_
    rintro e w6 ⟨rfl,ot,k8,b6,kp⟩
    replace kp :=kp gr rfl
    have k9 :=M5.out.b9.kept2 kp (fun h=> HSE.out.e h.symm) (fun h=> HSE.out.f h.symm)
    have pr :=own_kept2 M5.out.pr kp (fun i hi=> ⟨(M5.out.ap i hi).1,(M5.out.ap i hi).2.1⟩)
    rw [HNLk.out] at pr
    have hap :=M5.out.ap
    have hb6 :=B5.out.trans b6
    obtain ⟨pa,pc,rfl⟩ :=own_form pr
    have q9 :=k9.2.1
    have y9 :=k9.1
    have OT :=Lib.hid ot
    have K8 :=Lib.hid k8
    have K9 :=Lib.hid k9
    have PR :=Lib.hid pr
    have AP :=Lib.hid hap
    have B6 :=Lib.hid hb6
    have z6 :=hb6.size
    clear ot k8 k9 pr hap hb6 b6 kp M5 B5 y5 HP
    go_wp2_with (at_builtin;refine wpList_app1_at rfl _ _ 27 rfl x1.heap.size 3 i0 (.int .i64 0) 1 8 Tryz.underlying27 hi hz0 hz1 hz2 rfl (by decide) _ _ _ rfl PR.out #[_] rfl ?_ w6.heap.size rfl rfl ?_ ?_ ?_ ?_)
    ·rfl
    ·unfold maxLen;omega
    ·omega
    ·omega
    ·intro v' w7 ho7 hg7 hat7
     have ha7 : ∀i,v'.ownBlock=some i→i≠g8∧i≠gr∧i≠g9 :=by
      intro i hi
      rcases hat7 with h | h
      ·exact AP.out i (h▸hi)
      ·rw [h] at hi
       have h1 :=Option.some.inj hi
       have h2 :=K8.out.1
       have h3 :=(OT.out.lt gr rfl).2
       omega
     have ot7 :=OT.out.kept hg7 (.inr (fun h=> (AP.out _ h.symm).2.1 rfl))
     have k87 :=K8.out.grown hg7 (fun h=> (AP.out _ h.symm).1 rfl)
     have k97 :=K9.out.grown hg7 (fun h=> (AP.out _ h.symm).2.2 rfl)
     have b7 :=B6.out.trans (Below.of_grown (B :=x1.heap.size) hg7 z6 (fun i hi=> (PR.out.lt i hi).1))
     have M7 :Mvs (w7.setCell ⟨g9,0,none⟩ v') x1.heap.size g8 gr g9 ws.length h b' ((b'+(raw ws (o.take (k+1))).length :Nat) :Int) (lay b' ws.length (raw ws (o.take (k+1)))) v' (newPl ws b' (o.take (k+1))) :=by
      refine ⟨k87.grown (grownBy.setCell w7 g9 0 v') (fun h=> HSE.out.e (Option.some.inj h)),ownsRow_setCell_other (a :=⟨g9,0,none⟩) ot7 (fun h=> HSE.out.f (Option.some.inj h)) v',k97.set 0 (by simp) v',?_,ha7⟩
      refine ownsRow_setCell_other (a :=⟨g9,0,none⟩) ?_ (fun h=> (ha7 _ h).2.2 rfl) v'
      rw [HNS.out,List.length_append,HNLk.out]
      simpa [ofN] using ho7
     have B7 :Below x1.heap.size x1 (w7.setCell ⟨g9,0,none⟩ v') :=b7.setCell e9 v'
     have q7 :=k97.2.1
     have f7 :=k97.2.2
     obtain ⟨a7,c7,rfl⟩ : ∃a c,v'= .slice a (k+1) c :=own_form ho7
     have HM7 :=Lib.hid M7
     have HB7 :=Lib.hid B7
     clear M7 B7 ot7 k87 k97 b7 ha7 hat7 hg7 ho7 OT K8 K9 PR AP B6 q9
     go_wp2
     go_roundw
     case rel=> exact ⟨k+1,_,hlt,by go_num,HM7.out,HB7.out⟩
     case measure=> simp [intOf];omega
   ·obtain rfl :k=o.length :=by omega
    rw [List.take_of_length_le (Nat.le_refl _)] at hM
    obtain ⟨pa,pc,rfl⟩ :=own_form hM.pr
    have q9 :=hM.b9.2.1
    have y9 :=hM.b9.1
    have hnl :(newPl ws b' o).length=o.length :=newPl_len _ _ _
    have HNL2 :=Lib.hid hnl
    obtain ⟨nx,hnx⟩ : ∃nx :Nat,b'+(raw ws o).length=nx :=⟨_,rfl⟩
    rw [hnx] at hM
    have HNX :=Lib.hid hnx
    have hmv : ∀(W :World) (x :Int) (ts :List Int),Below x1.heap.size x1 W→Mvs W x1.heap.size g8 gr g9 ws.length h b' (nx :Int) ts (.slice pa (newPl ws b' o).length pc) (newPl ws b' o)→wordIn ps x=true→(x%2=0→(x/2).toNat∈o)→
      Calls Tryz.prog 143 #[.int .i64 x, .pointer (some ⟨g9,0,none⟩), .pointer (some ⟨w1.heap.size,0,none⟩)] W fun e w'=> e= .returned (.int .i64 (mv ws b' o x))∧Still W w' :=by
     intro W x ts hB hM hx ho
     exact moved_any (.slice pa (newPl ws b' o).length pc) (.slice na (numbers o ws.length).length nc) ws b' o ps x ws.length W hM.b9 (K7.out.below hB K7.out.1) (Rd.of_nums hM.pr) (RN.out.below hB zx2) hx ho
      (fun p hp=> Nat.lt_of_lt_of_le (HRi.out.at_ hp).2.1 hN1) (by omega) (fun p=> Nat.le_trans (newAt_le HRi.out HO.out p) (by omega)) hol
    have HMV :=Lib.hid hmv
    clear hmv
    have M1 :=Lib.hid hM
    have B1 :=Lib.hid hb
    clear hM hb hnl hnx
    go_wp2
    go_loopw [73] (fun i wr=> ∃k :Nat,k≤o.length∧i= .int .i64 k∧Mvs wr x1.heap.size g8 gr g9 ws.length h b' (nx :Int) (lay b' ws.length (mix ws b' o o k)) (.slice pa (newPl ws b' o).length pc) (newPl ws b' o)∧Below x1.heap.size x1 wr) (fun i _=> o.length-(intOf i).toNat)
    case atStart=> exact ⟨0,Nat.zero_le _,rfl,by rw [mix_zero];exact M1.out,B1.out⟩
    case round=>
     clear M1 B1 q9 y9
     obtain ⟨k,hk,rfl,hM,hb⟩ :=hrel
     by_cases hlt :k < o.length
     ·obtain ⟨pg,rfl,co⟩ :=own_cell_any hM.pr k (by rw [HNL2.out];exact hlt)
      rw [List.getElem?_map,newPl_get hlt,Option.map_some] at co
      unfold ofN at co
      have hki :(k :Int) < ((newPl ws b' o).length :Int) :=by rw [HNL2.out];omega
      obtain ⟨at_,hat⟩ : ∃at_,b'+(raw ws (o.take k)).length=at_ :=⟨_,rfl⟩
      rw [hat] at co
      obtain ⟨p,hpp⟩ : ∃p,o[k]=p :=⟨_,rfl⟩
      have hpm :=HO.out.2 _ (List.getElem_mem hlt)
      have hpo :=List.getElem_mem hlt
      rw [hpp] at hpm hpo
      obtain ⟨r1,r2,r3,r4,r5⟩ :=HRi.out.at_ hpm
      have hcl :=HCL.out p hpo
      have hrl2 :=HRi.out.raw_le HO.out
      have hkl :(kidsAt ws p).length=hK (ws.getD p 0) :=kidsAt_len (Nat.le_trans r4 hN1)
      have hbl2 :(blk ws p).length=1+hK (ws.getD p 0) :=by simp [blk,hkl];omega
      have hml :=mix2_len (ws :=ws) (b :=b') (o :=o) 0 hlt hpp
      have hfit :(raw ws (o.take k)).length+1+hK (ws.getD p 0)≤(raw ws o).length :=by
       have h1 :=raw_take_le ws o (k+1)
       rw [← List.take_append_getElem hlt,raw_snoc,List.length_append,hpp,hbl2] at h1
       omega
      rw [mix2_zero hlt hpp] at hml
      have hLL :(lay b' ws.length (mix ws b' o o k)).length=ws.length :=lay_len (by have :=HNL.out;omega)
      have hhd :(lay b' ws.length (mix ws b' o o k)).getD at_ 0=ws.getD p 0 :=by rw [← hat,lay_get (by rw [hml];omega)];exact mix_hd hlt hpp
      have hli :=blockAt_lies gr 0 ws.length (lay b' ws.length (mix ws b' o o k)) h b' nx at_ wr (by rw [hLL];exact rd_own hM.tr hLL) (lay_ok (mix_ok HRi.out HO.out (by omega) HW.out o k)) (by rw [hhd];exact r3) (by rw [hhd,hLL];have :=HNL.out;omega) (by rw [hLL];omega)
      rw [hhd,hLL,Nat.zero_add] at hli
      have q8 :=hM.b8.2.1
      have q8 :=q8 0
      have hM0 :Mvs wr x1.heap.size g8 gr g9 ws.length h b' (nx :Int) (lay b' ws.length (mix2 ws b' o o k p 0)) (.slice (some ⟨pg,0,none⟩) (newPl ws b' o).length pc) (newPl ws b' o) :=by rw [mix2_zero hlt hpp];exact hM
      have M1 :=Lib.hid hM0
      have B1 :=Lib.hid hb
      have HLI :=Lib.hid hli
      have HCLP :=Lib.hid hcl
      have HAT :=Lib.hid hat
      have HPP :=Lib.hid hpp
      have R5 :=Lib.hid r5
      have HKL :=Lib.hid hkl
      have HRL :=Lib.hid hrl2
      have HML :=Lib.hid hml
      have hsum :at_+1+hK (ws.getD p 0)≤ws.length :=by have :=HNL.out;omega
      clear hM hM0 hb hli hcl hat hpp r5 hkl hrl2 hml hLL hhd hbl2 r3 r4
      go_wp2_with fail
      refine HLI.out.mono ?_
      rintro e w5 ⟨u,rfl,⟨ua,m,uc,rfl,hm,hua⟩,b5⟩
      rw [← HKL.out] at hm
      subst hm
      have M5 :=Lib.hid (M1.out.below b5)
      have B5 :=Lib.hid (B1.out.trans (b5.mono B1.out.size))
      clear M1 B1 HLI b5 q8 co
      go_wp2
      go_loopw [86] (fun i wr=> ∃j :Nat,j≤(kidsAt ws p).length∧i= .int .i64 j∧Mvs wr x1.heap.size g8 gr g9 ws.length h b' (nx :Int) (lay b' ws.length (mix2 ws b' o o k p j)) (.slice (some ⟨pg,0,none⟩) (newPl ws b' o).length pc) (newPl ws b' o)∧Below x1.heap.size x1 wr) (fun i _=> (kidsAt ws p).length-(intOf i).toNat)
      case atStart=> exact ⟨0,Nat.zero_le _,rfl,M5.out,B5.out⟩
      case round=>
       clear M5 B5
       obtain ⟨j,hj,rfl,hM,hb⟩ :=hrel
       by_cases hlj :j < (kidsAt ws p).length
       ·obtain rfl :ua=some ⟨gr,at_+1,none⟩ :=by
         rcases hua with h | h
         ·rw [← HKL.out] at h;omega
         ·exact h
        obtain ⟨x,hx⟩ : ∃x,(kidsAt ws p).getD j 0=x :=⟨_,rfl⟩
        have hxm :x∈kidsAt ws p :=by
         rw [← hx,List.getD_eq_getElem?_getD,List.getElem?_eq_getElem hlj];exact List.getElem_mem hlj
        have hw1 :=List.all_eq_true.1 R5.out x hxm
        have hw2 :=HCLP.out x hxm
        have hjk :j < hK (ws.getD p 0) :=by rw [← HKL.out];exact hlj
        have cx :=own_cell hM.tr (at_+1+j) (by omega)
        have hil :(raw ws (o.take k)).length+1+j < (mix2 ws b' o o k p j).length :=by
         rw [mix2_len j hlt HPP.out]
         have h1 :=raw_take_le ws o (k+1)
         rw [← List.take_append_getElem hlt,raw_snoc,List.length_append,HPP.out] at h1
         have h2 :(blk ws p).length=1+hK (ws.getD p 0) :=by simp [blk,HKL.out];omega
         omega
        have hie :at_+1+j=b'+((raw ws (o.take k)).length+1+j) :=by have :=HAT.out;omega
        rw [hie,List.getElem?_map,lay_get? hil,mix2_get hlj,hx,Option.map_some,← hie] at cx
        have hset : ∀W,Mvs W x1.heap.size g8 gr g9 ws.length h b' (nx :Int) (lay b' ws.length (mix2 ws b' o o k p j)) (.slice (some ⟨pg,0,none⟩) (newPl ws b' o).length pc) (newPl ws b' o)→
          Mvs (W.setCell ⟨gr,at_+1+j,none⟩ (.int .i64 (mv ws b' o x))) x1.heap.size g8 gr g9 ws.length h b' (nx :Int) (lay b' ws.length (mix2 ws b' o o k p (j+1))) (.slice (some ⟨pg,0,none⟩) (newPl ws b' o).length pc) (newPl ws b' o) :=by
         intro W hM
         have h1 :=hM.turn HSE.out (i :=at_+1+j) (by omega) (mv ws b' o x)
         rw [show (lay b' ws.length (mix2 ws b' o o k p j)).set (at_+1+j) (mv ws b' o x)=lay b' ws.length (mix2 ws b' o o k p (j+1)) by
          rw [hie,lay_set hil,← hx,mix2_set hlj]] at h1
         exact h1
        obtain ⟨m,hm⟩ : ∃m,at_+1+j=m :=⟨_,rfl⟩
        rw [hm] at hset
        have e1 :IntKind.i64.wrap (IntKind.i64.wrap ((at_ :Int)+1)+(j :Int))=(m :Int) :=by
         rw [IntWalk.i64_in ((at_ :Int)+1) (by omega),IntWalk.i64_in _ (by omega)];omega
        have e2 :(m :Int) < (ws.length :Int) :=by omega
        have HMI :=Lib.hid hm
        have HSET :=Lib.hid hset
        have q8 :=hM.b8.2.1 0
        have M1 :=Lib.hid hM
        have B1 :=Lib.hid hb
        have CX :=Lib.hid cx
        clear hM hb cx hset hx hxm hie hil hm
        go_wp2
        refine wp_region_held_drew (S :=(fun w'=> w'.cell? ⟨g8,0,none⟩ =some (.slice (some ⟨gr,0,none⟩) ws.length ws.length))) (by kernel_rfl) (by first | (dsimp only;exact q8) | (exact q8)) (fun hHeld=> ?_)
        have st :Still wr wr.drew :=⟨1,rfl⟩
        have M2 :=Lib.hid (M1.out.below (st.below _))
        have B2 :=Lib.hid (B1.out.trans (st.below _))
        have cx :=((st.below (gr+1)).cell (p :=⟨gr,at_+1+j,none⟩) (Nat.lt_succ_self _)).trans CX.out
        clear st M1 B1
        generalize wr.drew=wd at hHeld M2 B2 cx ⊢
        refine tkH (i :=0) ?_
        refine tkH (i :=1) ?_
        refine tkH (i :=2) ?_
        refine tkH (i :=3) ?_
        refine tkH (i :=4) ?_
        refine tkH (i :=5) ?_
        refine tkH (i :=6) ?_
        refine tkH (i :=7) ?_
        refine tkH (i :=8) ?_
        refine tkH (i :=9) ?_
        refine rdH (i :=10) (fun K hK=> ?_)
        go_simp
        refine bkH hK (by first | (dsimp only;exact hHeld) | (exact hHeld)) (fun hHeld=> ?_)
        clear hK K
        refine rdH (i :=11) (fun K hK=> ?_)
        go_simp
        refine (HMV.out _ _ _ B2.out M2.out hw1 hw2).mono ?_
        rintro e w7 ⟨rfl,st⟩
        dsimp only
        refine bkH hK (by first | (dsimp only;exact ((Still.below st (g8+1)).cell (p :=⟨g8,0,none⟩) (Nat.lt_succ_self _)).trans hHeld) | (exact ((Still.below st (g8+1)).cell (p :=⟨g8,0,none⟩) (Nat.lt_succ_self _)).trans hHeld)) (fun hHeld=> ?_)
        clear hK K
        have cm :=((Still.below st (gr+1)).cell (p :=⟨gr,at_+1+j,none⟩) (Nat.lt_succ_self _)).trans cx
        rw [HMI.out] at cm
        have fm :=own_frozen (M2.out.below (Still.below st _)).tr m
        have M3 :=Lib.hid (HSET.out _ (M2.out.below (Still.below st _)))
        have B3 :=Lib.hid ((B2.out.trans (Still.below st _)).setCell (p :=⟨gr,m,none⟩) er (.int .i64 (mv ws b' o x)))
        clear M2 B2 st cx
        refine tkH (i :=12) ?_
        refine rdH (i :=13) (fun K hK=> ?_)
        go_simp
        refine bkH hK (by first | (dsimp only;(have M4 :=M3.out.b8.2.1 0;exact M4)) | ((have M4 :=M3.out.b8.2.1 0;exact M4))) (fun hHeld=> ?_)
        clear hK K
        refine wpAnyH_done (by kernel_rfl) ?_ _
        clear cm fm
        go_wp2
        go_roundw
        case rel=> exact ⟨j+1,hlj,by go_num,M3.out,B3.out⟩
        case measure=> simp [intOf];omega
       ·obtain rfl :j=(kidsAt ws p).length :=by omega
        rw [mix2_all hlt HPP.out] at hM
        have M2 :=Lib.hid hM
        have B2 :=Lib.hid hb
        clear hM hb
        go_wp2
        go_roundw
        case rel=> exact ⟨k+1,hlt,by go_num,M2.out,B2.out⟩
        case measure=> simp [intOf];omega
     ·obtain rfl :k=o.length :=by omega
      obtain ⟨wA,rfl⟩ : ∃W,W=wr :=⟨wr,rfl⟩
      rw [mix_all] at hM
      have hki : ¬((o.length :Int) < ((newPl ws b' o).length :Int)) :=by rw [HNL2.out];omega
      have M2 :=Lib.hid hM
      have B2 :=Lib.hid hb
      clear hM hb
      go_wp2
      clear hki
      generalize hwz :wA.alloc _=wz
      have oz :wz.ownsRow wA.heap.size 3 1 (.slice (some ⟨wA.heap.size,0,none⟩) 0 0) 0 [] :=by
       rw [← hwz]
       exact own_empty rfl (Nat.le_refl _)
      have bz :Below wA.heap.size wA wz :=by rw [← hwz];exact (Below.refl _ _).alloc (Nat.le_refl _) _
      have OZ :=Lib.hid oz
      have BZ :=Lib.hid bz
      clear hwz oz bz
      go_loopw [23,107] (fun u i wy=> ∃k :Nat,k≤rs.length∧i= .int .i64 k∧wy.ownsRow wA.heap.size 3 1 u k (((rs.take k).map (mv ws b' o)).map (Value.int .i64))∧Below wA.heap.size wA wy) (fun _ i _=> rs.length-(intOf i).toNat)
      case atStart=> exact ⟨0,Nat.zero_le _,rfl,OZ.out,BZ.out⟩
      case round=>
       clear OZ BZ
       obtain ⟨k,hk,rfl,ou,hb⟩ :=hrel
       obtain ⟨ua,uc,rfl⟩ :=own_form ou
       have hb2 :=B2.out.trans (hb.mono B2.out.size)
       have M3 :=Lib.hid (M2.out.below hb)
       by_cases hlr :k < rs.length
       ·rcases RQ.out _ (BB.out.trans (hb2.mono hhx)) with ⟨h',_⟩ | ⟨bl,off,c',hv,_,hbs,_,hc⟩
        ·rw [h'] at hlr;cases hlr
        ·cases hv
         have cq :=hc k hlr
         obtain ⟨x,hx⟩ : ∃x,rs.getD k 0=x :=⟨_,rfl⟩
         have hw1 :=all_get HXR.out hlr
         have hxm :x∈rs :=by rw [← hx,List.getD_eq_getElem?_getD,List.getElem?_eq_getElem hlr];exact List.getElem_mem hlr
         have hw2 :=HCR.out x hxm
         have htk :rs.take (k+1)=rs.take k++ [x] :=by rw [← List.take_append_getElem hlr,← hx,List.getD_eq_getElem?_getD,List.getElem?_eq_getElem hlr];rfl
         rw [hx] at cq hw1
         have hkr :(k :Int) < (rs.length :Int) :=by omega
         have HTK :=Lib.hid htk
         have OU :=Lib.hid ou
         have HB2 :=Lib.hid hb2
         have HBr :=Lib.hid hb
         clear ou hb hb2 hc hx hxm htk hbs
         go_wp2_with fail
         refine (HMV.out _ _ _ HB2.out M3.out hw1 hw2).mono ?_
         rintro e w7 ⟨rfl,st⟩
         have ou :=own_below OU.out (Still.below st _) (own_lt OU.out)
         have hb7 :=HBr.out.trans (Still.below st _)
         have z7 :=hb7.size
         have OU7 :=Lib.hid ou
         have HB7 :=Lib.hid hb7
         clear OU HBr HB2 M3 st cq hw1 hw2 ou hb7
         go_wp2_with (at_builtin;refine wpList_app1_at rfl _ _ 27 rfl wA.heap.size 3 i0 (.int .i64 0) 1 8 Tryz.underlying27 hi hz0 hz1 hz2 rfl (by decide) _ _ _ rfl OU7.out #[_] rfl ?_ w7.heap.size rfl rfl ?_ ?_ ?_ ?_)
         ·rfl
         ·unfold maxLen;omega
         ·omega
         ·omega
         ·intro v' w8 ho8 hg8 hat8
          have b8 :=HB7.out.trans (Below.of_grown (B :=wA.heap.size) hg8 z7 (fun i hi=> (OU7.out.lt i hi).1))
          have OO8 :Hid (w8.ownsRow wA.heap.size 3 1 v' (k+1) (((rs.take (k+1)).map (mv ws b' o)).map (Value.int .i64))) :=Lib.hid (by
           rw [HTK.out]
           simpa using ho8)
          have BB8 :=Lib.hid b8
          clear ho8 hg8 hat8 b8 OU7 HB7 HTK z7
          go_wp2
          go_roundw
          case rel=> exact ⟨k+1,hlr,by go_num,OO8.out,BB8.out⟩
          case measure=> simp [intOf];omega
       ·obtain rfl :k=rs.length :=by omega
        rw [List.take_length] at ou
        have q8 :=M3.out.b8.2.1
        have k4 :=K4.out.below hb2 K4.out.1
        have q4 :=k4.2.1
        have f4 :=k4.2.2
        have OU :=Lib.hid ou
        have HB2 :=Lib.hid hb2
        have TR :=Lib.hid M3.out.tr
        have bbz :=BB.out.trans (hb2.mono hhx)
        have BZ :=Lib.hid bbz
        have hwa :=B2.out.size
        have hdf :=Diff.of M2.out.tr ou (Nat.le_refl _)
        clear ou hb hb2 M2 B2 k4 bbz
        go_wp2
        refine bodyPost_ret (v := .tuple #[.agg #[.slice (some ⟨gr,0,none⟩) ws.length ws.length, .int .i64 h, .int .i64 b', .int .i64 nx], .slice ua rs.length uc]) ?_ rfl ⟨_,_,by rw [HNX.out],?_,?_,?_,hdf⟩
        ·simp [results,Tryz.results68,go_sem,q4]
        ·refine own_base (base :=x1.heap.size) ?_ hhx
         repeat (refine ownsRow_setCell_below ?_ (by dsimp only;omega) _)
         exact TR.out
        ·refine own_base (base :=wA.heap.size) ?_ (by omega)
         repeat (refine ownsRow_setCell_below ?_ (by dsimp only;omega) _)
         exact OU.out
        ·repeat (refine Below.setCell ?_ (by dsimp only;omega) _)
         exact BZ.out
end Go.Proofs.YtfmebaafpfkeiaaGreat
end
section
namespace Go.Proofs.YtfmebaafpfkeiaaGreat
open Go.RowKit
set_option maxHeartbeats 800000 in
set_option maxRecDepth 100000 in
theorem iRootsOk_any {B :Nat} (v vr :Value) (ws rs :List Int) (h b n :Int) (w :World) (hr :Rd B .i64 w v ws) (hw :intsOk ws) (hlen :ws.length≤4294967296) (hq :Rd B .i64 w vr rs)
  (bh : -9223372036854775808≤h∧h≤9223372036854775807) (ib : -9223372036854775808≤b∧b≤9223372036854775807) (bn : -9223372036854775808≤n∧n≤9223372036854775807) :
  Calls Tryz.prog 53 #[.agg #[v, .int .i64 h, .int .i64 b, .int .i64 n],vr] w fun e w'=> e= .returned (.bool (rightOf ws h b n rs))∧Below w.heap.size w w' :=by
 have hO :=fun (W :World) (hb :Below w.heap.size w W)=> iHeapOk_any v ws h b n W (hr.below' hb) hw hlen bh ib bn
 have RQ :=Lib.hid (fun (W :World) (hb :Below w.heap.size w W)=> hq.below' hb)
 obtain ⟨a,cap,hv⟩ :=hr.form
 obtain ⟨qa,qc,rfl⟩ :=hq.form
 cases hok :heapOk ws h b n
 ·rw [hok] at hO
  have HO :=Lib.hid hO
  have HF :=Lib.hid (rightOf_not (rs :=rs) hok)
  subst hv
  clear hO hr hw bh ib bn hok hq
  go_enter Tryz.func53,Tryz.ntmps53
  go_wp2_with fail
  generalize hx :w.alloc _=x
  obtain ⟨bb,k1⟩ :=Bx.alloc hx
  clear hx
  refine (HO.out _ bb).mono ?_
  rintro e w1 ⟨rfl,b1⟩
  replace k1 :=k1.below b1 k1.1
  replace bb :=bb.trans (b1.mono bb.size)
  clear b1
  go_wp2
  go_ret
  exact ⟨ret_bool HF.out.symm,bb⟩
 ·rw [hok] at hO
  have HO :=Lib.hid hO
  obtain ⟨h',b',n',ps,rfl,rfl,rfl,hR⟩ :=Right.of hok
  have hS :=fun (W :World) (hb :Below w.heap.size w W)=> starts_any v ws h' b' n' W (hr.below' hb) hw hR.frame
  rw [hR.some] at hS
  have HS :=Lib.hid hS
  have HF :=Lib.hid (rightOf_at (rs :=rs) hok hR.some)
  have hC :=fun (g :Nat) (u :Value) (W :World) (r :Rd W.heap.size .i64 W u (nums ps)) (hg :W.cell? ⟨g,0,none⟩ =some u) (hu :Rd w.heap.size .i64 W (.slice qa rs.length qc) rs)=>
   rootsOk1_contains g u (.slice qa rs.length qc) ps rs W r hR.sorted (by have :=hR.len;have :=hR.n_le;omega) hg hu
  have HC :=Lib.hid hC
  subst hv
  clear hO hr hw bh ib bn hok hq hS hR hC
  go_enter Tryz.func53,Tryz.ntmps53
  go_wp2_with fail
  generalize hx :w.alloc _=x
  obtain ⟨bb,k1⟩ :=Bx.alloc hx
  clear hx
  refine (HO.out _ bb).mono ?_
  rintro e w1 ⟨rfl,b1⟩
  replace k1 :=k1.below b1 k1.1
  replace bb :=bb.trans (b1.mono bb.size)
  clear b1
  have ck1 :=k1.2.1
  have yk1 :=k1.1
  go_wp2_with fail
  refine (HS.out _ bb).mono ?_
  rintro e w2 ⟨⟨u,rfl,o2⟩,b2⟩
  clear ck1 yk1
  replace k1 :=k1.below b2 k1.1
  replace bb :=bb.trans (b2.mono bb.size)
  clear b2
  rw [map_ofN,← nums_len] at o2
  obtain ⟨a2,c2,rfl⟩ :=own_form o2
  go_wp2_with fail
  generalize hx :w2.alloc _=x3
  obtain ⟨bx,k3⟩ :=Bx.alloc hx
  clear hx
  replace o2 :=own_below o2 bx (own_lt o2)
  replace bb :=bb.trans (bx.mono bb.size)
  clear bx
  refine (HC.out _ _ _ (Rd.of_own o2) (k3.2.1 0) (RQ.out _ bb)).mono ?_
  rintro e w4 ⟨rfl,rfl⟩
  go_wp2
  go_ret
  exact ⟨ret_bool (by rw [HF.out]),bb⟩
end Go.Proofs.YtfmebaafpfkeiaaGreat
end
