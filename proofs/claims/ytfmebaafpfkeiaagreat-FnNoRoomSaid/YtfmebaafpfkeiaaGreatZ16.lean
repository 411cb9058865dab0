/- Parts of the proof of FnNoRoom. -/
import Derived.Test.YtfmebaafpfkeiaaGreatZ15
import Derived.Test.YtfmebaafpfkeiaaGreatZ14
import Derived.Test.YtfmebaafpfkeiaaGreatZ12
import Derived.Test.YtfmebaafpfkeiaaGreatZ13
import Derived.IntWalk
import Derived.StillTailTactics
import Derived.Deep.DeepCutAuto
import Derived.Deep.CutRange
import Derived.Test.YtfmebaafpfkeiaaGreatZ11
import Derived.BigQuiet
set_option linter.unusedVariables false
set_option linter.unusedSimpArgs false
section
namespace Go.Proofs.YtfmebaafpfkeiaaGreat
open Go.RowKit
def CollTold (W :World) (e :Ending) (w' :World) (h :Int) (P :Coll) :Prop :=
 ∃uv qv,e= .returned (.tuple #[.agg #[uv, .int .i64 h, .int .i64 P.base, .int .i64 P.next],qv])∧w'.ownsRow W.heap.size 3 1 uv P.ws.length (P.ws.map (Value.int .i64))∧w'.ownsRow W.heap.size 3 1 qv P.roots.length (P.roots.map (Value.int .i64))∧Diff uv qv
set_option maxHeartbeats 1600000 in
set_option maxRecDepth 100000 in
theorem iCollect_any {B :Nat} (v vr :Value) (ws rs :List Int) (h b n :Int) (w :World) (hr :Rd B .i64 w v ws) (hw :intsOk ws) (hlen :ws.length≤4294967296) (hq :Rd B .i64 w vr rs) (hrl :rs.length≤4294967296)
  (bh : -9223372036854775808≤h∧h≤9223372036854775807) (ib : -9223372036854775808≤b∧b≤9223372036854775807) (bn : -9223372036854775808≤n∧n≤9223372036854775807) :
  Calls Tryz.prog 22 #[.agg #[v, .int .i64 h, .int .i64 b, .int .i64 n],vr] w fun e w'=> CollTold w e w' h (collectOf ws h b n rs)∧Below w.heap.size w w' :=by
 have hO :=fun (W :World) (hb :Below w.heap.size w W)=> iRootsOk_any v vr ws rs h b n W (hr.below' hb) hw hlen (hq.below' hb) bh ib bn
 have hC :=fun (W :World) (hb :Below w.heap.size w W)=> copyHeap_any v ws h b n W (hr.below' hb) hlen
 have hK :=fun (W :World) (hb :Below w.heap.size w W)=> clone_any vr rs W (hq.below' hb) hrl
 have HO :=Lib.hid hO
 have HC :=Lib.hid hC
 have HK :=Lib.hid hK
 clear hO hC hK
 by_cases hright :rightOf ws h b n rs=true
 ·obtain ⟨h',b',n',ps,rfl,rfl,rfl,hR,hx⟩ :=Right.ofR hright
  have hbh :b'≤h' :=by have :=hR.frame.base;omega
  rw [hright] at HO
  rw [collect_yes hbh hright]
  have hM :=fun (W :World) (hb :Below w.heap.size w W)=> collect_any v vr ws rs h' b' n' ps W hR (hr.below' hb) hw (hq.below' hb) hx hrl
  have hL :(lay (h'-b') ws.length (mvd ws (h'-b') (orderOf ws rs) (orderOf ws rs))).length=ws.length :=by
   refine lay_len ?_
   rw [mvd_len]
   have h1 :=hR.raw_le (order_ok hR hx)
   have h2 :=hR.frame.len
   omega
  have hL2 :(rs.map (mv ws (h'-b') (orderOf ws rs))).length=rs.length :=by simp
  unfold CollTold
  dsimp only
  rw [hL,hL2]
  obtain ⟨ts,hts⟩ : ∃ts,lay (h'-b') ws.length (mvd ws (h'-b') (orderOf ws rs) (orderOf ws rs))=ts :=⟨_,rfl⟩
  obtain ⟨qs,hqs⟩ : ∃qs,rs.map (mv ws (h'-b') (orderOf ws rs))=qs :=⟨_,rfl⟩
  obtain ⟨nb,hnb⟩ : ∃nb,h'-b'=nb :=⟨_,rfl⟩
  obtain ⟨nn,hnn⟩ : ∃nn,h'-b'+(raw ws (orderOf ws rs)).length=nn :=⟨_,rfl⟩
  simp only [hts,hqs,hnn] at hM ⊢
  simp only [hnb] at hM ⊢
  have HM :=Lib.hid hM
  obtain ⟨a,cap,rfl⟩ :=hr.form
  obtain ⟨qa,qc,rfl⟩ :=hq.form
  clear hM hR hr hq hright hx hL hL2 hts hqs hnb hnn
  go_enter Tryz.func22,Tryz.ntmps22
  go_wp2_with fail
  generalize hx :(w.alloc _).alloc _=x
  obtain ⟨bb,k1,k2,sx⟩ :=alloc_box2 hx
  clear hx
  have ck1 :=k1.2.1
  have yk1 :=k1.1
  go_wp2_with fail
  refine (HO.out _ bb).mono ?_
  rintro e w1 ⟨rfl,b1⟩
  clear ck1 yk1
  have hwx :=b1.size
  replace k1 :=k1.below b1 k1.1
  replace k2 :=k2.below b1 k2.1
  replace bb :=bb.trans (b1.mono bb.size)
  clear b1
  have ck1 :=k1.2.1
  have yk1 :=k1.1
  go_wp2_with fail
  refine (HM.out _ bb).mono ?_
  rintro e w2 ⟨uv,qv,rfl,o1,o2,b2,hdf⟩
  obtain ⟨ua,uc,rfl⟩ :=own_form o1
  obtain ⟨va,vc,rfl⟩ :=own_form o2
  clear ck1 yk1
  replace k1 :=k1.below b2 k1.1
  replace k2 :=k2.below b2 k2.1
  replace bb :=bb.trans (b2.mono bb.size)
  clear b2
  have ck2 :=k2.2.1
  have yk2 :=k2.1
  have zk2 :=k2.2.2
  have O1 :=Lib.hid o1
  have O2 :=Lib.hid o2
  have BB :=Lib.hid bb
  clear o1 o2 bb
  go_wp2
  refine bodyPost_ret (v := .tuple #[.agg #[.slice ua ws.length uc, .int .i64 h', .int .i64 nb, .int .i64 nn], .slice va rs.length vc]) ?_ rfl ⟨⟨_,_,rfl,?_,?_,hdf⟩,?_⟩
  ·simp [results,Tryz.results22,go_sem,ck2]
  ·refine own_base (base :=w1.heap.size) ?_ (by omega)
   repeat (refine ownsRow_setCell_below ?_ (by dsimp only;omega) _)
   exact O1.out
  ·refine own_base (base :=w1.heap.size) ?_ (by omega)
   repeat (refine ownsRow_setCell_below ?_ (by dsimp only;omega) _)
   exact O2.out
  ·repeat (refine Below.setCell ?_ (by dsimp only;omega) _)
   exact BB.out
 ·rw [Bool.not_eq_true] at hright
  rw [hright] at HO
  rw [collect_not hright]
  obtain ⟨a,cap,rfl⟩ :=hr.form
  obtain ⟨qa,qc,rfl⟩ :=hq.form
  clear hr hq hright
  go_enter Tryz.func22,Tryz.ntmps22
  go_wp2_with fail
  generalize hx :(w.alloc _).alloc _=x
  obtain ⟨bb,k1,k2,sx⟩ :=alloc_box2 hx
  clear hx
  have ck1 :=k1.2.1
  have yk1 :=k1.1
  go_wp2_with fail
  refine (HO.out _ bb).mono ?_
  rintro e w1 ⟨rfl,b1⟩
  clear ck1 yk1
  have hwx :=b1.size
  replace k1 :=k1.below b1 k1.1
  replace k2 :=k2.below b1 k2.1
  replace bb :=bb.trans (b1.mono bb.size)
  clear b1
  have ck1 :=k1.2.1
  have yk1 :=k1.1
  go_wp2_with fail
  refine (HC.out _ bb).mono ?_
  rintro e w2 ⟨uv,rfl,o1,b2⟩
  obtain ⟨ua,uc,rfl⟩ :=own_form o1
  clear ck1 yk1
  have hwy :=b2.size
  replace k1 :=k1.below b2 k1.1
  replace k2 :=k2.below b2 k2.1
  replace bb :=bb.trans (b2.mono bb.size)
  clear b2
  go_wp2_with fail
  refine (HK.out _ bb).mono ?_
  rintro e w3 ⟨qv,rfl,o2,b3⟩
  obtain ⟨va,vc,rfl⟩ :=own_form o2
  have hdf :=Diff.of o1 o2 (Nat.le_refl _)
  replace o1 :=own_below o1 b3 (own_lt o1)
  replace k1 :=k1.below b3 k1.1
  replace k2 :=k2.below b3 k2.1
  replace bb :=bb.trans (b3.mono bb.size)
  clear b3
  have ck2 :=k2.2.1
  have yk2 :=k2.1
  have zk2 :=k2.2.2
  have O1 :=Lib.hid o1
  have O2 :=Lib.hid o2
  have BB :=Lib.hid bb
  clear o1 o2 bb
  go_wp2
  refine bodyPost_ret (v := .tuple #[.agg #[.slice ua ws.length uc, .int .i64 h, .int .i64 b, .int .i64 n], .slice va rs.length vc]) ?_ rfl ⟨⟨_,_,rfl,?_,?_,hdf⟩,?_⟩
  ·simp [results,Tryz.results22,go_sem,ck2]
  ·refine own_base (base :=w1.heap.size) ?_ (by omega)
   repeat (refine ownsRow_setCell_below ?_ (by dsimp only;omega) _)
   exact O1.out
  ·refine own_base (base :=w2.heap.size) ?_ (by omega)
   repeat (refine ownsRow_setCell_below ?_ (by dsimp only;omega) _)
   exact O2.out
  ·repeat (refine Below.setCell ?_ (by dsimp only;omega) _)
   exact BB.out
end Go.Proofs.YtfmebaafpfkeiaaGreat
end
section
namespace Go.Proofs.YtfmebaafpfkeiaaGreat
open Go.RowKit
structure Wk (w :World) (H gW gr N :Nat) (v :Value) (h b n b' nx :Int) (ts :List Int) (wv nv :Value) (S pl :List Nat) :Prop where
 bx :Bx w gW #[v, .int .i64 h, .int .i64 b, .int .i64 n, .slice (some ⟨gr,0,none⟩) N N, .int .i64 h, .int .i64 b', .int .i64 nx,wv,nv]
 tr :w.ownsRow H 3 1 (.slice (some ⟨gr,0,none⟩) N N) N (ts.map (Value.int .i64))
 so :w.ownsRow H 3 1 wv S.length (S.map ofN)
 no :w.ownsRow H 3 1 nv pl.length (pl.map ofN)
 hW :H≤gW
 d1 :gW≠gr
 d2 : ∀k,wv.ownBlock=some k→k≠gW∧k≠gr
 d3 : ∀k,nv.ownBlock=some k→k≠gW∧k≠gr∧wv.ownBlock≠some k
section
variable {w :World} {H gW gr N :Nat} {v :Value} {h b n b' nx :Int} {ts :List Int} {wv nv :Value} {S pl :List Nat}
theorem Wk.below {w' :World} (m :Wk w H gW gr N v h b n b' nx ts wv nv S pl) (hb :Below w.heap.size w w') :Wk w' H gW gr N v h b n b' nx ts wv nv S pl :=
 ⟨m.bx.below hb m.bx.1,own_below m.tr hb (own_lt m.tr),own_below m.so hb (own_lt m.so),own_below m.no hb (own_lt m.no),m.hW,m.d1,m.d2,m.d3⟩
theorem Wk.turn (m :Wk w H gW gr N v h b n b' nx ts wv nv S pl) {i :Nat} (hi :i < N) (y :Int) :Wk (w.setCell ⟨gr,i,none⟩ (.int .i64 y)) H gW gr N v h b n b' nx (ts.set i y) wv nv S pl :=by
 refine ⟨m.bx.grown (grownBy.setCell w gr i _) (fun h=> m.d1 (Option.some.inj h)),?_,?_,?_,m.hW,m.d1,m.d2,m.d3⟩
 ·rw [List.map_set]
  exact own_set m.tr i hi _
 ·exact ownsRow_setCell_other (a :=⟨gr,i,none⟩) m.so (fun h=> (m.d2 _ h).2 rfl) _
 ·exact ownsRow_setCell_other (a :=⟨gr,i,none⟩) m.no (fun h=> (m.d3 _ h).2.1 rfl) _
theorem Wk.next (m :Wk w H gW gr N v h b n b' nx ts wv nv S pl) (y :Int) :Wk (w.setCell ⟨gW,7,none⟩ (.int .i64 y)) H gW gr N v h b n b' y ts wv nv S pl :=by
 refine ⟨m.bx.set 7 (by simp) _,?_,?_,?_,m.hW,m.d1,m.d2,m.d3⟩
 ·exact ownsRow_setCell_other (a :=⟨gW,7,none⟩) m.tr (fun h=> m.d1 (Option.some.inj h).symm) _
 ·exact ownsRow_setCell_other (a :=⟨gW,7,none⟩) m.so (fun h=> (m.d2 _ h).1 rfl) _
 ·exact ownsRow_setCell_other (a :=⟨gW,7,none⟩) m.no (fun h=> (m.d3 _ h).1 rfl) _
end
def KeptW (w w' :World) (gW gr :Nat) (wv nv :Value) :Prop :=w.heap.size≤w'.heap.size∧∀i,i < w.heap.size→i≠gW→i≠gr→wv.ownBlock≠some i→nv.ownBlock≠some i→w'.heap[i]?=w.heap[i]?
theorem KeptW.refl (w :World) (gW gr :Nat) (wv nv :Value) :KeptW w w gW gr wv nv :=⟨Nat.le_refl _,fun i _ _ _ _ _=> rfl⟩
theorem KeptW.drew {a b :World} {gW gr :Nat} {wv nv :Value} (h :KeptW a b gW gr wv nv) :KeptW a b.drew gW gr wv nv :=⟨h.1,h.2⟩
theorem KeptW.grown {a b c :World} {gW gr :Nat} {wv nv :Value} {row :Option Nat} (h :KeptW a b gW gr wv nv) (k :b.grownBy c row) (hr :row=some gW∨row=some gr∨row=wv.ownBlock∨row=nv.ownBlock) :KeptW a c gW gr wv nv :=by
 refine ⟨Nat.le_trans h.1 k.size,fun i hi h1 h2 h3 h4=> (k.block i (Nat.lt_of_lt_of_le hi h.1) ?_).trans (h.2 i hi h1 h2 h3 h4)⟩
 rintro e
 rcases hr with r | r | r | r
 ·exact h1 (Option.some.inj (e.trans r))
 ·exact h2 (Option.some.inj (e.trans r))
 ·exact h3 (e.trans r).symm
 ·exact h4 (e.trans r).symm
def FreshIn (Z :Nat) (v v' :Value) :Prop := ∀k,v'.ownBlock=some k→v.ownBlock=some k∨Z≤k
theorem FreshIn.refl (Z :Nat) (v :Value) :FreshIn Z v v :=fun _ h=> .inl h
theorem FreshIn.of {Z Y :Nat} {v v' :Value} (h :v'.ownBlock=v.ownBlock∨v'.ownBlock=some (Y+1)) (hZ :Z≤Y) :FreshIn Z v v' :=by
 intro k hk
 rcases h with h | h
 ·exact .inl (h▸hk)
 ·have :=Option.some.inj (h.symm.trans hk)
  exact .inr (by omega)
def Aside (u :Value) (gW gr :Nat) (wv nv :Value) :Prop := ∀j,u.ownBlock=some j→j≠gW∧j≠gr∧wv.ownBlock≠some j∧nv.ownBlock≠some j
theorem Aside.fresh {u wv nv wv' nv' :Value} {gW gr Z :Nat} (h :Aside u gW gr wv nv) (hl : ∀j,u.ownBlock=some j→j < Z) (h1 :FreshIn Z wv wv') (h2 :FreshIn Z nv nv') :Aside u gW gr wv' nv' :=by
 intro j hj
 obtain ⟨a1,a2,a3,a4⟩ :=h j hj
 have hz :=hl j hj
 refine ⟨a1,a2,fun h'=> ?_,fun h'=> ?_⟩
 ·rcases h1 j h' with e | e
  ·exact a3 e
  ·omega
 ·rcases h2 j h' with e | e
  ·exact a4 e
  ·omega
theorem Wk.apart {w :World} {H gW gr N Z :Nat} {v :Value} {h b n b' nx :Int} {ts :List Int} {wv nv u v' :Value} {S pl :List Nat} (m :Wk w H gW gr N v h b n b' nx ts wv nv S pl) (hZ :w.heap.size=Z) (hu :Aside u gW gr wv nv) (hat :v'.ownBlock=u.ownBlock∨v'.ownBlock=some (Z+1)) :Aside v' gW gr wv nv :=by
 subst hZ
 have l1 :=m.bx.1
 have l2 :=(m.tr.lt gr rfl).2
 intro j hj
 rcases hat with e | e
 ·exact hu j (e▸hj)
 ·have h1 :=Option.some.inj (e.symm.trans hj)
  refine ⟨by omega,by omega,fun h'=> ?_,fun h'=> ?_⟩
  ·have :=own_lt m.so j h';omega
  ·have :=own_lt m.no j h';omega
end Go.Proofs.YtfmebaafpfkeiaaGreat
end
section
namespace Go.Proofs.YtfmebaafpfkeiaaGreat
open Go.RowKit
set_option maxHeartbeats 800000 in
set_option maxRecDepth 100000 in
theorem l1Once_any {B g :Nat} (v :Value) (zs :List Int) (n :Int) (w :World) (hC :Cur w g v zs.length) (hr :Rd B .u8 w v zs) (hz :bytesIn zs) (hl :zs.length≤4294967296) (hg :B≤g) (hn :i64In n) :
  Calls Tryz.prog 31 #[.pointer (some ⟨g,0,none⟩), .int .i64 n] w fun e w'=> (∃b,e= .returned (.bool b))∧Cur w' g v zs.length∧w.grownBy w' (some g) :=by
 have HB :=Lib.hid (l1Below_any v zs n w hC hr hz hl hg hn)
 clear hC hr
 go_enter Tryz.func31,Tryz.ntmps31
 go_wp2_with fail
 refine HB.out.mono ?_
 rintro e w1 ⟨⟨r,rfl,_,_⟩,c1,g1⟩
 have C1 :=Lib.hid c1
 have G1 :=Lib.hid g1
 clear c1 g1
 go_wp2
 go_ret
 exact ⟨⟨_,rfl⟩,C1.out,G1.out⟩
structure Drwn (w0 w :World) (v :Value) (ws :List Int) (h b n :Int) (vr :Value) (rs :List Int) :Prop where
 own :w.ownsRow w0.heap.size 3 1 v ws.length (ws.map (Value.int .i64))
 rown :w.ownsRow w0.heap.size 3 1 vr rs.length (rs.map (Value.int .i64))
 diff :Diff v vr
 hin :HeapIn ws h b n
 rin :intsOk rs
 pos :0 < rs.length
structure DSt (w0 w :World) (g g2 g4 :Nat) (cv :Value) (m k :Nat) (v :Value) (ws :List Int) (h b n :Int) (vr :Value) (rs :List Int) :Prop where
 d :Drwn w0 w v ws h b n vr rs
 grow :w0.grownBy w (some g)
 cur :Cur w g cv m
 bx2 :Bx w g2 #[.slice none 0 0, .int .i64 0, .int .i64 0, .int .i64 0]
 bx4 :Bx w g4 #[v, .int .i64 h, .int .i64 b, .int .i64 n]
 far : ∀i,v.ownBlock=some i∨vr.ownBlock=some i→i≠g2∧i≠g4
 ge :w0.heap.size≤g2∧w0.heap.size≤g4∧g2≠g4
 len :rs.length≤100+k
theorem Drwn.keep {w0 w w' :World} {g :Nat} {v :Value} {ws :List Int} {h b n :Int} {vr :Value} {rs :List Int} (D :Drwn w0 w v ws h b n vr rs) (hg :w.grownBy w' (some g)) (hgl :g < w0.heap.size) :Drwn w0 w' v ws h b n vr rs :=
 ⟨D.own.kept hg (own_far D.own hgl),D.rown.kept hg (own_far D.rown hgl),D.diff,D.hin,D.rin,D.pos⟩
theorem DSt.keep {w0 w w' :World} {g g2 g4 m k :Nat} {cv v :Value} {ws :List Int} {h b n :Int} {vr :Value} {rs :List Int} (D :DSt w0 w g g2 g4 cv m k v ws h b n vr rs) (hg :w.grownBy w' (some g)) (hc :Cur w' g cv m) (hgl :g < w0.heap.size) :DSt w0 w' g g2 g4 cv m k v ws h b n vr rs :=
 ⟨D.d.keep hg hgl,grow_step D.grow hg (fun i hi=> .inl (Option.some.inj hi).symm),hc,D.bx2.grown hg (fun e=> by have :=Option.some.inj e;have :=D.ge;omega),D.bx4.grown hg (fun e=> by have :=Option.some.inj e;have :=D.ge;omega),D.far,D.ge,D.len⟩
theorem DSt.below {w0 w w' :World} {g g2 g4 m k :Nat} {cv v :Value} {ws :List Int} {h b n :Int} {vr :Value} {rs :List Int} (D :DSt w0 w g g2 g4 cv m k v ws h b n vr rs) (hb :Below w.heap.size w w') (hgl :g < w0.heap.size) :DSt w0 w' g g2 g4 cv m k v ws h b n vr rs :=
 D.keep (grow_of_below hb _) (D.cur.below hb) hgl
theorem DSt.step {w0 w w' :World} {g g2 g4 m k :Nat} {cv v :Value} {ws :List Int} {h b n :Int} {vr :Value} {rs :List Int} (D :DSt w0 w g g2 g4 cv m k v ws h b n vr rs) {r :Option Nat} (hg :w.grownBy w' r) (hgl :g < w0.heap.size)
  (hr : ∀i,r=some i→w0.heap.size≤i∧i≠g2∧i≠g4∧v.ownBlock≠some i∧vr.ownBlock≠some i) :DSt w0 w' g g2 g4 cv m k v ws h b n vr rs :=by
 have key : ∀u :Value,(∀i,r=some i→u.ownBlock≠some i)→u.ownBlock=none∨u.ownBlock≠r :=by
  intro u hu
  rcases hv :u.ownBlock with _ | i
  ·exact .inl rfl
  ·right
   intro e
   exact hu i e.symm hv
 exact ⟨⟨D.d.own.kept hg (key v fun i hi=> (hr i hi).2.2.2.1),D.d.rown.kept hg (key vr fun i hi=> (hr i hi).2.2.2.2),D.d.diff,D.d.hin,D.d.rin,D.d.pos⟩,grow_step D.grow hg (fun i hi=> .inr (hr i hi).1),
  D.cur.kept hg (fun e=> by have :=(hr g e.symm).1;omega),D.bx2.grown hg (fun e=> (hr g2 e.symm).2.1 rfl),D.bx4.grown hg (fun e=> (hr g4 e.symm).2.2.1 rfl),D.far,D.ge,D.len⟩
theorem DSt.heap {w0 w w' :World} {g g2 g4 m k :Nat} {cv v v' :Value} {ws ws' :List Int} {h b n h' b' n' :Int} {vr :Value} {rs :List Int} (D :DSt w0 w g g2 g4 cv m k v ws h b n vr rs) (hg :w.grownBy w' (some g4)) (hgl :g < w0.heap.size)
  (bx' :Bx w' g4 #[v', .int .i64 h', .int .i64 b', .int .i64 n']) (ov' :w.ownsRow w0.heap.size 3 1 v' ws'.length (ws'.map (Value.int .i64))) (hin' :HeapIn ws' h' b' n') (far' : ∀i,v'.ownBlock=some i→i≠g2∧i≠g4∧vr.ownBlock≠some i) :DSt w0 w' g g2 g4 cv m k v' ws' h' b' n' vr rs :=by
 have key : ∀u :Value,(∀i,u.ownBlock=some i→i≠g4)→u.ownBlock=none∨u.ownBlock≠some g4 :=by
  intro u hu
  rcases hv :u.ownBlock with _ | i
  ·exact .inl rfl
  ·right
   intro e
   exact hu i hv (Option.some.inj e)
 have hge :=D.ge
 exact ⟨⟨ov'.kept hg (key v' fun i hi=> (far' i hi).2.1),D.d.rown.kept hg (key vr fun i hi=> (D.far i (.inr hi)).2),fun i hi=> (far' i hi).2.2,hin',D.d.rin,D.d.pos⟩,grow_step D.grow hg (fun i hi=> by have :=Option.some.inj hi;omega),
  D.cur.kept hg (fun e=> by have :=Option.some.inj e;omega),D.bx2.grown hg (fun e=> by have :=Option.some.inj e;omega),bx',fun i hi=> by
   rcases hi with hi | hi
   ·exact ⟨(far' i hi).1,(far' i hi).2.1⟩
   ·exact D.far i (.inr hi),D.ge,D.len⟩
theorem DSt.roots {w0 w w' :World} {g g2 g4 m k :Nat} {cv v :Value} {ws :List Int} {h b n y :Int} {vr vr' :Value} {rs :List Int} (D :DSt w0 w g g2 g4 cv m k v ws h b n vr rs) (hg :w.grownBy w' vr.ownBlock) (hgl :g < w0.heap.size)
  (ro :w'.ownsRow w0.heap.size 3 1 vr' (rs++ [y]).length ((rs++ [y]).map (Value.int .i64))) (hat :vr'.ownBlock=vr.ownBlock∨vr'.ownBlock=some (w.heap.size+1)) (hy :i64In y) :DSt w0 w' g g2 g4 cv m (k+1) v ws h b n vr' (rs++ [y]) :=by
 have hge :=D.ge
 have l2 :=D.bx2.1
 have l4 :=D.bx4.1
 refine ⟨⟨D.d.own.kept hg (own_diff fun i hi hi'=> D.d.diff i hi' hi),ro,fun i hi hi'=> ?_,D.d.hin,intsOk_append D.d.rin (intsOk_cons hy intsOk_nil),by simp⟩,grow_step D.grow hg (fun i hi=> .inr (D.d.rown.lt i hi).1),
  D.cur.kept hg (fun e=> by have :=(D.d.rown.lt g e.symm).1;omega),D.bx2.grown hg (fun e=> (D.far g2 (.inr e.symm)).1 rfl),D.bx4.grown hg (fun e=> (D.far g4 (.inr e.symm)).2 rfl),fun i hi=> ?_,D.ge,by have :=D.len;simp;omega⟩
 ·rcases hat with e | e
  ·exact D.d.diff i hi (e▸hi')
  ·have :=(D.d.own.lt i hi).2
   rw [e] at hi'
   have :=Option.some.inj hi'
   omega
 ·rcases hi with hi | hi
  ·exact D.far i (.inl hi)
  ·rcases hat with e | e
   ·exact D.far i (.inr (e▸hi))
   ·rw [e] at hi
    have :=Option.some.inj hi
    omega
theorem DSt.more {w0 w :World} {g g2 g4 m k :Nat} {cv v :Value} {ws :List Int} {h b n :Int} {vr :Value} {rs :List Int} (D :DSt w0 w g g2 g4 cv m k v ws h b n vr rs) :DSt w0 w g g2 g4 cv m (k+1) v ws h b n vr rs :=
 ⟨D.d,D.grow,D.cur,D.bx2,D.bx4,D.far,D.ge,by have :=D.len;omega⟩
theorem DSt.fin {w0 w w' :World} {g g2 g4 m k :Nat} {cv v :Value} {ws :List Int} {h b n :Int} {vr :Value} {rs :List Int} (D :DSt w0 w g g2 g4 cv m k v ws h b n vr rs) (hg :w.grownBy w' (some g2)) (hgl :g < w0.heap.size) :Drwn w0 w' v ws h b n vr rs∧w0.grownBy w' (some g)∧Cur w' g cv m :=by
 have key : ∀u :Value,(∀i,u.ownBlock=some i→i≠g2)→u.ownBlock=none∨u.ownBlock≠some g2 :=by
  intro u hu
  rcases hv :u.ownBlock with _ | i
  ·exact .inl rfl
  ·right
   intro e
   exact hu i hv (Option.some.inj e)
 have hge :=D.ge
 exact ⟨⟨D.d.own.kept hg (key v fun i hi=> (D.far i (.inl hi)).1),D.d.rown.kept hg (key vr fun i hi=> (D.far i (.inr hi)).1),D.d.diff,D.d.hin,D.d.rin,D.d.pos⟩,grow_step D.grow hg (fun i hi=> by have :=Option.some.inj hi;omega),
  D.cur.kept hg (fun e=> by have :=Option.some.inj e;omega)⟩
structure KSt (w0 w1 w :World) (g g2 g4 :Nat) (cv :Value) (m k :Nat) (v :Value) (ws :List Int) (h b n :Int) (vr :Value) (rs :List Int) (vk :Value) (ks :List Int) :Prop where
 D :DSt w0 w g g2 g4 cv m k v ws h b n vr rs
 K :w.ownsRow w1.heap.size 3 1 vk ks.length (ks.map (Value.int .i64))
 z :w1.heap.size≤w.heap.size
theorem KSt.keep {w0 w1 w w' :World} {g g2 g4 m k :Nat} {cv v :Value} {ws :List Int} {h b n :Int} {vr :Value} {rs :List Int} {vk :Value} {ks :List Int} (S :KSt w0 w1 w g g2 g4 cv m k v ws h b n vr rs vk ks) (hg :w.grownBy w' (some g)) (hc :Cur w' g cv m) (hgl :g < w0.heap.size) (h1 :g < w1.heap.size) :KSt w0 w1 w' g g2 g4 cv m k v ws h b n vr rs vk ks :=
 ⟨S.D.keep hg hc hgl,S.K.kept hg (own_far S.K h1),Nat.le_trans S.z hg.size⟩
theorem KSt.below {w0 w1 w w' :World} {g g2 g4 m k :Nat} {cv v :Value} {ws :List Int} {h b n :Int} {vr :Value} {rs :List Int} {vk :Value} {ks :List Int} (S :KSt w0 w1 w g g2 g4 cv m k v ws h b n vr rs vk ks) (hb :Below w.heap.size w w') (hgl :g < w0.heap.size) :KSt w0 w1 w' g g2 g4 cv m k v ws h b n vr rs vk ks :=
 ⟨S.D.below hb hgl,own_below S.K hb (own_lt S.K),Nat.le_trans S.z hb.size⟩
end Go.Proofs.YtfmebaafpfkeiaaGreat
end
section
namespace Go.Proofs.YtfmebaafpfkeiaaGreat
open Go.RowKit
def srcs :List (List Nat) := [Go.Ev.src0,Go.Ev.src1,Go.Ev.src2,Go.Ev.src3,Go.Ev.src4,Go.Ev.src5,Go.Ev.src6]
def StrIs (v :Value) (s :List Nat) :Prop := ∃bs :ByteArray,v= .string bs∧bs.data.toList.map UInt8.toNat=s
def TxtRow (w :World) (g :Nat) (n :Nat) :Prop :=g < w.heap.size∧∀k,k < n→∃v,w.cell? ⟨g,k,none⟩ =some v∧StrIs v (srcs.getD k [])
set_option maxHeartbeats 1600000 in
set_option maxRecDepth 100000 in
theorem l2Programs_any (w :World) :
  Calls Tryz.prog 81 #[] w fun e w'=> ∃g,e= .returned (.slice (some ⟨g,0,none⟩) 7 7)∧w.heap.size≤g∧TxtRow w' g 7∧Below w.heap.size w w' :=by
 go_enter Tryz.func81,Tryz.ntmps81
 go_wp2
 go_ret
 refine ⟨_,rfl,Nat.le_refl _,⟨by simp,fun k hk=> ?_⟩,(Below.refl _ _).alloc (Nat.le_refl _) _⟩
 have hk' :k=0∨k=1∨k=2∨k=3∨k=4∨k=5∨k=6 :=by omega
 rw [World.cell?_alloc_at _ _ _ _ rfl]
 rcases hk' with rfl | rfl | rfl | rfl | rfl | rfl | rfl
 all_goals exact ⟨_,rfl,_,rfl,by decide+kernel⟩
set_option maxHeartbeats 1600000 in
set_option maxRecDepth 100000 in
theorem l1Pick_any {B g b :Nat} (v :Value) (zs :List Int) (w :World) (hC :Cur w g v zs.length) (hr :Rd B .u8 w v zs) (hz :bytesIn zs) (hl :zs.length≤4294967296) (hg :B≤g)
  (hT :TxtRow w b 7) (hne :b≠g) :
  Calls Tryz.prog 80 #[.pointer (some ⟨g,0,none⟩), .slice (some ⟨b,0,none⟩) 7 7] w fun e w'=> (∃x k,e= .returned x∧k < 7∧StrIs x (srcs.getD k []))∧Cur w' g v zs.length∧w.grownBy w' (some g) :=by
 have HB :=Lib.hid (fun (W :World) (hC :Cur W g v zs.length) (hr :Rd B .u8 W v zs)=> l1Below_any v zs 7 W hC hr hz hl hg (by unfold i64In;omega))
 have HC :=Lib.hid hC
 have HR :=Lib.hid hr
 have HT :=Lib.hid hT
 clear hC hr hT
 go_enter Tryz.func80,Tryz.ntmps80
 go_wp2_with fail
 refine (HB.out w HC.out HR.out).mono ?_
 rintro e w1 ⟨⟨r,rfl,_,hr2⟩,c1,g1⟩
 obtain ⟨r0,r1⟩ :=hr2 (by omega)
 obtain ⟨k,rfl⟩ :=Int.eq_ofNat_of_zero_le r0
 have hk :k < 7 :=by omega
 obtain ⟨x,c0,sx⟩ :=HT.out.2 k hk
 have c0 :=(g1.cell_far ⟨b,k,none⟩ HT.out.1 (by intro h;exact hne (Option.some.inj h))).trans c0
 have C1 :=Lib.hid c1
 have G1 :=Lib.hid g1
 obtain ⟨bs,hx,hs⟩ :=sx
 subst hx
 have HS :=Lib.hid hs
 clear c1 g1 hr2 hs
 go_wp2
 go_ret
 exact ⟨⟨_,k,rfl,hk,_,rfl,HS.out⟩,C1.out,G1.out⟩
set_option maxHeartbeats 1600000 in
set_option maxRecDepth 100000 in
theorem l2DrawSource_any {B g :Nat} (v :Value) (zs :List Int) (w :World) (hC :Cur w g v zs.length) (hr : ∀W,Below w.heap.size w W→Rd B .u8 W v zs) (hz :bytesIn zs) (hl :zs.length≤4294967296) (hg :B≤g) :
  Calls Tryz.prog 29 #[.pointer (some ⟨g,0,none⟩)] w fun e w'=> (∃x k,e= .returned x∧k < 7∧StrIs x (srcs.getD k []))∧Cur w' g v zs.length∧(∀B',B'≤g→Below B' w w') :=by
 have HP :=Lib.hid (l2Programs_any w)
 have HR :=Lib.hid hr
 have HC :=Lib.hid hC
 have hlt :g < w.heap.size :=hC.lt
 clear hr hC
 go_enter Tryz.func29,Tryz.ntmps29
 go_wp2_with fail
 refine HP.out.mono ?_
 rintro e w1 ⟨b,rfl,hb,ht,b1⟩
 have HQ :=Lib.hid (l1Pick_any v zs w1 (HC.out.below b1) (HR.out _ b1) hz hl hg ht (by omega))
 have B1 :=Lib.hid b1
 clear ht b1
 go_wp2_with fail
 refine HQ.out.mono ?_
 rintro e w2 ⟨⟨x,k,rfl,hk,sx⟩,c2,g2⟩
 have B2 :=Lib.hid (fun (B' :Nat) (h :B'≤g)=> (B1.out.mono (by omega)).trans (Below.of_grown (B :=B') g2 (Nat.le_trans (by omega :B'≤w.heap.size) B1.out.size) (fun k hk=> by cases hk;exact h)))
 have C2 :=Lib.hid c2
 obtain ⟨bs,hx,hs⟩ :=sx
 subst hx
 have HS :=Lib.hid hs
 clear c2 g2 hs
 go_wp2
 go_ret
 exact ⟨⟨_,k,rfl,hk,_,rfl,HS.out⟩,C2.out,B2.out⟩
set_option maxHeartbeats 800000 in
theorem l1Long_any (a :Option Addr) (n c :Nat) (w :World) (hl :n≤4294967296) :
  Calls Tryz.prog 33 #[.slice a n c, .int .i64 600, .int .i64 6000] w fun e w'=> (∃x,e= .returned (.int .i64 x)∧600≤x∧x≤6000)∧w'=w :=by
 go_enter Tryz.func33,Tryz.ntmps33
 by_cases h :(600 :Int)+(n :Int)/4 > 6000
 ·go_wp2
  go_ret
  exact ⟨⟨_,rfl,by omega,by omega⟩,rfl⟩
 ·go_wp2
  go_ret
  exact ⟨⟨_,rfl,by omega,by omega⟩,rfl⟩
def halves :List Int := [5,12,20,30,45,80,300,1500]
set_option maxHeartbeats 1600000 in
set_option maxRecDepth 100000 in
theorem DrawRunning_any {B :Nat} (cv :Value) (zs :List Int) (w :World) (hr :Rd B .u8 w cv zs) (hz :bytesIn zs) (hl :zs.length≤4294967296) :
  Calls Tryz.prog 10 #[cv] w fun e w'=>
   (∃x k h b st,e= .returned (.tuple #[x, .int .i64 h, .bool b, .int .i64 st])∧k < 7∧StrIs x (srcs.getD k [])∧h∈halves∧0≤st∧st < 6000)∧Below w.heap.size w w' :=by
 have HN :=Lib.hid (l1New_any cv zs w hr hz hl)
 have RR :=Lib.hid (fun (W :World) (hb :Below w.heap.size w W)=> hr.below' hb)
 obtain ⟨a,c,rfl⟩ :=hr.form
 clear hr
 go_enter Tryz.func10,Tryz.ntmps10
 go_wp2_with fail
 refine HN.out.mono ?_
 rintro e w1 ⟨⟨g,rfl,hg,c1⟩,b1⟩
 have HD :=Lib.hid (l2DrawSource_any (.slice a zs.length c) zs w1 c1 (fun W hb=> RR.out W (b1.trans (hb.mono b1.size))) hz hl hg)
 have B1 :=Lib.hid b1
 clear c1 b1
 go_wp2_with fail
 refine HD.out.mono ?_
 rintro e w2 ⟨⟨x,k,rfl,hk,bs,rfl,hs⟩,c2,bb2⟩
 have b2 :=B1.out.trans (bb2 w.heap.size hg)
 have HS :=Lib.hid hs
 have hgw :g < w2.heap.size :=c2.lt
 have C2 :=Lib.hid c2
 have B2 :=Lib.hid b2
 clear hs b2 bb2 HD HN B1
 go_wp2_with fail
 generalize hx :w2.alloc _=x
 have ry :=Rd.made hx [5,12,20,30,45,80,300,1500] rfl (by decide)
 obtain ⟨bx,_⟩ :=Bx.alloc hx
 have C3 :Cur x g (.slice a zs.length c) zs.length :=C2.out.below bx
 have b3 :=B2.out.trans (bx.mono B2.out.size)
 have HC :=Lib.hid (l1PickInt_any (.slice a zs.length c) _ zs _ x C3 (RR.out _ b3) hz hl hg ry (by decide) (by decide) (fun a n c h=> by cases h;dsimp only;omega))
 have B3 :=Lib.hid b3
 have z3 :=b3.size
 clear hx ry bx C2 C3 b3 c2
 refine HC.out.mono ?_
 rintro e w4 ⟨⟨y,rfl,hy⟩,c4,g4⟩
 have B4 :=Lib.hid (B3.out.trans (Below.of_grown (B :=w.heap.size) g4 z3 (fun k hk=> by cases hk;exact hg)))
 have HY :=Lib.hid hy
 have HO :=Lib.hid (l1Once_any (.slice a zs.length c) zs 3 w4 c4 (RR.out _ B4.out) hz hl hg (by unfold i64In;omega))
 clear hy c4 g4 HC B3
 go_wp2_with fail
 refine HO.out.mono ?_
 rintro e w5 ⟨⟨b,rfl⟩,c5,g5⟩
 have B5 :=Lib.hid (B4.out.trans (Below.of_grown (B :=w.heap.size) g5 B4.out.size (fun k hk=> by cases hk;exact hg)))
 have HL :=Lib.hid (l1Long_any a zs.length c w5 hl)
 have C5 :=Lib.hid c5
 clear c5 g5 HO B4
 go_wp2_with fail
 refine HL.out.mono ?_
 rintro e w6 ⟨⟨m,rfl,m0,m1⟩,rfl⟩
 have HW :=Lib.hid (l1Below_any (.slice a zs.length c) zs m w6 C5.out (RR.out _ B5.out) hz hl hg (by unfold i64In;omega))
 go_wp2_with fail
 refine HW.out.mono ?_
 rintro e w7 ⟨⟨r,rfl,_,hr2⟩,c7,g7⟩
 obtain ⟨r0,r1⟩ :=hr2 (by omega)
 have B7 :=Lib.hid (B5.out.trans (Below.of_grown (B :=w.heap.size) g7 B5.out.size (fun k hk=> by cases hk;exact hg)))
 clear c7 g7 HW
 go_wp2
 refine bodyPost_ret (v := .tuple #[.string bs, .int .i64 y, .bool b, .int .i64 r]) ?_ rfl ⟨⟨_,k,_,_,_,rfl,hk,⟨_,rfl,HS.out⟩,HY.out,r0,by omega⟩,B7.out⟩
 simp [results,Tryz.results10,go_sem]
end Go.Proofs.YtfmebaafpfkeiaaGreat
end
section
namespace Go.Proofs.YtfmebaafpfkeiaaGreat
open Go.RowKit Go.Ev
theorem st_one {v :Value} (h :v.oneCell'=true) (w :World) (a :Addr) (m :Mode) :(store a v m).run Tryz.prog w=stored Tryz.prog w a v m :=run_store Tryz.prog w a v m h
theorem lr_six {ρ :Rho} {p :List S} {l :List Value} (h :LR (SR ρ) p l) (hp :p.length=6) : ∃a0 a1 a2 a3 a4 a5,l= [a0,a1,a2,a3,a4,a5] :=by
 have hl :l.length=6 :=by rw [← h.length];exact hp
 match l,hl with
 | [a0,a1,a2,a3,a4,a5],_=> exact ⟨_,_,_,_,_,_,rfl⟩
theorem arr_of {α :Type} {a :Array α} {l :List α} (h :a.toList=l) :a=l.toArray :=by subst h;simp
theorem vr_prog {ρ :Rho} {p :List S} {cv :Value} (h :VR ρ (.t [.a p, .c (.i (-1))]) cv) (hp :p.length=6) :
  ∃a0 a1 a2 a3 a4 a5,cv= .tuple #[.agg #[a0,a1,a2,a3,a4,a5], .int .i64 (-1)]∧LR (SR ρ) p [a0,a1,a2,a3,a4,a5] :=by
 obtain ⟨arr,rfl,k⟩ :=h
 match hm :arr.toList,k with
 | [x,y],k=>
  obtain ⟨k1,k2,_⟩ :=k
  obtain ⟨ar,rfl,k3⟩ :=k1
  obtain ⟨a0,a1,a2,a3,a4,a5,e⟩ :=lr_six k3 hp
  have k2' :y= .int .i64 (-1) :=k2
  subst k2'
  rw [e] at k3
  refine ⟨a0,a1,a2,a3,a4,a5,?_,k3⟩
  rw [arr_of hm,arr_of e]
 | [],k=> exact k.elim
 | [_],k=> exact k.2.elim
 | _ ::_ ::_ ::_,k=> exact k.2.2.elim
theorem vr_ct {ρ :Rho} {b :S} {cv :Value} (h :VR ρ (.t [.c b, .c (.b true)]) cv) : ∃x,cv= .tuple #[x, .bool true]∧SR ρ b x :=by
 obtain ⟨arr,rfl,k⟩ :=h
 match hm :arr.toList,k with
 | [x,y],k=>
  obtain ⟨k1,k2,_⟩ :=k
  have k2' :y= .bool true :=k2
  subst k2'
  exact ⟨x,by rw [arr_of hm],k1⟩
 | [],k=> exact k.elim
 | [_],k=> exact k.2.elim
 | _ ::_ ::_ ::_,k=> exact k.2.2.elim
theorem vr_un {ρ :Rho} {cv :Value} (h :VR ρ (unT 11) cv) : ∃a0 a1 a2 a3 a4 a5 a6 a7 a8 a9 a10,cv= .tuple #[.agg #[a0,a1,a2,a3,a4,a5,a6,a7,a8,a9,a10], .int .i64 0]∧∀x∈ [a0,a1,a2,a3,a4,a5,a6,a7,a8,a9,a10],x.oneCell'=true :=by
 obtain ⟨arr,rfl,k⟩ :=h
 match hm :arr.toList,k with
 | [x,y],k=>
  obtain ⟨k1,k2,_⟩ :=k
  obtain ⟨ar,rfl,k3⟩ :=k1
  have hl :ar.toList.length=11 :=by rw [← k3.length];simp
  have k2' :y= .int .i64 0 :=k2
  subst k2'
  match hn :ar.toList,hl with
  | [a0,a1,a2,a3,a4,a5,a6,a7,a8,a9,a10],_=> exact ⟨a0,a1,a2,a3,a4,a5,a6,a7,a8,a9,a10,by rw [arr_of hm,arr_of hn],by rw [← hn];exact LR.one k3⟩
 | [],k=> exact k.elim
 | [_],k=> exact k.2.elim
 | _ ::_ ::_ ::_,k=> exact k.2.2.elim
theorem Bx.left {ρ ρ' :Rho} {w w' :World} {g :Nat} {cur :Array Value} (h :Bx w g cur) (hf :Far ρ w g) (L :Go.Ev.Left ρ w ρ' w') :Bx w' g cur :=by
 obtain ⟨⟨h1,_⟩,h2⟩ :=L.keep g hf
 exact ⟨h1,fun j=> (World.cell?_of_block (w :=w) (a :=⟨g,j,none⟩) h2).trans (h.2.1 j),fun j=> (World.frozen?_of_block (w :=w) (a :=⟨g,j,none⟩) h2).trans (h.2.2 j)⟩
set_option maxHeartbeats 3200000 in
set_option maxRecDepth 100000 in
theorem iBuild_any {src :List Nat} {L :List FunL} {p :List S} {b f :S} {uP uC uG :St} (H :PipeI src L p b f uP uC uG) (bs :ByteArray) (hs :bs.data.toList.map UInt8.toNat=src) (w :World) :
  Calls Tryz.prog 83 #[.string bs] w fun e w'=> ∃fv ρ,e= .returned (.tuple #[fv, .int .i64 0])∧SR ρ f fv∧Kn w ρ uG w' :=by
 have HP :=Lib.hid (show Calls Tryz.prog 13 #[.string bs] w fun e w'=> ∃cv ρ',e= .returned cv∧VR ρ' (.t [.a p, .c (.i (-1))]) cv∧Kn w ρ' uP w'∧Go.Ev.Left rho0 w ρ' w' from
  (Kn.zero w).ent H.parse (cargs := [.string bs]) ⟨⟨bs,rfl,hs⟩,trivial⟩)
 have HH :=Lib.hid H
 have hlen :=Lib.hid H.len
 clear H hs
 go_enter Tryz.func83,Tryz.ntmps83
 go_wp2_with fail
 refine HP.out.mono ?_
 rintro e w1 ⟨cv,ρ,rfl,v1,n1,_⟩
 obtain ⟨a0,a1,a2,a3,a4,a5,rfl,lp⟩ :=vr_prog v1 hlen.out
 clear v1 HP
 have N1 :=Lib.hid n1
 have LP :=Lib.hid lp
 have so :=LR.one lp
 have s0 :=st_one (so a0 (by simp))
 have s1 :=st_one (so a1 (by simp))
 have s2 :=st_one (so a2 (by simp))
 have s3 :=st_one (so a3 (by simp))
 have s4 :=st_one (so a4 (by simp))
 have s5 :=st_one (so a5 (by simp))
 clear n1 lp so
 go_wp2_with fail
 generalize hxx :w1.alloc _=x1
 obtain ⟨b1,kp⟩ :=Bx.alloc hxx
 clear hxx
 have n2 :=N1.out.later b1
 have f2 :Far ρ x1 w1.heap.size :=N1.out.far (Nat.le_refl _) kp.1
 have HI :=Lib.hid (show Calls Tryz.prog 152 #[.agg #[a0,a1,a2,a3,a4,a5]] x1 fun e w'=> ∃cv,e= .returned cv∧VR ρ (unT 11) cv∧Kn w ρ uP w'∧Go.Ev.Left ρ x1 ρ w' from
  n2.entK HH.out.infer.drop (cargs := [.agg #[a0,a1,a2,a3,a4,a5]]) ⟨⟨_,rfl,LP.out⟩,trivial⟩)
 clear b1 N1
 refine HI.out.mono ?_
 rintro e w2 ⟨cv,rfl,v2,n3,l3⟩
 obtain ⟨t0,t1,t2,t3,t4,t5,t6,t7,t8,t9,t10,rfl,ho⟩ :=vr_un v2
 have u0 :=st_one (ho t0 (by simp))
 have u1 :=st_one (ho t1 (by simp))
 have u2 :=st_one (ho t2 (by simp))
 have u3 :=st_one (ho t3 (by simp))
 have u4 :=st_one (ho t4 (by simp))
 have u5 :=st_one (ho t5 (by simp))
 have u6 :=st_one (ho t6 (by simp))
 have u7 :=st_one (ho t7 (by simp))
 have u8 :=st_one (ho t8 (by simp))
 have u9 :=st_one (ho t9 (by simp))
 have u10 :=st_one (ho t10 (by simp))
 replace kp :=kp.left f2 l3
 replace f2 :=(l3.keep _ f2).1
 clear v2 HI l3 n2 ho
 have ckp :=kp.2.1
 have ykp :=kp.1
 have zkp :=kp.2.2
 go_wp2_with fail
 generalize hxx :w2.alloc _=x2
 obtain ⟨b2,_⟩ :=Bx.alloc hxx
 clear hxx u0 u1 u2 u3 u4 u5 u6 u7 u8 u9 u10
 clear ckp ykp zkp
 replace kp :=kp.below b2 kp.1
 replace f2 :=f2.later b2
 replace n3 :=n3.later b2
 have HC :=Lib.hid (show Calls Tryz.prog 153 #[.agg #[a0,a1,a2,a3,a4,a5]] x2 fun e w'=> ∃cv,e= .returned cv∧VR ρ (.c (.b true)) cv∧Kn w ρ uP w'∧Go.Ev.Left ρ x2 ρ w' from
  n3.entK HH.out.covered.drop (cargs := [.agg #[a0,a1,a2,a3,a4,a5]]) ⟨⟨_,rfl,LP.out⟩,trivial⟩)
 clear n3 b2
 refine HC.out.mono ?_
 rintro e w3 ⟨cv,rfl,v3,n4,l4⟩
 have v3' :cv= .bool true :=v3
 subst v3'
 replace kp :=kp.left f2 l4
 have HL :=Lib.hid (show Calls Tryz.prog 154 #[.agg #[a0,a1,a2,a3,a4,a5]] w3 fun e w'=> ∃cv ρ',e= .returned cv∧VR ρ' (.t [.c b, .c (.b true)]) cv∧Kn w ρ' uC w'∧Go.Ev.Left ρ w3 ρ' w' from
  n4.ent HH.out.close (cargs := [.agg #[a0,a1,a2,a3,a4,a5]]) ⟨⟨_,rfl,LP.out⟩,trivial⟩)
 clear v3 HC l4 f2 n4
 have ckp :=kp.2.1
 have ykp :=kp.1
 have zkp :=kp.2.2
 go_wp2_with fail
 refine HL.out.mono ?_
 rintro e w4 ⟨cv,ρ2,rfl,v4,n5,_⟩
 obtain ⟨bv,rfl,sb⟩ :=vr_ct v4
 have HG :=Lib.hid (show Calls Tryz.prog 155 #[bv] w4 fun e w'=> ∃cv ρ',e= .returned cv∧VR ρ' (.t [.c f, .c (.b true)]) cv∧Kn w ρ' uG w'∧Go.Ev.Left ρ2 w4 ρ' w' from
  n5.ent HH.out.gen (cargs := [bv]) ⟨sb,trivial⟩)
 clear ckp ykp zkp
 clear v4 HL n5 sb kp LP s0 s1 s2 s3 s4 s5
 go_wp2_with fail
 refine HG.out.mono ?_
 rintro e w5 ⟨cv,ρ3,rfl,v5,n6,_⟩
 obtain ⟨fv,rfl,sf⟩ :=vr_ct v5
 have HV :=Lib.hid (show Calls Tryz.prog 156 #[fv] w5 fun e w'=> ∃cv,e= .returned cv∧VR ρ3 (.c (.b true)) cv∧Kn w ρ3 uG w'∧Go.Ev.Left ρ3 w5 ρ3 w' from
  n6.entK HH.out.verify (cargs := [fv]) ⟨sf,trivial⟩)
 have SF :=Lib.hid sf
 clear v5 HG n6 sf
 go_wp2_with fail
 refine HV.out.mono ?_
 rintro e w6 ⟨cv,rfl,v6,n7,_⟩
 have v6' :cv= .bool true :=v6
 subst v6'
 have N7 :=Lib.hid n7
 clear v6 n7 HV
 go_wp2
 refine bodyPost_ret (v := .tuple #[fv, .int .i64 0]) ?_ rfl ⟨fv,ρ3,rfl,SF.out,N7.out⟩
 simp [results,Tryz.results83,go_sem]
end Go.Proofs.YtfmebaafpfkeiaaGreat
end
section
namespace Go.Proofs.YtfmebaafpfkeiaaGreat
open Go.RowKit Go.Ev
set_option maxHeartbeats 3200000 in
set_option maxRecDepth 100000 in
theorem sBuild_any {src :List Nat} {p :List S} {b f :S} {uP uC uG :St} (H :PipeS src p b f uP uC uG) (bs :ByteArray) (hs :bs.data.toList.map UInt8.toNat=src) (w :World) :
  Calls Tryz.prog 12 #[.string bs] w fun e w'=> ∃fv,e= .returned (.tuple #[fv, .int .i64 0])∧Below w.heap.size w w' :=by
 have HP :=Lib.hid (fun (W :World) (hb :Below w.heap.size w W)=> show Calls Tryz.prog 35 #[.string bs] W fun e w'=> ∃cv ρ',e= .returned cv∧VR ρ' (.t [.a p, .c (.i (-1))]) cv∧Kn w ρ' uP w'∧Go.Ev.Left rho0 W ρ' w' from
  ((Kn.zero w).later hb).ent H.parse (cargs := [.string bs]) ⟨⟨bs,rfl,hs⟩,trivial⟩)
 have HH :=Lib.hid H
 have hlen :=Lib.hid H.len
 clear H hs
 go_enter Tryz.func12,Tryz.ntmps12
 go_wp2_with fail
 generalize hzz :w.alloc _=w0
 obtain ⟨bz,_⟩ :=Bx.alloc hzz
 clear hzz
 refine (HP.out w0 bz).mono ?_
 rintro e w1 ⟨cv,ρ,rfl,v1,n1,_⟩
 obtain ⟨a0,a1,a2,a3,a4,a5,rfl,lp⟩ :=vr_prog v1 hlen.out
 clear v1 HP
 have N1 :=Lib.hid n1
 have LP :=Lib.hid lp
 have so :=LR.one lp
 have s0 :=st_one (so a0 (by simp))
 have s1 :=st_one (so a1 (by simp))
 have s2 :=st_one (so a2 (by simp))
 have s3 :=st_one (so a3 (by simp))
 have s4 :=st_one (so a4 (by simp))
 have s5 :=st_one (so a5 (by simp))
 clear n1 lp so
 go_wp2_with fail
 generalize hxx :w1.alloc _=x1
 obtain ⟨b1,kp⟩ :=Bx.alloc hxx
 clear hxx
 have n2 :=N1.out.later b1
 have f2 :Far ρ x1 w1.heap.size :=N1.out.far (Nat.le_refl _) kp.1
 have HI :=Lib.hid (show Calls Tryz.prog 36 #[.agg #[a0,a1,a2,a3,a4,a5]] x1 fun e w'=> ∃cv,e= .returned cv∧VR ρ (unT 11) cv∧Kn w ρ uP w'∧Go.Ev.Left ρ x1 ρ w' from
  n2.entK HH.out.infer.drop (cargs := [.agg #[a0,a1,a2,a3,a4,a5]]) ⟨⟨_,rfl,LP.out⟩,trivial⟩)
 clear b1 N1
 refine HI.out.mono ?_
 rintro e w2 ⟨cv,rfl,v2,n3,l3⟩
 obtain ⟨t0,t1,t2,t3,t4,t5,t6,t7,t8,t9,t10,rfl,ho⟩ :=vr_un v2
 have u0 :=st_one (ho t0 (by simp))
 have u1 :=st_one (ho t1 (by simp))
 have u2 :=st_one (ho t2 (by simp))
 have u3 :=st_one (ho t3 (by simp))
 have u4 :=st_one (ho t4 (by simp))
 have u5 :=st_one (ho t5 (by simp))
 have u6 :=st_one (ho t6 (by simp))
 have u7 :=st_one (ho t7 (by simp))
 have u8 :=st_one (ho t8 (by simp))
 have u9 :=st_one (ho t9 (by simp))
 have u10 :=st_one (ho t10 (by simp))
 replace kp :=kp.left f2 l3
 replace f2 :=(l3.keep _ f2).1
 clear v2 HI l3 n2 ho
 have ckp :=kp.2.1
 have ykp :=kp.1
 have zkp :=kp.2.2
 go_wp2_with fail
 generalize hxx :w2.alloc _=x2
 obtain ⟨b2,_⟩ :=Bx.alloc hxx
 clear hxx u0 u1 u2 u3 u4 u5 u6 u7 u8 u9 u10
 clear ckp ykp zkp
 replace kp :=kp.below b2 kp.1
 replace f2 :=f2.later b2
 replace n3 :=n3.later b2
 have HC :=Lib.hid (show Calls Tryz.prog 37 #[.agg #[a0,a1,a2,a3,a4,a5]] x2 fun e w'=> ∃cv,e= .returned cv∧VR ρ (.c (.b true)) cv∧Kn w ρ uP w'∧Go.Ev.Left ρ x2 ρ w' from
  n3.entK HH.out.covered.drop (cargs := [.agg #[a0,a1,a2,a3,a4,a5]]) ⟨⟨_,rfl,LP.out⟩,trivial⟩)
 clear n3 b2
 refine HC.out.mono ?_
 rintro e w3 ⟨cv,rfl,v3,n4,l4⟩
 have v3' :cv= .bool true :=v3
 subst v3'
 replace kp :=kp.left f2 l4
 have HL :=Lib.hid (show Calls Tryz.prog 38 #[.agg #[a0,a1,a2,a3,a4,a5]] w3 fun e w'=> ∃cv ρ',e= .returned cv∧VR ρ' (.t [.c b, .c (.b true)]) cv∧Kn w ρ' uC w'∧Go.Ev.Left ρ w3 ρ' w' from
  n4.ent HH.out.close (cargs := [.agg #[a0,a1,a2,a3,a4,a5]]) ⟨⟨_,rfl,LP.out⟩,trivial⟩)
 clear v3 HC l4 f2 n4
 have ckp :=kp.2.1
 have ykp :=kp.1
 have zkp :=kp.2.2
 go_wp2_with fail
 refine HL.out.mono ?_
 rintro e w4 ⟨cv,ρ2,rfl,v4,n5,_⟩
 obtain ⟨bv,rfl,sb⟩ :=vr_ct v4
 have HG :=Lib.hid (show Calls Tryz.prog 39 #[bv] w4 fun e w'=> ∃cv ρ',e= .returned cv∧VR ρ' (.t [.c f, .c (.b true)]) cv∧Kn w ρ' uG w'∧Go.Ev.Left ρ2 w4 ρ' w' from
  n5.ent HH.out.gen (cargs := [bv]) ⟨sb,trivial⟩)
 clear ckp ykp zkp
 clear v4 HL n5 sb kp LP s0 s1 s2 s3 s4 s5
 go_wp2_with fail
 refine HG.out.mono ?_
 rintro e w5 ⟨cv,ρ3,rfl,v5,n6,_⟩
 obtain ⟨fv,rfl,sf⟩ :=vr_ct v5
 have HV :=Lib.hid (show Calls Tryz.prog 40 #[fv] w5 fun e w'=> ∃cv,e= .returned cv∧VR ρ3 (.c (.b true)) cv∧Kn w ρ3 uG w'∧Go.Ev.Left ρ3 w5 ρ3 w' from
  n6.entK HH.out.verify (cargs := [fv]) ⟨sf,trivial⟩)
 have SF :=Lib.hid sf
 clear v5 HG n6 sf
 go_wp2_with fail
 refine HV.out.mono ?_
 rintro e w6 ⟨cv,rfl,v6,n7,_⟩
 have v6' :cv= .bool true :=v6
 subst v6'
 have N7 :=Lib.hid n7
 clear v6 n7 HV
 go_wp2
 refine bodyPost_ret (v := .tuple #[fv, .int .i64 0]) ?_ rfl ⟨fv,rfl,N7.out.below⟩
 simp [results,Tryz.results12,go_sem]
end Go.Proofs.YtfmebaafpfkeiaaGreat
end
section
namespace Go.Proofs.YtfmebaafpfkeiaaGreat
open Go.RowKit
def opOk (fs :List F2) (i :Nat) (o :O3) :Bool :=
 let e :Int :=((fs.getD i ⟨0, []⟩).os.length :Int)-1
 if o.c=1 then wordB o.n&&(o.m==0)
 else if o.c=2 then inB o.n 0 2999&&(o.m==0)
 else if o.c=3 then inB o.n 0 ((fs.getD i ⟨0, []⟩).f-1)&&(o.m==0)
 else if o.c=4 then (decide (0 < (i :Int))&&(o.n==0))&&(o.m==0)
 else if o.c=5 then inB o.n 1 ((fs.length :Int)-1)&&(o.m==(fs.getD o.n.toNat ⟨0, []⟩).f)
 else if o.c=8 then inB o.n 0 59&&inB o.m 0 20
 else if o.c=9 then inB o.n 0 59&&(o.m==0)
 else if o.c=10 then inB o.n 0 59&&inB o.m 0 e
 else if o.c=11 then wordB o.n&&inB o.m 0 e
 else if o.c=18∨o.c=19 then inB o.n 0 e&&(o.m==0)
 else (inB o.c 1 21&&(o.n==0))&&(o.m==0)
def opG (len e f g i c n m :Int) :Bool :=
 if c=1 then wordB n&&(m==0)
 else if c=2 then inB n 0 2999&&(m==0)
 else if c=3 then inB n 0 (f-1)&&(m==0)
 else if c=4 then (decide (0 < i)&&(n==0))&&(m==0)
 else if c=5 then inB n 1 (len-1)&&(m==g)
 else if c=8 then inB n 0 59&&inB m 0 20
 else if c=9 then inB n 0 59&&(m==0)
 else if c=10 then inB n 0 59&&inB m 0 (e-1)
 else if c=11 then wordB n&&inB m 0 (e-1)
 else if c=18∨c=19 then inB n 0 (e-1)&&(m==0)
 else (inB c 1 21&&(n==0))&&(m==0)
set_option maxHeartbeats 1600000 in
set_option maxRecDepth 100000 in
theorem iOpOk_any {B :Nat} (v :Value) (fs :List F2) (i :Nat) (o :O3) (w :World) (hr :RdF B w v fs) (hi :i < fs.length) (ho :o3In o) (hfr :0≤fs[i].f∧fs[i].f≤20) (hn :fs.length≤60) (hm :fs[i].os.length≤3000) :
  Calls Tryz.prog 120 #[v, .int .i64 i, .agg #[.int .i64 o.c, .int .i64 o.n, .int .i64 o.m]] w fun e w'=> e= .returned (.bool (opOk fs i o))∧Below w.heap.size w w' :=by
 obtain ⟨c,n,m⟩ :=o
 obtain ⟨⟨hc0,hc1⟩,⟨hn0,hn1⟩,⟨hm0,hm1⟩⟩ :=ho
 dsimp only at hc0 hc1 hn0 hn1 hm0 hm1 ⊢
 have hgi :fs.getD i ⟨0, []⟩ =fs[i] :=by rw [List.getD_eq_getElem?_getD,List.getElem?_eq_getElem hi];rfl
 have hil :(i :Int) < (fs.length :Int) :=by omega
 have HR5 :=Lib.hid (fun (k :Nat) (hk :k < fs.length)=> hr.at_ hk)
 obtain ⟨b,off,cap,lv,rfl,hB,hbs,hcap,q0,q1,ro⟩ :=hr.at_ hi
 obtain ⟨la,lc,rfl⟩ :=ro.form
 have bx :Below w.heap.size w (w.alloc (.cells #[.int .i64 c, .int .i64 n, .int .i64 m] 65)) :=(Below.refl _ _).alloc (Nat.le_refl _) _
 obtain ⟨F,hF⟩ : ∃F,fs[i].f=F :=⟨_,rfl⟩
 obtain ⟨E,hE⟩ : ∃E,fs[i].os.length=E :=⟨_,rfl⟩
 rw [hE] at hm q1
 rw [hF] at q0 hfr
 have hop :opOk fs i ⟨c,n,m⟩ =opG (fs.length :Int) (E :Int) F (fs.getD n.toNat ⟨0, []⟩).f (i :Int) c n m :=by
  unfold opOk opG
  dsimp only
  rw [hgi,hF,hE]
 rw [hop]
 obtain ⟨G,hG⟩ : ∃G,(fs.getD n.toNat ⟨0, []⟩).f=G :=⟨_,rfl⟩
 rw [hG]
 have HG :=Lib.hid hG
 have e0 :IntKind.i64.wrap ((E :Int)-1)=(E :Int)-1 :=IntWalk.i64_in _ (by omega)
 have e1 :IntKind.i64.wrap (F-1)=F-1 :=IntWalk.i64_in _ (by omega)
 have e2 :IntKind.i64.wrap ((fs.length :Int)-1)=(fs.length :Int)-1 :=IntWalk.i64_in _ (by omega)
 have HW :=Lib.hid (fun (a b c :Int) (W :World)=> (within_any a b c W).mono (fun e w' h=> And.intro h.1 h.2.symm))
 clear hr hgi hop hG hF hE ro
 by_cases hk1 :c=1
 ·subst hk1
  obtain ⟨q3,hq3⟩ : ∃q,wordB n=q :=⟨_,rfl⟩
  cases q3
  all_goals go_enter Tryz.func120,Tryz.ntmps120
  all_goals go_wp2_with (first | (go_at_call 54;refine (within_any _ _ _ _).mono ?_;simp only [hq3];rintro e w' ⟨rfl,rfl⟩) | (go_at_call 58;refine (iWordOk_any _ _).mono ?_;simp only [hq3];rintro e w' ⟨rfl,rfl⟩))
  all_goals go_ret
  all_goals exact ⟨ret_bool (by first | (simp [opG,hq3];done) | (simp_all [opG];done)),by first | exact bx | exact (Below.refl _ _).alloc (Nat.le_refl _) _ | exact below_drewN ((Below.refl _ _).alloc (Nat.le_refl _) _) _⟩
 by_cases hk2 :c=2
 ·subst hk2
  obtain ⟨q3,hq3⟩ : ∃q,inB n 0 2999=q :=⟨_,rfl⟩
  cases q3
  all_goals go_enter Tryz.func120,Tryz.ntmps120
  all_goals go_wp2_with (first | (go_at_call 54;refine (within_any _ _ _ _).mono ?_;simp only [hq3];rintro e w' ⟨rfl,rfl⟩) | (go_at_call 58;refine (iWordOk_any _ _).mono ?_;simp only [hq3];rintro e w' ⟨rfl,rfl⟩))
  all_goals go_ret
  all_goals exact ⟨ret_bool (by first | (simp [opG,hq3];done) | (simp_all [opG];done)),by first | exact bx | exact (Below.refl _ _).alloc (Nat.le_refl _) _ | exact below_drewN ((Below.refl _ _).alloc (Nat.le_refl _) _) _⟩
 by_cases hk3 :c=3
 ·subst hk3
  obtain ⟨q3,hq3⟩ : ∃q,inB n 0 (F-1)=q :=⟨_,rfl⟩
  cases q3
  all_goals have HQ3 :=Lib.hid (fun (W :World)=> (by have :=HW.out n 0 (F-1) W;rw [hq3] at this;exact this :Calls Tryz.prog 54 #[.int .i64 n, .int .i64 0, .int .i64 (F-1)] W _))
  all_goals go_enter Tryz.func120,Tryz.ntmps120
  all_goals go_wp2_with fail
  all_goals go_quiet ((go_at_call 54;exact Calls.quiet_of_same (HQ3.out _)))
  all_goals go_wp2
  all_goals go_ret
  all_goals exact ⟨ret_bool (by first | (simp [opG,hq3];done) | (simp_all [opG];done)),by first | exact bx | exact (Below.refl _ _).alloc (Nat.le_refl _) _ | exact below_drewN ((Below.refl _ _).alloc (Nat.le_refl _) _) _⟩
 by_cases hk4 :c=4
 ·subst hk4
  all_goals go_enter Tryz.func120,Tryz.ntmps120
  all_goals go_wp2_with (first | (go_at_call 54;refine (within_any _ _ _ _).mono ?_;simp only [Bool.true_and];rintro e w' ⟨rfl,rfl⟩) | (go_at_call 58;refine (iWordOk_any _ _).mono ?_;simp only [Bool.true_and];rintro e w' ⟨rfl,rfl⟩))
  all_goals go_ret
  all_goals exact ⟨ret_bool (by first | (simp [opG,Bool.true_and];done) | (simp_all [opG];done)),by first | exact bx | exact (Below.refl _ _).alloc (Nat.le_refl _) _ | exact below_drewN ((Below.refl _ _).alloc (Nat.le_refl _) _) _⟩
 by_cases hk5 :c=5
 ·subst hk5
  obtain ⟨q3,hq3⟩ : ∃q,inB n 1 ((fs.length :Int)-1)=q :=⟨_,rfl⟩
  cases q3
  ·have HQ3 :=Lib.hid (fun (W :World)=> (by have :=HW.out n 1 ((fs.length :Int)-1) W;rw [hq3] at this;exact this :Calls Tryz.prog 54 #[.int .i64 n, .int .i64 1, .int .i64 ((fs.length :Int)-1)] W _))
   go_enter Tryz.func120,Tryz.ntmps120
   go_wp2_with fail
   go_quiet ((go_at_call 54;exact Calls.quiet_of_same (HQ3.out _)))
   go_wp2
   all_goals go_ret
   all_goals exact ⟨ret_bool (by first | (simp [opG,hq3];done) | (simp_all [opG];done)),by first | exact bx | exact (Below.refl _ _).alloc (Nat.le_refl _) _ | exact below_drewN ((Below.refl _ _).alloc (Nat.le_refl _) _) _⟩
  ·have hb5 :=inB_true.1 hq3
   obtain ⟨kn,rfl⟩ : ∃k :Nat,n=(k :Int) :=⟨n.toNat,by omega⟩
   have hkn :kn < fs.length :=by omega
   obtain ⟨b',off',cap',lv',hs',_,_,_,c5,_,_⟩ :=HR5.out kn hkn
   cases hs'
   have hgg :=HG.out
   rw [Int.toNat_natCast,List.getD_eq_getElem?_getD,List.getElem?_eq_getElem hkn] at hgg
   change fs[kn].f=G at hgg
   rw [hgg] at c5
   have hkl :(kn :Int) < (fs.length :Int) :=by omega
   have hk0 :(0 :Int)≤(kn :Int) :=by omega
   clear hgg hb5
   have HQ3 :=Lib.hid (fun (W :World)=> (by have :=HW.out (kn :Int) 1 ((fs.length :Int)-1) W;rw [hq3] at this;exact this :Calls Tryz.prog 54 #[.int .i64 (kn :Int), .int .i64 1, .int .i64 ((fs.length :Int)-1)] W _))
   go_enter Tryz.func120,Tryz.ntmps120
   go_wp2_with fail
   go_quiet ((go_at_call 54;exact Calls.quiet_of_same (HQ3.out _)))
   go_wp2
   all_goals go_ret
   all_goals exact ⟨ret_bool (by first | (simp [opG,hq3];done) | (simp_all [opG];done)),by first | exact bx | exact (Below.refl _ _).alloc (Nat.le_refl _) _ | exact below_drewN ((Below.refl _ _).alloc (Nat.le_refl _) _) _⟩
 by_cases hk8 :c=8
 ·subst hk8
  obtain ⟨q3,hq3⟩ : ∃q,inB n 0 59=q :=⟨_,rfl⟩
  obtain ⟨q4,hq4⟩ : ∃q,inB m 0 20=q :=⟨_,rfl⟩
  cases q3
  all_goals cases q4
  all_goals go_enter Tryz.func120,Tryz.ntmps120
  all_goals go_wp2_with (first | (go_at_call 54;refine (within_any _ _ _ _).mono ?_;simp only [hq3,hq4];rintro e w' ⟨rfl,rfl⟩) | (go_at_call 58;refine (iWordOk_any _ _).mono ?_;simp only [hq3,hq4];rintro e w' ⟨rfl,rfl⟩))
  all_goals go_ret
  all_goals exact ⟨ret_bool (by first | (simp [opG,hq3,hq4];done) | (simp_all [opG];done)),by first | exact bx | exact (Below.refl _ _).alloc (Nat.le_refl _) _ | exact below_drewN ((Below.refl _ _).alloc (Nat.le_refl _) _) _⟩
 by_cases hk9 :c=9
 ·subst hk9
  obtain ⟨q3,hq3⟩ : ∃q,inB n 0 59=q :=⟨_,rfl⟩
  cases q3
  all_goals go_enter Tryz.func120,Tryz.ntmps120
  all_goals go_wp2_with (first | (go_at_call 54;refine (within_any _ _ _ _).mono ?_;simp only [hq3];rintro e w' ⟨rfl,rfl⟩) | (go_at_call 58;refine (iWordOk_any _ _).mono ?_;simp only [hq3];rintro e w' ⟨rfl,rfl⟩))
  all_goals go_ret
  all_goals exact ⟨ret_bool (by first | (simp [opG,hq3];done) | (simp_all [opG];done)),by first | exact bx | exact (Below.refl _ _).alloc (Nat.le_refl _) _ | exact below_drewN ((Below.refl _ _).alloc (Nat.le_refl _) _) _⟩
 by_cases hk10 :c=10
 ·subst hk10
  obtain ⟨q3,hq3⟩ : ∃q,inB n 0 59=q :=⟨_,rfl⟩
  obtain ⟨q4,hq4⟩ : ∃q,inB m 0 ((E :Int)-1)=q :=⟨_,rfl⟩
  cases q3
  all_goals cases q4
  all_goals go_enter Tryz.func120,Tryz.ntmps120
  all_goals go_wp2_with (first | (go_at_call 54;refine (within_any _ _ _ _).mono ?_;simp only [hq3,hq4];rintro e w' ⟨rfl,rfl⟩) | (go_at_call 58;refine (iWordOk_any _ _).mono ?_;simp only [hq3,hq4];rintro e w' ⟨rfl,rfl⟩))
  all_goals go_ret
  all_goals exact ⟨ret_bool (by first | (simp [opG,hq3,hq4];done) | (simp_all [opG];done)),by first | exact bx | exact (Below.refl _ _).alloc (Nat.le_refl _) _ | exact below_drewN ((Below.refl _ _).alloc (Nat.le_refl _) _) _⟩
 by_cases hk11 :c=11
 ·subst hk11
  obtain ⟨q3,hq3⟩ : ∃q,wordB n=q :=⟨_,rfl⟩
  obtain ⟨q4,hq4⟩ : ∃q,inB m 0 ((E :Int)-1)=q :=⟨_,rfl⟩
  cases q3
  all_goals cases q4
  all_goals go_enter Tryz.func120,Tryz.ntmps120
  all_goals go_wp2_with (first | (go_at_call 54;refine (within_any _ _ _ _).mono ?_;simp only [hq3,hq4];rintro e w' ⟨rfl,rfl⟩) | (go_at_call 58;refine (iWordOk_any _ _).mono ?_;simp only [hq3,hq4];rintro e w' ⟨rfl,rfl⟩))
  all_goals go_ret
  all_goals exact ⟨ret_bool (by first | (simp [opG,hq3,hq4];done) | (simp_all [opG];done)),by first | exact bx | exact (Below.refl _ _).alloc (Nat.le_refl _) _ | exact below_drewN ((Below.refl _ _).alloc (Nat.le_refl _) _) _⟩
 by_cases hk18 :c=18
 ·subst hk18
  obtain ⟨q3,hq3⟩ : ∃q,inB n 0 ((E :Int)-1)=q :=⟨_,rfl⟩
  cases q3
  all_goals go_enter Tryz.func120,Tryz.ntmps120
  all_goals go_wp2_with (first | (go_at_call 54;refine (within_any _ _ _ _).mono ?_;simp only [hq3];rintro e w' ⟨rfl,rfl⟩) | (go_at_call 58;refine (iWordOk_any _ _).mono ?_;simp only [hq3];rintro e w' ⟨rfl,rfl⟩))
  all_goals go_ret
  all_goals exact ⟨ret_bool (by first | (simp [opG,hq3];done) | (simp_all [opG];done)),by first | exact bx | exact (Below.refl _ _).alloc (Nat.le_refl _) _ | exact below_drewN ((Below.refl _ _).alloc (Nat.le_refl _) _) _⟩
 by_cases hk19 :c=19
 ·subst hk19
  obtain ⟨q3,hq3⟩ : ∃q,inB n 0 ((E :Int)-1)=q :=⟨_,rfl⟩
  cases q3
  all_goals go_enter Tryz.func120,Tryz.ntmps120
  all_goals go_wp2_with (first | (go_at_call 54;refine (within_any _ _ _ _).mono ?_;simp only [hq3];rintro e w' ⟨rfl,rfl⟩) | (go_at_call 58;refine (iWordOk_any _ _).mono ?_;simp only [hq3];rintro e w' ⟨rfl,rfl⟩))
  all_goals go_ret
  all_goals exact ⟨ret_bool (by first | (simp [opG,hq3];done) | (simp_all [opG];done)),by first | exact bx | exact (Below.refl _ _).alloc (Nat.le_refl _) _ | exact below_drewN ((Below.refl _ _).alloc (Nat.le_refl _) _) _⟩
 obtain ⟨q3,hq3⟩ : ∃q,inB c 1 21=q :=⟨_,rfl⟩
 have d1 :(c==(1 :Int))=false :=by simp;omega
 have d2 :(c==(2 :Int))=false :=by simp;omega
 have d3 :(c==(3 :Int))=false :=by simp;omega
 have d4 :(c==(4 :Int))=false :=by simp;omega
 have d5 :(c==(5 :Int))=false :=by simp;omega
 have d8 :(c==(8 :Int))=false :=by simp;omega
 have d9 :(c==(9 :Int))=false :=by simp;omega
 have d10 :(c==(10 :Int))=false :=by simp;omega
 have d11 :(c==(11 :Int))=false :=by simp;omega
 have d18 :(c==(18 :Int))=false :=by simp;omega
 have d19 :(c==(19 :Int))=false :=by simp;omega
 cases q3
 all_goals go_enter Tryz.func120,Tryz.ntmps120
 all_goals go_wp2_with (first | (go_at_call 54;refine (within_any _ _ _ _).mono ?_;simp only [hq3];rintro e w' ⟨rfl,rfl⟩) | (go_at_call 58;refine (iWordOk_any _ _).mono ?_;simp only [hq3];rintro e w' ⟨rfl,rfl⟩))
 all_goals go_ret
 all_goals exact ⟨ret_bool (by first | (simp [opG,hq3,hk1,hk2,hk3,hk4,hk5,hk8,hk9,hk10,hk11,hk18,hk19];done) | (simp_all [opG];done)),by first | exact bx | exact (Below.refl _ _).alloc (Nat.le_refl _) _ | exact below_drewN ((Below.refl _ _).alloc (Nat.le_refl _) _) _⟩
end Go.Proofs.YtfmebaafpfkeiaaGreat
end
section
namespace Go.Proofs.YtfmebaafpfkeiaaGreat
open Go.RowKit
def fn0 :F2 :=⟨0, []⟩
def fnHead (x :F2) :Bool :=inB x.f 0 20&&inB (x.os.length :Int) 1 3000
def lastC (x :F2) :Int :=(x.os.getD (x.os.length-1) ⟨0,0,0⟩).c
def fnLast (x :F2) :Bool :=(lastC x==7) || (lastC x==19) || (lastC x==21)
def fnOk (fs :List F2) (i :Nat) :Bool :=(fs.getD i fn0).os.all (opOk fs i)&&fnLast (fs.getD i fn0)
def funsOk (fs :List F2) :Bool :=(inB (fs.length :Int) 1 60&&((fs.getD 0 fn0).f==0))&&(fs.all fnHead&&(List.range fs.length).all (fnOk fs))
theorem fs_getD {fs :List F2} {i :Nat} (h :i < fs.length) :fs.getD i fn0=fs[i] :=by rw [List.getD_eq_getElem?_getD,List.getElem?_eq_getElem h];rfl
theorem funsOk_head {fs :List F2} (h :(inB (fs.length :Int) 1 60&&((fs.getD 0 fn0).f==0))=false) :funsOk fs=false :=by unfold funsOk;rw [h];rfl
theorem funsOk_bad {fs :List F2} {i :Nat} (hi :i < fs.length) (h :fnHead fs[i]=false) :funsOk fs=false :=by
 have :fs.all fnHead=false :=by
  rw [List.all_eq_false]
  exact ⟨_,List.getElem_mem hi,by simp [h]⟩
 unfold funsOk
 rw [this]
 simp
theorem funsOk_fn {fs :List F2} {i :Nat} (hi :i < fs.length) (h :fnOk fs i=false) :funsOk fs=false :=by
 have :(List.range fs.length).all (fnOk fs)=false :=by
  rw [List.all_eq_false]
  exact ⟨i,List.mem_range.2 hi,by simp [h]⟩
 unfold funsOk
 rw [this]
 simp
theorem fnOk_op {fs :List F2} {i k :Nat} (hi :i < fs.length) (hk :k < fs[i].os.length) (h :opOk fs i fs[i].os[k]=false) :fnOk fs i=false :=by
 unfold fnOk
 rw [fs_getD hi]
 have :fs[i].os.all (opOk fs i)=false :=by
  rw [List.all_eq_false]
  exact ⟨_,List.getElem_mem hk,by simp [h]⟩
 rw [this]
 rfl
theorem fnOk_last {fs :List F2} {i :Nat} (hi :i < fs.length) (h :fnLast fs[i]=false) :fnOk fs i=false :=by
 unfold fnOk
 rw [fs_getD hi,h]
 simp
theorem funsOk_yes {fs :List F2} (h0 :(inB (fs.length :Int) 1 60&&((fs.getD 0 fn0).f==0))=true) (h1 : ∀j (h :j < fs.length),fnHead fs[j]=true) (h2 : ∀j,j < fs.length→fnOk fs j=true) :funsOk fs=true :=by
 unfold funsOk
 rw [h0,Bool.true_and,Bool.and_eq_true,List.all_eq_true,List.all_eq_true]
 refine ⟨fun x hx=> ?_,fun j hj=> h2 j (List.mem_range.1 hj)⟩
 obtain ⟨j,hj,rfl⟩ :=List.mem_iff_getElem.1 hx
 exact h1 j hj
theorem fnOk_yes {fs :List F2} {i :Nat} (hi :i < fs.length) (h : ∀k (hk :k < fs[i].os.length),opOk fs i fs[i].os[k]=true) (hl :fnLast fs[i]=true) :fnOk fs i=true :=by
 unfold fnOk
 rw [fs_getD hi,hl,Bool.and_true,List.all_eq_true]
 intro x hx
 obtain ⟨k,hk,rfl⟩ :=List.mem_iff_getElem.1 hx
 exact h k hk
theorem lastC_at {x :F2} {E :Nat} (hE :x.os.length=E) (h :0 < E) : ∃hk :E-1 < x.os.length,(x.os[E-1]).c=lastC x :=by
 subst hE
 refine ⟨by omega,?_⟩
 unfold lastC
 rw [List.getD_eq_getElem?_getD,List.getElem?_eq_getElem (by omega)]
 rfl
end Go.Proofs.YtfmebaafpfkeiaaGreat
end
section
namespace Go.Proofs.YtfmebaafpfkeiaaGreat
open Go.RowKit
theorem Tryz.infoFun :(Tryz.prog.info? 68).map (fun i=> (i.zero,i.size,i.bytes))=some (some (.agg #[.int .i64 0, .slice none 0 0]),2,32) :=by kernel_rfl
end Go.Proofs.YtfmebaafpfkeiaaGreat
end
