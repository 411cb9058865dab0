/- Parts of the proof of FnDepthsHold, FnEnds, FnMeant, FnMovedWhenever, FnSizes. -/
import Derived.Test.YtfmebaafpfkeiaaGreatY17
import Derived.Test.YtfmebaafpfkeiaaGreatY15
import Derived.IntWalk
import Derived.Test.YtfmebaafpfkeiaaGreatY11
import Derived.Test.YtfmebaafpfkeiaaGreatY14
import Derived.StillTailTactics
import Derived.Test.YtfmebaafpfkeiaaGreatY12
import Derived.BigQuiet
import Derived.Test.YtfmebaafpfkeiaaGreatY16
set_option linter.unusedVariables false
set_option linter.unusedSimpArgs false
set_option maxRecDepth 1000000
set_option maxHeartbeats 16000000
namespace Go.Proofs.YtfmebaafpfkeiaaGreat
open Go.RowKit
theorem Ph {B:Nat}(v:Value) (fs:List F2) (w:World) (hr:RdF B w v fs) (hn:fs.length≤1000) (hm:tot fs≤4294967296):
  Calls Tryz.prog 147 #[v] w fun e w'=>∃v',e= .returned v'∧OwnF w.heap.size w' v' fs∧Below w.heap.size w w':=by
 obtain⟨ti,hi,hz0,hz1,hz2⟩:=info_parts Tryz.infoFun;have HR:=Lib.hid (fun(W:World) (hb:Below w.heap.size w W)=>hr.below' hb);obtain⟨fa,fc,rfl⟩:=hr.form;clear hr;go_enter Tryz.func147,Tryz.ntmps147;go_wp2_with fail;generalize hz:w.alloc _=z;have hown:OwnH w.heap.size z.heap.size z (.slice (some ⟨w.heap.size,0,none⟩) 0 0) []:=by
  subst hz;exact OwnH.nil (EO rfl (Nat.le_refl _)) (fun q hq=>by cases hq;simp)
 obtain⟨bz,_⟩:=Bx.alloc hz;clear hz
 go_loopw [3,9] (fun s t wr=>∃ (k:Nat),k≤fs.length∧t= .int .i64 k∧Below w.heap.size w wr∧OwnH w.heap.size wr.heap.size wr s (fs.take k)) (fun _ t _=>fs.length - (intOf t).toNat)
 case atStart=>exact⟨0,Nat.zero_le _,rfl,bz,by simpa using hown⟩
 case round=>
  clear bz hown;obtain⟨k,hk,rfl,bb,hown⟩:=hrel;by_cases hlt:k < fs.length
  ·obtain⟨b,off,cap',lv,hs,hB,hbs,hcap,c0,c1,ro⟩:=(HR.out _ bb).at_ hlt;cases hs
   obtain⟨la,lc,rfl⟩:=ro.form;have hmem:=MW (List.getElem_mem hlt);have hki:(k:Int) < (fs.length:Int):=by omega
   obtain⟨va,vc,hv⟩:=hown.form;have htl:(fs.take k).length=k:=by rw[List.length_take];omega
   rw[htl]at hv;subst hv;go_wp2_with fail;generalize hx:wr.alloc _=x0;obtain⟨bx,k5⟩:=Bx.alloc hx;clear hx;replace hown:OwnH w.heap.size wr.heap.size x0 _ (fs.take k):=hown.same (fun q _ hq=>bx.block q hq);refine wp_region_held_drew (S:=(fun w'=>∀j,w'.cell? ⟨wr.heap.size,j,none⟩= #[.int .i64 fs[k].f,.slice la fs[k].os.length lc][j]?)) (by kernel_rfl) (by first | (dsimp only;exact k5.2.1) | (exact k5.2.1)) (fun hHeld=> ?_);refine tkH (i:=0) ?_;refine tkH (i:=1) ?_;refine tkH (i:=2) ?_;refine tkH (i:=3) ?_;refine tkH (i:=4) ?_;generalize hxd:x0.drew=x1 at hHeld;have hd:Below x0.heap.size x0 x1:=by rw[←hxd];exact(Below.refl _ _).drew
   replace k5:=k5.below hd k5.1;replace hown:=hown.same (w':=x1) (fun q _ hq=>hd.block q (Nat.lt_of_lt_of_le hq bx.size));replace bx:=bx.trans (hd.mono bx.size);clear hxd hd;refine rdH (i:=5) (fun K hK=> ?_);go_simp;refine(Qk _ fs[k].os x1 (RdE.below' ro bx) (by omega)).mono ?_;rintro e w2 ⟨u,rfl,ou,b2⟩;obtain⟨ua,uc,rfl⟩:=AC ou;refine bkH hK (by first | (dsimp only;exact(k5.below b2 k5.1).2.1) | (exact(k5.below b2 k5.1).2.1)) (fun hHeld=> ?_);clear hK K;replace k5:=k5.below b2 k5.1;replace hown:=hown.same (w':=w2) (fun q _ hq=>b2.block q (Nat.lt_of_lt_of_le hq bx.size));have hx2:=b2.size;have hx1:=bx.size;have hul:∀q,(Value.slice ua fs[k].os.length uc).ownBlock=some q→wr.heap.size≤q:=fun q hq=>by have:=(ou.lt q hq).1;omega
   replace bx:=bx.trans (b2.mono bx.size);refine tkH (i:=6) ?_;refine rdH (i:=7) (fun K hK=> ?_);go_simp;generalize hy:w2.alloc _=w3;obtain⟨b3,k3⟩:=Bx.alloc hy;refine bkH hK (by first | (dsimp only;exact(k5.below b3 k5.1).2.1) | (exact(k5.below b3 k5.1).2.1)) (fun hHeld=> ?_);clear hK K;refine wpAnyH_ready (rs:=[8]) (by kernel_rfl) (by simp) ?_;refine AllReadyH.cons (by (simp only[List.getElem?_toArray,List.getElem?_cons_succ,List.getElem?_cons_zero];rfl)) (fun K hK=> ?_) AllReadyH.nil;rw[if_pos (by rfl)];obtain⟨xs,hrow,hrb⟩:=hown.row;have hrow2:=hrow;rw[htl]at hrow2;refine I4 _ _ 26 rfl w.heap.size 68 ti (.agg #[.int .i64 0,.slice none 0 0]) 2 32 Tryz.underlying26 hi hz0 hz1 hz2 rfl (by decide) _ _ _ rfl (Al hrow2 b3 (Af hrow2)) #[.int .i64 fs[k].f,.slice ua fs[k].os.length uc] rfl ?_ w2.heap.size rfl ?_ ?_ ?_ ?_ ?_
   ·simp[Value.oneCell']
   ·exact k3.2.1
   ·unfold maxLen;omega
   ·omega
   ·have:=bb.size;have:=b3.size;omega
   ·intro v3 w4 o3 g3 alt;have g2:w2.grownBy w4 (Value.slice va k vc).ownBlock:=by
     have:=World.grownBy_alloc w2 (.cells #[.int .i64 fs[k].f,.slice ua fs[k].os.length uc] 68) (Value.slice va k vc).ownBlock;rw[hy]at this;exact this.trans' g3
    have hbs0:=bb.size;have hw3:w3.heap.size=w2.heap.size+1:=by rw[←hy,World.size_alloc]
    have hown3:=OwnH.snoc (x:=fs[k]) hown (AR ou (show w.heap.size≤x1.heap.size by omega)) hul (by omega) g2 (fun ys hy=>by rw[htl];exact(YS hy hrow)▸o3) (by rw[←hw3];exact alt);rw[List.take_append_getElem hlt]at hown3;have K6:=(k5.below b3 k5.1).grown g3 (fun e=>by have:=hrb _ e.symm;omega);have BB:=Lib.hid (bb.trans (((bx.trans (b3.mono bx.size)).mono bb.size).trans (Below.of_grown g3 (by have:=b3.size;omega) (fun q hq=>(hrb q hq).1))));have H3:=Lib.hid hown3;refine hK.out _ _ (by first | (dsimp only;exact K6.2.1) | (exact K6.2.1)) (fun hHeld=> ?_);clear hK K K6 hown3 g2 g3 alt o3 hrow hrow2 hrb hy b3 k3 k5 hown ou hul bx b2 bb ro
    try simp only[Act.put,List.setIfInBounds_toArray,List.set_cons_zero,List.set_cons_succ]
    refine tkH (i:=9) ?_;refine wpAnyH_done (by kernel_rfl) ?_ _;go_wp2;go_roundw
    case rel=>exact⟨k+1,hlt,by go_num,BB.out,H3.out⟩
    case measure=>simp[intOf];omega
  ·have hki:¬((k:Int) < (fs.length:Int)):=by omega
   obtain rfl:k=fs.length:=by omega
   rw[List.take_length]at hown;go_wp2;go_ret;exact⟨_,rfl,hown.to_f,bb⟩
structure Out (base hi:Nat) (w w':World):Prop where
 os:w'.os=w.os
 tape:w'.tape=w.tape
 output:w'.output=w.output
 size:w.heap.size≤w'.heap.size
 block:∀q,q < w.heap.size→(q < base∨hi≤q)→w'.heap[q]?=w.heap[q]?
theorem Out.refl (base hi:Nat) (w:World):Out base hi w w:=⟨rfl,rfl,rfl,Nat.le_refl _,fun _ _ _=>rfl⟩
theorem Out.grown {base hi:Nat}{w w' w'':World}{row:Option Nat}(h:Out base hi w w') (g:w'.grownBy w'' row) (hr:∀q,row=some q→base≤q∧q < hi):Out base hi w w'':=
 ⟨g.os.trans h.os,g.tape.trans h.tape,g.output.trans h.output,Nat.le_trans h.size g.size,fun q h1 h2=>(g.block q (Nat.lt_of_lt_of_le h1 h.size) (fun e=>by have:=hr q e.symm;omega)).trans (h.block q h1 h2)⟩
theorem Out.below {base hi:Nat}{w w':World}(h:Out base hi w w') {B:Nat}(hb:B≤base) (hB:B≤w.heap.size):Below B w w':=
 ⟨h.os,h.tape,h.output,h.size,fun q hq=>h.block q (by omega) (.inl (by omega))⟩
theorem IY {α:Type}{enc:α→List Value}{xs:List α}{k:Nat}{x:α}(h:k < xs.length):(xs.set k x).flatMap enc= (xs.take k).flatMap enc++ (enc x++ (xs.drop (k+1)).flatMap enc):=by
 rw[List.set_eq_take_append_cons_drop,if_pos h,List.flatMap_append,List.flatMap_cons]
theorem Yg {fl:List (Int×Value)}{k:Nat}(hk:k < fl.length) (a:Int):(flat Cu fl).set (k*2) (.int .i64 a)=flat Cu (fl.set k (a,fl[k].2)):=by
 have h1:flat Cu fl= (fl.take k).flatMap Cu++ (Cu fl[k]++ (fl.drop (k+1)).flatMap Cu):=by
  have:=IY (enc:=Cu) (x:=fl[k]) hk;rw[List.set_getElem_self]at this;exact this
 have hl:((fl.take k).flatMap Cu).length=k*2:=by
  have:=CJ Ir (fl.take k);unfold flat at this;rw[this,List.length_take,Nat.min_eq_left (by omega)]
 rw[h1,List.set_append_right _ _ (by omega),hl,Nat.sub_self];unfold flat;rw[IY hk];rfl
theorem OwnH.turn {base hi:Nat}{w:World}{v:Value}{fs:List F2}(h:OwnH base hi w v fs) {k:Nat}(hk:k < fs.length) (hhi:hi≤w.heap.size):∃ (g cap:Nat) (u:Value),v= .slice (some ⟨g,0,none⟩) fs.length cap∧(base≤g∧g < hi)∧(∃c,w.cell? ⟨g,k*2,none⟩=some c)∧w.cell? ⟨g,k*2+1,none⟩=some u∧
  w.frozen? ⟨g,k*2,none⟩=false∧(∀q,u.ownBlock=some q→base≤q∧q < hi)∧(∃ua uc,u= .slice ua fs[k].os.length uc)∧ ∀ (a:Int),(w.setCell ⟨g,k*2,none⟩ (.int .i64 a)).ownsRow base 65 3 u fs[k].os.length (flat O3.enc fs[k].os)∧
  ∀ (os':List O3) (W':World),os'.length=fs[k].os.length→(w.setCell ⟨g,k*2,none⟩ (.int .i64 a)).grownBy W' u.ownBlock→W'.ownsRow base 65 3 u os'.length (flat O3.enc os')→OwnH base hi W' v (fs.set k ⟨a,os'⟩):=by
 obtain⟨fl,⟨h1,h2,h3,h4,h5⟩,h6,h7⟩:=h;have hkf:k < fl.length:=by omega
 have hv:∃g cap,v= .slice (some ⟨g,0,none⟩) fs.length cap:=by
  rcases h1.2 with ⟨_,h0⟩ |⟨g,cap,cur,hv,_⟩
  ·omega
  ·exact⟨g,cap,hv⟩
 obtain⟨g,cap,rfl⟩:=hv;have hgb:=(h1.lt g rfl).1;have hgh:=h6 g rfl;have hlen:(flat Cu fl).length=fl.length*2:=CJ Ir fl;have e0:=D3 h1 (k*2) (by omega);have e1:=D3 h1 (k*2+1) (by omega);rw[Hy Ir fl k _ (List.getElem?_eq_getElem hkf) 1 (by decide)]at e1;rw[List.getElem?_eq_getElem (by omega)]at e0;have hu:=(h3 k hkf hk).2;have hne:fl[k].2.ownBlock≠some g:=fun hq=>h4 _ (List.getElem_mem hkf) g g rfl hq rfl;refine⟨g,cap,fl[k].2,rfl,⟨hgb,hgh⟩,⟨_,e0⟩,e1,Cy h1 _,fun q hq=>⟨(hu.lt q hq).1,h7 _ (List.getElem_mem hkf) q hq⟩,AC hu,fun a=> ?_⟩;have gs:=grownBy.setCell w g (k*2) (.int .i64 a);refine⟨hu.kept gs (.inr hne),fun os' W' hl hg ho=> ?_⟩;have hrow:W'.ownsRow base 68 2 (.slice (some ⟨g,0,none⟩) fs.length cap) fs.length (flat Cu (fl.set k (a,fl[k].2))):=by
  rw[←Yg hkf];exact(LM h1 (k*2) (by omega) _).kept hg (.inr (fun hh=>hne hh.symm))
 have hoth:∀j (h:j < fl.length) (h':j < fs.length),j≠k→W'.ownsRow base 65 3 fl[j].2 fs[j].os.length (flat O3.enc fs[j].os):=by
  intro j a b hj;have hjg:fl[j].2.ownBlock≠some g:=fun hq=>h4 _ (List.getElem_mem a) g g rfl hq rfl;refine((h3 j a b).2.kept gs (.inr hjg)).kept hg ?_;cases hq:fl[j].2.ownBlock with
  |none=>exact .inl rfl
  |some p=>
   refine .inr (fun hh=> ?_);rcases Nat.lt_or_gt_of_ne hj with hjk |hjk
   ·exact(List.pairwise_iff_getElem.1 h5 j k a hkf hjk) p p hq hh.symm rfl
   ·exact(List.pairwise_iff_getElem.1 h5 k j hkf a hjk) p p hh.symm hq rfl
 have hmem:∀x∈fl.set k (a,fl[k].2),∃y∈fl,x.2=y.2:=by
  intro x hx;rcases List.mem_or_eq_of_mem_set hx with hx |rfl
  ·exact⟨x,hx,rfl⟩
  ·exact⟨_,List.getElem_mem hkf,rfl⟩
 refine⟨fl.set k (a,fl[k].2),⟨by rw[List.length_set];exact hrow,by simp[h2],fun j b c=> ?_,fun x hx=> ?_,?_⟩,h6,fun x hx q hq=> ?_⟩
 ·simp only[List.length_set]at b c;by_cases hj:j=k
  ·subst hj;simp only[List.getElem_set_self];exact⟨trivial,ho⟩
  ·simp only[List.getElem_set_ne (fun h=>hj h.symm)];exact⟨(h3 j b c).1,hoth j b c hj⟩
 ·obtain⟨y,hy,e⟩:=hmem x hx;rw[e];exact h4 y hy
 ·rw[List.pairwise_iff_getElem];intro i j hi hj hij;simp only[List.length_set]at hi hj;have e:∀i (hi:i < fl.length),((fl.set k (a,fl[k].2))[i]'(by simp;omega)).2=fl[i].2:=by
   intro i hi;rw[List.getElem_set];split
   ·rename_i h;subst h;rfl
   ·rfl
  rw[e i hi,e j hj];exact List.pairwise_iff_getElem.1 h5 i j hi hj hij
 ·obtain⟨y,hy,e⟩:=hmem x hx;exact h7 y hy q (e▸hq)
theorem Pg {α:Type}{enc:α→List Value}{size:Nat}(hs:∀x,(enc x).length=size):∀ (xs:List α) (k:Nat),(flat enc xs).take (k*size)=flat enc (xs.take k)
 | [],k=>by simp[flat]
 |x::xs,0=>by simp[flat]
 |x::xs,k+1=>by
  have ih:=Pg hs xs k;unfold flat at ih ⊢;rw[List.flatMap_cons,List.take_succ_cons,List.flatMap_cons,Nat.succ_mul,Nat.add_comm,List.take_append,List.take_of_length_le (by rw[hs];omega),hs,Nat.add_sub_cancel_left,ih]
theorem RunV.calls {base:Nat}{w w1:World}{g gs gc:Nat}{fv hv ov:Value}{p q:Nat}{L:VmL}(h:RunV base w g gs gc fv hv ov p q L) (hz:L.zs≠ []) {v':Value}{cs:List O3}
  (hg:w.grownBy w1 (some gc)) (ho:w1.ownsRow base 63 3 v' cs.length (flat O3.enc cs)) (hn:0 < cs.length) (hat:∀k,v'.ownBlock=some k→k=gc∨w.heap.size≤k):
  ∃gc' q',v'=slv gc' cs.length q'∧RunV base (w1.setCell ⟨g,6,none⟩ v') g gs gc' fv hv ov p q' {L with cs:=cs}∧Below base w (w1.setCell ⟨g,6,none⟩ v'):=by
 obtain⟨gc',q',rfl,hb1,hl1⟩:=BU ho hn;obtain⟨⟨l1,l2⟩,l3,l4⟩:=h.lts;have hgl:=h.bx.1;have n1:=h.n1;have n2:=h.n2;have n3:=h.n3;have hx:=hat gc' rfl;have hng:g≠gc':=by rcases hx with e |e <;> omega
 have hnc:gs≠gc':=by rcases hx with e |e <;> omega
 have hw:w.heap.size≤w1.heap.size:=hg.size;have hbw:=h.hb;have k1:=h.bx.grown hg (fun e=>n2 (Option.some.inj e));have k2:=k1.set 6 (by simp) (slv gc' cs.length q');have b1:Below base w w1:=Below.of_grown hg h.hb (fun k e=>by cases e;exact l3);have b2:=b1.setCell (p:=⟨g,6,none⟩) h.hg (slv gc' cs.length q');have g2:=grownBy.setCell w1 g 6 (slv gc' cs.length q');refine⟨gc',q',rfl,⟨k2,by simp;omega,h.hg,h.f.below b2 (Nat.le_refl _),?_,?_,?_,?_,n1,hng,hnc,?_,?_⟩,b2⟩
 ·exact(h.z.grow hg (fun i hi e=>(h.za i hi).2.2.1 (Option.some.inj e))).grow g2 (fun i hi e=>(h.za i hi).1 (Option.some.inj e))
 ·exact ownsRow_setCell_other (h.s.kept hg (.inr (fun e=>n3 (Option.some.inj e)))) (fun e=>n1 (Option.some.inj e).symm) _
 ·exact ownsRow_setCell_other ho (fun e=>hng (Option.some.inj e).symm) _
 ·have hk:=h.o.kept hg (h.off (fun k hk=>(h.oa k hk).2.2));exact ownsRow_setCell_other hk (fun e=>(h.oa g e).1 rfl) _
 ·intro k hk;have:=h.oa k hk;have:=(h.o.lt k hk).2;rcases hx with e |e <;> refine⟨by omega,by omega,by omega⟩
 ·intro k hk;have:=h.za k hk;have:=h.zlt hz k hk;rcases hx with e |e <;> refine⟨by omega,by omega,by omega,by simp_all⟩
theorem RunV.set {base:Nat}{w:World}{g gs gc:Nat}{fv hv ov:Value}{p q:Nat}{L:VmL}(h:RunV base w g gs gc fv hv ov p q L) (i:Nat) (u:Value):
  Below base w (w.setCell ⟨g,i,none⟩ u)∧Rd (w.setCell ⟨g,i,none⟩ u).heap.size .i64 (w.setCell ⟨g,i,none⟩ u) hv L.zs∧(w.setCell ⟨g,i,none⟩ u).ownsRow base 3 1 (slv gs L.ss.length p) L.ss.length (L.ss.map (Value.int .i64))∧
   (w.setCell ⟨g,i,none⟩ u).ownsRow base 63 3 (slv gc L.cs.length q) L.cs.length (flat O3.enc L.cs)∧(w.setCell ⟨g,i,none⟩ u).ownsRow base 3 1 ov L.os.length (L.os.map (Value.int .i64)):=
 ⟨(Below.refl base w).setCell (p:=⟨g,i,none⟩) h.hg u,h.z.grow (grownBy.setCell w g i u) (fun j hj e=>(h.za j hj).1 (Option.some.inj e)),ownsRow_setCell_other h.s (fun e=>h.n1 (Option.some.inj e).symm) _,
  ownsRow_setCell_other h.c (fun e=>h.n2 (Option.some.inj e).symm) _,ownsRow_setCell_other h.o (fun e=>(h.oa g e).1 rfl) _⟩
theorem RunV.cut {base:Nat}{w:World}{g gs gc:Nat}{fv hv ov:Value}{p q:Nat}{L:VmL}(h:RunV base w g gs gc fv hv ov p q L) {k:Nat}(hk:k≤L.ss.length):
  RunV base (w.setCell ⟨g,5,none⟩ (slv gs k p)) g gs gc fv hv ov p q {L with ss:=L.ss.take k}∧Below base w (w.setCell ⟨g,5,none⟩ (slv gs k p)):=by
 have hlen:(L.ss.take k).length=k:=by rw[List.length_take];omega
 obtain⟨b,z,s,c,o⟩:=h.set 5 (slv gs k p);have k2:=h.bx.set 5 (by simp) (slv gs k p);have s2:=G5 s hk;rw[Nat.mul_one,←List.map_take]at s2;rw[show slv gs k p=slv gs (L.ss.take k).length p by rw[hlen]]at b z k2 s2 c o ⊢;exact⟨⟨k2,by simp;exact h.hb,h.hg,h.f.below b (Nat.le_refl _),z,by rw[hlen]at s2 ⊢;exact s2,c,o,h.n1,h.n2,h.n3,h.oa,h.za⟩,b⟩
theorem RunV.cutC {base:Nat}{w:World}{g gs gc:Nat}{fv hv ov:Value}{p q:Nat}{L:VmL}(h:RunV base w g gs gc fv hv ov p q L) {k:Nat}(hk:k≤L.cs.length):
  RunV base (w.setCell ⟨g,6,none⟩ (slv gc k q)) g gs gc fv hv ov p q {L with cs:=L.cs.take k}∧Below base w (w.setCell ⟨g,6,none⟩ (slv gc k q)):=by
 have hlen:(L.cs.take k).length=k:=by rw[List.length_take];omega
 obtain⟨b,z,s,c,o⟩:=h.set 6 (slv gc k q);have k2:=h.bx.set 6 (by simp) (slv gc k q);have c2:=G5 c hk;rw[Pg O3.enc_len]at c2;rw[show slv gc k q=slv gc (L.cs.take k).length q by rw[hlen]]at b z k2 s c2 o ⊢;exact⟨⟨k2,by simp;exact h.hb,h.hg,h.f.below b (Nat.le_refl _),z,s,by rw[hlen]at c2 ⊢;exact c2,o,h.n1,h.n2,h.n3,h.oa,h.za⟩,b⟩
theorem Y9 {cs:List O3}{k:Nat}(hk:k < cs.length) (a:Int):(flat O3.enc cs).set (k*3+1) (.int .i64 a)=flat O3.enc (cs.set k {cs[k]with n:=a}):=by
 have h1:flat O3.enc cs= (cs.take k).flatMap O3.enc++ (O3.enc cs[k]++ (cs.drop (k+1)).flatMap O3.enc):=by
  have:=IY (enc:=O3.enc) (x:=cs[k]) hk;rw[List.set_getElem_self]at this;exact this
 have hl:((cs.take k).flatMap O3.enc).length=k*3:=by
  have:=CJ O3.enc_len (cs.take k);unfold flat at this;rw[this,List.length_take,Nat.min_eq_left (by omega)]
 rw[h1,List.set_append_right _ _ (by omega),hl,show k*3+1 - k*3=1 by omega];unfold flat;rw[IY hk];rfl
theorem RunV.pc {base:Nat}{w:World}{g gs gc:Nat}{fv hv ov:Value}{p q:Nat}{L:VmL}(h:RunV base w g gs gc fv hv ov p q L) {k:Nat}(hk:k < L.cs.length) (a:Int):
  RunV base (w.setCell ⟨gc,k*3+1,none⟩ (.int .i64 a)) g gs gc fv hv ov p q {L with cs:=L.cs.set k {L.cs[k]with n:=a}}∧Below base w (w.setCell ⟨gc,k*3+1,none⟩ (.int .i64 a)):=by
 obtain⟨_,l3,l4⟩:=h.lts;have hlen:(L.cs.set k {L.cs[k]with n:=a}).length=L.cs.length:=List.length_set;have b:Below base w (w.setCell ⟨gc,k*3+1,none⟩ (.int .i64 a)):=(Below.refl base w).setCell (p:=⟨gc,k*3+1,none⟩) l3 _;have g2:=grownBy.setCell w gc (k*3+1) (.int .i64 a);have k2:=h.bx.grown g2 (fun e=>h.n2 (Option.some.inj e));have hfl:(flat O3.enc L.cs).length=L.cs.length*3:=CJ O3.enc_len _;have c2:=LM h.c (k*3+1) (by omega) (.int .i64 a);rw[Y9 hk]at c2;refine⟨⟨?_,by rw[World.size_setCell];exact h.hb,h.hg,h.f.below b (Nat.le_refl _),?_,?_,?_,?_,h.n1,h.n2,h.n3,h.oa,h.za⟩,b⟩
 ·dsimp only;rw[hlen];exact k2
 ·exact h.z.grow g2 (fun i hi e=>(h.za i hi).2.2.1 (Option.some.inj e))
 ·exact ownsRow_setCell_other h.s (by intro e;exact h.n3 (Option.some.inj e)) _
 ·dsimp only;rw[hlen];exact c2
 ·exact ownsRow_setCell_other h.o (fun e=>(h.oa gc e).2.2 rfl) _
theorem GW {cs:List O3}{k:Nat}(h:cs.length - 1=k) (hk:k < cs.length) (a:Int):A5 cs a=cs.set k {cs[k]with n:=a}:=by
 unfold A5;rw[h,List.getD_eq_getElem?_getD,List.getElem?_eq_getElem hk];rfl
theorem Kept2.refl (w:World) (g gr:Nat):Kept2 w w g gr:=⟨Nat.le_refl _,fun _ _ _ _=>rfl⟩
theorem RunV.kept {base:Nat}{w w':World}{g gr gs gc:Nat}{fv hv hv' ov:Value}{p q:Nat}{L:VmL}{zs:List Int}{h b n:Int}(R:RunV base w g gs gc fv hv ov p q L) (k:Kept2 w w' g gr) (bb:Below base w w')
  (hgr:gr≠gs∧gr≠gc∧ov.ownBlock≠some gr)
  (bx:Bx w' g #[fv,hv',.int .i64 h,.int .i64 b,.int .i64 n,slv gs L.ss.length p,slv gc L.cs.length q,ov,.int .i64 L.code,.bool L.each]) (z:Rd w'.heap.size .i64 w' hv' zs)
  (za:∀k,hv'.ownBlock=some k→k≠g∧k≠gs∧k≠gc∧ov.ownBlock≠some k):RunV base w' g gs gc fv hv' ov p q {L with zs:=zs,h:=h,b:=b,n:=n}:=by
 obtain⟨g1,g2,g3⟩:=hgr;refine⟨bx,Nat.le_trans R.hb k.1,R.hg,R.f.below bb (Nat.le_refl _),z,?_,?_,?_,R.n1,R.n2,R.n3,R.oa,za⟩
 ·exact Hp R.s k (fun i hi=>by cases hi;exact⟨fun e=>R.n1 e.symm,fun e=>g1 e.symm⟩)
 ·exact Hp R.c k (fun i hi=>by cases hi;exact⟨fun e=>R.n2 e.symm,fun e=>g2 e.symm⟩)
 ·exact Hp R.o k (fun i hi=>⟨(R.oa i hi).1,fun e=>g3 (e▸hi)⟩)
theorem RunV.stack2 {base:Nat}{w:World}{g gs gc:Nat}{fv hv ov:Value}{p q:Nat}{L:VmL}(R:RunV base w g gs gc fv hv ov p q L) {v':Value}{ss:List Int}
  (ho:w.ownsRow base 3 1 v' ss.length (ss.map (Value.int .i64))) (hn:0 < ss.length) (hv':∀k,v'.ownBlock=some k→k≠g∧k≠gc∧ov.ownBlock≠some k∧hv.ownBlock≠some k):
  ∃gs' p',v'=slv gs' ss.length p'∧RunV base (w.setCell ⟨g,5,none⟩ v') g gs' gc fv hv ov p' q {L with ss:=ss}∧Below base w (w.setCell ⟨g,5,none⟩ v'):=by
 obtain⟨gs',p',rfl,hb1,hl1⟩:=BU ho hn;obtain⟨a1,a2,a3,a4⟩:=hv' gs' rfl;obtain⟨b,z,s,c,o⟩:=R.set 5 (slv gs' ss.length p');have k2:=R.bx.set 5 (by simp) (slv gs' ss.length p');have s2:=ownsRow_setCell_other (a:=⟨g,5,none⟩) ho (by intro e;exact a1 (Option.some.inj e)) (slv gs' ss.length p');refine⟨gs',p',rfl,⟨k2,by simp;exact R.hb,R.hg,R.f.below b (Nat.le_refl _),z,s2,c,o,fun e=>a1 e.symm,R.n2,a2,fun k hk=>⟨(R.oa k hk).1,fun e=>a3 (e▸hk),(R.oa k hk).2.2⟩,fun k hk=>⟨(R.za k hk).1,fun e=>a4 (e▸hk),(R.za k hk).2.2.1,(R.za k hk).2.2.2⟩⟩,b⟩
theorem RunV.kidsRd {base:Nat}{w:World}{g gs gc:Nat}{fv hv ov:Value}{p q:Nat}{L:VmL}(R:RunV base w g gs gc fv hv ov p q L) {m k c:Nat}(hm:m+k=L.ss.length) (hc:k≤c) (hl:L.ss.length≤4294967296):
  Rd w.heap.size .i64 w (.slice (some ⟨gs,m,none⟩) k c) (L.ss.drop m):=by
 have hlen:(L.ss.drop m).length=k:=by rw[List.length_drop];omega
 have hlt:=(R.s.lt gs rfl).2;refine .inr ⟨gs,m,c,by rw[hlen],hlt,hlt,⟨by rw[hlen];unfold maxLen;omega,by omega⟩,fun j hj=> ?_⟩;rw[hlen]at hj;have:=AN R.s (m+j) (by omega);rw[List.getElem?_map,List.getElem?_eq_getElem (by omega),Option.map_some]at this;rw[this,List.getD_eq_getElem?_getD,List.getElem?_drop,List.getElem?_eq_getElem (by omega)];rfl
theorem RunV.heap4 {base:Nat}{w:World}{g gs gc:Nat}{fv hv ov:Value}{p q:Nat}{L:VmL}(R:RunV base w g gs gc fv hv ov p q L) {u:Value}{zs:List Int}{h b n:Int}(z:Rd w.heap.size .i64 w u zs)
  (za:∀k,u.ownBlock=some k→k≠g∧k≠gs∧k≠gc∧ov.ownBlock≠some k):
  RunV base ((((w.setCell ⟨g,1,none⟩ u).setCell ⟨g,2,none⟩ (.int .i64 h)).setCell ⟨g,3,none⟩ (.int .i64 b)).setCell ⟨g,4,none⟩ (.int .i64 n)) g gs gc fv u ov p q {L with zs:=zs,h:=h,b:=b,n:=n}∧
   Below base w ((((w.setCell ⟨g,1,none⟩ u).setCell ⟨g,2,none⟩ (.int .i64 h)).setCell ⟨g,3,none⟩ (.int .i64 b)).setCell ⟨g,4,none⟩ (.int .i64 n))∧
   w.grownBy ((((w.setCell ⟨g,1,none⟩ u).setCell ⟨g,2,none⟩ (.int .i64 h)).setCell ⟨g,3,none⟩ (.int .i64 b)).setCell ⟨g,4,none⟩ (.int .i64 n)) (some g):=by
 have g1:=grownBy.setCell w g 1 u;have g2:=g1.trans' (grownBy.setCell _ g 2 (.int .i64 h));have g3:=g2.trans' (grownBy.setCell _ g 3 (.int .i64 b));have g4:=g3.trans' (grownBy.setCell _ g 4 (.int .i64 n));have bb:Below base w _:=Below.of_grown g4 R.hb (fun k e=>by cases e;exact R.hg);have k4:=(((R.bx.set 1 (by simp) u).set 2 (by simp) (.int .i64 h)).set 3 (by simp) (.int .i64 b)).set 4 (by simp) (.int .i64 n);refine⟨R.kept ((Kept2.refl w g g).grown g4 (.inl rfl)) bb ⟨R.n1,R.n2,fun e=>(R.oa g e).1 rfl⟩ ?_ (z.grow g4 (fun i hi e=>(za i hi).1 (Option.some.inj e))) za,bb,g4⟩
 simpa using k4
theorem KK {base B g:Nat}(v vk fv sv cv ov_ cd ec:Value) (ws ks:List Int) (h b:Int) (n:Nat) (f:Bool) (tag:Int) (w:World) (kb:Bx w g #[fv,v,.int .i64 h,.int .i64 b,.int .i64 n,sv,cv,ov_,cd,ec])
  (ho:w.ownsRow base 3 1 v ws.length (ws.map (Value.int .i64))) (hg:base≤g) (hne:some g≠v.ownBlock) (rk:Rd B .i64 w vk ks) (hvk:∀k,vk.ownBlock=some k→v.ownBlock≠some k) (h0:0≤tag) (h1:tag≤3000) (h2:ks.length≤20) (hfit:n+1+ks.length≤ws.length) (hlen:ws.length≤6000):
  Calls Tryz.prog 142 #[.pointer (some ⟨g,1,none⟩),.bool f,.int .i64 tag,vk] w fun e w'=>e= .returned (.int .i64 n)∧
   w'.ownsRow base 3 1 v ws.length ((ov ws n (An f tag ks.length::ks)).map (Value.int .i64))∧Bx w' g #[fv,v,.int .i64 h,.int .i64 b,.int .i64 (n+ (1+ks.length)),sv,cv,ov_,cd,ec]∧Below base w w'∧ ∀gr,v.ownBlock=some gr→Kept2 w w' g gr:=by
 obtain⟨a,cap,rfl⟩:=AC ho;obtain⟨ka,kc,rfl⟩:=rk.form;rcases ho.2 with ⟨hv,_⟩ |⟨gr,cap',cur',hv,_⟩
 ·injection hv;omega
 cases hv
 have hbg:base≤gr:=(ho.lt gr rfl).1;have hcap:ws.length≤cap:=by obtain⟨_,_,_,_,h⟩:=Hk ho;exact h
 have q1:=kb.2.1;have f1:=kb.2.2;have y1:=kb.1;have hnn:(n:Int) < (ws.length:Int):=by omega
 have hgr:¬g=gr:=fun h=>hne (by rw[h];rfl);have hgr':¬gr=g:=fun h=>hgr h.symm;obtain⟨i0,hi,hz0,hz1,hz2⟩:=info_parts Tryz.infoI2;have hhd:=Hj f tag ks.length h0 h1 h2;obtain⟨hd,hhe⟩:∃hd,An f tag ks.length=hd:=⟨_,rfl⟩;have hC:=fun(w:World)=>M9 f tag ks.length w h0 h1 h2;rw[hhe]at hC hhd ⊢;obtain⟨hd0,hd1⟩:=hhd;have HC:=Lib.hid hC;clear hC hhe;generalize hwd:w.drew=w2;have bd:Below w.heap.size w w2:=by rw[←hwd];exact(Below.refl _ _).drew
 have k2:=kb.below bd y1;have bb:=bd.mono (show base≤w.heap.size by omega);have o2:=Al ho bd (Af ho);have o3:=Eh o2 n (by omega) (.int .i64 hd);rw[←List.map_set,Li _ (by omega)]at o3;have k3:=k2.grown (grownBy.setCell w2 gr n (.int .i64 hd)) (fun h=>hgr (Option.some.inj h));have bb3:=bb.setCell (p:=⟨gr,n,none⟩) hbg (.int .i64 hd);have r3:=(rk.below' bd).grow (grownBy.setCell w2 gr n (.int .i64 hd)) (fun i hi e=>hvk i hi e.symm);have c1:=AN o2 n (by omega);rw[List.getElem?_map,List.getElem?_eq_getElem (by omega),Option.map_some]at c1;have c2:=Cy o2 n;have q2:=k2.2.1;have f2:=k2.2.2;have q3:=k3.2.1;have kp:=(Kept2.drew w g gr);rw[hwd]at kp;have KP:=Lib.hid (kp.grown (grownBy.setCell w2 gr n (.int .i64 hd)) (.inr rfl));clear kp;have HW:=Lib.hid hwd;have O3:=Lib.hid o3;have K3:=Lib.hid k3;have B3:=Lib.hid bb3;have R3:=Lib.hid r3;clear kb ho k2 bb bd o2 o3 k3 bb3 r3 rk hwd;by_cases hk:ks.length=0
 ·have hkn:ks=[]:=List.eq_nil_of_length_eq_zero hk;subst hkn;by_cases hcp:cap=n+1
  ·subst hcp;go_enter Tryz.func142,Tryz.ntmps142;go_wp2_with fail
   go_still_tail 11,(by kernel_rfl)
   still_call (HC.out _)
   repeat still_step
   try refine wpStill_nil ?_
   change wpList _ _ _ _ _ w.drew;rw[HW.out];go_wp2_with ((with_reducible (show wpList _ _ _ (⟨_,.call ⟨.builtin .copy,_,_⟩,_,_,_,_⟩::_) _ _));refine wpList_copy_nothing rfl _ _ 27 27 rfl 3 Tryz.underlying27 (by kernel_rfl) _ _ _ _ _ _ rfl rfl (Nat.zero_min _) ?_);have o4:=O3.out;have k4:=K3.out;have bb4:=B3.out;have q4:=k4.2.1;have f4:=k4.2.2;have K4:=Lib.hid k4;have O4:=Lib.hid o4;have B4:=Lib.hid bb4;clear k4 o4 bb4;go_wp2;go_ret;exact⟨rfl,ownsRow_setCell_other O4.out (by intro h;exact hgr' (Option.some.inj h)) _,K4.out.set 4 (by simp) _,B4.out.setCell hg _,fun r hr=>by cases hr;exact KP.out.grown (grownBy.setCell _ g 4 _) (.inl rfl)⟩
  ·go_enter Tryz.func142,Tryz.ntmps142;go_wp2_with fail
   go_still_tail 11,(by kernel_rfl)
   still_call (HC.out _)
   repeat still_step
   try refine wpStill_nil ?_
   change wpList _ _ _ _ _ w.drew;rw[HW.out];go_wp2_with ((with_reducible (show wpList _ _ _ (⟨_,.call ⟨.builtin .copy,_,_⟩,_,_,_,_⟩::_) _ _));refine wpList_copy_nothing rfl _ _ 27 27 rfl 3 Tryz.underlying27 (by kernel_rfl) _ _ _ _ _ _ rfl rfl (Nat.zero_min _) ?_);have o4:=O3.out;have k4:=K3.out;have bb4:=B3.out;have q4:=k4.2.1;have f4:=k4.2.2;have K4:=Lib.hid k4;have O4:=Lib.hid o4;have B4:=Lib.hid bb4;clear k4 o4 bb4;go_wp2;go_ret;exact⟨rfl,ownsRow_setCell_other O4.out (by intro h;exact hgr' (Option.some.inj h)) _,K4.out.set 4 (by simp) _,B4.out.setCell hg _,fun r hr=>by cases hr;exact KP.out.grown (grownBy.setCell _ g 4 _) (.inl rfl)⟩
 ·have hcp:¬cap=n+1:=by omega
  have hka:∃ad,ka=some ad:=by
   rcases R3.out with ⟨h,_⟩ |⟨_,_,_,h,_⟩
   ·exact absurd (by rw[h];rfl) hk
   ·injection h with h;exact⟨_,h⟩
  obtain⟨ad,rfl⟩:=hka;have hnews:=(R3.out.news (Below.refl _ _)).2;obtain⟨cur,hc,hcl,_,_⟩:=Hk O3.out;have HN:=Lib.hid hnews;have HCU:=Lib.hid hc;clear hnews hc;go_enter Tryz.func142,Tryz.ntmps142;go_wp2_with fail
  go_still_tail 11,(by kernel_rfl)
  still_call (HC.out _)
  repeat still_step
  try refine wpStill_nil ?_
  change wpList _ _ _ _ _ w.drew;rw[HW.out];go_wp2_with ((with_reducible (show wpList _ _ _ (⟨_,.call ⟨.builtin .copy,_,_⟩,_,_,_,_⟩::_) _ _));refine wpList_copy_own rfl _ _ 27 27 rfl 3 Tryz.underlying27 (by kernel_rfl) gr (n+1) _ _ ad _ _ rfl rfl cur.toArray 3 HCU.out (ks.map (Value.int .i64)) (by rw[List.length_map];exact(Nat.min_eq_left (by omega)).symm) HN.out (by rw[List.size_toArray,List.length_map];omega) (Jb _ _) ?_;generalize hw4:World.setRow _ _ _=w4;have g4:=grownBy.row _ hw4;have hh4:w4.heap[gr]?=some (.cells (splice cur (n+1) (ks.map (Value.int .i64))).toArray 3 (0,0)):=(by rw[←hw4,setRow_heap _ gr _ _ _ _ HCU.out];simp[splice]);have k4:=K3.out.grown g4 (fun h=>hgr (Option.some.inj h));have q4:=k4.2.1;have f4:=k4.2.2;have K4:=Lib.hid k4;have H4:=Lib.hid hh4;have G4:=Lib.hid g4;clear k4 hh4 g4 hw4);have o4:=Lm O3.out cur HCU.out (n+1) (ks.map (Value.int .i64)) H4.out (by simp;omega);rw[show splice ((ov ws n [hd]).map (Value.int .i64)) (n+1) (ks.map (Value.int .i64))= (ov ws n (hd::ks)).map (Value.int .i64)by rw[Ll];exact congrArg _ (Lj _ _ _ _ (by omega)).symm]at o4;have bb4:=B3.out.trans (Below.of_grown (B:=base) G4.out (by have:=B3.out.size;omega) (fun k h=>by cases h;exact hbg));have O4:=Lib.hid o4;have B4:=Lib.hid bb4;clear o4 bb4;go_ret;exact⟨rfl,ownsRow_setCell_other O4.out (by intro h;exact hgr' (Option.some.inj h)) _,K4.out.set 4 (by simp) _,B4.out.setCell hg _,fun r hr=>by cases hr;exact(KP.out.grown G4.out (.inr rfl)).grown (grownBy.setCell _ g 4 _) (.inl rfl)⟩
theorem RunV.still {base:Nat}{w w':World}{g gs gc:Nat}{fv hv ov:Value}{p q:Nat}{L:VmL}(h:RunV base w g gs gc fv hv ov p q L) (hs:Still w w'):RunV base w' g gs gc fv hv ov p q L:=h.below (hs.below _)
theorem DS {base:Nat}{w:World}{g gs gc:Nat}{fv hv ov:Value}{p q:Nat}{L:VmL}(h:RunV base w g gs gc fv hv ov p q L) (hl:L.ss.length≤4294967296) (k:Nat) (hk:k < L.ss.length):
  Calls Tryz.prog 238 #[.pointer (some ⟨g,0,none⟩),.int .i64 k] w fun e w'=>e= .returned (.int .i64 (Ap L.ss k))∧Still w w':=by
 have q5:=h.bx.2.1 5;simp at q5;obtain⟨j,hj⟩:∃j,L.ss.length - 1 - k=j:=⟨_,rfl⟩;have hjl:j < L.ss.length:=by omega
 have c1:=AN h.s j hjl;rw[List.getElem?_map,List.getElem?_eq_getElem hjl,Option.map_some]at c1;have hw:Ap L.ss k=L.ss[j]:=by unfold Ap;rw[hj,List.getD_eq_getElem?_getD,List.getElem?_eq_getElem hjl];rfl
 have e1:IntKind.i64.wrap ((L.ss.length:Int) - 1)= ((L.ss.length - 1:Nat):Int):=by rw[IntWalk.i64_in _ (by omega)];omega
 have e2:IntKind.i64.wrap (((L.ss.length - 1:Nat):Int) - (k:Int))= (j:Int):=by rw[IntWalk.i64_in _ (by omega)];omega
 have hz:(L.ss.length:Int) - 1 - (k:Int)= (j:Int):=by omega
 rw[hw];clear h;go_enter Tryz.func238,Tryz.ntmps238;go_wp2_with fail;go_quiet (fail);go_wp2;go_ret;exact⟨rfl,_,rfl⟩
def GX (L:VmL) (x:Int):Prop:=x%2=0→0≤x∧hOk (L.zs.getD (x/2).toNat 0)=true∧(x/2).toNat+1+hK (L.zs.getD (x/2).toNat 0)≤L.zs.length
theorem FV {base:Nat}{w:World}{g gs gc:Nat}{fv hv ov:Value}{p q:Nat}{L:VmL}(h:RunV base w g gs gc fv hv ov p q L) (hl:L.zs.length≤6000) (hw:Au L.zs) (x:Int) (f:Bool) (hx:GX L x):
  Calls Tryz.prog 305 #[.pointer (some ⟨g,0,none⟩),.int .i64 x,.bool f] w fun e w'=>∃tg u,e= .returned (.tuple #[.int .i64 tg,u,.bool (AZ L.zs x f)])∧
   (AZ L.zs x f=true→tg=Bp L.zs x∧Rd w'.heap.size .i64 w' u (BE L.zs x))∧RunV base w' g gs gc fv hv ov p q L∧Below w.heap.size w w':=by
 by_cases hev:x%2=0
 ·obtain⟨x0,x1,x2⟩:=hx hev;have q1:=h.bx.2.1 1;have q2:=h.bx.2.1 2;have q3:=h.bx.2.1 3;have q4:=h.bx.2.1 4;simp at q1 q2 q3 q4;have hI:=Be x;rw[show(x%2==0)=true by simp[hev]]at hI;have hR:=ET x;rw[show x/2= (((x/2).toNat:Nat):Int)by omega]at hR;have HI:=Lib.hid hI;have HR:=Lib.hid hR;obtain⟨P,hP⟩:∃P,(x/2).toNat=P:=⟨_,rfl⟩;have hbk:AZ L.zs x f= (Ce (L.zs.getD P 0)==f):=by simp[AZ,hev,hP]
  have htg:Bp L.zs x=Az (L.zs.getD P 0):=by simp[Bp,hP]
  have hks:BE L.zs x=Ae L.zs P:=by simp[BE,hP]
  rw[hP]at x1 x2 hR;have HB:=Lib.hid (fun(W:World) (hb:Below w.heap.size w W)=>F5 hv L.zs L.h L.b L.n P W (h.below hb).z hw x1 x2 (by omega));have HH:=Lib.hid h;have HE:=Lib.hid (And.intro hbk (And.intro htg hks));rw[hP]at HR;obtain⟨ha,hc,rfl⟩:=h.z.form;have hbx:=h.bx.1;clear h hx hI hR x1 x2 hbk htg hks hP;go_enter Tryz.func305,Tryz.ntmps305;go_wp2_with fail;refine(HI.out _).mono ?_;rintro e w1 ⟨rfl,rfl⟩;go_wp2_with fail;refine wp_region_held_drew (S:=(fun w'=>w'.cell? ⟨g,1,none⟩=some (.slice ha L.zs.length hc)∧w'.cell? ⟨g,2,none⟩=some (.int .i64 L.h)∧w'.cell? ⟨g,3,none⟩=some (.int .i64 L.b)∧w'.cell? ⟨g,4,none⟩=some (.int .i64 L.n))) (by kernel_rfl) (by first | (dsimp only;exact⟨q1,q2,q3,q4⟩) | (exact⟨q1,q2,q3,q4⟩)) (fun hHeld=> ?_);refine tkH (i:=0) ?_;refine tkH (i:=1) ?_;refine tkH (i:=2) ?_;refine tkH (i:=3) ?_;refine tkH (i:=4) ?_;refine tkH (i:=5) ?_;refine rdH (i:=6) (fun K hK=> ?_);go_simp;refine(HR.out _).mono ?_;rintro e w1 ⟨rfl,rfl⟩;refine bkH hK (by first | (dsimp only;exact hHeld) | (exact hHeld)) (fun hHeld=> ?_);clear hK K;generalize hxd:w.drew=x0 at hHeld;have hd:Below w.heap.size w x0:=by rw[←hxd];exact(Below.refl _ _).drew
  clear hxd;refine rdH (i:=7) (fun K hK=> ?_);go_simp;refine(HB.out _ hd).mono ?_;rintro e w1 ⟨u,rfl,ru,b1⟩;refine bkH hK (by first | (dsimp only;exact⟨(b1.cell (Nat.lt_of_lt_of_le hbx hd.size)).trans hHeld.1,(b1.cell (Nat.lt_of_lt_of_le hbx hd.size)).trans hHeld.2.1,(b1.cell (Nat.lt_of_lt_of_le hbx hd.size)).trans hHeld.2.2.1,(b1.cell (Nat.lt_of_lt_of_le hbx hd.size)).trans hHeld.2.2.2⟩) | (exact⟨(b1.cell (Nat.lt_of_lt_of_le hbx hd.size)).trans hHeld.1,(b1.cell (Nat.lt_of_lt_of_le hbx hd.size)).trans hHeld.2.1,(b1.cell (Nat.lt_of_lt_of_le hbx hd.size)).trans hHeld.2.2.1,(b1.cell (Nat.lt_of_lt_of_le hbx hd.size)).trans hHeld.2.2.2⟩)) (fun hHeld=> ?_);clear hK K;refine tkH (i:=8) ?_;refine tkH (i:=9) ?_;refine tkH (i:=10) ?_;refine tkH (i:=11) ?_;refine tkH (i:=12) ?_;refine tkH (i:=13) ?_;refine tkH (i:=14) ?_;refine wpAnyH_done (by kernel_rfl) ?_ _;obtain⟨ua,uc,rfl⟩:=ru.form;go_wp2
  go_ret3
  obtain⟨e1,e2,e3⟩:=HE.out;rw[e1,e2,e3];exact⟨_,_,rfl,fun _=>⟨rfl,ru.mono (by have:=b1.size;omega)⟩,HH.out.below (hd.trans (b1.mono hd.size)),hd.trans (b1.mono hd.size)⟩
 ·have hI:=Be x;rw[show(x%2==0)=false by simp[hev]]at hI;have HI:=Lib.hid hI;have HE:=Lib.hid (show AZ L.zs x f=false by simp[AZ,hev]);have HH:=Lib.hid h;clear h hx hI;go_enter Tryz.func305,Tryz.ntmps305;go_wp2_with fail;refine(HI.out _).mono ?_;rintro e w1 ⟨rfl,rfl⟩;go_wp2
  go_ret3
  rw[HE.out];exact⟨_,_,rfl,fun h=>(by cases h),HH.out,Below.refl _ _⟩
structure Fits (L:VmL):Prop where
 z0:L.zs≠ []
 z1:L.zs.length≤6000
 z2:Au L.zs
 s1:L.ss.length≤600
 s2:∀x∈L.ss,x%2≠0→ -1073741824≤x/2∧x/2≤1073741823
 s3:∀x∈L.ss,GX L x
theorem Fn {ss:List Int}{k:Nat}(hk:k < ss.length):Ap ss k∈ss:=by
 unfold Ap;rw[List.getD_eq_getElem?_getD,List.getElem?_eq_getElem (show ss.length - 1 - k < ss.length by omega)];exact List.getElem_mem _
theorem Fits.sl {L:VmL}(h:Fits L):L.ss.length≤4294967296:=by have:=h.s1;omega
theorem Za {base:Nat}{w:World}{g gs gc:Nat}{fv hv ov:Value}{p q:Nat}{L:VmL}(h:RunV base w g gs gc fv hv ov p q L) (hf:Fits L) (x:Int) (hx:GX L x) (n:Nat):
  Calls Tryz.prog 232 #[.pointer (some ⟨g,0,none⟩),.int .i64 x,.int .i64 n] w fun e w'=>e= .returned (.int .i64 (Bt L x true n 0).1)∧
   (∃gs' p',RunV base w' g gs' gc fv hv ov p' q (Bt L x true n 0).2)∧Below base w w':=by
 have HB:=Lib.hid (FV h hf.z1 hf.z2 x true hx);have HP:=Lib.hid (fun(W:World) (hW:RunV base W g gs gc fv hv ov p q L) (y:Int)=>CS hW hf.z0 hf.sl 0 (Nat.zero_le _) y);have hb:=h.hb;have hzl:=hf.z1;clear h hf hx;go_enter Tryz.func232,Tryz.ntmps232;go_wp2_with fail;refine HB.out.mono ?_;rintro e w1 ⟨tg,u,rfl,hu,r1,b1⟩;have hbb:=b1.mono hb;by_cases hk:AZ L.zs x true=true
 ·obtain⟨rfl,ru⟩:=hu hk;obtain⟨ua,uc,rfl⟩:=ru.form;rw[hk];by_cases hn:((BE L.zs x).length:Int)≤ (n:Int)
  ·have HK:=Lib.hid (show Bt L x true n 0= (5,L)from if_pos (.inr hn));go_wp2;go_ret;rw[HK.out];exact⟨rfl,⟨gs,p,r1⟩,hbb⟩
  ·have hn':n < (BE L.zs x).length:=by omega
   have hK:Bt L x true n 0= ((AY L.ss 0 ((BE L.zs x).getD n 0)).1,{L with ss:=(AY L.ss 0 ((BE L.zs x).getD n 0)).2}):=by unfold Bt;rw[if_neg (by simp[hk];omega)];rfl
   obtain⟨y,hy⟩:∃y,(BE L.zs x).getD n 0=y:=⟨_,rfl⟩;rw[hy]at hK;have HK:=Lib.hid hK;have R1:=Lib.hid r1;rcases ru with ⟨h0,_⟩ |⟨bl,off,cap,hv,h2,h3,h4,h5⟩
   ·rw[h0]at hn';simp at hn'
   cases hv
   have c1:=h5 n hn';rw[hy]at c1;clear hK r1 h5 hu hy;go_wp2_with fail;refine(HP.out _ R1.out _).mono ?_;rintro e w2 ⟨rfl,hr2,b2⟩;go_wp2;go_ret;rw[HK.out];exact⟨rfl,hr2,hbb.trans b2⟩
 ·have hk':AZ L.zs x true=false:=by simpa using hk
  have HK:=Lib.hid (show Bt L x true n 0= (5,L)from if_pos (.inl hk'));rw[hk'];go_wp2;go_ret;rw[HK.out];exact⟨rfl,⟨gs,p,r1⟩,hbb⟩
theorem Zb {base:Nat}{w:World}{g gs gc:Nat}{fv hv ov:Value}{p q:Nat}{L:VmL}(h:RunV base w g gs gc fv hv ov p q L) (hf:Fits L) (h1:0 < L.ss.length) (hx:GX L (Ap L.ss 0)) (n:Nat):
  Calls Tryz.prog 236 #[.pointer (some ⟨g,0,none⟩),.int .i64 n] w fun e w'=>e= .returned (.int .i64 (Bt L (Ap L.ss 0) false n 1).1)∧
   (∃gs' p',RunV base w' g gs' gc fv hv ov p' q (Bt L (Ap L.ss 0) false n 1).2)∧Below base w w':=by
 obtain⟨x,hxx⟩:∃x,Ap L.ss 0=x:=⟨_,rfl⟩;have hL:=DS h hf.sl 0 h1;rw[hxx]at hx hL ⊢;have HL:=Lib.hid hL;have HB:=Lib.hid (fun(W:World) (hW:RunV base W g gs gc fv hv ov p q L)=>FV hW hf.z1 hf.z2 x false hx);have H0:=Lib.hid h;have HP:=Lib.hid (fun(W:World) (hW:RunV base W g gs gc fv hv ov p q L) (y:Int)=>CS hW hf.z0 hf.sl 1 h1 y);have hb:=h.hb;have hzl:=hf.z1;clear h hf hx hL hxx;go_enter Tryz.func236,Tryz.ntmps236;go_wp2_with fail;refine HL.out.mono ?_;rintro e w0 ⟨rfl,s0⟩;have r0:=H0.out.still s0;have b0:=(s0.below w.heap.size).mono hb;have hb0:=r0.hb;go_wp2_with fail;refine(HB.out _ r0).mono ?_;rintro e w1 ⟨tg,u,rfl,hu,r1,b1⟩;have hbb:=b0.trans (b1.mono hb0);by_cases hk:AZ L.zs x false=true
 ·obtain⟨rfl,ru⟩:=hu hk;obtain⟨ua,uc,rfl⟩:=ru.form;rw[hk];by_cases hn:((BE L.zs x).length:Int)≤ (n:Int)
  ·have HK:=Lib.hid (show Bt L x false n 1= (5,L)from if_pos (.inr hn));go_wp2;go_ret;rw[HK.out];exact⟨rfl,⟨gs,p,r1⟩,hbb⟩
  ·have hn':n < (BE L.zs x).length:=by omega
   have hK:Bt L x false n 1= ((AY L.ss 1 ((BE L.zs x).getD n 0)).1,{L with ss:=(AY L.ss 1 ((BE L.zs x).getD n 0)).2}):=by unfold Bt;rw[if_neg (by simp[hk];omega)];rfl
   obtain⟨y,hy⟩:∃y,(BE L.zs x).getD n 0=y:=⟨_,rfl⟩;rw[hy]at hK;have HK:=Lib.hid hK;have R1:=Lib.hid r1;rcases ru with ⟨h0,_⟩ |⟨bl,off,cap,hv,h2,h3,h4,h5⟩
   ·rw[h0]at hn';simp at hn'
   cases hv
   have c1:=h5 n hn';rw[hy]at c1;clear hK r1 h5 hu hy;go_wp2_with fail;refine(HP.out _ R1.out _).mono ?_;rintro e w2 ⟨rfl,hr2,b2⟩;go_wp2;go_ret;rw[HK.out];exact⟨rfl,hr2,hbb.trans b2⟩
 ·have hk':AZ L.zs x false=false:=by simpa using hk
  have HK:=Lib.hid (show Bt L x false n 1= (5,L)from if_pos (.inl hk'));rw[hk'];go_wp2;go_ret;rw[HK.out];exact⟨rfl,⟨gs,p,r1⟩,hbb⟩
theorem GY {base gb:Nat}{w:World}{g gs gc:Nat}{fv hv ov:Value}{p q:Nat}{L:VmL}(h:RunV base w g gs gc fv hv ov p q L) (kb:Bx w gb #[.pointer (some ⟨g,0,none⟩)])
  (hb:-6000≤L.b∧L.b≤6000) (hh:-6000≤L.h∧L.h≤6000) (hn:-6000≤L.n∧L.n≤6000):
  Calls Tryz.prog 306 #[.pointer (some ⟨gb,0,none⟩)] w fun e w'=>e= .returned (.int .i64 (A8 L))∧Still w w':=by
 have q2:=h.bx.2.1 2;have q3:=h.bx.2.1 3;have q4:=h.bx.2.1 4;have q0:=kb.2.1 0;simp at q0 q2 q3 q4;obtain⟨r,hr⟩:∃r,A8 L=r:=⟨_,rfl⟩;have e1:IntKind.i64.wrap (L.b+L.h)=L.b+L.h:=IntWalk.i64_in _ (by omega);have e2:IntKind.i64.wrap (L.b+L.h - L.n)=r:=by rw[IntWalk.i64_in _ (by omega),←hr];rfl
 have e3:L.b+L.h - L.n=r:=by rw[←hr];rfl
 rw[hr];clear h kb hr;go_enter Tryz.func306,Tryz.ntmps306;go_wp2_with fail;go_quiet (fail);go_wp2;go_ret;exact⟨by first |rfl | (rw[e3]) | (simp[e3]),_,rfl⟩
structure MkOk (L:VmL) (k:Nat):Prop where
 z0:L.zs≠ []
 z1:L.zs.length≤6000
 z2:Au L.zs
 s1:L.ss.length≤600
 kl:k≤L.ss.length
 s0:0 < L.ss.length
 hb:-6000≤L.b∧L.b≤6000
 hh:-6000≤L.h∧L.h≤6000
 hn:0≤L.n∧L.n≤6000
 fit:L.b+L.h≤L.zs.length
theorem Pl {L:VmL}{f:Bool}{tag:Int}{k:Nat}(h:A8 L < 1+k):BV L f tag k= (2,L):=by unfold BV;rw[if_pos h]
theorem KM {L:VmL}{f:Bool}{tag:Int}{k m:Nat}(h:¬A8 L < 1+k) (hm:L.ss.length - k=m):BV L f tag k= ((AY L.ss k (2*L.n)).1,{L with zs:=ov L.zs L.n.toNat (An f tag k::L.ss.drop m),n:=L.n+ (1+k),ss:=(AY L.ss k (2*L.n)).2}):=by
 unfold BV;rw[if_neg h,hm]
theorem Zh {base:Nat}{w:World}{g gs gc:Nat}{fv hv ov:Value}{p q:Nat}{L:VmL}(h:RunV base w g gs gc fv hv ov p q L) (f:Bool) (tag:Int) (k:Nat) (h0:0≤tag) (h1:tag≤3000) (h2:k≤20) (hM:MkOk L k)
  (he:L.each=false) (hr:¬A8 L < 1+ (k:Int)):
  Calls Tryz.prog 233 #[.pointer (some ⟨g,0,none⟩),.bool f,.int .i64 tag,.int .i64 k] w fun e w'=>e= .returned (.int .i64 (Bb L f tag k).1)∧
   (∃gs' gc' hv' p' q',RunV base w' g gs' gc' fv hv' ov p' q' (Bb L f tag k).2)∧Below base w w':=by
 obtain⟨m,hm⟩:∃m,L.ss.length - k=m:=⟨_,rfl⟩;have HK:=Lib.hid (show Bb L f tag k=BV L f tag k by unfold Bb;rw[if_neg (by rintro(e |e);(·rw[he]at e;cases e);exact hr e)]);have MO:=Lib.hid hM;have q6:=h.bx.2.1 9;simp at q6;rw[he]at q6;have H0:=Lib.hid h;have hbs:=h.hb;have hgl:=h.bx.1;have er:IntKind.i64.wrap (1+ (k:Int))=1+ (k:Int):=IntWalk.i64_in _ (by omega);have hml:m+k=L.ss.length:=by have:=hM.kl;omega
 have em:IntKind.i64.wrap ((L.ss.length:Int) - (k:Int))= (m:Int):=by have:=hM.s1;rw[IntWalk.i64_in _ (by omega)];omega
 have hlp:L.ss.length≤p:=DU h.s;have hmp:m≤p:=by omega
 have hm2:m≤L.ss.length:=by omega
 obtain⟨nN,hN⟩:∃nN:Nat,L.n= (nN:Int):=⟨L.n.toNat,by have:=hM.hn;omega⟩;have HN:=Lib.hid hN;have hdl:(L.ss.drop m).length=k:=by rw[List.length_drop];omega
 have HROOM:=Lib.hid hr;clear h hM hN;go_enter Tryz.func233,Tryz.ntmps233;go_wp2_with fail;generalize hxx:w.alloc _=x0;obtain⟨bx,kb⟩:=Bx.alloc hxx;clear hxx;have R1:=Lib.hid (H0.out.below bx);have KB:=Lib.hid kb;have B1:=Lib.hid (bx.mono hbs);have hgw:¬w.heap.size=g:=by omega
 have KB0:=KB.out;refine(GY R1.out KB0 MO.out.hb MO.out.hh (by have:=MO.out.hn;omega)).mono ?_;rintro e w4 ⟨rfl,s5⟩;replace R1:=Lib.hid (R1.out.still s5);replace KB:=Lib.hid (KB.out.below (s5.below _) KB.out.1);replace B1:=Lib.hid (B1.out.trans (s5.below base));clear KB0 s5;have q0:=KB.out.2.1 0;simp at q0;go_wp2_with fail;have KB0:=KB.out;refine(GY R1.out KB0 MO.out.hb MO.out.hh (by have:=MO.out.hn;omega)).mono ?_;rintro e w5 ⟨rfl,s5⟩;replace R1:=Lib.hid (R1.out.still s5);replace KB:=Lib.hid (KB.out.below (s5.below _) KB.out.1);replace B1:=Lib.hid (B1.out.trans (s5.below base));clear KB0 s5;have q0:=KB.out.2.1 0;simp at q0;have HP:=Lib.hid (HK.out.trans ((KM (by omega) hm).trans (by rw[HN.out];rfl:_= ((AY L.ss k (2* (nN:Int))).1,({L with zs:=Go.Proofs.YtfmebaafpfkeiaaGreat.ov L.zs nN (An f tag k::L.ss.drop m),n:=(nN:Int)+ (1+ (k:Int)),ss:=(AY L.ss k (2* (nN:Int))).2}:VmL)))));have q1:=R1.out.bx.2.1 1;have q2:=R1.out.bx.2.1 2;have q3:=R1.out.bx.2.1 3;have q4:=R1.out.bx.2.1 4;simp at q1 q2 q3 q4;have ygb:=KB.out.1;have yg:=R1.out.bx.1;go_wp2_with fail;refine AV 7 (S:=(fun w'=>w'.cell? ⟨w.heap.size,0,none⟩=some (.pointer (some ⟨g,0,none⟩))∧w'.cell? ⟨g,1,none⟩=some hv∧w'.cell? ⟨g,2,none⟩=some (.int .i64 L.h)∧w'.cell? ⟨g,3,none⟩=some (.int .i64 L.b)∧w'.cell? ⟨g,4,none⟩=some (.int .i64 L.n))) (by kernel_rfl) (by kernel_rfl) (by first | (dsimp only;exact⟨q0,q1,q2,q3,q4⟩) | (exact⟨q0,q1,q2,q3,q4⟩)) (fun hHeld=> ?_);clear q0 q1 q2 q3 q4 ygb yg;refine tkT (i:=0) ?_;refine tkT (i:=1) ?_;refine tkT (i:=2) ?_;refine tkT (i:=3) ?_;refine tkT (i:=4) ?_;refine tkT (i:=5) ?_;generalize hxd:w5.drew=x5 at hHeld;have hd:Below w5.heap.size w5 x5:=by rw[←hxd];exact(Below.refl _ _).drew
 have R2:=Lib.hid (R1.out.below hd);have K2:=Lib.hid (KB.out.below hd KB.out.1);have B2:=Lib.hid (B1.out.trans (hd.mono R1.out.hb));clear hxd hd R1 KB B1;refine rdT (i:=6) (fun K hK=> ?_);go_simp;refine(Gy hv L.zs L.h L.b L.n _ R2.out.z (by have:=MO.out.z1;omega)).mono ?_;rintro e w6 ⟨v6,rfl,o6,b6⟩;obtain⟨gr,d6,rfl,hb6,hl6⟩:=BU o6 (List.length_pos_iff.2 MO.out.z0);refine bkT hK (by first | (dsimp only;exact⟨(b6.cell K2.out.1).trans hHeld.1,(b6.cell R2.out.bx.1).trans hHeld.2.1,(b6.cell R2.out.bx.1).trans hHeld.2.2.1,(b6.cell R2.out.bx.1).trans hHeld.2.2.2.1,(b6.cell R2.out.bx.1).trans hHeld.2.2.2.2⟩) | (exact⟨(b6.cell K2.out.1).trans hHeld.1,(b6.cell R2.out.bx.1).trans hHeld.2.1,(b6.cell R2.out.bx.1).trans hHeld.2.2.1,(b6.cell R2.out.bx.1).trans hHeld.2.2.2.1,(b6.cell R2.out.bx.1).trans hHeld.2.2.2.2⟩)) (fun hHeld=> ?_);clear hK K;have R3:=R2.out.below b6;have z6:Rd w6.heap.size .i64 w6 (slv gr L.zs.length d6) L.zs:=Rd.of_own o6;have hz6:∀k,(slv gr L.zs.length d6).ownBlock=some k→x5.heap.size≤k:=fun k hk=>(o6.lt k hk).1;have hgr:gr≠g∧gr≠gs∧gr≠gc∧ov.ownBlock≠some gr∧gr≠w.heap.size:=by
  have l6:=R2.out.lts;have lg6:=R2.out.bx.1;have lo6:=Af R2.out.o;have lk6:=K2.out.1;refine⟨by omega,by omega,by omega,fun e=> ?_,by omega⟩;have:=lo6 gr e;omega
 have l6:=R2.out.lts;have lg6:=R2.out.bx.1;have lo6:=Af R2.out.o;have H4:=R3.heap4 z6 (h:=L.h) (b:=L.b) (n:=L.n) (fun k hk=>by
  have:=hz6 k hk;refine⟨by omega,by omega,by omega,fun e=> ?_⟩;have:=lo6 k e;omega)
 have K3:=Lib.hid ((K2.out.below b6 K2.out.1).grown H4.2.2 (fun e=>by have e':=Option.some.inj e;have:=K2.out.1;exact hgw e'));have O4:=Lib.hid ((AR o6 (show base≤x5.heap.size from R2.out.hb)).kept H4.2.2 (.inr (fun e=>by have:=hz6 _ e;omega)));have R4:=Lib.hid H4.1;have B4:=Lib.hid ((B2.out.trans (b6.mono R2.out.hb)).trans H4.2.1);have HZ6:=Lib.hid hz6;have c6:=R3.bx.2.1;have f6:=R3.bx.2.2;have y6:=R3.bx.1;clear H4 hz6 z6 o6 b6 R3 lo6 K2 B2;refine AU (by kernel_rfl) ?_;dsimp only[List.drop];go_wp2_with fail;generalize hx7:(World.setCell (World.setCell (World.setCell (World.setCell w6 _ _) _ _) _ _) _ _)=w7 at R4 O4 B4 K3 ⊢;clear hx7 c6 f6 y6 hHeld;have q0:=K3.out.2.1 0;have q5:=R4.out.bx.2.1 5;simp at q0 q5;refine AV 20 (S:=(fun w'=>w'.cell? ⟨w.heap.size,0,none⟩=some (.pointer (some ⟨g,0,none⟩))∧w'.cell? ⟨g,5,none⟩=some (slv gs L.ss.length p))) (by kernel_rfl) (by kernel_rfl) (by first | (dsimp only;exact⟨q0,q5⟩) | (exact⟨q0,q5⟩)) (fun hHeld=> ?_);clear q0 q5;refine tkT (i:=0) ?_;refine tkT (i:=1) ?_;refine tkT (i:=2) ?_;refine tkT (i:=3) ?_;refine tkT (i:=4) ?_;refine tkT (i:=5) ?_;refine tkT (i:=6) ?_;refine tkT (i:=7) ?_;refine tkT (i:=8) ?_;refine tkT (i:=9) ?_;refine tkT (i:=10) ?_;refine tkT (i:=11) ?_;refine tkT (i:=12) ?_;refine tkT (i:=13) ?_;refine tkT (i:=14) ?_;refine tkT (i:=15) ?_;refine tkT (i:=16) ?_;refine tkT (i:=17) ?_;refine tkT (i:=18) ?_;refine tkT (i:=19) ?_;generalize hxd:w7.drew=x7 at hHeld;have hd:Below w7.heap.size w7 x7:=by rw[←hxd];exact(Below.refl _ _).drew
 have R5:=Lib.hid (R4.out.below hd);have K5:=Lib.hid (K3.out.below hd K3.out.1);have B5:=Lib.hid (B4.out.trans (hd.mono R4.out.hb));have O5:=Lib.hid (Al O4.out hd (Af O4.out));clear hxd hd R4 K3 B4 O4;refine AU (by kernel_rfl) ?_;dsimp only[List.drop];have kb8:Bx x7 g #[fv,slv gr L.zs.length d6,.int .i64 L.h,.int .i64 L.b,.int .i64 (nN:Int),slv gs L.ss.length p,slv gc L.cs.length q,ov,.int .i64 L.code,.bool L.each]:=by have:=R5.out.bx;rw[←HN.out];exact this
 have hrk:∀vk:Value,Rd x7.heap.size .i64 x7 vk (L.ss.drop m)→(∀i,vk.ownBlock=some i→i=gs)→
   Calls Tryz.prog 142 #[.pointer (some ⟨g,1,none⟩),.bool f,.int .i64 tag,vk] x7 fun e w'=>e= .returned (.int .i64 (nN:Int))∧
    RunV base w' g gs gc fv (slv gr L.zs.length d6) ov p q {L with zs:=Go.Proofs.YtfmebaafpfkeiaaGreat.ov L.zs nN (An f tag k::L.ss.drop m),n:=(nN:Int)+ (1+ (k:Int))}∧Below base x7 w'∧Bx w' w.heap.size #[.pointer (some ⟨g,0,none⟩)]:=fun vk hvk hvb=>by
  have HA:=KK (base:=base) (slv gr L.zs.length d6) vk fv (slv gs L.ss.length p) (slv gc L.cs.length q) ov (.int .i64 L.code) (.bool L.each) L.zs (L.ss.drop m) L.h L.b nN f tag x7 kb8 O5.out R5.out.hg
   (fun e=>hgr.1 (Option.some.inj e).symm) hvk (fun i hi e=>hgr.2.1 ((Option.some.inj e).trans (hvb i hi))) h0 h1 (by rw[hdl];exact h2) (by rw[hdl];have:=MO.out.fit;have:=MO.out.hn;have hroom:=HROOM.out;have:=HN.out;unfold A8 at hroom;omega) MO.out.z1
  rw[hdl]at HA;refine HA.mono ?_;rintro e w8 ⟨he,o8,k8,b8,kp8⟩;have kq:=kp8 gr rfl;refine⟨he,?_,b8,K5.out.kept2 kq hgw (fun e=>hgr.2.2.2.2 e.symm)⟩;have R8:=R5.out.kept kq b8 ⟨hgr.2.1,hgr.2.2.1,hgr.2.2.2.1⟩ k8 (Rd.of_own o8) (fun i hi=>by cases hi;exact⟨hgr.1,hgr.2.1,hgr.2.2.1,hgr.2.2.2.1⟩);exact R8
 have HRK:=Lib.hid hrk;have hdr:=R5.out.kidsRd (m:=m) (k:=L.ss.length - m) (c:=p - m) (by (try dsimp only);omega) (by (try dsimp only);omega) (by have:=MO.out.s1;(try dsimp only);omega);have HDR:=Lib.hid hdr;have hgo:∀vk:Value,(p=m→vk= .slice (some ⟨gs,0,none⟩) (L.ss.length - m) 0)→(¬p=m→vk= .slice (some ⟨gs,m,none⟩) (L.ss.length - m) (p - m))→Rd x7.heap.size .i64 x7 vk (L.ss.drop m)∧ ∀i,vk.ownBlock=some i→i=gs:=fun vk e1 e2=>by
  by_cases hpm:p=m
  ·rw[e1 hpm];have h0:L.ss.length - m=0:=by omega
   refine⟨.inl ⟨List.drop_eq_nil_of_le (by omega),_,_,by rw[h0]⟩,fun i hi=>by cases hi;rfl⟩
  ·rw[e2 hpm];exact⟨HDR.out,fun i hi=>by cases hi;rfl⟩
 have HGO:=Lib.hid hgo;have HZZ:=Lib.hid (show Go.Proofs.YtfmebaafpfkeiaaGreat.ov L.zs nN (An f tag k::L.ss.drop m)≠ []by
  have:=MO.out.fit;have:=MO.out.hn;have hroom:=HROOM.out;have:=HN.out;unfold A8 at hroom;have hl:(Go.Proofs.YtfmebaafpfkeiaaGreat.ov L.zs nN (An f tag k::L.ss.drop m)).length=L.zs.length:=Fp (by rw[List.length_cons,hdl];omega);intro e;rw[e]at hl;exact MO.out.z0 (List.eq_nil_of_length_eq_zero hl.symm))
 have HRW:=Lib.hid (fun(W:World)=>(show Calls Tryz.prog 144 #[.int .i64 (nN:Int)] W fun e w'=>e= .returned (.int .i64 (2* (nN:Int)))∧W=w' from by
  have hrw:Du (nN:Int)=2* (nN:Int):=by have:=MO.out.hn;have:=HN.out;unfold Du;rw[if_pos (Aw.2 ⟨by omega,by omega⟩)]
  have:=I5 (nN:Int) W;rw[hrw]at this;exact this))
 clear hrk hdr hgo kb8 O5 K5 R5 hHeld;go_wp2_with fail
 ·refine(HRK.out _ (HGO.out _ (fun e=>by first |rfl |contradiction | (exact absurd e ‹_›)) (fun e=>by first |rfl |contradiction | (exact absurd ‹_› e))).1 (HGO.out _ (fun e=>by first |rfl |contradiction | (exact absurd e ‹_›)) (fun e=>by first |rfl |contradiction | (exact absurd ‹_› e))).2).mono ?_;rintro e w8 ⟨rfl,r8,b8,k8⟩;have q0:=k8.2.1 0;simp at q0;have R8:=Lib.hid r8;have B8:=Lib.hid (B5.out.trans b8);clear r8 b8;go_wp2_with fail;refine AV 4 (S:=(fun w'=>w'.cell? ⟨w.heap.size,0,none⟩=some (.pointer (some ⟨g,0,none⟩)))) (by kernel_rfl) (by kernel_rfl) (by first | (dsimp only;exact q0) | (exact q0)) (fun hHeld=> ?_);refine tkT (i:=0) ?_;refine tkT (i:=1) ?_;refine tkT (i:=2) ?_;refine rdT (i:=3) (fun K hK=> ?_);go_simp;refine(HRW.out _).mono ?_;rintro e w9 ⟨rfl,rfl⟩;refine bkT hK (by first | (dsimp only;exact hHeld) | (exact hHeld)) (fun hHeld=> ?_);clear hK K;generalize hxd:w8.drew=x9 at hHeld;have hd:Below w8.heap.size w8 x9:=by rw[←hxd];exact(Below.refl _ _).drew
  have R9:=Lib.hid (R8.out.below hd);have B9:=Lib.hid (B8.out.trans (hd.mono R8.out.hb));clear hxd hd R8 B8 k8 q0;refine AU (by kernel_rfl) ?_;dsimp only[List.drop];go_wp2_with fail;refine(CS R9.out HZZ.out (by have:=MO.out.s1;dsimp only;omega) k MO.out.kl _).mono ?_;rintro e w10 ⟨rfl,⟨gs',p',R10⟩,b10⟩;have RX:=Lib.hid R10;clear R10;go_wp2;go_ret;rw[HP.out];exact⟨rfl,⟨gs',gc,_,p',q,RX.out⟩,B9.out.trans b10⟩
 ·refine(HRK.out _ (HGO.out _ (fun e=>by first |rfl |contradiction | (exact absurd e ‹_›)) (fun e=>by first |rfl |contradiction | (exact absurd ‹_› e))).1 (HGO.out _ (fun e=>by first |rfl |contradiction | (exact absurd e ‹_›)) (fun e=>by first |rfl |contradiction | (exact absurd ‹_› e))).2).mono ?_;rintro e w8 ⟨rfl,r8,b8,k8⟩;have q0:=k8.2.1 0;simp at q0;have R8:=Lib.hid r8;have B8:=Lib.hid (B5.out.trans b8);clear r8 b8;go_wp2_with fail;refine AV 4 (S:=(fun w'=>w'.cell? ⟨w.heap.size,0,none⟩=some (.pointer (some ⟨g,0,none⟩)))) (by kernel_rfl) (by kernel_rfl) (by first | (dsimp only;exact q0) | (exact q0)) (fun hHeld=> ?_);refine tkT (i:=0) ?_;refine tkT (i:=1) ?_;refine tkT (i:=2) ?_;refine rdT (i:=3) (fun K hK=> ?_);go_simp;refine(HRW.out _).mono ?_;rintro e w9 ⟨rfl,rfl⟩;refine bkT hK (by first | (dsimp only;exact hHeld) | (exact hHeld)) (fun hHeld=> ?_);clear hK K;generalize hxd:w8.drew=x9 at hHeld;have hd:Below w8.heap.size w8 x9:=by rw[←hxd];exact(Below.refl _ _).drew
  have R9:=Lib.hid (R8.out.below hd);have B9:=Lib.hid (B8.out.trans (hd.mono R8.out.hb));clear hxd hd R8 B8 k8 q0;refine AU (by kernel_rfl) ?_;dsimp only[List.drop];go_wp2_with fail;refine(CS R9.out HZZ.out (by have:=MO.out.s1;dsimp only;omega) k MO.out.kl _).mono ?_;rintro e w10 ⟨rfl,⟨gs',p',R10⟩,b10⟩;have RX:=Lib.hid R10;clear R10;go_wp2;go_ret;rw[HP.out];exact⟨rfl,⟨gs',gc,_,p',q,RX.out⟩,B9.out.trans b10⟩
theorem KN {L:VmL}(hr:AW L.zs L.h L.b L.n L.ss=true) (hz:Au L.zs):∃ (h b n:Nat) (ps:List Nat),L.h=h∧L.b=b∧L.n=n∧Right L.zs h b n ps∧L.ss.all (Ai ps)=true∧b≤h∧
  AJ L= {L with zs:=lay (h - b) L.zs.length (mvd L.zs (h - b) (Ao L.zs L.ss) (Ao L.zs L.ss)),b:=((h - b:Nat):Int),n:=((h - b+ (raw L.zs (Ao L.zs L.ss)).length:Nat):Int),ss:=L.ss.map (mv L.zs (h - b) (Ao L.zs L.ss))}∧
  (lay (h - b) L.zs.length (mvd L.zs (h - b) (Ao L.zs L.ss) (Ao L.zs L.ss))).length=L.zs.length∧Au (lay (h - b) L.zs.length (mvd L.zs (h - b) (Ao L.zs L.ss) (Ao L.zs L.ss)))∧(raw L.zs (Ao L.zs L.ss)).length≤h:=by
 obtain⟨h,b,n,ps,e1,e2,e3,hR,hx⟩:=Right.ofR hr;have hbh:b≤h:=by have:=hR.frame.base;omega
 have h1:=hR.raw_le (EU hR hx);have h2:=hR.frame.len;have h3:=hR.frame.h1;have hl:(lay (h - b) L.zs.length (mvd L.zs (h - b) (Ao L.zs L.ss) (Ao L.zs L.ss))).length=L.zs.length:=F6 (by rw[Df];omega);refine⟨h,b,n,ps,e1,e2,e3,hR,hx,hbh,?_,hl,Jc (KC hR (EU hR hx) (by omega) hz _),h1⟩;unfold AJ;rw[e1,e2,e3]at hr ⊢;rw[Hq hbh hr]
theorem MkOk.moved {L:VmL}{k:Nat}(M:MkOk L k) (hr:AW L.zs L.h L.b L.n L.ss=true):MkOk (AJ L) k:=by
 obtain⟨h,b,n,ps,e1,e2,e3,hR,hx,hbh,e,hl,hi,hraw⟩:=KN hr M.z2;have h2:=hR.frame.len;have h3:=hR.frame.h1;have h0:=hR.frame.h0;rw[e];refine⟨fun e=> ?_,by dsimp only;rw[hl];exact M.z1,hi,by dsimp only;rw[List.length_map];exact M.s1,by dsimp only;rw[List.length_map];exact M.kl,by dsimp only;rw[List.length_map];exact M.s0,?_,?_,?_,?_⟩
 ·dsimp only at e;rw[e]at hl;exact M.z0 (List.eq_nil_of_length_eq_zero hl.symm)
 ·dsimp only;omega
 ·dsimp only;omega
 ·dsimp only;omega
 ·dsimp only;rw[hl,e1];omega
structure IsMoved (L M:VmL):Prop where
 f:M.fs=L.fs
 h:M.h=L.h
 c:M.cs=L.cs
 o:M.os=L.os
 code:M.code=L.code
 each:M.each=L.each
theorem IsMoved.run {L M:VmL}(i:IsMoved L M) {base:Nat}{w:World}{g gs gc:Nat}{fv hv ov:Value}{p q:Nat}(R:RunV base w g gs gc fv hv ov p q {L with zs:=M.zs,h:=L.h,b:=M.b,n:=M.n,ss:=M.ss}):RunV base w g gs gc fv hv ov p q M:=by
 obtain⟨mf,mz,mh,mb,mn,mss,mcs,mos,mcode,meach⟩:=M;obtain⟨e1,e2,e3,e4,e5,e6⟩:=i;dsimp only at e1 e2 e3 e4 e5 e6;subst e1 e2 e3 e4 e5 e6;exact R
theorem Po (L:VmL):IsMoved L (AJ L):=⟨rfl,rfl,rfl,rfl,rfl,rfl⟩
theorem Pp {L:VmL}(hr:AW L.zs L.h L.b L.n L.ss=true) (hz:Au L.zs) (hl:L.ss.length≤4294967296) (v vr:Value) (w:World) (rz:Rd w.heap.size .i64 w v L.zs) (rs:Rd w.heap.size .i64 w vr L.ss):
  Calls Tryz.prog 68 #[.agg #[v,.int .i64 L.h,.int .i64 L.b,.int .i64 L.n],vr] w fun e w'=>∃uv qv,e= .returned (.tuple #[.agg #[uv,.int .i64 L.h,.int .i64 (AJ L).b,.int .i64 (AJ L).n],qv])∧
   w'.ownsRow w.heap.size 3 1 uv (AJ L).zs.length ((AJ L).zs.map (Value.int .i64))∧w'.ownsRow w.heap.size 3 1 qv (AJ L).ss.length ((AJ L).ss.map (Value.int .i64))∧Below w.heap.size w w'∧Diff uv qv:=by
 obtain⟨h,b,n,ps,e1,e2,e3,hR,hx,hbh,e,hl',hi,hraw⟩:=KN hr hz;rw[e,e1,e2,e3];dsimp only;rw[hl',List.length_map];exact Lx v vr L.zs L.ss h b n ps w hR rz hz rs hx hl
end Go.Proofs.YtfmebaafpfkeiaaGreat
