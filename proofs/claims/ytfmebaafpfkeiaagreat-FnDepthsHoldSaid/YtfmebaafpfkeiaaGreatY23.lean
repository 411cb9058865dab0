/- Parts of the proof of FnDepthsHold, FnEnds, FnMeant, FnMovedWhenever, FnSizes. -/
import Derived.Test.YtfmebaafpfkeiaaGreatY22
import Derived.Test.YtfmebaafpfkeiaaGreatY12
import Derived.Test.YtfmebaafpfkeiaaGreatY17
import Derived.Test.YtfmebaafpfkeiaaGreatY16
set_option linter.unusedVariables false
set_option linter.unusedSimpArgs false
set_option maxRecDepth 1000000
set_option maxHeartbeats 16000000
namespace Go.Proofs.YtfmebaafpfkeiaaGreat
open Go.RowKit
structure NewRows (base:Nat) (W:World) (fv hv sv cv:Value) (fs:List F2) (half:Nat):Prop where
 f:OwnF base W fv fs
 z:W.ownsRow base 3 1 hv (2*half) ((List.replicate (2*half) 0).map (Value.int .i64))
 s:W.ownsRow base 3 1 sv 2 ([1,1].map (Value.int .i64))
 c:W.ownsRow base 63 3 cv 1 (flat O3.enc [⟨0,0,1⟩])
theorem DT {base size:Nat}{e:TypeId}(w:World) (cur:Array Value) (n:Nat) (hb:base≤w.heap.size) (hm:n≤maxLen) (hs:cur.size=n*size):(w.alloc (.cells cur e)).ownsRow base e size (.slice (some ⟨w.heap.size,0,none⟩) n n) n cur.toList:=
 ⟨by rw[Array.length_toList];exact hs,.inr ⟨w.heap.size,n,cur,rfl,hb,heap_alloc_new w _,Nat.le_refl _,hm,hs,List.take_of_length_le (by rw[Array.length_toList];omega)⟩⟩
theorem NewRows.setCell {base:Nat}{W:World}{fv hv sv cv:Value}{fs:List F2}{half:Nat}(h:NewRows base W fv hv sv cv fs half) {a:Addr}(ha:a.block < base) (u:Value):NewRows base (W.setCell a u) fv hv sv cv fs half:=
 ⟨OwnF.setCell h.f ha u,ownsRow_setCell_below h.z ha u,ownsRow_setCell_below h.s ha u,ownsRow_setCell_below h.c ha u⟩
structure Kp (B0:Nat) (w:World) (v:Value) (fs:List F2) (W:World):Prop where
 le:B0≤w.heap.size
 below:Below B0 w W
 rd:RdF w.heap.size W v fs
theorem Kp.size {B0:Nat}{w W:World}{v:Value}{fs:List F2}(h:Kp B0 w v fs W):w.heap.size≤W.heap.size:=h.below.size
theorem Kp.trans {B0:Nat}{w W W':World}{v:Value}{fs:List F2}(h:Kp B0 w v fs W) (hb:Below w.heap.size W W'):Kp B0 w v fs W':=⟨h.le,h.below.trans (hb.mono h.le),h.rd.below hb (Nat.le_refl _)⟩
theorem Kp.setCell {B0:Nat}{w W:World}{v:Value}{fs:List F2}(h:Kp B0 w v fs W) {a:Addr}(ha:w.heap.size≤a.block) (u:Value):Kp B0 w v fs (W.setCell a u):=h.trans ((Below.refl _ _).setCell ha u)
structure Ke (w W W':World):Prop where
 size:W.heap.size≤W'.heap.size
 block:∀k,w.heap.size≤k→k < W.heap.size→W'.heap[k]?=W.heap[k]?
theorem Bx.ke {w W W':World}{g:Nat}{cur:Array Value}(h:Bx W g cur) (k:Ke w W W') (hg:w.heap.size≤g):Bx W' g cur:=
 ⟨Nat.lt_of_lt_of_le h.1 k.size,fun j=>(World.cell?_of_block (k.block g hg h.1)).trans (h.2.1 j),fun j=>(World.frozen?_of_block (k.block g hg h.1)).trans (h.2.2 j)⟩
theorem Zc {base:Nat}{e:TypeId}{sz:Nat}{w W W':World}{v:Value}{n:Nat}{xs:List Value}(h:W.ownsRow base e sz v n xs) (k:Ke w W W') (hb:w.heap.size≤base):W'.ownsRow base e sz v n xs:=by
 refine⟨h.1,?_⟩;rcases h.2 with hn |⟨b,cap,cur,rfl,hbs,hg,rest⟩
 ·exact .inl hn
 ·refine .inr ⟨b,cap,cur,rfl,hbs,?_,rest⟩;rw[k.block b (Nat.le_trans hb hbs) (Af h b rfl)];exact hg
theorem Zd {B B0:Nat}(v:Value) (fs:List F2) (half:Nat) (each:Bool) (w:World) (hr:RdF B w v fs) (hn:fs.length≤1000) (ht:tot fs≤4294967296) (h1:1≤half) (h2:half≤3000)
  (HV:∀W,Below w.heap.size w W→Calls Tryz.prog 156 #[v] W fun e w'=>e= .returned (.bool true)∧Kp B0 w v fs w'∧Ke w W w'):
  Calls Tryz.prog 84 #[v,.int .i64 half,.bool each] w fun e w'=>∃fv hv sv cv ov,e= .returned (.tuple #[vmV fv hv sv cv ov (Ba fs half each),.bool true])∧OwnV (w.heap.size+1) w' fv hv sv cv ov (Ba fs half each)∧Below B0 w w':=by
 have hin:inB (half:Int) 1 3000=true:=Aw.2 ⟨by omega,by omega⟩;have hnw:Ez (half:Int)=List.replicate (2*half) 0:=by unfold Ez;rw[if_pos hin];simp
 have HH:=Lib.hid (fun(W:World)=>(show Calls Tryz.prog 157 #[.int .i64 half] W fun e w'=>∃v,e= .returned (.tuple #[.agg #[v,.int .i64 half,.int .i64 0,.int .i64 0],.bool true])∧
   w'.ownsRow W.heap.size 3 1 v (2*half) ((List.replicate (2*half) 0).map (Value.int .i64))∧Below W.heap.size W w' from by
  have:=Vn half W;rw[hin,hnw,List.length_replicate]at this
  simpa using this))
 have HR:=Lib.hid (fun(W:World) (hb:Kp B0 w v fs W)=>Ph v fs W hb.rd hn ht);have HVV:=Lib.hid HV;have HI:=Lib.hid (fun(W:World)=>(show Calls Tryz.prog 158 #[.int .i64 0] W fun e w'=>e= .returned (.int .i64 1)∧W=w' from Fo 0 W));obtain⟨fa,fc,rfl⟩:=hr.form;clear hr HV hin hnw;go_enter Tryz.func84,Tryz.ntmps84;go_wp2_with fail;generalize hxx:w.alloc _=x0;obtain⟨bx,k6⟩:=Bx.alloc hxx;have sx:x0.heap.size=w.heap.size+1:=by rw[←hxx,World.size_alloc]
 clear hxx;refine(HH.out _).mono ?_;rintro e w1 ⟨v1,rfl,o1,b1⟩;obtain⟨g1,p1,rfl,hg1,hg2⟩:=BU o1 (by omega);have zx1:=b1.size;replace k6:=k6.below b1 k6.1;replace bx:=bx.trans (b1.mono bx.size);replace o1:=AR o1 (show w.heap.size+1≤x0.heap.size by omega);clear b1;go_wp2_with fail;generalize hxx:w1.alloc _=w2;obtain⟨b2,k8⟩:=Bx.alloc hxx;clear hxx;have zx2:=b2.size;replace k6:=k6.below b2 k6.1;replace bx:=bx.trans (b2.mono bx.size);replace o1:=Al o1 b2 (Af o1);refine(HVV.out _ bx).mono ?_;rintro e w3 ⟨rfl,bk,ke⟩;have zx3:=ke.size;replace k6:=k6.ke ke (Nat.le_refl _);replace k8:=k8.ke ke (by omega);replace o1:=Zc o1 ke (Nat.le_succ _);clear bx;have bx:=bk;clear bk ke b2;go_wp2_with fail;go_cut [7]from 10 to 32 (fun s7 W=>s7= .bool true∧ ∃ (fv hv sv cv:Value),NewRows (w.heap.size+1) W fv hv sv cv fs half∧Bx W w.heap.size #[fv,hv,.int .i64 half,.int .i64 0,.int .i64 0,sv,cv,.slice none 0 0,.int .i64 0,.bool each]∧Kp B0 w (.slice fa fs.length fc) fs W)
 case first=>
  refine wp_region_held_drew (S:=(fun w'=>∀j,w'.cell? ⟨w1.heap.size,j,none⟩= #[slv g1 (2*half) p1,.int .i64 half,.int .i64 0,.int .i64 0][j]?)) (by kernel_rfl) (by first | (dsimp only;exact k8.2.1) | (exact k8.2.1)) (fun hHeld=> ?_);refine tkH (i:=0) ?_;refine tkH (i:=2) ?_;refine tkH (i:=6) ?_;refine tkH (i:=8) ?_;generalize hxd:w3.drew=y0 at hHeld;have hd:Below w3.heap.size w3 y0:=by rw[←hxd];exact(Below.refl _ _).drew
  replace k6:=k6.below hd k6.1;replace k8:=k8.below hd k8.1;replace bx:=bx.trans (hd.mono bx.size);replace o1:=Al o1 hd (Af o1);have zx4:=hd.size;clear hxd hd;refine wpAnyH_ready (rs:=[1,7]) (by kernel_rfl) (by simp) ?_;refine AllReadyH.cons (by (simp only[List.getElem?_toArray,List.getElem?_cons_succ,List.getElem?_cons_zero];rfl)) (fun K hK=> ?_) (AllReadyH.cons (by (simp only[List.getElem?_toArray,List.getElem?_cons_succ,List.getElem?_cons_zero];rfl)) (fun K hK=> ?_) AllReadyH.nil)
  ·go_simp;refine(HR.out y0 bx).mono ?_;rintro e y1 ⟨fv,rfl,of,b9⟩;obtain⟨af,cf,rfl⟩:=of.form;replace k6:=k6.below b9 k6.1;replace k8:=k8.below b9 k8.1;replace bx:=bx.trans (b9.mono bx.size);have zz:=b9.size;replace o1:=Al o1 b9 (Af o1);replace of:=of.base (show w.heap.size+1≤y0.heap.size by omega);clear b9;refine hK.out _ _ (by first | (dsimp only;exact k8.2.1) | (exact k8.2.1)) (fun hHeld=> ?_);clear hK K
   try simp only[Act.put,List.setIfInBounds_toArray,List.set_cons_zero,List.set_cons_succ]
   refine wpAnyH_ready (rs:=[3,7]) (by kernel_rfl) (by simp) ?_;refine AllReadyH.cons (by (simp only[List.getElem?_toArray,List.getElem?_cons_succ,List.getElem?_cons_zero];rfl)) (fun K hK=> ?_) (AllReadyH.cons (by (simp only[List.getElem?_toArray,List.getElem?_cons_succ,List.getElem?_cons_zero];rfl)) (fun K hK=> ?_) AllReadyH.nil)
   ·go_simp;refine(HI.out _).mono ?_;rintro e w' ⟨rfl,rfl⟩;refine hK.out _ _ (by first | (dsimp only;exact k8.2.1) | (exact k8.2.1)) (fun hHeld=> ?_);clear hK K
    try simp only[Act.put,List.setIfInBounds_toArray,List.set_cons_zero,List.set_cons_succ]
    refine wpAnyH_ready (rs:=[4,7]) (by kernel_rfl) (by simp) ?_;refine AllReadyH.cons (by (simp only[List.getElem?_toArray,List.getElem?_cons_succ,List.getElem?_cons_zero];rfl)) (fun K hK=> ?_) (AllReadyH.cons (by (simp only[List.getElem?_toArray,List.getElem?_cons_succ,List.getElem?_cons_zero];rfl)) (fun K hK=> ?_) AllReadyH.nil)
    ·go_simp;refine(HI.out _).mono ?_;rintro e w' ⟨rfl,rfl⟩;refine hK.out _ _ (by first | (dsimp only;exact k8.2.1) | (exact k8.2.1)) (fun hHeld=> ?_);clear hK K
     try simp only[Act.put,List.setIfInBounds_toArray,List.set_cons_zero,List.set_cons_succ]
     refine wpAnyH_ready (rs:=[5,7]) (by kernel_rfl) (by simp) ?_;refine AllReadyH.cons (by (simp only[List.getElem?_toArray,List.getElem?_cons_succ,List.getElem?_cons_zero];rfl)) (fun K hK=> ?_) (AllReadyH.cons (by (simp only[List.getElem?_toArray,List.getElem?_cons_succ,List.getElem?_cons_zero];rfl)) (fun K hK=> ?_) AllReadyH.nil)
     ·go_simp;generalize hy:y1.alloc _=y4;obtain⟨b9,_⟩:=Bx.alloc hy;have os:y4.ownsRow (w.heap.size+1) 3 1 (.slice (some ⟨y1.heap.size,0,none⟩) 2 2) 2 ([1,1].map (Value.int .i64)):=by rw[←hy];exact DT y1 #[.int .i64 1,.int .i64 1] 2 (by omega) (by unfold maxLen;omega) (by simp)
      clear hy;replace k6:=k6.below b9 k6.1;replace k8:=k8.below b9 k8.1;replace bx:=bx.trans (b9.mono bx.size);have zz:=b9.size;replace o1:=Al o1 b9 (Af o1);replace of:=of.below b9;clear b9;refine hK.out _ _ (by first | (dsimp only;exact k8.2.1) | (exact k8.2.1)) (fun hHeld=> ?_);clear hK K
      try simp only[Act.put,List.setIfInBounds_toArray,List.set_cons_zero,List.set_cons_succ]
      refine wpAnyH_ready (rs:=[7]) (by kernel_rfl) (by simp) ?_;refine AllReadyH.cons (by (simp only[List.getElem?_toArray,List.getElem?_cons_succ,List.getElem?_cons_zero];rfl)) (fun K hK=> ?_) AllReadyH.nil;go_simp;generalize hy:y4.alloc _=y5;obtain⟨b9,_⟩:=Bx.alloc hy;have oc:y5.ownsRow (w.heap.size+1) 63 3 (.slice (some ⟨y4.heap.size,0,none⟩) 1 1) 1 (flat O3.enc [⟨0,0,1⟩]):=by rw[←hy];exact DT y4 #[.int .i64 0,.int .i64 0,.int .i64 1] 1 (by omega) (by unfold maxLen;omega) (by simp)
      clear hy;replace k6:=k6.below b9 k6.1;replace k8:=k8.below b9 k8.1;replace bx:=bx.trans (b9.mono bx.size);have zz:=b9.size;replace o1:=Al o1 b9 (Af o1);replace of:=of.below b9;replace os:=Al os b9 (Af os);clear b9;refine hK.out _ _ (by first | (dsimp only;exact k8.2.1) | (exact k8.2.1)) (fun hHeld=> ?_);clear hK K
      try simp only[Act.put,List.setIfInBounds_toArray,List.set_cons_zero,List.set_cons_succ]
      refine tkH (i:=9) ?_;have q6:=k6.2.1;have f6:=k6.2.2;have y6:=k6.1;have NR:=Lib.hid (NewRows.mk of o1 os oc);have BB:=Lib.hid bx;have K6:=Lib.hid k6;have hne:some w2.heap.size≠some w.heap.size:=fun e=>by have:=Option.some.inj e;omega
      refine rdH (i:=10) (fun K hK=> ?_);go_simp;refine bkH hK (by first | (dsimp only;(refine(Bx.grown k8 (row:=some w.heap.size) ?_ (fun e=>by have:=Option.some.inj e;omega)).2.1;(repeat(with_reducible refine grownBy.trans ?_ (grownBy.setCell _ _ _ _)));with_reducible exact grownBy.refl _ _)) | ((refine(Bx.grown k8 (row:=some w.heap.size) ?_ (fun e=>by have:=Option.some.inj e;omega)).2.1;(repeat(with_reducible refine grownBy.trans ?_ (grownBy.setCell _ _ _ _)));with_reducible exact grownBy.refl _ _))) (fun hHeld=> ?_);clear hK K;refine tkH (i:=11) ?_;refine wpAnyH_done (by kernel_rfl) ?_ _;go_wp2_with fail;go_meet;refine⟨rfl,.slice af fs.length cf,slv g1 (2*half) p1,.slice (some ⟨y1.heap.size,0,none⟩) 2 2,.slice (some ⟨y4.heap.size,0,none⟩) 1 1,?_,?_,?_⟩
      ·repeat(with_reducible refine NewRows.setCell ?_ (by exact Nat.lt_succ_self _) _)
       exact NR.out
      ·have hx:=(((((((((K6.out.set 0 (by simp) (.slice af fs.length cf)).set 1 (by simp) (slv g1 (2*half) p1)).set 2 (by simp) (.int .i64 half)).set 3 (by simp) (.int .i64 0)).set 4 (by simp) (.int .i64 0)).set 5 (by simp) (.slice (some ⟨y1.heap.size,0,none⟩) 2 2)).set 6 (by simp) (.slice (some ⟨y4.heap.size,0,none⟩) 1 1)).set 7 (by simp) (.slice none 0 0)).set 8 (by simp) (.int .i64 0)).set 9 (by simp) (.bool each)
       simpa using hx
      ·repeat(with_reducible refine Kp.setCell ?_ (by exact Nat.le_refl _) _)
       exact BB.out
     ·go_simp;generalize hy:y1.alloc _=y7;obtain⟨b9,_⟩:=Bx.alloc hy;have oc:y7.ownsRow (w.heap.size+1) 63 3 (.slice (some ⟨y1.heap.size,0,none⟩) 1 1) 1 (flat O3.enc [⟨0,0,1⟩]):=by rw[←hy];exact DT y1 #[.int .i64 0,.int .i64 0,.int .i64 1] 1 (by omega) (by unfold maxLen;omega) (by simp)
      clear hy;replace k6:=k6.below b9 k6.1;replace k8:=k8.below b9 k8.1;replace bx:=bx.trans (b9.mono bx.size);have zz:=b9.size;replace o1:=Al o1 b9 (Af o1);replace of:=of.below b9;clear b9;refine hK.out _ _ (by first | (dsimp only;exact k8.2.1) | (exact k8.2.1)) (fun hHeld=> ?_);clear hK K
      try simp only[Act.put,List.setIfInBounds_toArray,List.set_cons_zero,List.set_cons_succ]
      refine wpAnyH_ready (rs:=[5]) (by kernel_rfl) (by simp) ?_;refine AllReadyH.cons (by (simp only[List.getElem?_toArray,List.getElem?_cons_succ,List.getElem?_cons_zero];rfl)) (fun K hK=> ?_) AllReadyH.nil;go_simp;generalize hy:y7.alloc _=y8;obtain⟨b9,_⟩:=Bx.alloc hy;have os:y8.ownsRow (w.heap.size+1) 3 1 (.slice (some ⟨y7.heap.size,0,none⟩) 2 2) 2 ([1,1].map (Value.int .i64)):=by rw[←hy];exact DT y7 #[.int .i64 1,.int .i64 1] 2 (by omega) (by unfold maxLen;omega) (by simp)
      clear hy;replace k6:=k6.below b9 k6.1;replace k8:=k8.below b9 k8.1;replace bx:=bx.trans (b9.mono bx.size);have zz:=b9.size;replace o1:=Al o1 b9 (Af o1);replace of:=of.below b9;replace oc:=Al oc b9 (Af oc);clear b9;refine hK.out _ _ (by first | (dsimp only;exact k8.2.1) | (exact k8.2.1)) (fun hHeld=> ?_);clear hK K
      try simp only[Act.put,List.setIfInBounds_toArray,List.set_cons_zero,List.set_cons_succ]
      refine tkH (i:=9) ?_;have q6:=k6.2.1;have f6:=k6.2.2;have y6:=k6.1;have NR:=Lib.hid (NewRows.mk of o1 os oc);have BB:=Lib.hid bx;have K6:=Lib.hid k6;have hne:some w2.heap.size≠some w.heap.size:=fun e=>by have:=Option.some.inj e;omega
      refine rdH (i:=10) (fun K hK=> ?_);go_simp;refine bkH hK (by first | (dsimp only;(refine(Bx.grown k8 (row:=some w.heap.size) ?_ (fun e=>by have:=Option.some.inj e;omega)).2.1;(repeat(with_reducible refine grownBy.trans ?_ (grownBy.setCell _ _ _ _)));with_reducible exact grownBy.refl _ _)) | ((refine(Bx.grown k8 (row:=some w.heap.size) ?_ (fun e=>by have:=Option.some.inj e;omega)).2.1;(repeat(with_reducible refine grownBy.trans ?_ (grownBy.setCell _ _ _ _)));with_reducible exact grownBy.refl _ _))) (fun hHeld=> ?_);clear hK K;refine tkH (i:=11) ?_;refine wpAnyH_done (by kernel_rfl) ?_ _;go_wp2_with fail;go_meet;refine⟨rfl,.slice af fs.length cf,slv g1 (2*half) p1,.slice (some ⟨y7.heap.size,0,none⟩) 2 2,.slice (some ⟨y1.heap.size,0,none⟩) 1 1,?_,?_,?_⟩
      ·repeat(with_reducible refine NewRows.setCell ?_ (by exact Nat.lt_succ_self _) _)
       exact NR.out
      ·have hx:=(((((((((K6.out.set 0 (by simp) (.slice af fs.length cf)).set 1 (by simp) (slv g1 (2*half) p1)).set 2 (by simp) (.int .i64 half)).set 3 (by simp) (.int .i64 0)).set 4 (by simp) (.int .i64 0)).set 5 (by simp) (.slice (some ⟨y7.heap.size,0,none⟩) 2 2)).set 6 (by simp) (.slice (some ⟨y1.heap.size,0,none⟩) 1 1)).set 7 (by simp) (.slice none 0 0)).set 8 (by simp) (.int .i64 0)).set 9 (by simp) (.bool each)
       simpa using hx
      ·repeat(with_reducible refine Kp.setCell ?_ (by exact Nat.le_refl _) _)
       exact BB.out
    ·go_simp;generalize hy:y1.alloc _=y10;obtain⟨b9,_⟩:=Bx.alloc hy;have oc:y10.ownsRow (w.heap.size+1) 63 3 (.slice (some ⟨y1.heap.size,0,none⟩) 1 1) 1 (flat O3.enc [⟨0,0,1⟩]):=by rw[←hy];exact DT y1 #[.int .i64 0,.int .i64 0,.int .i64 1] 1 (by omega) (by unfold maxLen;omega) (by simp)
     clear hy;replace k6:=k6.below b9 k6.1;replace k8:=k8.below b9 k8.1;replace bx:=bx.trans (b9.mono bx.size);have zz:=b9.size;replace o1:=Al o1 b9 (Af o1);replace of:=of.below b9;clear b9;refine hK.out _ _ (by first | (dsimp only;exact k8.2.1) | (exact k8.2.1)) (fun hHeld=> ?_);clear hK K
     try simp only[Act.put,List.setIfInBounds_toArray,List.set_cons_zero,List.set_cons_succ]
     refine wpAnyH_ready (rs:=[4]) (by kernel_rfl) (by simp) ?_;refine AllReadyH.cons (by (simp only[List.getElem?_toArray,List.getElem?_cons_succ,List.getElem?_cons_zero];rfl)) (fun K hK=> ?_) AllReadyH.nil;go_simp;refine(HI.out _).mono ?_;rintro e w' ⟨rfl,rfl⟩;refine hK.out _ _ (by first | (dsimp only;exact k8.2.1) | (exact k8.2.1)) (fun hHeld=> ?_);clear hK K
     try simp only[Act.put,List.setIfInBounds_toArray,List.set_cons_zero,List.set_cons_succ]
     refine wpAnyH_ready (rs:=[5]) (by kernel_rfl) (by simp) ?_;refine AllReadyH.cons (by (simp only[List.getElem?_toArray,List.getElem?_cons_succ,List.getElem?_cons_zero];rfl)) (fun K hK=> ?_) AllReadyH.nil;go_simp;generalize hy:y10.alloc _=y12;obtain⟨b9,_⟩:=Bx.alloc hy;have os:y12.ownsRow (w.heap.size+1) 3 1 (.slice (some ⟨y10.heap.size,0,none⟩) 2 2) 2 ([1,1].map (Value.int .i64)):=by rw[←hy];exact DT y10 #[.int .i64 1,.int .i64 1] 2 (by omega) (by unfold maxLen;omega) (by simp)
     clear hy;replace k6:=k6.below b9 k6.1;replace k8:=k8.below b9 k8.1;replace bx:=bx.trans (b9.mono bx.size);have zz:=b9.size;replace o1:=Al o1 b9 (Af o1);replace of:=of.below b9;replace oc:=Al oc b9 (Af oc);clear b9;refine hK.out _ _ (by first | (dsimp only;exact k8.2.1) | (exact k8.2.1)) (fun hHeld=> ?_);clear hK K
     try simp only[Act.put,List.setIfInBounds_toArray,List.set_cons_zero,List.set_cons_succ]
     refine tkH (i:=9) ?_;have q6:=k6.2.1;have f6:=k6.2.2;have y6:=k6.1;have NR:=Lib.hid (NewRows.mk of o1 os oc);have BB:=Lib.hid bx;have K6:=Lib.hid k6;have hne:some w2.heap.size≠some w.heap.size:=fun e=>by have:=Option.some.inj e;omega
     refine rdH (i:=10) (fun K hK=> ?_);go_simp;refine bkH hK (by first | (dsimp only;(refine(Bx.grown k8 (row:=some w.heap.size) ?_ (fun e=>by have:=Option.some.inj e;omega)).2.1;(repeat(with_reducible refine grownBy.trans ?_ (grownBy.setCell _ _ _ _)));with_reducible exact grownBy.refl _ _)) | ((refine(Bx.grown k8 (row:=some w.heap.size) ?_ (fun e=>by have:=Option.some.inj e;omega)).2.1;(repeat(with_reducible refine grownBy.trans ?_ (grownBy.setCell _ _ _ _)));with_reducible exact grownBy.refl _ _))) (fun hHeld=> ?_);clear hK K;refine tkH (i:=11) ?_;refine wpAnyH_done (by kernel_rfl) ?_ _;go_wp2_with fail;go_meet;refine⟨rfl,.slice af fs.length cf,slv g1 (2*half) p1,.slice (some ⟨y10.heap.size,0,none⟩) 2 2,.slice (some ⟨y1.heap.size,0,none⟩) 1 1,?_,?_,?_⟩
     ·repeat(with_reducible refine NewRows.setCell ?_ (by exact Nat.lt_succ_self _) _)
      exact NR.out
     ·have hx:=(((((((((K6.out.set 0 (by simp) (.slice af fs.length cf)).set 1 (by simp) (slv g1 (2*half) p1)).set 2 (by simp) (.int .i64 half)).set 3 (by simp) (.int .i64 0)).set 4 (by simp) (.int .i64 0)).set 5 (by simp) (.slice (some ⟨y10.heap.size,0,none⟩) 2 2)).set 6 (by simp) (.slice (some ⟨y1.heap.size,0,none⟩) 1 1)).set 7 (by simp) (.slice none 0 0)).set 8 (by simp) (.int .i64 0)).set 9 (by simp) (.bool each)
      simpa using hx
     ·repeat(with_reducible refine Kp.setCell ?_ (by exact Nat.le_refl _) _)
      exact BB.out
   ·go_simp;generalize hy:y1.alloc _=y14;obtain⟨b9,_⟩:=Bx.alloc hy;have oc:y14.ownsRow (w.heap.size+1) 63 3 (.slice (some ⟨y1.heap.size,0,none⟩) 1 1) 1 (flat O3.enc [⟨0,0,1⟩]):=by rw[←hy];exact DT y1 #[.int .i64 0,.int .i64 0,.int .i64 1] 1 (by omega) (by unfold maxLen;omega) (by simp)
    clear hy;replace k6:=k6.below b9 k6.1;replace k8:=k8.below b9 k8.1;replace bx:=bx.trans (b9.mono bx.size);have zz:=b9.size;replace o1:=Al o1 b9 (Af o1);replace of:=of.below b9;clear b9;refine hK.out _ _ (by first | (dsimp only;exact k8.2.1) | (exact k8.2.1)) (fun hHeld=> ?_);clear hK K
    try simp only[Act.put,List.setIfInBounds_toArray,List.set_cons_zero,List.set_cons_succ]
    refine wpAnyH_ready (rs:=[3]) (by kernel_rfl) (by simp) ?_;refine AllReadyH.cons (by (simp only[List.getElem?_toArray,List.getElem?_cons_succ,List.getElem?_cons_zero];rfl)) (fun K hK=> ?_) AllReadyH.nil;go_simp;refine(HI.out _).mono ?_;rintro e w' ⟨rfl,rfl⟩;refine hK.out _ _ (by first | (dsimp only;exact k8.2.1) | (exact k8.2.1)) (fun hHeld=> ?_);clear hK K
    try simp only[Act.put,List.setIfInBounds_toArray,List.set_cons_zero,List.set_cons_succ]
    refine wpAnyH_ready (rs:=[4]) (by kernel_rfl) (by simp) ?_;refine AllReadyH.cons (by (simp only[List.getElem?_toArray,List.getElem?_cons_succ,List.getElem?_cons_zero];rfl)) (fun K hK=> ?_) AllReadyH.nil;go_simp;refine(HI.out _).mono ?_;rintro e w' ⟨rfl,rfl⟩;refine hK.out _ _ (by first | (dsimp only;exact k8.2.1) | (exact k8.2.1)) (fun hHeld=> ?_);clear hK K
    try simp only[Act.put,List.setIfInBounds_toArray,List.set_cons_zero,List.set_cons_succ]
    refine wpAnyH_ready (rs:=[5]) (by kernel_rfl) (by simp) ?_;refine AllReadyH.cons (by (simp only[List.getElem?_toArray,List.getElem?_cons_succ,List.getElem?_cons_zero];rfl)) (fun K hK=> ?_) AllReadyH.nil;go_simp;generalize hy:y14.alloc _=y17;obtain⟨b9,_⟩:=Bx.alloc hy;have os:y17.ownsRow (w.heap.size+1) 3 1 (.slice (some ⟨y14.heap.size,0,none⟩) 2 2) 2 ([1,1].map (Value.int .i64)):=by rw[←hy];exact DT y14 #[.int .i64 1,.int .i64 1] 2 (by omega) (by unfold maxLen;omega) (by simp)
    clear hy;replace k6:=k6.below b9 k6.1;replace k8:=k8.below b9 k8.1;replace bx:=bx.trans (b9.mono bx.size);have zz:=b9.size;replace o1:=Al o1 b9 (Af o1);replace of:=of.below b9;replace oc:=Al oc b9 (Af oc);clear b9;refine hK.out _ _ (by first | (dsimp only;exact k8.2.1) | (exact k8.2.1)) (fun hHeld=> ?_);clear hK K
    try simp only[Act.put,List.setIfInBounds_toArray,List.set_cons_zero,List.set_cons_succ]
    refine tkH (i:=9) ?_;have q6:=k6.2.1;have f6:=k6.2.2;have y6:=k6.1;have NR:=Lib.hid (NewRows.mk of o1 os oc);have BB:=Lib.hid bx;have K6:=Lib.hid k6;have hne:some w2.heap.size≠some w.heap.size:=fun e=>by have:=Option.some.inj e;omega
    refine rdH (i:=10) (fun K hK=> ?_);go_simp;refine bkH hK (by first | (dsimp only;(refine(Bx.grown k8 (row:=some w.heap.size) ?_ (fun e=>by have:=Option.some.inj e;omega)).2.1;(repeat(with_reducible refine grownBy.trans ?_ (grownBy.setCell _ _ _ _)));with_reducible exact grownBy.refl _ _)) | ((refine(Bx.grown k8 (row:=some w.heap.size) ?_ (fun e=>by have:=Option.some.inj e;omega)).2.1;(repeat(with_reducible refine grownBy.trans ?_ (grownBy.setCell _ _ _ _)));with_reducible exact grownBy.refl _ _))) (fun hHeld=> ?_);clear hK K;refine tkH (i:=11) ?_;refine wpAnyH_done (by kernel_rfl) ?_ _;go_wp2_with fail;go_meet;refine⟨rfl,.slice af fs.length cf,slv g1 (2*half) p1,.slice (some ⟨y14.heap.size,0,none⟩) 2 2,.slice (some ⟨y1.heap.size,0,none⟩) 1 1,?_,?_,?_⟩
    ·repeat(with_reducible refine NewRows.setCell ?_ (by exact Nat.lt_succ_self _) _)
     exact NR.out
    ·have hx:=(((((((((K6.out.set 0 (by simp) (.slice af fs.length cf)).set 1 (by simp) (slv g1 (2*half) p1)).set 2 (by simp) (.int .i64 half)).set 3 (by simp) (.int .i64 0)).set 4 (by simp) (.int .i64 0)).set 5 (by simp) (.slice (some ⟨y14.heap.size,0,none⟩) 2 2)).set 6 (by simp) (.slice (some ⟨y1.heap.size,0,none⟩) 1 1)).set 7 (by simp) (.slice none 0 0)).set 8 (by simp) (.int .i64 0)).set 9 (by simp) (.bool each)
     simpa using hx
    ·repeat(with_reducible refine Kp.setCell ?_ (by exact Nat.le_refl _) _)
     exact BB.out
  ·go_simp;generalize hy:y0.alloc _=y19;obtain⟨b9,_⟩:=Bx.alloc hy;have oc:y19.ownsRow (w.heap.size+1) 63 3 (.slice (some ⟨y0.heap.size,0,none⟩) 1 1) 1 (flat O3.enc [⟨0,0,1⟩]):=by rw[←hy];exact DT y0 #[.int .i64 0,.int .i64 0,.int .i64 1] 1 (by omega) (by unfold maxLen;omega) (by simp)
   clear hy;replace k6:=k6.below b9 k6.1;replace k8:=k8.below b9 k8.1;replace bx:=bx.trans (b9.mono bx.size);have zz:=b9.size;replace o1:=Al o1 b9 (Af o1);clear b9;refine hK.out _ _ (by first | (dsimp only;exact k8.2.1) | (exact k8.2.1)) (fun hHeld=> ?_);clear hK K
   try simp only[Act.put,List.setIfInBounds_toArray,List.set_cons_zero,List.set_cons_succ]
   refine wpAnyH_ready (rs:=[1]) (by kernel_rfl) (by simp) ?_;refine AllReadyH.cons (by (simp only[List.getElem?_toArray,List.getElem?_cons_succ,List.getElem?_cons_zero];rfl)) (fun K hK=> ?_) AllReadyH.nil;go_simp;refine(HR.out y19 bx).mono ?_;rintro e y20 ⟨fv,rfl,of,b9⟩;obtain⟨af,cf,rfl⟩:=of.form;replace k6:=k6.below b9 k6.1;replace k8:=k8.below b9 k8.1;replace bx:=bx.trans (b9.mono bx.size);have zz:=b9.size;replace o1:=Al o1 b9 (Af o1);replace oc:=Al oc b9 (Af oc);replace of:=of.base (show w.heap.size+1≤y19.heap.size by omega);clear b9;refine hK.out _ _ (by first | (dsimp only;exact k8.2.1) | (exact k8.2.1)) (fun hHeld=> ?_);clear hK K
   try simp only[Act.put,List.setIfInBounds_toArray,List.set_cons_zero,List.set_cons_succ]
   refine wpAnyH_ready (rs:=[3]) (by kernel_rfl) (by simp) ?_;refine AllReadyH.cons (by (simp only[List.getElem?_toArray,List.getElem?_cons_succ,List.getElem?_cons_zero];rfl)) (fun K hK=> ?_) AllReadyH.nil;go_simp;refine(HI.out _).mono ?_;rintro e w' ⟨rfl,rfl⟩;refine hK.out _ _ (by first | (dsimp only;exact k8.2.1) | (exact k8.2.1)) (fun hHeld=> ?_);clear hK K
   try simp only[Act.put,List.setIfInBounds_toArray,List.set_cons_zero,List.set_cons_succ]
   refine wpAnyH_ready (rs:=[4]) (by kernel_rfl) (by simp) ?_;refine AllReadyH.cons (by (simp only[List.getElem?_toArray,List.getElem?_cons_succ,List.getElem?_cons_zero];rfl)) (fun K hK=> ?_) AllReadyH.nil;go_simp;refine(HI.out _).mono ?_;rintro e w' ⟨rfl,rfl⟩;refine hK.out _ _ (by first | (dsimp only;exact k8.2.1) | (exact k8.2.1)) (fun hHeld=> ?_);clear hK K
   try simp only[Act.put,List.setIfInBounds_toArray,List.set_cons_zero,List.set_cons_succ]
   refine wpAnyH_ready (rs:=[5]) (by kernel_rfl) (by simp) ?_;refine AllReadyH.cons (by (simp only[List.getElem?_toArray,List.getElem?_cons_succ,List.getElem?_cons_zero];rfl)) (fun K hK=> ?_) AllReadyH.nil;go_simp;generalize hy:y20.alloc _=y23;obtain⟨b9,_⟩:=Bx.alloc hy;have os:y23.ownsRow (w.heap.size+1) 3 1 (.slice (some ⟨y20.heap.size,0,none⟩) 2 2) 2 ([1,1].map (Value.int .i64)):=by rw[←hy];exact DT y20 #[.int .i64 1,.int .i64 1] 2 (by omega) (by unfold maxLen;omega) (by simp)
   clear hy;replace k6:=k6.below b9 k6.1;replace k8:=k8.below b9 k8.1;replace bx:=bx.trans (b9.mono bx.size);have zz:=b9.size;replace o1:=Al o1 b9 (Af o1);replace oc:=Al oc b9 (Af oc);replace of:=of.below b9;clear b9;refine hK.out _ _ (by first | (dsimp only;exact k8.2.1) | (exact k8.2.1)) (fun hHeld=> ?_);clear hK K
   try simp only[Act.put,List.setIfInBounds_toArray,List.set_cons_zero,List.set_cons_succ]
   refine tkH (i:=9) ?_;have q6:=k6.2.1;have f6:=k6.2.2;have y6:=k6.1;have NR:=Lib.hid (NewRows.mk of o1 os oc);have BB:=Lib.hid bx;have K6:=Lib.hid k6;have hne:some w2.heap.size≠some w.heap.size:=fun e=>by have:=Option.some.inj e;omega
   refine rdH (i:=10) (fun K hK=> ?_);go_simp;refine bkH hK (by first | (dsimp only;(refine(Bx.grown k8 (row:=some w.heap.size) ?_ (fun e=>by have:=Option.some.inj e;omega)).2.1;(repeat(with_reducible refine grownBy.trans ?_ (grownBy.setCell _ _ _ _)));with_reducible exact grownBy.refl _ _)) | ((refine(Bx.grown k8 (row:=some w.heap.size) ?_ (fun e=>by have:=Option.some.inj e;omega)).2.1;(repeat(with_reducible refine grownBy.trans ?_ (grownBy.setCell _ _ _ _)));with_reducible exact grownBy.refl _ _))) (fun hHeld=> ?_);clear hK K;refine tkH (i:=11) ?_;refine wpAnyH_done (by kernel_rfl) ?_ _;go_wp2_with fail;go_meet;refine⟨rfl,.slice af fs.length cf,slv g1 (2*half) p1,.slice (some ⟨y20.heap.size,0,none⟩) 2 2,.slice (some ⟨y0.heap.size,0,none⟩) 1 1,?_,?_,?_⟩
   ·repeat(with_reducible refine NewRows.setCell ?_ (by exact Nat.lt_succ_self _) _)
    exact NR.out
   ·have hx:=(((((((((K6.out.set 0 (by simp) (.slice af fs.length cf)).set 1 (by simp) (slv g1 (2*half) p1)).set 2 (by simp) (.int .i64 half)).set 3 (by simp) (.int .i64 0)).set 4 (by simp) (.int .i64 0)).set 5 (by simp) (.slice (some ⟨y20.heap.size,0,none⟩) 2 2)).set 6 (by simp) (.slice (some ⟨y0.heap.size,0,none⟩) 1 1)).set 7 (by simp) (.slice none 0 0)).set 8 (by simp) (.int .i64 0)).set 9 (by simp) (.bool each)
    simpa using hx
   ·repeat(with_reducible refine Kp.setCell ?_ (by exact Nat.le_refl _) _)
    exact BB.out
 case rest=>
  obtain⟨rfl,fv,hv,sv,cv,NR,K,BB⟩:=hcut;obtain⟨fa9,fc9,rfl⟩:=NR.f.form;obtain⟨ha9,hc9,rfl⟩:=AC NR.z;obtain⟨sa9,sc9,rfl⟩:=AC NR.s;obtain⟨ca9,cc9,rfl⟩:=AC NR.c;have q6:=K.2.1;clear o1 k6 k8 bx;go_wp2;refine bodyPost_ret (v:= .tuple #[.agg #[.slice fa9 fs.length fc9,.slice ha9 (2*half) hc9,.int .i64 half,.int .i64 0,.int .i64 0,.slice sa9 2 sc9,.slice ca9 1 cc9,.slice none 0 0,.int .i64 0,.bool each],.bool true]) ?_ rfl ⟨_,_,_,_,_,rfl,⟨NR.f,by simpa [Ba] using NR.z,NR.s,NR.c,⟨rfl,.inl ⟨rfl,rfl⟩⟩⟩,BB.below⟩;simp[results,Tryz.results84,go_sem,q6]
def stepsOf (n : Int) : Nat := (if n ≤ 60000 then n else 60000).toNat
structure RunOk (L : VmL) (N : Nat) : Prop where
  ok : vmOk L = true
  vin : EQ L
  sz : CA L ≤ 1048576
  step : ∀ i, i < N → (Ak i L).code = 0 → ∃ f k, StepOk (Ak i L) f k
  z4 : ∀ i, i ≤ N → 4 ≤ (Ak i L).zs.length
theorem Ej : ∀ (i : Nat) (L : VmL), (Ak i L).fs = L.fs := by
  intro i
  induction i with
  | zero => intro L; rfl
  | succ i ih =>
    intro L
    unfold Ak
    split
    · rw [ih, Pm]
      split
      · exact Pv _ _ _
      · rfl
    · rfl
theorem Pr : ∀ (i : Nat) (L : VmL), (Ak i L).code = 0 → Ak (i + 1) L = Av (Ak i L) := by
  intro i
  induction i with
  | zero =>
    intro L h
    have h' : L.code = 0 := h
    show (if L.code = 0 then Ak 0 (Av L) else L) = Av L
    rw [if_pos h']
    rfl
  | succ i ih =>
    intro L h
    by_cases hc : L.code = 0
    · have e : Ak (i + 1) L = Ak i (Av L) := by (conv => lhs; unfold Ak); rw [if_pos hc]
      have e2 : Ak (i + 1 + 1) L = Ak (i + 1) (Av L) := by (conv => lhs; unfold Ak); rw [if_pos hc]
      rw [e2, e]
      rw [e] at h
      exact ih _ h
    · exfalso
      have e : Ak (i + 1) L = L := by (conv => lhs; unfold Ak); rw [if_neg hc]
      rw [e] at h
      exact hc h
theorem Ps : ∀ (i j : Nat) (L : VmL), (Ak i L).code ≠ 0 → Ak (i + j) L = Ak i L := by
  intro i
  induction i with
  | zero =>
    intro j L h
    rw [Nat.zero_add]
    cases j with
    | zero => rfl
    | succ j =>
      have h' : ¬ L.code = 0 := h
      show (if L.code = 0 then Ak j (Av L) else L) = L
      rw [if_neg h']
  | succ i ih =>
    intro j L h
    by_cases hc : L.code = 0
    · have e : ∀ k, Ak (k + 1) L = Ak k (Av L) := fun k => by (conv => lhs; unfold Ak); rw [if_pos hc]
      rw [show i + 1 + j = (i + j) + 1 by omega, e, e]
      rw [e] at h
      exact ih j _ h
    · have e : ∀ k, Ak (k + 1) L = L := fun k => by (conv => lhs; unfold Ak); rw [if_neg hc]
      rw [show i + 1 + j = (i + j) + 1 by omega, e, e]
theorem RdO.grow {B : Nat} {w W : World} {row : Option Nat} {v : Value} {cs : List O3} (h : RdO B w v cs) (hg : w.grownBy W row) (hne : ∀ i, v.ownBlock = some i → some i ≠ row) : RdO W.heap.size W v cs := by
  rcases h with h | ⟨b, off, cap, rfl, h2, h3, h4, h5⟩
  · exact .inl h
  · have hl := Nat.lt_of_lt_of_le h3 hg.size
    exact .inr ⟨b, off, cap, rfl, hl, hl, h4, fun j x hj t ht => (World.cell?_of_block (hg.block b h3 (hne b rfl))).trans (h5 j x hj t ht)⟩
structure VInv (w wr : World) (t4 g5 b1 : Nat) (fv : Value) (M : VmL) (hv sv cv ov : Value) : Prop where
  bb : Below w.heap.size w wr
  x5 : Bx wr g5 #[fv, hv, .int .i64 M.h, .int .i64 M.b, .int .i64 M.n, sv, cv, ov, .int .i64 M.code, .bool M.each]
  x4 : Bx wr t4 #[.slice none 0 0, .slice none 0 0, .int .i64 0, .int .i64 0, .int .i64 0, .slice none 0 0, .slice none 0 0, .slice none 0 0, .int .i64 0, .bool false]
  f : OwnH b1 g5 wr fv M.fs
  rd : RdV wr.heap.size wr fv hv sv cv ov M
  ns : ∀ k, sv.ownBlock = some k → k ≠ g5 ∧ k ≠ t4
  nc : ∀ k, cv.ownBlock = some k → k ≠ g5 ∧ k ≠ t4
  no : ∀ k, ov.ownBlock = some k → k ≠ g5 ∧ k ≠ t4
  lo : ∀ k, (sv.ownBlock = some k ∨ cv.ownBlock = some k ∨ ov.ownBlock = some k) → w.heap.size ≤ k
structure Apt (base : Nat) (w : World) (fv sv cv ov : Value) (fs : List F2) : Prop where
  f : OwnF base w fv fs
  lo : ∀ k, (sv.ownBlock = some k ∨ cv.ownBlock = some k ∨ ov.ownBlock = some k) → base ≤ k
theorem New.lo {H B : Nat} {v v' : Value} (h : New H v v') (hb : B ≤ H) (hv : ∀ k, v.ownBlock = some k → B ≤ k) : ∀ k, v'.ownBlock = some k → B ≤ k := by
  rcases h with rfl | h
  · exact hv
  · intro k hk
    have := h k hk
    omega
theorem New.ne {H t4 g5 : Nat} {v v' : Value} (h : New H v v') (hv : ∀ k, v.ownBlock = some k → k ≠ g5 ∧ k ≠ t4) (h5 : g5 < H) (h4 : t4 < H) : ∀ k, v'.ownBlock = some k → k ≠ g5 ∧ k ≠ t4 := by
  rcases h with rfl | h
  · exact hv
  · intro k hk
    have := h k hk
    exact ⟨by omega, by omega⟩
theorem VInv.next {w wr w4 W : World} {t4 g5 bs : Nat} {fv hv sv cv ov hv4 sv4 cv4 ov4 : Value} {M M' : VmL} (V : VInv w wr t4 g5 bs fv M hv sv cv ov) (B4 : Below wr.heap.size wr w4) (RD4 : RdV w4.heap.size w4 fv hv4 sv4 cv4 ov4 M') (hfs : M'.fs = M.fs)
    (n1 : New wr.heap.size sv sv4) (n2 : New wr.heap.size cv cv4) (n3 : New wr.heap.size ov ov4) (hz : 4 ≤ M'.zs.length) (h4 : w.heap.size ≤ t4) (h5 : t4 < bs) (h6 : bs ≤ g5) (gT : w4.grownBy W (some g5))
    (hx5 : Bx W g5 #[fv, hv4, .int .i64 M'.h, .int .i64 M'.b, .int .i64 M'.n, sv4, cv4, ov4, .int .i64 M'.code, .bool M'.each]) : VInv w W t4 g5 bs fv M' hv4 sv4 cv4 ov4 := by
  have l5 := V.x5.1
  have l6 := V.bb.size
  have l7 := B4.size
  have k5 := V.x5.below B4 l5
  have e1 := n1.ne V.ns l5 (by omega)
  have e2 := n2.ne V.nc l5 (by omega)
  have e3 := n3.ne V.no l5 (by omega)
  have hf : OwnH bs g5 W fv M.fs := (V.f.below B4 (by omega)).grown gT (by omega) (fun r hr => by have := Option.some.inj hr; omega)
  have hbb : Below w.heap.size w W := (V.bb.trans (B4.mono l6)).trans (Below.of_grown gT (by omega) (fun k hk => by have := Option.some.inj hk; omega))
  obtain ⟨fa3, fc3, ha3, hc3, sa3, sc3, ca3, cc3, oa3, oc3, rfl, rfl, rfl, rfl, rfl⟩ := V.rd.forms
  refine ⟨hbb, hx5, (V.x4.below B4 (by omega)).grown gT (fun e => by have := Option.some.inj e; omega), by rw [hfs]; exact hf, ⟨by rw [hfs]; exact RdF.of_own hf.to_f, RD4.z.grow gT (fun i hi e => G7 RD4.z hz k5 i hi (Option.some.inj e)), RD4.s.grow gT (fun i hi e => (e1 i hi).1 (Option.some.inj e)), RdO.grow RD4.c gT (fun i hi e => (e2 i hi).1 (Option.some.inj e)), RD4.o.grow gT (fun i hi e => (e3 i hi).1 (Option.some.inj e))⟩, e1, e2, e3, fun k hk => ?_⟩
  rcases hk with hk | hk | hk
  · exact n1.lo l6 (fun k hk => V.lo k (.inl hk)) k hk
  · exact n2.lo l6 (fun k hk => V.lo k (.inr (.inl hk))) k hk
  · exact n3.lo l6 (fun k hk => V.lo k (.inr (.inr hk))) k hk
theorem VInv.done {w wr W : World} {t4 g5 bs : Nat} {fv hv sv cv ov : Value} {M : VmL} (V : VInv w wr t4 g5 bs fv M hv sv cv ov) (hz : 4 ≤ M.zs.length) (h4 : w.heap.size ≤ t4) (h5 : t4 < bs) (h6 : bs ≤ g5) {fs0 : List F2} (hq : M.fs = fs0) (gT : wr.grownBy W (some t4)) :
    RdV W.heap.size W fv hv sv cv ov M ∧ Below w.heap.size w W ∧ Apt w.heap.size W fv sv cv ov fs0 := by
  subst hq
  have l5 := V.x5.1
  have l6 := V.bb.size
  have hf : OwnH bs g5 W fv M.fs := V.f.grown gT (by omega) (fun r hr => by have := Option.some.inj hr; omega)
  exact ⟨⟨RdF.of_own hf.to_f, V.rd.z.grow gT (fun i hi e => G7 V.rd.z hz V.x4 i hi (Option.some.inj e)), V.rd.s.grow gT (fun i hi e => (V.ns i hi).2 (Option.some.inj e)), RdO.grow V.rd.c gT (fun i hi e => (V.nc i hi).2 (Option.some.inj e)), V.rd.o.grow gT (fun i hi e => (V.no i hi).2 (Option.some.inj e))⟩,
    V.bb.trans (Below.of_grown gT l6 (fun k hk => by have := Option.some.inj hk; omega)), ⟨OwnF.base hf.to_f (by omega), V.lo⟩⟩
theorem KO {B : Nat} (fv hv sv cv ov : Value) (L : VmL) (n : Int) (w : World) (hr : RdV B w fv hv sv cv ov L) (hs : RunOk L (stepsOf n)) :
    Calls Tryz.prog 24 #[vmV fv hv sv cv ov L, .int .i64 n] w fun e w' => ∃ fv' hv' sv' cv' ov', e = .returned (vmV fv' hv' sv' cv' ov' (Ak (stepsOf n) L)) ∧ RdV w'.heap.size w' fv' hv' sv' cv' ov' (Ak (stepsOf n) L) ∧ Below w.heap.size w w' ∧ Apt w.heap.size w' fv' sv' cv' ov' L.fs := by
  have hr0 := hr.below' (Below.refl w.heap.size w)
  have HR := Lib.hid (fun (W : World) (hb : Below w.heap.size w W) => hr0.below' hb)
  have hsz := hs.sz
  unfold CA at hsz
  have hO := Lib.hid (fun (W : World) (hb : Below w.heap.size w W) => Ja fv hv sv cv ov L W (hr0.below' hb) hs.vin hs.sz)
  rw [hs.ok] at hO
  have hf60 : L.fs.length ≤ 1000 := by
    have := hs.ok
    unfold vmOk at this
    rw [Bool.and_eq_true] at this
    have h1 := this.1
    unfold A3 at h1
    simp only [Bool.and_eq_true] at h1
    have := (Aw.1 h1.1.1).2
    omega
  have HC := Lib.hid (fun (W : World) (hb : Below w.heap.size w W) => Y2 fv hv sv cv ov L W (hr0.below' hb) hf60 (by omega) (by omega) (by omega) (by omega) (by omega))
  obtain ⟨N, hN⟩ : ∃ N, stepsOf n = N := ⟨_, rfl⟩
  rw [hN] at hs ⊢
  have HS := Lib.hid hs.step
  have HZ4 := Lib.hid hs.z4
  obtain ⟨fa, fc, ha, hcp, sa, sc, ca, cc, oa, oc, rfl, rfl, rfl, rfl, rfl⟩ := hr0.forms
  clear hr hr0 hs
  unfold vmV at hO HC ⊢
  by_cases hle : n ≤ 60000
  · have HNN := Lib.hid (show N = n.toNat by rw [← hN]; unfold stepsOf; rw [if_pos hle])
    go_enter Tryz.func24, Tryz.ntmps24
    go_wp2_with fail
    generalize hxx : (w.alloc _).alloc _ = x0
    obtain ⟨bx, k1, k2, sx⟩ := AS hxx
    clear hxx
    have hk1 : w.heap.size + 2 ≤ x0.heap.size := Nat.le_of_eq sx.symm
    refine (hO.out _ bx).mono ?_
    rintro e w1 ⟨rfl, b1⟩
    have hx1 := b1.size
    replace k1 := k1.below b1 k1.1
    replace k2 := k2.below b1 k2.1
    replace bx := bx.trans (b1.mono bx.size)
    have q1 := k1.2.1
    go_wp2_with fail
    clear q1
    refine (HC.out _ bx).mono ?_
    rintro e w2 ⟨fv2, hv2, sv2, cv2, ov2, rfl, o2, b2⟩
    obtain ⟨fa2, fc2, ha2, hc2, sa2, sc2, ca2, cc2, oa2, oc2, rfl, rfl, rfl, rfl, rfl⟩ := (RdV.of_own o2).forms
    have hx2 := b2.size
    replace k1 := k1.below b2 k1.1
    replace k2 := k2.below b2 k2.1
    replace bx := bx.trans (b2.mono bx.size)
    clear b1 b2 k1
    go_wp2_with fail
    generalize hy : w2.alloc _ = w3
    obtain ⟨b3, k5⟩ := Bx.alloc hy
    clear hy
    have V0 : VInv w w3 (w.heap.size + 1) w2.heap.size w1.heap.size (.slice fa2 L.fs.length fc2) L (.slice ha2 L.zs.length hc2) (.slice sa2 L.ss.length sc2) (.slice ca2 L.cs.length cc2) (.slice oa2 L.os.length oc2) := by
      refine ⟨bx.trans (b3.mono bx.size), k5, k2.below b3 k2.1, (o2.f.to_h).same (fun q _ hq => b3.block q hq), RdV.of_own (o2.below b3), fun k hk => ?_, fun k hk => ?_, fun k hk => ?_, fun k hk => ?_⟩
      · have := o2.s.lt k hk
        exact ⟨by omega, by omega⟩
      · have := o2.c.lt k hk
        exact ⟨by omega, by omega⟩
      · have := o2.o.lt k hk
        exact ⟨by omega, by omega⟩
      · rcases hk with hk | hk | hk
        · have := o2.s.lt k hk
          omega
        · have := o2.c.lt k hk
          omega
        · have := o2.o.lt k hk
          omega
    obtain ⟨g5, hg5⟩ : ∃ g5, w2.heap.size = g5 := ⟨_, rfl⟩
    obtain ⟨bs, hbs⟩ : ∃ bs, w1.heap.size = bs := ⟨_, rfl⟩
    rw [hg5, hbs] at V0
    have hlt4 : w.heap.size + 1 < bs := by omega
    have hbg : bs ≤ g5 := by omega
    simp only [hg5]
    clear k5 k2 o2 b3 bx hx1 hx2 hbs hg5 hk1 sx
    have V0 := Lib.hid V0
    go_loopw [6] (fun s wr => ∃ (i : Nat) (hv sv cv ov : Value), i ≤ N ∧ s = .int .i64 i ∧ VInv w wr (w.heap.size + 1) g5 bs (.slice fa2 L.fs.length fc2) (Ak i L) hv sv cv ov) (fun s _ => N - (intOf s).toNat)
    case atStart => exact ⟨0, _, _, _, _, Nat.zero_le _, rfl, V0.out⟩
    case round =>
      clear V0
      obtain ⟨i, hv, sv, cv, ov, hi, rfl, V⟩ := hrel
      obtain ⟨M, hM⟩ : ∃ M, Ak i L = M := ⟨_, rfl⟩
      have hfs : M.fs = L.fs := by rw [← hM]; exact Ej i L
      rw [hM] at V
      obtain ⟨fa3, fc3, ha3, hc3, sa3, sc3, ca3, cc3, oa3, oc3, e1, rfl, rfl, rfl, rfl⟩ := V.rd.forms
      have hz4 : 4 ≤ M.zs.length := by rw [← hM]; exact HZ4.out i hi
      clear e1 fa3 fc3
      have VV := Lib.hid V
      have c5 := V.x5.2.1
      have f5 := V.x5.2.2
      have y5 := V.x5.1
      have HM := Lib.hid hM
      clear V
      by_cases hgo : i < N ∧ M.code = 0
      · obtain ⟨hlt, hcode⟩ := hgo
        have hii : (i : Int) < (n : Int) := by have := HNN.out; omega
        obtain ⟨f, k, hst⟩ := HS.out i hlt (by rw [HM.out]; exact hcode)
        rw [HM.out] at hst
        have hstep := Pn _ _ _ _ _ M wr VV.out.rd hst
        unfold vmV at hstep
        rw [hcode] at c5 hstep
        have HST := Lib.hid hstep
        have hnext : Ak (i + 1) L = Av M := by rw [Pr i L (by rw [HM.out]; exact hcode), HM.out]
        have HNX := Lib.hid hnext
        clear hstep hst hnext hM
        go_wp2_with fail
        refine HST.out.mono ?_
        rintro e w4 ⟨hv4, sv4, cv4, ov4, rfl, rd4, b4, n1, n2, n3⟩
        obtain ⟨fa4, fc4, ha4, hc4, sa4, sc4, ca4, cc4, oa4, oc4, e4, rfl, rfl, rfl, rfl⟩ := rd4.forms
        clear e4 fa4 fc4
        have k5 := VV.out.x5.below b4 VV.out.x5.1
        clear c5 f5 y5
        have c5 := k5.2.1
        have f5 := k5.2.2
        have y5 := k5.1
        have RD4 := Lib.hid rd4
        have B4 := Lib.hid b4
        have NN := Lib.hid (And.intro n1 (And.intro n2 n3))
        have K5 := Lib.hid k5
        clear rd4 b4 n1 n2 n3 k5
        go_wp2
        go_roundw
        case rel =>
          refine ⟨i + 1, .slice ha4 (Av M).zs.length hc4, .slice sa4 (Av M).ss.length sc4, .slice ca4 (Av M).cs.length cc4, .slice oa4 (Av M).os.length oc4, hlt, by go_num, ?_⟩
          rw [HNX.out]
          refine VV.out.next B4.out RD4.out (by rw [← HNX.out, Ej, hfs]) NN.out.1 NN.out.2.1 NN.out.2.2 (by rw [← HNX.out]; exact HZ4.out _ hlt) (Nat.le_succ _) hlt4 hbg ?_ ?_
          · repeat (with_reducible refine grownBy.trans ?_ (grownBy.setCell _ _ _ _))
            with_reducible exact grownBy.refl _ _
          · have hx5 := (((((((((K5.out.set 0 (by simp) (.slice fa2 L.fs.length fc2)).set 1 (by simp) (.slice ha4 (Av M).zs.length hc4)).set 2 (by simp) (.int .i64 (Av M).h)).set 3 (by simp) (.int .i64 (Av M).b)).set 4 (by simp) (.int .i64 (Av M).n)).set 5 (by simp) (.slice sa4 (Av M).ss.length sc4)).set 6 (by simp) (.slice ca4 (Av M).cs.length cc4)).set 7 (by simp) (.slice oa4 (Av M).os.length oc4)).set 8 (by simp) (.int .i64 (Av M).code)).set 9 (by simp) (.bool (Av M).each)
            simpa using hx5
        case measure => simp [intOf]; omega
      · have hend : Ak N L = M := by
          by_cases hlt : i < N
          · have hc : M.code ≠ 0 := fun h => hgo ⟨hlt, h⟩
            rw [show N = i + (N - i) by omega, Ps i _ L (by rw [HM.out]; exact hc), HM.out]
          · rw [show N = i by omega]; exact HM.out
        have HEND := Lib.hid hend
        have q4 := VV.out.x4.2.1
        have f4 := VV.out.x4.2.2
        have y4 := VV.out.x4.1
        clear hend hM
        by_cases hlt : i < N
        · have hc0 : (M.code == 0) = false := by simp; exact fun h => hgo ⟨hlt, h⟩
          have hd0 : ¬ M.code = 0 := fun h => hgo ⟨hlt, h⟩
          have hii : (i : Int) < (n : Int) := by have := HNN.out; omega
          clear hgo
          go_wp2
          rw [HEND.out]
          refine bodyPost_ret (v := .agg #[.slice fa2 L.fs.length fc2, .slice ha3 M.zs.length hc3, .int .i64 M.h, .int .i64 M.b, .int .i64 M.n, .slice sa3 M.ss.length sc3, .slice ca3 M.cs.length cc3, .slice oa3 M.os.length oc3, .int .i64 M.code, .bool M.each]) ?_ rfl ⟨_, _, _, _, _, rfl, ?_⟩
          · simp [results, Tryz.results24, go_sem, q4]
          · refine VV.out.done hz4 (Nat.le_succ _) hlt4 hbg (by rw [← HEND.out, Ej]) ?_
            repeat (with_reducible refine grownBy.trans ?_ (grownBy.setCell _ _ _ _))
            with_reducible exact grownBy.refl _ _
        · have hii : ¬ (i : Int) < (n : Int) := by have := HNN.out; omega
          clear hgo
          go_wp2
          rw [HEND.out]
          refine bodyPost_ret (v := .agg #[.slice fa2 L.fs.length fc2, .slice ha3 M.zs.length hc3, .int .i64 M.h, .int .i64 M.b, .int .i64 M.n, .slice sa3 M.ss.length sc3, .slice ca3 M.cs.length cc3, .slice oa3 M.os.length oc3, .int .i64 M.code, .bool M.each]) ?_ rfl ⟨_, _, _, _, _, rfl, ?_⟩
          · simp [results, Tryz.results24, go_sem, q4]
          · refine VV.out.done hz4 (Nat.le_succ _) hlt4 hbg (by rw [← HEND.out, Ej]) ?_
            repeat (with_reducible refine grownBy.trans ?_ (grownBy.setCell _ _ _ _))
            with_reducible exact grownBy.refl _ _
  · have HNN := Lib.hid (show N = 60000 by rw [← hN]; unfold stepsOf; rw [if_neg hle]; rfl)
    go_enter Tryz.func24, Tryz.ntmps24
    go_wp2_with fail
    generalize hxx : (w.alloc _).alloc _ = x0
    obtain ⟨bx, k1, k2, sx⟩ := AS hxx
    clear hxx
    have hk1 : w.heap.size + 2 ≤ x0.heap.size := Nat.le_of_eq sx.symm
    refine (hO.out _ bx).mono ?_
    rintro e w1 ⟨rfl, b1⟩
    have hx1 := b1.size
    replace k1 := k1.below b1 k1.1
    replace k2 := k2.below b1 k2.1
    replace bx := bx.trans (b1.mono bx.size)
    have q1 := k1.2.1
    go_wp2_with fail
    clear q1
    refine (HC.out _ bx).mono ?_
    rintro e w2 ⟨fv2, hv2, sv2, cv2, ov2, rfl, o2, b2⟩
    obtain ⟨fa2, fc2, ha2, hc2, sa2, sc2, ca2, cc2, oa2, oc2, rfl, rfl, rfl, rfl, rfl⟩ := (RdV.of_own o2).forms
    have hx2 := b2.size
    replace k1 := k1.below b2 k1.1
    replace k2 := k2.below b2 k2.1
    replace bx := bx.trans (b2.mono bx.size)
    clear b1 b2 k1
    go_wp2_with fail
    generalize hy : w2.alloc _ = w3
    obtain ⟨b3, k5⟩ := Bx.alloc hy
    clear hy
    have V0 : VInv w w3 (w.heap.size + 1) w2.heap.size w1.heap.size (.slice fa2 L.fs.length fc2) L (.slice ha2 L.zs.length hc2) (.slice sa2 L.ss.length sc2) (.slice ca2 L.cs.length cc2) (.slice oa2 L.os.length oc2) := by
      refine ⟨bx.trans (b3.mono bx.size), k5, k2.below b3 k2.1, (o2.f.to_h).same (fun q _ hq => b3.block q hq), RdV.of_own (o2.below b3), fun k hk => ?_, fun k hk => ?_, fun k hk => ?_, fun k hk => ?_⟩
      · have := o2.s.lt k hk
        exact ⟨by omega, by omega⟩
      · have := o2.c.lt k hk
        exact ⟨by omega, by omega⟩
      · have := o2.o.lt k hk
        exact ⟨by omega, by omega⟩
      · rcases hk with hk | hk | hk
        · have := o2.s.lt k hk
          omega
        · have := o2.c.lt k hk
          omega
        · have := o2.o.lt k hk
          omega
    obtain ⟨g5, hg5⟩ : ∃ g5, w2.heap.size = g5 := ⟨_, rfl⟩
    obtain ⟨bs, hbs⟩ : ∃ bs, w1.heap.size = bs := ⟨_, rfl⟩
    rw [hg5, hbs] at V0
    have hlt4 : w.heap.size + 1 < bs := by omega
    have hbg : bs ≤ g5 := by omega
    simp only [hg5]
    clear k5 k2 o2 b3 bx hx1 hx2 hbs hg5 hk1 sx
    have V0 := Lib.hid V0
    go_loopw [6] (fun s wr => ∃ (i : Nat) (hv sv cv ov : Value), i ≤ N ∧ s = .int .i64 i ∧ VInv w wr (w.heap.size + 1) g5 bs (.slice fa2 L.fs.length fc2) (Ak i L) hv sv cv ov) (fun s _ => N - (intOf s).toNat)
    case atStart => exact ⟨0, _, _, _, _, Nat.zero_le _, rfl, V0.out⟩
    case round =>
      clear V0
      obtain ⟨i, hv, sv, cv, ov, hi, rfl, V⟩ := hrel
      obtain ⟨M, hM⟩ : ∃ M, Ak i L = M := ⟨_, rfl⟩
      have hfs : M.fs = L.fs := by rw [← hM]; exact Ej i L
      rw [hM] at V
      obtain ⟨fa3, fc3, ha3, hc3, sa3, sc3, ca3, cc3, oa3, oc3, e1, rfl, rfl, rfl, rfl⟩ := V.rd.forms
      have hz4 : 4 ≤ M.zs.length := by rw [← hM]; exact HZ4.out i hi
      clear e1 fa3 fc3
      have VV := Lib.hid V
      have c5 := V.x5.2.1
      have f5 := V.x5.2.2
      have y5 := V.x5.1
      have HM := Lib.hid hM
      clear V
      by_cases hgo : i < N ∧ M.code = 0
      · obtain ⟨hlt, hcode⟩ := hgo
        have hii : (i : Int) < (60000 : Int) := by have := HNN.out; omega
        obtain ⟨f, k, hst⟩ := HS.out i hlt (by rw [HM.out]; exact hcode)
        rw [HM.out] at hst
        have hstep := Pn _ _ _ _ _ M wr VV.out.rd hst
        unfold vmV at hstep
        rw [hcode] at c5 hstep
        have HST := Lib.hid hstep
        have hnext : Ak (i + 1) L = Av M := by rw [Pr i L (by rw [HM.out]; exact hcode), HM.out]
        have HNX := Lib.hid hnext
        clear hstep hst hnext hM
        go_wp2_with fail
        refine HST.out.mono ?_
        rintro e w4 ⟨hv4, sv4, cv4, ov4, rfl, rd4, b4, n1, n2, n3⟩
        obtain ⟨fa4, fc4, ha4, hc4, sa4, sc4, ca4, cc4, oa4, oc4, e4, rfl, rfl, rfl, rfl⟩ := rd4.forms
        clear e4 fa4 fc4
        have k5 := VV.out.x5.below b4 VV.out.x5.1
        clear c5 f5 y5
        have c5 := k5.2.1
        have f5 := k5.2.2
        have y5 := k5.1
        have RD4 := Lib.hid rd4
        have B4 := Lib.hid b4
        have NN := Lib.hid (And.intro n1 (And.intro n2 n3))
        have K5 := Lib.hid k5
        clear rd4 b4 n1 n2 n3 k5
        go_wp2
        go_roundw
        case rel =>
          refine ⟨i + 1, .slice ha4 (Av M).zs.length hc4, .slice sa4 (Av M).ss.length sc4, .slice ca4 (Av M).cs.length cc4, .slice oa4 (Av M).os.length oc4, hlt, by go_num, ?_⟩
          rw [HNX.out]
          refine VV.out.next B4.out RD4.out (by rw [← HNX.out, Ej, hfs]) NN.out.1 NN.out.2.1 NN.out.2.2 (by rw [← HNX.out]; exact HZ4.out _ hlt) (Nat.le_succ _) hlt4 hbg ?_ ?_
          · repeat (with_reducible refine grownBy.trans ?_ (grownBy.setCell _ _ _ _))
            with_reducible exact grownBy.refl _ _
          · have hx5 := (((((((((K5.out.set 0 (by simp) (.slice fa2 L.fs.length fc2)).set 1 (by simp) (.slice ha4 (Av M).zs.length hc4)).set 2 (by simp) (.int .i64 (Av M).h)).set 3 (by simp) (.int .i64 (Av M).b)).set 4 (by simp) (.int .i64 (Av M).n)).set 5 (by simp) (.slice sa4 (Av M).ss.length sc4)).set 6 (by simp) (.slice ca4 (Av M).cs.length cc4)).set 7 (by simp) (.slice oa4 (Av M).os.length oc4)).set 8 (by simp) (.int .i64 (Av M).code)).set 9 (by simp) (.bool (Av M).each)
            simpa using hx5
        case measure => simp [intOf]; omega
      · have hend : Ak N L = M := by
          by_cases hlt : i < N
          · have hc : M.code ≠ 0 := fun h => hgo ⟨hlt, h⟩
            rw [show N = i + (N - i) by omega, Ps i _ L (by rw [HM.out]; exact hc), HM.out]
          · rw [show N = i by omega]; exact HM.out
        have HEND := Lib.hid hend
        have q4 := VV.out.x4.2.1
        have f4 := VV.out.x4.2.2
        have y4 := VV.out.x4.1
        clear hend hM
        by_cases hlt : i < N
        · have hc0 : (M.code == 0) = false := by simp; exact fun h => hgo ⟨hlt, h⟩
          have hd0 : ¬ M.code = 0 := fun h => hgo ⟨hlt, h⟩
          have hii : (i : Int) < (60000 : Int) := by have := HNN.out; omega
          clear hgo
          go_wp2
          rw [HEND.out]
          refine bodyPost_ret (v := .agg #[.slice fa2 L.fs.length fc2, .slice ha3 M.zs.length hc3, .int .i64 M.h, .int .i64 M.b, .int .i64 M.n, .slice sa3 M.ss.length sc3, .slice ca3 M.cs.length cc3, .slice oa3 M.os.length oc3, .int .i64 M.code, .bool M.each]) ?_ rfl ⟨_, _, _, _, _, rfl, ?_⟩
          · simp [results, Tryz.results24, go_sem, q4]
          · refine VV.out.done hz4 (Nat.le_succ _) hlt4 hbg (by rw [← HEND.out, Ej]) ?_
            repeat (with_reducible refine grownBy.trans ?_ (grownBy.setCell _ _ _ _))
            with_reducible exact grownBy.refl _ _
        · have hii : ¬ (i : Int) < (60000 : Int) := by have := HNN.out; omega
          clear hgo
          go_wp2
          rw [HEND.out]
          refine bodyPost_ret (v := .agg #[.slice fa2 L.fs.length fc2, .slice ha3 M.zs.length hc3, .int .i64 M.h, .int .i64 M.b, .int .i64 M.n, .slice sa3 M.ss.length sc3, .slice ca3 M.cs.length cc3, .slice oa3 M.os.length oc3, .int .i64 M.code, .bool M.each]) ?_ rfl ⟨_, _, _, _, _, rfl, ?_⟩
          · simp [results, Tryz.results24, go_sem, q4]
          · refine VV.out.done hz4 (Nat.le_succ _) hlt4 hbg (by rw [← HEND.out, Ej]) ?_
            repeat (with_reducible refine grownBy.trans ?_ (grownBy.setCell _ _ _ _))
            with_reducible exact grownBy.refl _ _
section
variable {E:Nat→Nat→Prop}{fs:List F2}{dep:List (List Int)}{fin:List Int}{L:VmL}{A:AbS}{h b n:Nat}{ps:List Nat}
theorem Pi (hok:okA fs A=true) (hc:A.code=0):(0 < A.cs.length∧A.cs.length≤120)∧(∃f k:Nat,(Ah A).c=f∧f < fs.length∧(Ah A).n=k∧k < (fs.getD f fn0).os.length)∧(1≤ (Ah A).m∧(Ah A).m≤ (A.ss.length:Int) - 1):=by
 simp only[okA,BY,En,Bool.and_eq_true,Bool.or_eq_true,decide_eq_true_eq,List.all_eq_true,List.mem_range]at hok;obtain⟨⟨_,h1,hl,h2⟩,_⟩:=hok;have h3:0 < A.cs.length:=by
  rcases h2 with e |e
  ·rw[hc]at e;cases e
  ·exact e
 have h4:=h1 (A.cs.length - 1) (by omega);simp only[CI,Bool.and_eq_true]at h4;obtain⟨⟨c1,c2⟩,c3,_⟩:=h4;have c1:=Aw.1 c1;have c2:=Aw.1 c2;have c3:=Aw.1 c3;change 0≤ (Ah A).c∧(Ah A).c≤ (fs.length:Int) - 1 at c1;change 0≤ (Ah A).n∧(Ah A).n≤ ((fs.getD (Ah A).c.toNat fn0).os.length:Int) - 1 at c2;change 1≤ (Ah A).m∧(Ah A).m≤ (A.ss.length:Int) - 1 at c3;refine⟨⟨h3,hl⟩,⟨(Ah A).c.toNat,(Ah A).n.toNat,by omega,by omega,by omega,by omega⟩,c3⟩
theorem KL (hf:A3 fs=true):fs.length≤60∧ ∀f,f < fs.length→(fs.getD f fn0).os.length≤3000:=by
 unfold A3 at hf;simp only[Bool.and_eq_true,List.all_eq_true]at hf;obtain⟨⟨h1,_⟩,h2,_⟩:=hf;refine⟨by have:=(Aw.1 h1).2;omega,fun f hfl=> ?_⟩;rw[DJ hfl];have:=h2 _ (List.getElem_mem hfl);unfold DI at this;rw[Bool.and_eq_true]at this;have:=(Aw.1 this.2).2;omega
theorem Sim.word (S:Sim E fs L A h b n ps) (hw:EW A=true) {x:Int}(hx:x∈L.ss):(x%2≠0→ -1073741824≤x/2∧x/2≤1073741823)∧GX L x∧(-9223372036854775808≤x∧x≤9223372036854775807):=by
 have ha:=S.words hw;rw[List.all_eq_true]at ha;have hwx:=ha x hx;unfold Ai at hwx;by_cases he:x%2=0
 ·rw[if_pos he,decide_eq_true_eq]at hwx;obtain⟨p,hp,e⟩:=hwx;obtain⟨r1,r2,r3,r4,_⟩:=S.right.at_ hp;have hl:=S.right.n_le;have hpe:(x/2).toNat=p:=by omega
  refine⟨fun hne=>absurd he hne,fun _=>⟨by omega,?_,?_⟩,by omega⟩
  ·rw[hpe];exact r3
  ·rw[hpe];omega
 ·rw[if_neg he]at hwx;have:=Aw.1 hwx;exact⟨fun _=>this,fun hh=>absurd hh he,by omega⟩
theorem Sim.zlen (S:Sim E fs L A h b n ps):L.zs.length=2*h∧L.zs.length≤6000∧1≤h:=by
 have F:=S.right.frame;have f0:=F.h0;have f1:=F.h1;have f2:=F.len;exact⟨by omega,by omega,f0⟩
theorem Sim.fits (S:Sim E fs L A h b n ps) (hok:okA fs A=true):Fits L:=by
 have hw:=DW hok;have hz:=S.zlen;refine⟨fun e=>by rw[e]at hz;simp at hz;omega,hz.2.1,S.zi,?_,fun x hx=>(S.word hw hx).1,fun x hx=>(S.word hw hx).2.1⟩;simp only[okA,Bool.and_eq_true,decide_eq_true_eq]at hok;rw[S.ss.1];exact hok.1.1
theorem Sim.stepOk (S:Sim E fs L A h b n ps) (hf:A3 fs=true) (hok:okA fs A=true) (hgo:goA fs A=true) (hh:2≤h) (hos:A.os.length≤1000):∃f k,StepOk L f k:=by
 have hc:=PP hgo;obtain⟨hcl,⟨f,k,t1,t2,t3,t4⟩,t5⟩:=Pi hok hc;have et:Ay L=Ah A:=by unfold Ay Ah;rw[S.cs]
 have eo:opL L (Ah A)=opA fs (Ah A):=by unfold opL opA;rw[S.lf]
 have hop:FY (opA fs (Ah A)) A.ss.length=true:=by
  simp only[goA,Bool.and_eq_true]at hgo;exact hgo.1.2
 obtain⟨o1,o2,o3,o4,o5⟩:=Lc hop;have S':Sim E fs (Cf L) (Hb A) h b n ps:=by
  unfold Cf Hb;rw[et];exact S.put S.ss (by rw[S.cs]) S.os rfl
 have hfits:=S.fits hok;have hfl:=KL hf;have hz:=S.zlen;refine⟨f,k,by rw[et];exact t1,by rw[S.lf];exact t2,by rw[et];exact t3,by rw[S.lf];exact t4,by have:=hfl.2 f t2;omega,by omega,?_⟩;rw[et,eo];refine⟨⟨hfits.z0,hfits.z1,hfits.z2,hfits.s1,hfits.s2,hfits.s3⟩,S.rightB (S.words (DW hok)),?_,?_,o1,o2,o3,o4,fun e=>(o5 e).1,?_⟩
 ·have:(Cf L).cs.length=L.cs.length:=by unfold Cf A5;simp
  rw[this,S.cs];exact hcl
 ·show 1≤ (Ah A).m∧(Ah A).m≤ (L.ss.length:Int) - 1
  rw[S.ss.1];exact t5
 ·show L.os.length≤_
  rw[S.os];omega
theorem Pj {T:Nat}(ht:BD fs dep fin T A=true) (hf:A3 fs=true) (hfin:fin.length≤1000) (S:Sim E fs L A h b n ps) (hh:2≤h) (i:Nat):
  ((Ak i L).code=0→ ∃f k,StepOk (Ak i L) f k)∧4≤ (Ak i L).zs.length:=by
 obtain⟨j,L',no,X⟩:=S.run (fs:=fs) (dep:=dep) (fin:=fin) i ht;obtain⟨E',b',n',ps',S'⟩:=X.sim;have M:=Moment.of ht X.along;have hz:=S'.zlen;have hos:(As fs j A).os.length≤1000:=Nat.le_trans M.pre.length_le hfin;rcases X.how with ⟨e,h1,h2⟩ |⟨e,h1,_⟩
 ·rw[e];refine⟨fun hc=> ?_,by omega⟩;have hc':(As fs j A).code=0:=by rw[←S'.code];exact hc
  exact S'.stepOk hf M.ok (M.go hc').1 hh hos
 ·rw[e];exact⟨(fun hc=>by cases hc),(by show 4≤L'.zs.length;omega)⟩
theorem Pk {T:Nat}(ht:BD fs dep fin T A=true) (hf:A3 fs=true) (hfin:fin.length≤1000) (S:Sim E fs L A h b n ps) (hh:2≤h) (hok:vmOk L=true) (hin:EQ L) (hsz:CA L≤1048576) (N:Nat):RunOk L N:=
 ⟨hok,hin,hsz,fun i _ hc=>(Pj ht hf hfin S hh i).1 hc,fun i _=>(Pj ht hf hfin S hh i).2⟩
end
inductive CT where
 |num (n:Int)
 |nul (s:ByteArray)
 |one (s:ByteArray) (t:CT)
def CT.sz:CT→Nat
 | .one _ t=>t.sz+1
 |_=>1
def ctW (con:Int→Option (ByteArray×Nat)) (hd:Int→Int) (kids:Int→List Int):Nat→Int→Option CT
 |0,_=>none
 |f+1,x=>if x%2=0 then(if Ce (hd x)then none else match con (Az (hd x))with
   |none=>none
   |some (s,n)=>match kids x with
    | []=>if n=0 then some (.nul s)else none
    | [y]=>if n=1 then(ctW con hd kids f y).map (.one s)else none
    |_::_::_=>none)else some (.num (x/2))
def ctL (con:Int→Option (ByteArray×Nat)) (zs:List Int):Nat→Int→Option CT:=ctW con (fun x=>zs.getD (x/2).toNat 0) (fun x=>Ae zs (x/2).toNat)
def ctA (con:Int→Option (ByteArray×Nat)) (st:List (Int×List Int)):Nat→Int→Option CT:=ctW con (fun x=>(st.getD (x/2).toNat b0).1) (fun x=>(st.getD (x/2).toNat b0).2)
theorem Sim.ct {E:Nat→Nat→Prop}{fs:List F2}{L:VmL}{A:AbS}{h b n:Nat}{ps:List Nat}(S:Sim E fs L A h b n ps) (con:Int→Option (ByteArray×Nat)):∀ (f:Nat) (x y:Int),Wd E x y→ctL con L.zs f x=ctA con A.st f y:=by
 intro f;induction f with
 |zero=>intro x y _;rfl
 |succ f ih=>
  intro x y hw;unfold ctL ctA;unfold ctW;rcases hw with ⟨ho,rfl⟩ |⟨h1,h2,_,he⟩
  ·rw[if_neg (by omega),if_neg (by omega)]
  ·rw[if_pos h1,if_pos h2];have e1:=S.hd _ _ he;have e2:=S.kids _ _ he;rw[e1];split
   ·rfl
   ·cases con (Az (A.st.getD (y/2).toNat b0).1)with
    |none=>rfl
    |some q=>
     obtain⟨s,m⟩:=q;dsimp only;obtain⟨K,hK⟩:∃K,Ae L.zs (x/2).toNat=K:=⟨_,rfl⟩;obtain⟨J,hJ⟩:∃J,(A.st.getD (y/2).toNat b0).2=J:=⟨_,rfl⟩;rw[hK,hJ]at e2 ⊢;obtain⟨l1,l2⟩:=e2
     match K,J,l1,l2 with
     | [],[],_,_=>rfl
     | [u],[v],_,l2=>
      have:=ih u v (l2 0 (by simp));unfold ctL ctA at this;dsimp only;rw[this]
     |u::u'::K,v::v'::J,_,_=>rfl
     | [],_::_,l1,_=>simp at l1
     | [_],[],l1,_=>simp at l1
     | [_],_::_::_,l1,_=>simp at l1
     |_::_::_,[],l1,_=>simp at l1
     |_::_::_,[_],l1,_=>simp at l1
theorem PU {con:Int→Option (ByteArray×Nat)}{hd:Int→Int}{kids:Int→List Int}:∀ (f:Nat) (x:Int) (t:CT),ctW con hd kids f x=some t→t.sz≤f:=by
 intro f;induction f with
 |zero=>intro x t h;cases h
 |succ f ih=>
  intro x t h;unfold ctW at h;split at h
  ·split at h
   ·cases h
   ·split at h
    ·cases h
    ·split at h
     ·split at h
      ·cases h;simp[CT.sz]
      ·cases h
     ·split at h
      ·rw[Option.map_eq_some_iff]at h;obtain⟨u,hu,rfl⟩:=h;have:=ih _ _ hu;simp[CT.sz];omega
      ·cases h
     ·cases h
  ·cases h;simp[CT.sz]
def Hh (fs:List F2):Nat→AbS→AbS
 |0,A=>A
 |f+1,A=>if A.code=0 then Hh fs f (Dv fs A)else A
theorem ae {fs:List F2}:∀ (i f:Nat) (A:AbS),Along fs A i→(As fs i A).code≠0→i≤f→Hh fs f A=As fs i A:=by
 intro i;induction i with
 |zero=>
  intro f A _ hc _;cases f with
  |zero=>rfl
  |succ f=>
   have hc':¬A.code=0:=hc
   show(if A.code=0 then Hh fs f (Dv fs A)else A)=A
   rw[if_neg hc']
 |succ i ih=>
  intro f A ha hc hf;cases f with
  |zero=>omega
  |succ f=>
   show(if A.code=0 then Hh fs f (Dv fs A)else A)=_
   rw[if_pos (show A.code=0 from ha 0 (by omega))];exact ih f (Dv fs A) (fun j hj=>ha (j+1) (by omega)) hc (by omega)
end Go.Proofs.YtfmebaafpfkeiaaGreat
