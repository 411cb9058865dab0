/- Parts of the proof of FnMeant, FnSizes. -/
import Derived.Test.YtfmebaafpfkeiaaGreatRows
import Derived.Test.YtfmebaafpfkeiaaGreatY11
import Derived.Deep.QuietTactic
import Derived.BigQuiet
import Derived.Test.YtfmebaafpfkeiaaGreatY13
set_option linter.unusedVariables false
set_option linter.unusedSimpArgs false
set_option maxRecDepth 1000000
set_option maxHeartbeats 16000000
namespace Go.Proofs.YtfmebaafpfkeiaaGreat
open Go.RowKit
theorem Z7 {B1 B2:Nat}(va vb:Value) (xs ys:List Int) (w:World) (ha:Rd B1 .i64 w va xs) (hb:Rd B2 .i64 w vb ys):
  Calls Tryz.prog 51 #[va,vb] w fun e w'=>e= .returned (.bool (decide (xs=ys)))∧Still w w':=by
 have hx:=ha.len;have hy:=hb.len;unfold maxLen at hx hy;by_cases hl:xs.length=ys.length
 ·rcases ha with ⟨rfl,a,cap,rfl⟩ |⟨b,off,cap,rfl,hB,hbs,hm,hc⟩
  ·have hy0:ys=[]:=List.eq_nil_of_length_eq_zero (by simpa using hl.symm);subst hy0;rcases hb with ⟨_,a',cap',rfl⟩ |⟨b',off',cap',rfl,hB',hbs',hm',hc'⟩
   all_goals
    go_enter Tryz.func51,Tryz.ntmps51;go_wp2;refine wp_loop_rounds 1 ?_;rw[rounds_succ];go_wp2;go_ret;exact⟨Aq (by simp),Still.refl _⟩
  ·rcases hb with ⟨rfl,a',cap',rfl⟩ |⟨b',off',cap',rfl,hB',hbs',hm',hc'⟩
   ·have hx0:xs=[]:=List.eq_nil_of_length_eq_zero (by simpa using hl);subst hx0;go_enter Tryz.func51,Tryz.ntmps51;go_wp2;refine wp_loop_rounds 1 ?_;rw[rounds_succ];go_wp2;go_ret;exact⟨Aq (by simp),Still.refl _⟩
   ·have hne:((xs.length:Int) !=(ys.length:Int))=false:=by simp[hl]
    have HL:=Lib.hid hl;clear hl;go_enter Tryz.func51,Tryz.ntmps51;go_wp2
    go_loopw [13] (fun i wr=>∃k n:Nat,k≤xs.length∧i= .int .i64 k∧wr=w.drewN n∧Hid (∀j,j < k→xs.getD j 0=ys.getD j 0)) (fun i _=>xs.length - (intOf i).toNat)
    case atStart=>exact⟨0,0,Nat.zero_le _,rfl,rfl,fun j hj=>by omega⟩
    case round=>
     obtain⟨k,n,hk,rfl,rfl,hd⟩:=hrel;by_cases hlt:k < xs.length
     ·have c1:=hc k hlt;have c2:=hc' k (by rw[←HL.out];exact hlt);have hlt2:k < ys.length:=by rw[←HL.out];exact hlt
      clear hc hc';go_wp2;go_quiet (fail);go_wp2
      ·have h:(xs[k] !=ys[k])=true:=by assumption
       go_ret;exact⟨Aq (by simp only[bne_iff_ne]at h;symm;rw[decide_eq_false_iff_not];rintro rfl;exact h rfl),⟨n+nq,by simp⟩⟩
      ·have h:(xs[k] !=ys[k])=false:=by assumption
       go_roundw
       case rel=>exact⟨k+1,n+nq,hlt,by go_num,rfl,OK HL.out hlt hd (by simp only[bne_eq_false_iff_eq]at h;simpa [List.getD,List.getElem?_eq_getElem hlt,List.getElem?_eq_getElem hlt2] using h)⟩
       case measure=>simp[intOf];omega
     ·go_wp2;go_ret;exact⟨Aq (by rw[OL HL.out (fun j hj=>hd j (by omega))];simp),⟨_,rfl⟩⟩
 ·have hne:((xs.length:Int) !=(ys.length:Int))=true:=by simp;omega
  have hv:(∃a n cap,va= .slice a n cap∧n=xs.length)∧(∃a n cap,vb= .slice a n cap∧n=ys.length):=by
   constructor
   ·rcases ha with ⟨rfl,a,cap,rfl⟩ |⟨b,off,cap,rfl,_⟩
    ·exact⟨_,_,_,rfl,rfl⟩
    ·exact⟨_,_,_,rfl,rfl⟩
   ·rcases hb with ⟨rfl,a,cap,rfl⟩ |⟨b,off,cap,rfl,_⟩
    ·exact⟨_,_,_,rfl,rfl⟩
    ·exact⟨_,_,_,rfl,rfl⟩
  obtain⟨⟨a1,n1,c1,rfl,rfl⟩,⟨a2,n2,c2,rfl,rfl⟩⟩:=hv;have hf:decide (xs=ys)=false:=by simp;intro h;exact hl (by rw[h])
  have HF:=Lib.hid hf;clear hf ha hb hl;go_enter Tryz.func51,Tryz.ntmps51;go_wp2;go_ret;exact⟨Aq HF.out.symm,Still.refl _⟩
theorem CG {B:Nat}{k:IntKind}{w:World}{a:Option Addr}{cap:Nat}{zs:List Int}(h:Rd B k w (.slice a zs.length cap) zs):zs.length≤cap:=by
 rcases h with ⟨h,_⟩ |⟨b,off,cap',hv,_,_,h4,_⟩
 ·rw[h];exact Nat.zero_le _
 ·injection hv with _ _ e
  rw[e];exact h4.2
theorem FZ {B:Nat}{k:IntKind}{w:World}{a:Option Addr}{cap cap' m:Nat}{zs:List Int}(h:Rd B k w (.slice a zs.length cap) zs) (hm:m≤zs.length) (hc:m≤cap'):Rd B k w (.slice a m cap') (zs.take m):=by
 have hl:(zs.take m).length=m:=by rw[List.length_take];omega
 rcases h with ⟨h,_⟩ |⟨b,off,cap2,hv,h2,h3,h4,h5⟩
 ·rw[h]at hm ⊢;have:m=0:=by simpa using hm
  subst this;exact .inl ⟨rfl,_,_,rfl⟩
 ·injection hv with e1 _ _
  subst e1;refine .inr ⟨b,off,cap',by rw[hl],h2,h3,⟨by omega,by omega⟩,fun j hj=> ?_⟩;rw[hl]at hj;rw[h5 j (by omega),List.getD_eq_getElem?_getD,List.getD_eq_getElem?_getD,List.getElem?_take,if_pos hj]
theorem PQ {B1 B2:Nat}(va vb:Value) (xs:List Int) (w:World) (ra:Rd B1 .i64 w va xs) (rb:Rd B2 .i64 w vb xs):
  Calls Tryz.prog 51 #[va,vb] w fun e w'=>e= .returned (.bool true)∧Below w.heap.size w w':=
 (Z7 va vb xs xs w ra rb).mono fun e w' h=>⟨by have q:=h.1;rw[decide_eq_true rfl]at q;exact q,h.2.below _⟩
theorem PS {B1 B2:Nat}(va vb:Value) (xs ys:List Int) (w:World) (ra:Rd B1 .i64 w va xs) (rb:Rd B2 .i64 w vb ys) (h:xs <+:ys) (hs:xs.length≤1000000) (hy:ys.length≤1000000):
  Calls Tryz.prog 50 #[va,vb] w fun e w'=>e= .returned (.bool true)∧Below w.heap.size w w':=by
 obtain⟨a,ca,rfl⟩:=ra.form;obtain⟨b,cb,rfl⟩:=rb.form;have hle:=h.length_le;have hlt:(xs.length:Int)≤ (ys.length:Int):=by omega
 have c1:=CG ra;have c2:=CG rb;have hc1:(xs.length:Int)≤ (ca:Int):=by omega
 have hc2:(xs.length:Int)≤ (cb:Int):=by omega
 have h0:(0:Int)≤ (xs.length:Int):=by omega
 have e:ys.take xs.length=xs:=(List.prefix_iff_eq_take.1 h).symm;have HR:=Lib.hid ra;have HB:=Lib.hid rb;have HE:=Lib.hid e;clear ra rb h e;go_enter Tryz.func50,Tryz.ntmps50;go_wp2;refine wp_region_held_drew (S:=(fun w'=>True)) (by kernel_rfl) (by first | (dsimp only;trivial) | (trivial)) (fun hHeld=> ?_);refine tkH (i:=0) ?_;refine tkH (i:=1) ?_;refine tkH (i:=2) ?_;refine tkH (i:=3) ?_;refine tkH (i:=4) ?_;refine tkH (i:=5) ?_;generalize hxd:w.drew=w1 at hHeld;have hd:Below w.heap.size w w1:=by rw[←hxd];exact(Below.refl _ _).drew
 have ra:=FZ (HR.out.below' hd) (Nat.le_refl _) (cap':=ca) (by omega);have rb:=FZ (HB.out.below' hd) hle (cap':=cb) (by omega);rw[HE.out]at rb;rw[List.take_length]at ra;refine rdH (i:=6) (fun K hK=> ?_);go_simp;refine(PQ _ _ xs w1 ra rb).mono ?_;rintro e w2 ⟨rfl,b2⟩;refine bkH hK (by first | (dsimp only;trivial) | (trivial)) (fun hHeld=> ?_);clear hK K;refine tkH (i:=7) ?_;refine wpAnyH_done (by kernel_rfl) ?_ _;go_wp2;go_ret;exact⟨rfl,hd.trans (b2.mono hd.size)⟩
end Go.Proofs.YtfmebaafpfkeiaaGreat
