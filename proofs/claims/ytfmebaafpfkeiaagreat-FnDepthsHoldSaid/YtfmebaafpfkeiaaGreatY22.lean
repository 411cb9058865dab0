/- Parts of the proof of FnDepthsHold, FnEnds, FnMeant, FnMovedWhenever, FnSizes. -/
import Derived.Test.YtfmebaafpfkeiaaGreatY21
import Derived.Test.YtfmebaafpfkeiaaGreatY20
import Derived.Test.YtfmebaafpfkeiaaGreatY17
import Derived.Test.YtfmebaafpfkeiaaGreatY18
set_option linter.unusedVariables false
set_option linter.unusedSimpArgs false
set_option maxRecDepth 1000000
set_option maxHeartbeats 16000000
namespace Go.Proofs.YtfmebaafpfkeiaaGreat
open Go.RowKit
theorem ZH {base:Nat}{w:World}{g gs gc:Nat}{fv hv ov:Value}{p q:Nat}{L:VmL}(h:RunV base w g gs gc fv hv ov p q L) (n m:Int) (cl:O3) (D:DoOk L ⟨17,n,m⟩ cl):
  Calls Tryz.prog 149 #[.pointer (some ⟨g,0,none⟩),.agg #[.int .i64 17,.int .i64 n,.int .i64 m],.agg #[.int .i64 cl.c,.int .i64 cl.n,.int .i64 cl.m]] w fun e w'=>e= .returned (.int .i64 (doL L ⟨17,n,m⟩ cl).1)∧
   (∃gs' gc' hv' ov' p' q',RunV base w' g gs' gc' fv hv' ov' p' q' (doL L ⟨17,n,m⟩ cl).2)∧Below base w w':=by
 obtain⟨bn,hbn⟩:∃bn:Nat,cl.m= (bn:Int):=⟨cl.m.toNat,by have:=D.cm;omega⟩;obtain⟨cc,cn,cm⟩:=cl;dsimp only at hbn;subst hbn;have hcm:=D.cm;dsimp only at hcm;have hss:=D.fits.s1;obtain⟨bj,hbj⟩:∃bj:Nat,bn - 1=bj:=⟨_,rfl⟩;have hjl:bj < L.ss.length:=by omega
 obtain⟨self,hself⟩:∃self,L.ss.getD bj 0=self:=⟨_,rfl⟩;have e1:IntKind.i64.wrap ((bn:Int) - 1)= (bj:Int):=by rw[IntWalk.i64_in _ (by omega)];omega
 have e2:IntKind.i64.wrap ((L.ss.length:Int) - (bn:Int))= (L.ss.length:Int) - (bn:Int):=IntWalk.i64_in _ (by omega);have e3:IntKind.i64.wrap ((L.ss.length:Int) - (bn:Int) - 1)= (L.ss.length:Int) - (bn:Int) - 1:=IntWalk.i64_in _ (by omega);have HE:=Lib.hid (Bi 17 n m (by omega));have H0:=Lib.hid h;have DD:=Lib.hid D;have hbs:=h.hb;have hD:doL L ⟨17,n,m⟩ ⟨cc,cn,bn⟩=if(L.ss.length:Int) - bn - 1 < Ag 17 m then(5,L)else(if Ap L.ss 0%2=0 then(5,L)else(0,{L with os:=L.os++ [Ap L.ss 0/2]})):=by
  unfold doL;dsimp only;rw[show((bn:Int) - 1).toNat=bj by omega,hself];by_cases hc:(L.ss.length:Int) - bn - 1 < Ag 17 m
  ·rw[if_pos hc,if_pos hc]
  ·rw[if_neg hc,if_neg hc];simp
 obtain⟨tk,htk⟩:∃tk,Ag 17 m=tk:=⟨_,rfl⟩;obtain⟨pu,hpu⟩:∃pu,A0 17=pu:=⟨_,rfl⟩;rw[htk,hpu]at HE;rw[htk]at hD;have HS:=Lib.hid (And.intro hself htk);clear h D hself htk hpu;go_enter Tryz.func149,Tryz.ntmps149;go_wp2_with fail;generalize hxx:(w.alloc _).alloc _=x0;obtain⟨bx,k1,k2,sx⟩:=AS hxx;clear hxx sx;have r0:=H0.out.below bx;have bb:=bx.mono hbs;have c1:=AN r0.s bj hjl;rw[List.getElem?_map,List.getElem?_eq_getElem hjl,Option.map_some,show L.ss[bj]=self by rw[←HS.out.1,List.getD_eq_getElem?_getD,List.getElem?_eq_getElem hjl];rfl]at c1;have q5:=r0.bx.2.1 5;simp at q5;have ck1:=k1.2.1;have yk1:=k1.1;have ck2:=k2.2.1;have yk2:=k2.1;go_quiet (fail);have s1:Still x0 (x0.drewN nq):=⟨nq,rfl⟩;generalize x0.drewN nq=x1 at s1 ⊢;replace r0:=r0.still s1;replace bb:=bb.trans (s1.below base);replace k1:=k1.below (s1.below x0.heap.size) k1.1;replace k2:=k2.below (s1.below x0.heap.size) k2.1;clear ck1 yk1 ck2 yk2 q5 c1 s1 bx;have ck1:=k1.2.1;have yk1:=k1.1;go_wp2_with fail;clear ck1 yk1;refine(HE.out _).mono ?_;rintro e w1 ⟨rfl,b1⟩;replace bb:=bb.trans (b1.mono r0.hb);replace r0:=r0.below b1;replace k1:=k1.below b1 k1.1;replace k2:=k2.below b1 k2.1;have q5:=r0.bx.2.1 5;simp at q5;have yg:=r0.bx.1;have ck2:=k2.2.1;have yk2:=k2.1;go_wp2_with fail;go_quiet (fail);have s1:Still w1 (w1.drewN nq):=⟨nq,rfl⟩;generalize w1.drewN nq=w2 at s1 ⊢;replace r0:=r0.still s1;replace bb:=bb.trans (s1.below base);replace k1:=k1.below (s1.below w1.heap.size) k1.1;replace k2:=k2.below (s1.below w1.heap.size) k2.1;clear ck2 yk2 q5 s1 b1 yg;have ck1:=k1.2.1;have yk1:=k1.1;have ck2:=k2.2.1;have yk2:=k2.1;by_cases hlt:(L.ss.length:Int) - bn - 1 < tk
 ·have HD:=Lib.hid (hD.trans (if_pos hlt));have R0:=Lib.hid r0;have BB:=Lib.hid bb;clear hD r0 bb;go_wp2;go_ret;rw[HD.out];exact⟨rfl,⟨gs,gc,hv,ov,p,q,R0.out⟩,BB.out⟩
 ·have HD:=Lib.hid (hD.trans (if_neg hlt));have R0:=Lib.hid r0;have BB:=Lib.hid bb;clear hD r0 bb;have htk:tk=1:=by rw[←HS.out.2];rfl
  obtain⟨i0,hi,hz0,hz1,hz2⟩:=info_parts Tryz.infoI2;obtain⟨x,hx⟩:∃x,Ap L.ss 0=x:=⟨_,rfl⟩;have HL:=Lib.hid (fun(W:World) (hW:RunV base W g gs gc fv hv ov p q L)=>hx▸DS hW (by have:=DD.out.fits.s1;omega) 0 (by omega));rw[hx]at HD;clear hx htk;by_cases hev:x%2=0
  ·have HP:=Lib.hid (HD.out.trans (if_pos hev));have hI:=Be x;rw[show(x%2==0)=true by simp[hev]]at hI;have HI:=Lib.hid hI;clear hI;go_wp2_with fail;refine(HL.out _ R0.out).mono ?_;rintro e w4 ⟨rfl,s4⟩;replace R0:=Lib.hid (R0.out.still s4);replace BB:=Lib.hid (BB.out.trans (s4.below base));clear s4;go_wp2_with (go_at_call 71;refine(HI.out _).mono ?_;rintro e w' ⟨rfl,rfl⟩);go_ret;rw[HP.out];exact⟨rfl,⟨gs,gc,hv,ov,p,q,R0.out⟩,BB.out⟩
  ·have HP:=Lib.hid (HD.out.trans (if_neg hev));have hI:=Be x;rw[show(x%2==0)=false by simp[hev]]at hI;have HI:=Lib.hid hI;have HW:=Lib.hid (DV x);clear hI;go_wp2_with fail;refine(HL.out _ R0.out).mono ?_;rintro e w4 ⟨rfl,s4⟩;replace R0:=Lib.hid (R0.out.still s4);replace BB:=Lib.hid (BB.out.trans (s4.below base));clear s4 k1 k2 ck1 ck2 yk1 yk2;go_wp2_with (go_at_call 71;refine(HI.out _).mono ?_;rintro e w' ⟨rfl,rfl⟩);have q7:=R0.out.bx.2.1 7;simp at q7;obtain⟨oa,oc,hov⟩:=AC R0.out.o;subst hov;refine AV 11 (S:=(fun w'=>w'.cell? ⟨g,7,none⟩=some (.slice oa L.os.length oc))) (by kernel_rfl) (by kernel_rfl) (by first | (dsimp only;exact q7) | (exact q7)) (fun hHeld=> ?_);clear q7;refine tkT (i:=0) ?_;refine tkT (i:=1) ?_;refine tkT (i:=2) ?_;refine tkT (i:=3) ?_;refine tkT (i:=4) ?_;refine tkT (i:=5) ?_;refine tkT (i:=6) ?_;generalize hxd:w4.drew=w5 at hHeld;have hd:Below w4.heap.size w4 w5:=by rw[←hxd];exact(Below.refl _ _).drew
   replace BB:=Lib.hid (BB.out.trans (hd.mono R0.out.hb));replace R0:=Lib.hid (R0.out.below hd);clear hxd hd;refine rdT (i:=7) (fun K hK=> ?_);go_simp;refine(HL.out _ R0.out).mono ?_;rintro e w6 ⟨rfl,s6⟩;refine bkT hK (by first | (dsimp only;exact((Still.below s6 (g+1)).cell (p:=⟨g,7,none⟩) (Nat.lt_succ_self _)).trans hHeld) | (exact((Still.below s6 (g+1)).cell (p:=⟨g,7,none⟩) (Nat.lt_succ_self _)).trans hHeld)) (fun hHeld=> ?_);clear hK K;replace R0:=Lib.hid (R0.out.still s6);replace BB:=Lib.hid (BB.out.trans (s6.below base));clear s6;refine rdT (i:=8) (fun K hK=> ?_);go_simp;refine(HW.out _).mono ?_;rintro e w7 ⟨rfl,rfl⟩;refine bkT hK (by first | (dsimp only;exact hHeld) | (exact hHeld)) (fun hHeld=> ?_);clear hK K;refine rdT (i:=9) (fun K hK=> ?_);go_simp;generalize hy:w6.alloc _=x1;obtain⟨b1,k1⟩:=Bx.alloc hy;clear hy;have r1:=R0.out.below b1;refine bkT hK (by first | (dsimp only;exact(b1.cell (by dsimp only;exact R0.out.bx.1)).trans hHeld) | (exact(b1.cell (by dsimp only;exact R0.out.bx.1)).trans hHeld)) (fun hHeld=> ?_);clear hK K;refine It (rs:=[10]) (by kernel_rfl) (by simp) ?_;refine AllReadyT.cons (by (simp only[List.getElem?_toArray,List.getElem?_cons_succ,List.getElem?_cons_zero];rfl)) (fun K hK=> ?_) AllReadyT.nil;rw[if_pos (by rfl)];have hol:=DD.out.ol;refine I4 _ _ 27 rfl base 3 i0 (.int .i64 0) 1 8 Tryz.underlying27 hi hz0 hz1 hz2 rfl (by decide) _ _ _ rfl r1.o #[.int .i64 (x/2)] rfl ?_ w6.heap.size rfl ?_ ?_ ?_ ?_ ?_
   ·simp[Value.oneCell']
   ·exact k1.2.1
   ·unfold maxLen;omega
   ·omega
   ·exact r1.hb
   ·intro v' x2 ho hg hat;have e2:L.os.map (Value.int .i64)++ #[.int .i64 (x/2)].toList= (L.os++ [x/2]).map (Value.int .i64):=by simp
    rw[e2]at ho;have hl2:(L.os++ [x/2]).length=L.os.length+1:=by simp
    have hov:=r1.oa;have R2:=Lib.hid (r1.out hg (v':=v') (os:=L.os++ [x/2]) (by rw[hl2];exact ho) (fun k hk=>by
     rcases hat with e |e
     ·exact .inl (e.symm.trans hk)
     ·exact .inr (by have:=Option.some.inj (hk.symm.trans e);omega)) DD.out.fits.z0)
    have hk2:=r1.bx.grown hg (fun e=>(hov g e.symm).1 rfl);have hK7:=hk2.2.1 7;obtain⟨va,vc,rfl⟩:=AC ho;refine hK.out _ _ (by first | (dsimp only;exact hK7) | (exact hK7)) (fun hHeld=> ?_);clear hK K hK7
    try simp only[Act.put,List.setIfInBounds_toArray,List.set_cons_zero,List.set_cons_succ]
    have c2:=hk2.2.1;have f2:=hk2.2.2;have y2:=hk2.1;have B3:=Lib.hid (BB.out.trans (b1.mono R0.out.hb));clear hg ho hk2 r1 k1 b1 hat hov R0 BB;refine AU (by kernel_rfl) ?_;dsimp only[List.drop];go_wp2;go_ret;rw[HP.out];exact⟨rfl,⟨gs,gc,hv,_,p,q,R2.out.1⟩,B3.out.trans R2.out.2⟩
theorem Y4 {base:Nat}{w:World}{g gs gc:Nat}{fv hv ov:Value}{p q:Nat}{L:VmL}(h:RunV base w g gs gc fv hv ov p q L) (o cl:O3) (D:DoOk L o cl):
  Calls Tryz.prog 149 #[.pointer (some ⟨g,0,none⟩),o.val,cl.val] w fun e w'=>e= .returned (.int .i64 (doL L o cl).1)∧
   (∃gs' gc' hv' ov' p' q',RunV base w' g gs' gc' fv hv' ov' p' q' (doL L o cl).2)∧Below base w w':=by
 obtain⟨c,n,m⟩:=o;have hr:=D.rng;dsimp only at hr;have hcs:c=1∨c=2∨c=3∨c=4∨c=5∨c=6∨c=7∨c=8∨c=9∨c=10∨c=11∨c=12∨c=13∨c=14∨c=15∨c=16∨c=17∨c=18∨c=19∨c=20∨c=21:=by omega
 rcases hcs with rfl |rfl |rfl |rfl |rfl |rfl |rfl |rfl |rfl |rfl |rfl |rfl |rfl |rfl |rfl |rfl |rfl |rfl |rfl |rfl |rfl
 ·exact Zn h n m cl D
 ·exact ZF h n m cl D
 ·exact Zo h n m cl D
 ·exact Zp h n m cl D
 ·exact Zq h n m cl D
 ·exact Zs h n m cl D
 ·exact Zt h n m cl D
 ·exact Zr h n m cl D
 ·exact Zu h n m cl D
 ·exact Zv h n m cl D
 ·exact Zw h n m cl D
 ·exact Zz h n m cl D
 ·exact ZA h n m cl D
 ·exact ZB h n m cl D
 ·exact ZC h n m cl D
 ·exact ZD h n m cl D
 ·exact ZH h n m cl D
 ·exact Zx h n m cl D
 ·exact ZG h n m cl D
 ·exact ZE h n m cl D
 ·exact Zy h n m cl D
theorem ZI (L:VmL) (f:Bool) (tag:Int) (k:Nat):(BV L f tag k).2.fs=L.fs:=by unfold BV;dsimp only;split <;> rfl
theorem ZJ (L:VmL) (f:Bool) (tag:Int) (k:Nat):(Bb L f tag k).2.fs=L.fs:=by unfold Bb;rw[ZI];split <;> rfl
theorem Bj {α:Type}{P:α→Prop}{c:Prop} [Decidable c] {a b:α}(ha:c→P a) (hb:¬c→P b):P (if c then a else b):=by
 by_cases h:c
 ·rw[if_pos h];exact ha h
 ·rw[if_neg h];exact hb h
theorem Pu {L:VmL}{o c:O3}{P:Int×VmL→Prop}(h:∀x ss cs os,P (x,{L with ss:=ss,cs:=cs,os:=os}))
  (hm:(o.c=5∨o.c=8)→ ¬((L.ss.length:Int) - c.m - 1 < Ag o.c o.m)→P (Bb L (decide (o.c=5)) o.n o.m.toNat)):P (doL L o c):=by
 have h0:∀x,P (x,L):=fun x=>h x L.ss L.cs L.os;have hp:∀t y,P (Dd L t y):=fun t y=>h _ (AY L.ss t y).2 L.cs L.os;have hk:∀x f n t,P (Bt L x f n t):=fun x f n t=>by
  unfold Bt;exact Bj (fun _=>h0 5) (fun _=>h _ _ L.cs L.os)
 unfold doL;refine Bj (fun _=>h0 5) (fun hlt=>Bj (fun _=>hp 0 _) (fun _=>Bj (fun _=>Bj (fun _=>h0 5) (fun _=>hp 0 _)) (fun _=>Bj (fun _=>hk _ _ _ _) (fun _=>Bj (fun _=>hp 0 _) (fun _=>Bj (fun e=>hm e hlt) (fun _=>Bj (fun _=> ?_) (fun _=>Bj (fun _=> ?_) (fun _=>Bj (fun _=>hk _ _ _ _) (fun _=>Bj (fun _=> ?_) (fun _=>Bj (fun _=>Bj (fun _=>h0 5) (fun _=>h 0 L.ss L.cs _)) (fun _=>Bj (fun _=>h 0 L.ss _ L.os) (fun _=>Bj (fun _=>hp 2 _) (fun _=>Bj (fun _=>h0 4) (fun _=> ?_))))))))))))))
 ·unfold Em;exact Bj (fun _=>h0 5) (fun _=>Bj (fun _=>h0 3) (fun _=>h 0 L.ss _ L.os))
 ·unfold Dw;exact Bj (fun _=>h0 5) (fun _=>h _ _ _ L.os)
 ·unfold A6;exact Bj (fun _=>h0 5) (fun _=>h 0 _ _ L.os)
 ·unfold CV;exact Bj (fun _=>h0 5) (fun _=>h _ _ L.cs L.os)
theorem Pv (L:VmL) (o c:O3):(doL L o c).2.fs=L.fs:=Pu (P:=fun r=>r.2.fs=L.fs) (fun _ _ _ _=>rfl) (fun _ _=>ZJ _ _ _ _)
theorem Pw {L:VmL}{k:Nat}(M:MkOk L k) (f:Bool) (tag:Int):(BV L f tag k).2.zs.length=L.zs.length:=by
 unfold BV;dsimp only;split
 ·rfl
 ·rename_i h;unfold A8 at h;have h1:=M.fit;have h2:=M.hn;have h3:=M.kl;refine Fp ?_;rw[List.length_cons,List.length_drop];omega
theorem ZK {L:VmL}{k:Nat}(M:MkOk L k) (hr:AW L.zs L.h L.b L.n L.ss=true) (f:Bool) (tag:Int):(Bb L f tag k).2.zs.length=L.zs.length:=by
 unfold Bb;split
 ·rw[Pw (M.moved hr)];obtain⟨h,b,n,ps,e1,e2,e3,hR,hx,hbh,e,hl,hi,hraw⟩:=KN hr M.z2;rw[e];exact hl
 ·exact Pw M f tag
theorem ZM {L:VmL}{o c:O3}(D:DoOk L o c):(doL L o c).2.zs.length=L.zs.length:=by
 refine Pu (P:=fun r=>r.2.zs.length=L.zs.length) (fun _ _ _ _=>rfl) (fun hk hlt=> ?_);have ht:Ag o.c o.m=o.m:=by unfold Ag;rw[if_pos hk]
 have hm:=D.m0;have hcm:=D.cm;rw[ht]at hlt;exact ZK (Right.mkOk D.fits D.right (by omega) (by omega)) D.right _ _
def Cf (L:VmL):VmL:= {L with cs:=A5 L.cs ((Ay L).n+1),code:=0}
structure StepOk (L:VmL) (f k:Nat):Prop where
 ff:(Ay L).c=f
 fl:f < L.fs.length
 kk:(Ay L).n=k
 kl:k < (L.fs.getD f fn0).os.length
 k3:k≤3000
 z4:4≤L.zs.length
 d:DoOk (Cf L) (opL L (Ay L)) (Ay L)
theorem Pm (L:VmL):Av L= (if(doL (Cf L) (opL L (Ay L)) (Ay L)).1=0∨(doL (Cf L) (opL L (Ay L)) (Ay L)).1=1 then {(doL (Cf L) (opL L (Ay L)) (Ay L)).2 with code:=(doL (Cf L) (opL L (Ay L)) (Ay L)).1}
 else {L with code:=(doL (Cf L) (opL L (Ay L)) (Ay L)).1}):=rfl
theorem Zi {w x:World}{A B C:Array Value}{e f k:TypeId}(h:((w.alloc (.cells A e)).alloc (.cells B f)).alloc (.cells C k)=x):
  Below w.heap.size w x∧Bx x w.heap.size A∧Bx x (w.heap.size+1) B∧Bx x (w.heap.size+1+1) C∧x.heap.size=w.heap.size+3:=by
 obtain⟨y,hy⟩:∃y,(w.alloc (.cells A e)).alloc (.cells B f)=y:=⟨_,rfl⟩;obtain⟨b1,k1,k2,s1⟩:=AS hy;rw[hy]at h;obtain⟨b2,k3⟩:=Bx.alloc h;have e:y.heap.size=w.heap.size+2:=s1;rw[e]at k3 b2;refine⟨b1.trans (b2.mono (by omega)),k1.below b2 (by omega),k2.below b2 (by omega),k3,?_⟩;rw[←h,World.size_alloc,e]
theorem RunV.codeAt {base:Nat}{w:World}{g gs gc:Nat}{fv hv ov:Value}{p q:Nat}{L:VmL}(h:RunV base w g gs gc fv hv ov p q L) (c:Int):
  RunV base (w.setCell ⟨g,8,none⟩ (.int .i64 c)) g gs gc fv hv ov p q {L with code:=c}∧Below base w (w.setCell ⟨g,8,none⟩ (.int .i64 c)):=by
 obtain⟨b,z,s,cc,o⟩:=h.set 8 (.int .i64 c);have k2:=h.bx.set 8 (by simp) (.int .i64 c);exact⟨⟨k2,by simp;exact h.hb,h.hg,h.f.below b (Nat.le_refl _),z,s,cc,o,h.n1,h.n2,h.n3,h.oa,h.za⟩,b⟩
def New (H:Nat) (v v':Value):Prop:=v'=v∨ ∀k,v'.ownBlock=some k→H≤k
theorem G7 {n t:Nat}{w:World}{v:Value}{zs:List Int}(hr:Rd n .i64 w v zs) (hl:4≤zs.length) {a0 a1 a5 a6 a7:Option Addr}{l0 l1 l5 l6 l7 c0 c1 c5 c6 c7:Nat}{x2 x3 x4 x8:Int}{x9:Bool}
  (hb:Bx w t #[.slice a0 l0 c0,.slice a1 l1 c1,.int .i64 x2,.int .i64 x3,.int .i64 x4,.slice a5 l5 c5,.slice a6 l6 c6,.slice a7 l7 c7,.int .i64 x8,.bool x9]):∀i,v.ownBlock=some i→i≠t:=by
 rcases hr with ⟨h0,_⟩ |⟨b,off,cap,rfl,_,_,_,h5⟩
 ·rw[h0]at hl;simp at hl
 intro i hi he;have hbi:b=i:=Option.some.inj hi;subst hbi;subst he;have c0:=(hb.2.1 (off+0)).symm.trans (h5 0 (by omega));have c1:=(hb.2.1 (off+1)).symm.trans (h5 1 (by omega));have c2:=(hb.2.1 (off+2)).symm.trans (h5 2 (by omega));have c3:=(hb.2.1 (off+3)).symm.trans (h5 3 (by omega));have ho:off=0∨off=1∨off=2∨off=3∨off=4∨off=5∨off=6∨off=7∨off=8∨off=9∨10≤off:=by omega
 rcases ho with rfl |rfl |rfl |rfl |rfl |rfl |rfl |rfl |rfl |rfl |ho
 all_goals first
  | (simp at c0;done)
  | (simp at c1;done)
  | (simp at c2;done)
  | (simp at c3;done)
  | (rw[Array.getElem?_eq_none (by simp;omega)]at c0;cases c0)
theorem RunV.rd {base:Nat}{w:World}{g gs gc:Nat}{fv hv ov:Value}{p q:Nat}{L:VmL}(h:RunV base w g gs gc fv hv ov p q L):RdV w.heap.size w fv hv (slv gs L.ss.length p) (slv gc L.cs.length q) ov L:=
 ⟨h.f.below' (Below.refl _ _),h.z,Rd.of_own h.s,RdE.of_own O3.enc_len h.c,Rd.of_own h.o⟩
theorem Zj {B:Nat}{w:World}{fv hv sv cv ov:Value}{L:VmL}(h:RdV B w fv hv sv cv ov L) (c:Int):RdV w.heap.size w fv hv sv cv ov {L with code:=c}:=
 have k:=h.below' (Below.refl _ _)
 ⟨k.f,k.z,k.s,k.c,k.o⟩
theorem Zk {base t g gs gc B:Nat}{w W:World}{fv hv ov:Value}{p q:Nat}{M:VmL}(R:RunV base w g gs gc fv hv ov p q M) (gT:w.grownBy W (some t)) (ht:t < base) (hz:4≤M.zs.length)
  (kT:Bx w t #[.slice none 0 0,.slice none 0 0,.int .i64 0,.int .i64 0,.int .i64 0,.slice none 0 0,.slice none 0 0,.slice none 0 0,.int .i64 0,.bool false]) (hf:RdF B W fv M.fs):
  RdV W.heap.size W fv hv (slv gs M.ss.length p) (slv gc M.cs.length q) ov M:=by
 obtain⟨⟨l1,_⟩,l3,_⟩:=R.lts;have ho:ov.ownBlock=none∨ov.ownBlock≠some t:=R.off (fun k hk e=>by have:=(R.o.lt k hk).1;omega);refine⟨hf.below' (Below.refl _ _),R.z.grow gT (fun i hi e=>G7 R.z hz kT i hi (Option.some.inj e)),Rd.of_own (R.s.kept gT (.inr (fun e=> ?_))),RdE.of_own O3.enc_len (R.c.kept gT (.inr (fun e=> ?_))),Rd.of_own (R.o.kept gT ho)⟩
 ·have e':gs=t:=Option.some.inj e;omega
 ·have e':gc=t:=Option.some.inj e;omega
theorem Pn {B:Nat}(fv hv sv cv ov:Value) (L:VmL) (w:World) (hr:RdV B w fv hv sv cv ov L) {f k:Nat}(hs:StepOk L f k):
  Calls Tryz.prog 76 #[vmV fv hv sv cv ov L] w fun e w'=>∃hv' sv' cv' ov',e= .returned (vmV fv hv' sv' cv' ov' (Av L))∧RdV w'.heap.size w' fv hv' sv' cv' ov' (Av L)∧Below w.heap.size w w'∧New w.heap.size sv sv'∧New w.heap.size cv cv'∧New w.heap.size ov ov':=by
 have hz0:=hs.d.fits.z0;have hss:=hs.d.fits.s1;have hcl:=hs.d.cl;have hcs:(Cf L).cs.length=L.cs.length:=by unfold Cf A5;simp
 have hol:=hs.d.ol;have hsp:0 < L.ss.length:=by have:=hs.d.cm;change 1≤_∧_≤ (L.ss.length:Int) - 1 at this;omega
 rw[hcs]at hcl;change L.zs≠ []at hz0;change L.ss.length≤600 at hss;change L.os.length≤4294967296 at hol;have hr0:=hr.below' (Below.refl w.heap.size w);obtain⟨i,hi⟩:∃i,L.cs.length - 1=i:=⟨_,rfl⟩;have hil:i < L.cs.length:=by omega
 have htop:Ay L=L.cs[i]:=by unfold Ay;rw[hi,List.getD_eq_getElem?_getD,List.getElem?_eq_getElem hil];rfl
 have e1:IntKind.i64.wrap ((L.cs.length:Int) - 1)= (i:Int):=by rw[IntWalk.i64_in _ (by omega)];omega
 have HR:=Lib.hid (fun(W:World) (hb:Below w.heap.size w W)=>hr0.below' hb);obtain⟨fa,fc,ha,hcp,sa,sc,ca,cc,oa,oc,rfl,rfl,rfl,rfl,rfl⟩:=hr0.forms;obtain⟨cb,coff,ccap,hcv,hcb1,hcb2,hcb3,hcells⟩:=RdE.at_ hr0.c hil;cases hcv
 obtain⟨o,ho⟩:∃o,opL L (Ay L)=o:=⟨_,rfl⟩;have HS:=Lib.hid hs;have HO:=Lib.hid ho;have HT:=Lib.hid htop;have ZL:=Lib.hid (fun(r:Int×VmL) (h:doL (Cf L) (opL L (Ay L)) (Ay L)=r)=>(show 4≤r.2.zs.length∧r.2.fs=L.fs from⟨by rw[←h,ZM hs.d];exact hs.z4,by rw[←h,Pv];rfl⟩));have hff:=hs.ff;have hkk:=hs.kk;have hk3:=hs.k3;obtain⟨tc,htc⟩:∃tc,Ay L=tc:=⟨_,rfl⟩;rw[htc]at hff hkk;rw[←htop,htc]at hcells;have d0:w.cell? ⟨cb,coff+i*3,none⟩=some (.int .i64 (f:Int)):=by rw[←hff];exact hcells 0 (by decide)
 have d1:w.cell? ⟨cb,coff+i*3+1,none⟩=some (.int .i64 (k:Int)):=by rw[←hkk];exact hcells 1 (by decide)
 have d2:w.cell? ⟨cb,coff+i*3+2,none⟩=some (.int .i64 tc.m):=hcells 2 (by decide);have HTC:=Lib.hid htc;have HCC:=Lib.hid hcells;clear hr hr0 hs ho htop htc hcells;unfold vmV;go_enter Tryz.func76,Tryz.ntmps76;go_wp2_with fail;generalize hxx:((w.alloc _).alloc _).alloc _=x0;obtain⟨bx,k1,k2,k3,sx⟩:=Zi hxx;clear hxx d0 d1 d2;have HX:=Lib.hid (fun(W:World) (hb:Below x0.heap.size x0 W)=>(HR.out x0 bx).below' hb);have hzl:∀k,(Value.slice ha L.zs.length hcp).ownBlock=some k→k < x0.heap.size:=by
  have hzr:=(HR.out x0 bx).z;rcases hzr with ⟨h0,_⟩ |⟨b,off,cap,hv,h2,h3,_⟩
  ·exact absurd h0 hz0
  ·intro k hk;rw[hv]at hk;cases hk
   exact h3
 have BX:=Lib.hid bx;have b0:Below x0.heap.size x0 x0:=Below.refl _ _;clear bx;refine wp_region_held_drew (S:=(fun w'=>∀j,w'.cell? ⟨w.heap.size,j,none⟩= #[.slice fa L.fs.length fc,.slice ha L.zs.length hcp,.int .i64 L.h,.int .i64 L.b,.int .i64 L.n,.slice sa L.ss.length sc,.slice (some ⟨cb,coff,none⟩) L.cs.length cc,.slice oa L.os.length oc,.int .i64 L.code,.bool L.each][j]?)) (by kernel_rfl) (by first | (dsimp only;exact k1.2.1) | (exact k1.2.1)) (fun hHeld=> ?_);refine tkH (i:=0) ?_;refine tkH (i:=1) ?_;refine tkH (i:=2) ?_;refine tkH (i:=3) ?_;refine tkH (i:=4) ?_;refine tkH (i:=5) ?_;refine tkH (i:=7) ?_;refine tkH (i:=8) ?_;refine tkH (i:=10) ?_;refine tkH (i:=11) ?_;refine tkH (i:=13) ?_;refine tkH (i:=14) ?_;generalize hxd:x0.drew=x1 at hHeld;have hd:Below x0.heap.size x0 x1:=by rw[←hxd];exact(Below.refl _ _).drew
 replace k1:=k1.below hd k1.1;replace k2:=k2.below hd k2.1;replace k3:=k3.below hd k3.1;replace b0:=b0.trans (hd.mono b0.size);have hx0:=hd.size;clear hxd hd;refine rdH (i:=6) (fun K hK=> ?_);go_simp;refine(Ft _ L.ss _ (HX.out x1 b0).s (by omega)).mono ?_;rintro e w2 ⟨v2,rfl,o2,b2⟩;obtain⟨gs,p,rfl,hs1,hs2⟩:=BU o2 hsp;refine bkH hK (by first | (dsimp only;exact(k1.below b2 k1.1).2.1) | (exact(k1.below b2 k1.1).2.1)) (fun hHeld=> ?_);clear hK K;replace k1:=k1.below b2 k1.1;replace k2:=k2.below b2 k2.1;replace k3:=k3.below b2 k3.1;replace b0:=b0.trans (b2.mono b0.size);refine rdH (i:=9) (fun K hK=> ?_);go_simp;refine(Lw _ L.cs _ (HX.out w2 b0).c (by omega)).mono ?_;rintro e w3 ⟨v3,rfl,o3,b3⟩;obtain⟨gc,q,rfl,hc1,hc2⟩:=BU o3 hcl.1;refine bkH hK (by first | (dsimp only;exact(k1.below b3 k1.1).2.1) | (exact(k1.below b3 k1.1).2.1)) (fun hHeld=> ?_);clear hK K;replace k1:=k1.below b3 k1.1;replace k2:=k2.below b3 k2.1;replace k3:=k3.below b3 k3.1;replace b0:=b0.trans (b3.mono b0.size);replace o2:=Al o2 b3 (Af o2);refine rdH (i:=12) (fun K hK=> ?_);go_simp;refine(Ft _ L.os _ (HX.out w3 b0).o (by omega)).mono ?_;rintro e w4 ⟨v4,rfl,o4,b4⟩;obtain⟨oa4,oc4,rfl⟩:=AC o4;refine bkH hK (by first | (dsimp only;exact(k1.below b4 k1.1).2.1) | (exact(k1.below b4 k1.1).2.1)) (fun hHeld=> ?_);clear hK K;replace k1:=k1.below b4 k1.1;replace k2:=k2.below b4 k2.1;replace k3:=k3.below b4 k3.1;replace b0:=b0.trans (b4.mono b0.size);replace o2:=Al o2 b4 (Af o2);replace o3:=Al o3 b4 (Af o3);refine tkH (i:=15) ?_;refine tkH (i:=16) ?_;refine rdH (i:=17) (fun K hK=> ?_);go_simp;generalize hy:w4.alloc _=w5;obtain⟨b5,k5⟩:=Bx.alloc hy;clear hy;refine bkH hK (by first | (dsimp only;exact(k1.below b5 k1.1).2.1) | (exact(k1.below b5 k1.1).2.1)) (fun hHeld=> ?_);clear hK K;refine tkH (i:=18) ?_;have R0:RunV x0.heap.size w5 w4.heap.size gs gc (.slice fa L.fs.length fc) (.slice ha L.zs.length hcp) (.slice oa4 L.os.length oc4) p q {L with code:=0}:=by
  have hb5:=b0.trans (b5.mono b0.size);have zs1:=b0.size;have hx1:=b2.size;have hx2:=b3.size;have hx3:=b4.size;have hx5:=b5.size;have ho4:∀k,(Value.slice oa4 L.os.length oc4).ownBlock=some k→w3.heap.size≤k∧k < w4.heap.size:=fun k hk=>o4.lt k hk;have hgs:=(o2.lt gs rfl);have hgc:=(o3.lt gc rfl);have hzs0:=hzl;refine⟨k5,by omega,by omega,(HX.out w5 hb5).f,(HX.out w5 hb5).z.mono hb5.size,AR (Al o2 b5 (Af o2)) (by omega),AR (Al o3 b5 (Af o3)) (by omega),AR (Al o4 b5 (Af o4)) (by omega),by omega,by omega,by omega,fun k hk=> ?_,fun k hk=> ?_⟩
  ·have:=ho4 k hk;exact⟨by omega,by omega,by omega⟩
  ·have:=hzs0 k hk;refine⟨by omega,by omega,by omega,fun e=> ?_⟩;have:=ho4 k e;omega
 replace b0:=b0.trans (b5.mono b0.size);have K1:=Lib.hid (k1.below b5 k1.1);have K2:=Lib.hid (k2.below b5 k2.1);have K3:=Lib.hid (k3.below b5 k3.1);have R0:=Lib.hid R0;have B0:=Lib.hid b0;have hk1:w.heap.size+3≤x0.heap.size:=Nat.le_of_eq sx.symm;obtain⟨g,hg⟩:∃g,w4.heap.size=g:=⟨_,rfl⟩;rw[hg]at R0;simp only[hg];clear hg b5 k5 b0 k1 k2 k3 o2 o3 o4 b2 b3 b4 hHeld hs1 hs2 hc1 hc2 hzl sx;refine wpAnyH_done (by kernel_rfl) ?_ _;go_wp2_with fail;have e2:IntKind.i64.wrap ((k:Int)+1)= (k:Int)+1:=IntWalk.i64_in _ (by omega);have hfl:(flat O3.enc L.cs).length=L.cs.length*3:=CJ O3.enc_len _;have hcell:(flat O3.enc L.cs)[i*3+1]?=some (.int .i64 (k:Int)):=by
  rw[Hy O3.enc_len L.cs i _ (List.getElem?_eq_getElem hil) 1 (by decide),←HT.out,HTC.out,←hkk];rfl
 have hmid:Cf L= {L with cs:=L.cs.set i {L.cs[i]with n:=(k:Int)+1},code:=0}:=by
  unfold Cf;rw[GW hi hil,HTC.out,hkk]
 have HMID:=Lib.hid hmid;have q6:=R0.out.bx.2.1 6;simp at q6;have z6:=D3 R0.out.c (i*3+1) (by dsimp only;omega);dsimp only at z6;rw[hcell]at z6;clear hmid hcell;refine AV 18 (S:=(fun w'=>w'.cell? ⟨g,6,none⟩=some (slv gc L.cs.length q)∧w'.cell? ⟨gc,i*3+1,none⟩=some (.int .i64 (k:Int)))) (by kernel_rfl) (by kernel_rfl) (by first | (dsimp only;exact⟨q6,z6⟩) | (exact⟨q6,z6⟩)) (fun hHeld=> ?_);clear q6 z6;refine tkT (i:=0) ?_;refine tkT (i:=1) ?_;refine tkT (i:=2) ?_;refine tkT (i:=3) ?_;refine tkT (i:=4) ?_;refine tkT (i:=5) ?_;refine tkT (i:=6) ?_;refine tkT (i:=7) ?_;refine tkT (i:=8) ?_;refine tkT (i:=9) ?_;refine tkT (i:=10) ?_;refine tkT (i:=11) ?_;refine tkT (i:=12) ?_;refine tkT (i:=13) ?_;refine tkT (i:=14) ?_;refine tkT (i:=15) ?_;refine tkT (i:=16) ?_;refine tkT (i:=17) ?_;generalize hxd:w5.drew=w6 at hHeld;have hd:Below w5.heap.size w5 w6:=by rw[←hxd];exact(Below.refl _ _).drew
 have R1:=R0.out.below hd;have k1:=K1.out.below hd K1.out.1;have k2:=K2.out.below hd K2.out.1;have k3:=K3.out.below hd K3.out.1;have b0:=B0.out.trans (hd.mono B0.out.size);clear hxd hd R0 K1 K2 K3 B0;have c6:=hHeld.2;have f6:=Cy R1.c (i*3+1);have R2:=Lib.hid (R1.pc (k:=i) (by dsimp only;exact hil) ((k:Int)+1));have lg:=R1.lts;clear R1;refine AU (by kernel_rfl) ?_;dsimp only[List.drop];go_wp2_with fail;generalize hx7:World.setCell w6 _ _=w7 at R2 ⊢;have b7:=R2.out.2;replace k1:=k1.below b7 (by omega);replace k2:=k2.below b7 (by omega);replace k3:=k3.below b7 (by omega);replace b0:=b0.trans b7;have RM:RunV x0.heap.size w7 g gs gc (.slice fa L.fs.length fc) (.slice ha L.zs.length hcp) (.slice oa4 L.os.length oc4) p q (Cf L):=by rw[HMID.out];exact by simpa using R2.out.1
 have RM:=Lib.hid RM;clear hx7 b7 R2 c6 f6 hHeld lg;have hfl':=HS.out.fl;obtain⟨fb,foff,fcap,lv,hfv,hfb,_,_,_,cf1,ro⟩:=(HX.out w7 b0).f.at_ HS.out.fl;cases hfv
 have hkl:=HS.out.kl;rw[DJ HS.out.fl]at hkl;obtain⟨ob,ooff,ocap,hlv,hob,_,_,ocells⟩:=RdE.at_ ro hkl;subst hlv;have hok:L.fs[f].os[k]=o:=by
  rw[←HO.out];unfold opL;rw[HTC.out,hff,hkk,Int.toNat_natCast,Int.toNat_natCast,DJ HS.out.fl,List.getD_eq_getElem?_getD,List.getElem?_eq_getElem hkl];rfl
 rw[hok]at ocells;have o0:w7.cell? ⟨ob,ooff+k*3,none⟩=some (.int .i64 o.c):=ocells 0 (by decide);have o1:w7.cell? ⟨ob,ooff+k*3+1,none⟩=some (.int .i64 o.n):=ocells 1 (by decide);have o2:w7.cell? ⟨ob,ooff+k*3+2,none⟩=some (.int .i64 o.m):=ocells 2 (by decide);have q0:=k1.2.1 0;have t0:=k3.2.1 0;have t1:=k3.2.1 1;have t2:=k3.2.1 2;simp at q0 t0 t1 t2;obtain⟨ol,hol'⟩:∃ol,L.fs[f].os.length=ol:=⟨_,rfl⟩;rw[hol']at cf1 hkl;refine wp_region_held_drew (S:=(fun w'=>w'.cell? ⟨w.heap.size,0,none⟩=some (.slice (some ⟨fb,foff,none⟩) L.fs.length fc)∧w'.cell? ⟨w.heap.size+1+1,0,none⟩=some (.int .i64 (f:Int))∧w'.cell? ⟨w.heap.size+1+1,1,none⟩=some (.int .i64 (k:Int))∧w'.cell? ⟨w.heap.size+1+1,2,none⟩=some (.int .i64 tc.m)∧w'.cell? ⟨fb,foff+f*2+1,none⟩=some (.slice (some ⟨ob,ooff,none⟩) ol ocap)∧w'.cell? ⟨ob,ooff+k*3,none⟩=some (.int .i64 o.c)∧w'.cell? ⟨ob,ooff+k*3+1,none⟩=some (.int .i64 o.n)∧w'.cell? ⟨ob,ooff+k*3+2,none⟩=some (.int .i64 o.m))) (by kernel_rfl) (by first | (dsimp only;exact⟨q0,t0,t1,t2,cf1,o0,o1,o2⟩) | (exact⟨q0,t0,t1,t2,cf1,o0,o1,o2⟩)) (fun hHeld=> ?_);clear q0 t0 t1 t2 cf1 o0 o1 o2 ocells ro;refine tkH (i:=0) ?_;refine tkH (i:=1) ?_;refine tkH (i:=2) ?_;refine tkH (i:=3) ?_;refine tkH (i:=4) ?_;refine tkH (i:=5) ?_;refine tkH (i:=6) ?_;refine tkH (i:=7) ?_;refine tkH (i:=8) ?_;refine tkH (i:=9) ?_;refine tkH (i:=10) ?_;refine tkH (i:=11) ?_;refine tkH (i:=12) ?_;refine tkH (i:=13) ?_;generalize hxd:w7.drew=w8 at hHeld;have hd:Below w7.heap.size w7 w8:=by rw[←hxd];exact(Below.refl _ _).drew
 have R3:=Lib.hid (RM.out.below hd);have K1:=Lib.hid (k1.below hd k1.1);have K2:=Lib.hid (k2.below hd k2.1);have B0:=Lib.hid (b0.trans (hd.mono b0.size));clear hxd hd RM k1 k2 k3 b0;obtain⟨r,hrr⟩:∃r,doL (Cf L) (opL L (Ay L)) (Ay L)=r:=⟨_,rfl⟩;have HD:=Y4 R3.out (opL L (Ay L)) (Ay L) HS.out.d;rw[hrr,HO.out,HTC.out,show tc.val= .agg #[.int .i64 (f:Int),.int .i64 (k:Int),.int .i64 tc.m]by rw[←hff,←hkk];rfl,show o.val= .agg #[.int .i64 o.c,.int .i64 o.n,.int .i64 o.m]from rfl]at HD;have HST:=Lib.hid (show Av L=if r.1=0∨r.1=1 then {r.2 with code:=r.1}else {L with code:=r.1}by rw[Pm,hrr]);have HRR:=Lib.hid hrr;clear hrr;have hkx:w.heap.size < x0.heap.size:=by omega
 have hkx2:w.heap.size+1+1 < x0.heap.size:=by omega
 refine rdH (i:=14) (fun K hK=> ?_);go_simp;refine HD.mono ?_;rintro e w9 ⟨rfl,⟨gs',gc',hv',ov',p',q',R4⟩,b9⟩;refine bkH hK (by first | (dsimp only;exact⟨(b9.cell hkx).trans hHeld.1,(b9.cell hkx2).trans hHeld.2.1,(b9.cell hkx2).trans hHeld.2.2.1,(b9.cell hkx2).trans hHeld.2.2.2.1,(b9.cell hfb).trans hHeld.2.2.2.2.1,(b9.cell hob).trans hHeld.2.2.2.2.2.1,(b9.cell hob).trans hHeld.2.2.2.2.2.2.1,(b9.cell hob).trans hHeld.2.2.2.2.2.2.2⟩) | (exact⟨(b9.cell hkx).trans hHeld.1,(b9.cell hkx2).trans hHeld.2.1,(b9.cell hkx2).trans hHeld.2.2.1,(b9.cell hkx2).trans hHeld.2.2.2.1,(b9.cell hfb).trans hHeld.2.2.2.2.1,(b9.cell hob).trans hHeld.2.2.2.2.2.1,(b9.cell hob).trans hHeld.2.2.2.2.2.2.1,(b9.cell hob).trans hHeld.2.2.2.2.2.2.2⟩)) (fun hHeld=> ?_);clear hK K;refine tkH (i:=15) ?_;refine tkH (i:=16) ?_;refine tkH (i:=17) ?_;have H5:=R4.codeAt r.1;have c8:=R4.bx.2.1;have f8:=R4.bx.2.2;have y8:=R4.bx.1;have b10:=H5.2;have R5:=Lib.hid H5.1;have K1':=Lib.hid ((K1.out.below b9 hkx).below b10 hkx);have K2':=Lib.hid ((K2.out.below b9 (by omega)).below b10 (by omega));have B10:=Lib.hid (((BX.out.trans (B0.out.mono BX.out.size)).trans (b9.mono (by omega))).trans (b10.mono (by omega)));clear H5 HD;refine rdH (i:=18) (fun K hK=> ?_);go_simp;refine bkH hK (by first | (dsimp only;exact⟨(b10.cell hkx).trans hHeld.1,(b10.cell hkx2).trans hHeld.2.1,(b10.cell hkx2).trans hHeld.2.2.1,(b10.cell hkx2).trans hHeld.2.2.2.1,(b10.cell hfb).trans hHeld.2.2.2.2.1,(b10.cell hob).trans hHeld.2.2.2.2.2.1,(b10.cell hob).trans hHeld.2.2.2.2.2.2.1,(b10.cell hob).trans hHeld.2.2.2.2.2.2.2⟩) | (exact⟨(b10.cell hkx).trans hHeld.1,(b10.cell hkx2).trans hHeld.2.1,(b10.cell hkx2).trans hHeld.2.2.1,(b10.cell hkx2).trans hHeld.2.2.2.1,(b10.cell hfb).trans hHeld.2.2.2.2.1,(b10.cell hob).trans hHeld.2.2.2.2.2.1,(b10.cell hob).trans hHeld.2.2.2.2.2.2.1,(b10.cell hob).trans hHeld.2.2.2.2.2.2.2⟩)) (fun hHeld=> ?_);clear hK K;refine wpAnyH_done (by kernel_rfl) ?_ _;generalize hx11:World.setCell w9 _ _=w11 at R5 K1' K2' B10 ⊢;obtain⟨va,vc,hhv⟩:=R5.out.z.form;obtain⟨wa,wc,hov⟩:=AC R5.out.o;subst hhv hov;have hz4:4≤r.2.zs.length:=(ZL.out r HRR.out).1;by_cases hc:r.1=0∨r.1=1
 ·have HP:=Lib.hid (HST.out.trans (if_pos hc));have q5:=R5.out.bx.2.1;have q2:=K2'.out.2.1;have f2:=K2'.out.2.2;have y2:=K2'.out.1;have hfs:r.2.fs=L.fs:=(ZL.out r HRR.out).2;have R5':=R5;rcases hc with hc |hc
  all_goals
   rw[hc]at q5 R5' HP;go_wp2;rw[HP.out];refine bodyPost_ret (v:= .agg #[.slice (some ⟨fb,foff,none⟩) L.fs.length fc,.slice va r.2.zs.length vc,.int .i64 r.2.h,.int .i64 r.2.b,.int .i64 r.2.n,slv gs' r.2.ss.length p',slv gc' r.2.cs.length q',.slice wa r.2.os.length wc,.int .i64 _,.bool r.2.each]) ?_ rfl ⟨_,_,_,_,rfl,?_,?_,.inr ?_,.inr ?_,.inr ?_⟩
   ·simp[results,Tryz.results76,go_sem,q2]
   ·refine Zk (t:=w.heap.size+1) R5'.out ?_ (by omega) hz4 K2'.out (B:=w.heap.size) ?_
    ·repeat(with_reducible refine grownBy.trans ?_ (grownBy.setCell _ _ _ _))
     with_reducible exact grownBy.refl _ _
    ·show RdF _ _ _ r.2.fs
     rw[hfs];refine(HR.out _ ?_).f
     repeat(with_reducible refine Below.setCell ?_ (by show _≤_+1;omega) _)
     exact B10.out
   ·repeat(with_reducible refine Below.setCell ?_ (by show _≤_+1;omega) _)
    exact B10.out
   ·intro k hk;have e:gs'=k:=Option.some.inj hk;have:=R5'.out.lts.1.1;omega
   ·intro k hk;have e:gc'=k:=Option.some.inj hk;have:=R5'.out.lts.2.1;omega
   ·intro k hk;have:=(R5'.out.o.lt k hk).1;omega
 ·have HP:=Lib.hid (HST.out.trans (if_neg hc));have hc0:(r.1==0)=false:=by simp;exact fun h=>hc (.inl h)
  have hc1:(r.1==1)=false:=by simp;exact fun h=>hc (.inr h)
  have hd0:¬r.1=0:=fun h=>hc (.inl h);have hd1:¬r.1=1:=fun h=>hc (.inr h);have q5:=R5.out.bx.2.1;have q1:=K1'.out.2.1;have f1:=K1'.out.2.2;have y1:=K1'.out.1;have q2:=K2'.out.2.1;have f2:=K2'.out.2.2;have y2:=K2'.out.1;clear hc;go_wp2;rw[HP.out];refine bodyPost_ret (v:= .agg #[.slice (some ⟨fb,foff,none⟩) L.fs.length fc,.slice ha L.zs.length hcp,.int .i64 L.h,.int .i64 L.b,.int .i64 L.n,.slice sa L.ss.length sc,.slice (some ⟨cb,coff,none⟩) L.cs.length cc,.slice oa L.os.length oc,.int .i64 r.1,.bool L.each]) ?_ rfl ⟨_,_,_,_,rfl,?_,?_,.inl rfl,.inl rfl,.inl rfl⟩
  ·simp[results,Tryz.results76,go_sem,q2]
  ·refine Zj (HR.out _ ?_) _
   repeat(with_reducible refine Below.setCell ?_ (by first |exact Nat.le_refl _ |exact Nat.le_succ _) _)
   exact B10.out
  ·repeat(with_reducible refine Below.setCell ?_ (by first |exact Nat.le_refl _ |exact Nat.le_succ _) _)
   exact B10.out
theorem OwnV.base {base base':Nat}{w:World}{fv hv sv cv ov:Value}{L:VmL}(h:OwnV base w fv hv sv cv ov L) (hb:base'≤base):OwnV base' w fv hv sv cv ov L:=
 ⟨h.f.base hb,AR h.z hb,AR h.s hb,AR h.c hb,AR h.o hb⟩
theorem Y2 {B:Nat}(fv hv sv cv ov:Value) (L:VmL) (w:World) (hr:RdV B w fv hv sv cv ov L) (hf:L.fs.length≤1000) (ht:tot L.fs≤4294967296) (hz:L.zs.length≤4294967296) (hs:L.ss.length≤4294967296) (hc:L.cs.length≤4294967296) (ho:L.os.length≤4294967296):
  Calls Tryz.prog 75 #[vmV fv hv sv cv ov L] w fun e w'=>∃fv' hv' sv' cv' ov',e= .returned (vmV fv' hv' sv' cv' ov' L)∧OwnV w.heap.size w' fv' hv' sv' cv' ov' L∧Below w.heap.size w w':=by
 have hr0:=hr.below' (Below.refl w.heap.size w);have HR:=Lib.hid (fun(W:World) (hb:Below w.heap.size w W)=>hr0.below' hb);obtain⟨fa,fc,ha,hcp,sa,sc,ca,cc,oa,oc,rfl,rfl,rfl,rfl,rfl⟩:=hr0.forms;clear hr hr0;unfold vmV;go_enter Tryz.func75,Tryz.ntmps75;go_wp2_with fail;generalize hxx:(w.alloc _).alloc _=x0;obtain⟨bx,k1,k2,sx⟩:=AS hxx;clear hxx;have HX:=Lib.hid (fun(W:World) (hb:Below x0.heap.size x0 W)=>(HR.out x0 bx).below' hb);have BX:=Lib.hid bx;have hk1:w.heap.size+2≤x0.heap.size:=Nat.le_of_eq sx.symm;have b0:Below x0.heap.size x0 x0:=Below.refl _ _;clear bx sx;refine wp_region_held_drew (S:=(fun w'=>∀j,w'.cell? ⟨w.heap.size,j,none⟩= #[.slice fa L.fs.length fc,.slice ha L.zs.length hcp,.int .i64 L.h,.int .i64 L.b,.int .i64 L.n,.slice sa L.ss.length sc,.slice ca L.cs.length cc,.slice oa L.os.length oc,.int .i64 L.code,.bool L.each][j]?)) (by kernel_rfl) (by first | (dsimp only;exact k1.2.1) | (exact k1.2.1)) (fun hHeld=> ?_);refine tkH (i:=0) ?_;refine tkH (i:=1) ?_;refine tkH (i:=3) ?_;refine tkH (i:=4) ?_;refine tkH (i:=6) ?_;refine tkH (i:=7) ?_;refine tkH (i:=9) ?_;refine tkH (i:=10) ?_;refine tkH (i:=12) ?_;refine tkH (i:=13) ?_;refine tkH (i:=15) ?_;refine tkH (i:=16) ?_;refine tkH (i:=17) ?_;refine tkH (i:=18) ?_;generalize hxd:x0.drew=x1 at hHeld;have hd:Below x0.heap.size x0 x1:=by rw[←hxd];exact(Below.refl _ _).drew
 replace k1:=k1.below hd k1.1;replace k2:=k2.below hd k2.1;replace b0:=b0.trans (hd.mono b0.size);clear hxd hd;refine rdH (i:=2) (fun K hK=> ?_);go_simp;refine(Ph _ L.fs _ (HX.out x1 b0).f hf ht).mono ?_;rintro e w2 ⟨v2,rfl,o2,b2⟩;obtain⟨a2,d2,rfl⟩:=o2.form;refine bkH hK (by first | (dsimp only;exact(k1.below b2 k1.1).2.1) | (exact(k1.below b2 k1.1).2.1)) (fun hHeld=> ?_);clear hK K;replace o2:=o2.base b0.size;replace k1:=k1.below b2 k1.1;replace k2:=k2.below b2 k2.1;replace b0:=b0.trans (b2.mono b0.size);refine rdH (i:=5) (fun K hK=> ?_);go_simp;refine(Gy _ L.zs L.h L.b L.n _ (HX.out w2 b0).z hz).mono ?_;rintro e w3 ⟨v3,rfl,o3,b3⟩;obtain⟨a3,d3,rfl⟩:=AC o3;refine bkH hK (by first | (dsimp only;exact(k1.below b3 k1.1).2.1) | (exact(k1.below b3 k1.1).2.1)) (fun hHeld=> ?_);clear hK K;replace o3:=AR o3 b0.size;replace o2:=o2.below b3;replace k1:=k1.below b3 k1.1;replace k2:=k2.below b3 k2.1;replace b0:=b0.trans (b3.mono b0.size);refine rdH (i:=8) (fun K hK=> ?_);go_simp;refine(Ft _ L.ss _ (HX.out w3 b0).s hs).mono ?_;rintro e w4 ⟨v4,rfl,o4,b4⟩;obtain⟨a4,d4,rfl⟩:=AC o4;refine bkH hK (by first | (dsimp only;exact(k1.below b4 k1.1).2.1) | (exact(k1.below b4 k1.1).2.1)) (fun hHeld=> ?_);clear hK K;replace o4:=AR o4 b0.size;replace o2:=o2.below b4;replace o3:=Al o3 b4 (Af o3);replace k1:=k1.below b4 k1.1;replace k2:=k2.below b4 k2.1;replace b0:=b0.trans (b4.mono b0.size);refine rdH (i:=11) (fun K hK=> ?_);go_simp;refine(Lw _ L.cs _ (HX.out w4 b0).c hc).mono ?_;rintro e w5 ⟨v5,rfl,o5,b5⟩;obtain⟨a5,d5,rfl⟩:=AC o5;refine bkH hK (by first | (dsimp only;exact(k1.below b5 k1.1).2.1) | (exact(k1.below b5 k1.1).2.1)) (fun hHeld=> ?_);clear hK K;replace o5:=AR o5 b0.size;replace o2:=o2.below b5;replace o3:=Al o3 b5 (Af o3);replace o4:=Al o4 b5 (Af o4);replace k1:=k1.below b5 k1.1;replace k2:=k2.below b5 k2.1;replace b0:=b0.trans (b5.mono b0.size);refine rdH (i:=14) (fun K hK=> ?_);go_simp;refine(Ft _ L.os _ (HX.out w5 b0).o ho).mono ?_;rintro e w6 ⟨v6,rfl,o6,b6⟩;obtain⟨a6,d6,rfl⟩:=AC o6;refine bkH hK (by first | (dsimp only;exact(k1.below b6 k1.1).2.1) | (exact(k1.below b6 k1.1).2.1)) (fun hHeld=> ?_);clear hK K;replace o6:=AR o6 b0.size;replace o2:=o2.below b6;replace o3:=Al o3 b6 (Af o3);replace o4:=Al o4 b6 (Af o4);replace o5:=Al o5 b6 (Af o5);replace k1:=k1.below b6 k1.1;replace k2:=k2.below b6 k2.1;replace b0:=b0.trans (b6.mono b0.size);refine tkH (i:=19) ?_;have q2:=k2.2.1;have f2:=k2.2.2;have y2:=k2.1;have B0:=Lib.hid b0;have O2:=Lib.hid o2;have O3':=Lib.hid o3;have O4:=Lib.hid o4;have O5:=Lib.hid o5;have O6:=Lib.hid o6;clear o2 o3 o4 o5 o6 b0 b2 b3 b4 b5 b6;have hne:some w.heap.size≠some (w.heap.size+1):=fun e=>by have:=Option.some.inj e;omega
 refine rdH (i:=20) (fun K hK=> ?_);go_simp;refine bkH hK (by first | (dsimp only;(refine(Bx.grown k1 (row:=some (w.heap.size+1)) ?_ hne).2.1;(repeat(with_reducible refine grownBy.trans ?_ (grownBy.setCell _ _ _ _)));with_reducible exact grownBy.refl _ _)) | ((refine(Bx.grown k1 (row:=some (w.heap.size+1)) ?_ hne).2.1;(repeat(with_reducible refine grownBy.trans ?_ (grownBy.setCell _ _ _ _)));with_reducible exact grownBy.refl _ _))) (fun hHeld=> ?_);clear hK K;refine wpAnyH_done (by kernel_rfl) ?_ _;go_wp2;refine bodyPost_ret (v:= .agg #[.slice a2 L.fs.length d2,.slice a3 L.zs.length d3,.int .i64 L.h,.int .i64 L.b,.int .i64 L.n,.slice a4 L.ss.length d4,.slice a5 L.cs.length d5,.slice a6 L.os.length d6,.int .i64 L.code,.bool L.each]) ?_ rfl ⟨_,_,_,_,_,rfl,OwnV.base (base:=x0.heap.size) ⟨?_,?_,?_,?_,?_⟩ (by omega),?_⟩
 ·simp[results,Tryz.results75,go_sem,q2]
 ·repeat(with_reducible refine OwnF.setCell ?_ (by show _+1 < _;omega) _)
  exact O2.out
 ·repeat(with_reducible refine ownsRow_setCell_below ?_ (by show _+1 < _;omega) _)
  exact O3'.out
 ·repeat(with_reducible refine ownsRow_setCell_below ?_ (by show _+1 < _;omega) _)
  exact O4.out
 ·repeat(with_reducible refine ownsRow_setCell_below ?_ (by show _+1 < _;omega) _)
  exact O5.out
 ·repeat(with_reducible refine ownsRow_setCell_below ?_ (by show _+1 < _;omega) _)
  exact O6.out
 ·repeat(with_reducible refine Below.setCell ?_ (by exact Nat.le_succ _) _)
  exact BX.out.trans (B0.out.mono BX.out.size)
end Go.Proofs.YtfmebaafpfkeiaaGreat
