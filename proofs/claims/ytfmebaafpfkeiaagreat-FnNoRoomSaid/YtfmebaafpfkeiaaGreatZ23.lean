/- Parts of the proof of FnNoRoom. -/
import Derived.Test.YtfmebaafpfkeiaaGreatZ22
set_option linter.unusedVariables false
set_option linter.unusedSimpArgs false
section
namespace Go.Proofs.YtfmebaafpfkeiaaGreat
open Go.RowKit
set_option maxHeartbeats 3200000 in
set_option maxRecDepth 100000 in
theorem runDo7 {base :Nat} {w :World} {g gs gc :Nat} {fv hv ov :Value} {p q :Nat} {L :VmL} (h :RunV base w g gs gc fv hv ov p q L) (n m :Int) (cl :O3) (D :DoOk L ⟨7,n,m⟩ cl) :
  Calls Tryz.prog 149 #[.pointer (some ⟨g,0,none⟩), .agg #[.int .i64 7, .int .i64 n, .int .i64 m], .agg #[.int .i64 cl.c, .int .i64 cl.n, .int .i64 cl.m]] w fun e w'=> e= .returned (.int .i64 (doL L ⟨7,n,m⟩ cl).1)∧
   (∃gs' gc' hv' ov' p' q',RunV base w' g gs' gc' fv hv' ov' p' q' (doL L ⟨7,n,m⟩ cl).2)∧Below base w w' :=by
 obtain ⟨bn,hbn⟩ : ∃bn :Nat,cl.m=(bn :Int) :=⟨cl.m.toNat,by have :=D.cm;omega⟩
 obtain ⟨cc,cn,cm⟩ :=cl
 dsimp only at hbn
 subst hbn
 have hcm :=D.cm
 dsimp only at hcm
 have hss :=D.fits.s1
 obtain ⟨bj,hbj⟩ : ∃bj :Nat,bn-1=bj :=⟨_,rfl⟩
 have hjl :bj < L.ss.length :=by omega
 obtain ⟨self,hself⟩ : ∃self,L.ss.getD bj 0=self :=⟨_,rfl⟩
 have e1 :IntKind.i64.wrap ((bn :Int)-1)=(bj :Int) :=by rw [IntWalk.i64_in _ (by omega)];omega
 have e2 :IntKind.i64.wrap ((L.ss.length :Int)-(bn :Int))=(L.ss.length :Int)-(bn :Int) :=IntWalk.i64_in _ (by omega)
 have e3 :IntKind.i64.wrap ((L.ss.length :Int)-(bn :Int)-1)=(L.ss.length :Int)-(bn :Int)-1 :=IntWalk.i64_in _ (by omega)
 have HE :=Lib.hid (iEffect_lit 7 n m (by omega))
 have H0 :=Lib.hid h
 have DD :=Lib.hid D
 have hbs :=h.hb
 have hD :doL L ⟨7,n,m⟩ ⟨cc,cn,bn⟩ =if (L.ss.length :Int)-bn-1 < takesOf 7 m then (5,L) else retL L bn :=by
  unfold doL
  dsimp only
  rw [show ((bn :Int)-1).toNat=bj by omega,hself]
  by_cases hc :(L.ss.length :Int)-bn-1 < takesOf 7 m
  ·rw [if_pos hc,if_pos hc]
  ·rw [if_neg hc,if_neg hc]
   simp
 obtain ⟨tk,htk⟩ : ∃tk,takesOf 7 m=tk :=⟨_,rfl⟩
 obtain ⟨pu,hpu⟩ : ∃pu,putsOf 7=pu :=⟨_,rfl⟩
 rw [htk,hpu] at HE
 rw [htk] at hD
 have HS :=Lib.hid (And.intro hself htk)
 clear h D hself htk hpu
 go_enter Tryz.func149,Tryz.ntmps149
 go_wp2_with fail
 generalize hxx :(w.alloc _).alloc _=x0
 obtain ⟨bx,k1,k2,sx⟩ :=alloc_box2 hxx
 clear hxx sx
 have r0 :=H0.out.below bx
 have bb :=bx.mono hbs
 have c1 :=own_cell r0.s bj hjl
 rw [List.getElem?_map,List.getElem?_eq_getElem hjl,Option.map_some,show L.ss[bj]=self by rw [← HS.out.1,List.getD_eq_getElem?_getD,List.getElem?_eq_getElem hjl];rfl] at c1
 have q5 :=r0.bx.2.1 5
 simp at q5
 have ck1 :=k1.2.1
 have yk1 :=k1.1
 have ck2 :=k2.2.1
 have yk2 :=k2.1
 go_quiet (fail)
 have s1 :Still x0 (x0.drewN nq) :=⟨nq,rfl⟩
 generalize x0.drewN nq=x1 at s1 ⊢
 replace r0 :=r0.still s1
 replace bb :=bb.trans (s1.below base)
 replace k1 :=k1.below (s1.below x0.heap.size) k1.1
 replace k2 :=k2.below (s1.below x0.heap.size) k2.1
 clear ck1 yk1 ck2 yk2 q5 c1 s1 bx
 have ck1 :=k1.2.1
 have yk1 :=k1.1
 go_wp2_with fail
 clear ck1 yk1
 refine (HE.out _).mono ?_
 rintro e w1 ⟨rfl,b1⟩
 replace bb :=bb.trans (b1.mono r0.hb)
 replace r0 :=r0.below b1
 replace k1 :=k1.below b1 k1.1
 replace k2 :=k2.below b1 k2.1
 have q5 :=r0.bx.2.1 5
 simp at q5
 have yg :=r0.bx.1
 have ck2 :=k2.2.1
 have yk2 :=k2.1
 go_wp2_with fail
 go_quiet (fail)
 have s1 :Still w1 (w1.drewN nq) :=⟨nq,rfl⟩
 generalize w1.drewN nq=w2 at s1 ⊢
 replace r0 :=r0.still s1
 replace bb :=bb.trans (s1.below base)
 replace k1 :=k1.below (s1.below w1.heap.size) k1.1
 replace k2 :=k2.below (s1.below w1.heap.size) k2.1
 clear ck2 yk2 q5 s1 b1 yg
 have ck1 :=k1.2.1
 have yk1 :=k1.1
 have ck2 :=k2.2.1
 have yk2 :=k2.1
 by_cases hlt :(L.ss.length :Int)-bn-1 < tk
 ·have HD :=Lib.hid (hD.trans (if_pos hlt))
  have R0 :=Lib.hid r0
  have BB :=Lib.hid bb
  clear hD r0 bb
  go_wp2
  go_ret
  rw [HD.out]
  exact ⟨rfl,⟨gs,gc,hv,ov,p,q,R0.out⟩,BB.out⟩
 ·have HD :=Lib.hid (hD.trans (if_neg hlt))
  have R0 :=Lib.hid r0
  have BB :=Lib.hid bb
  clear hD r0 bb
  have htk :tk=1 :=by rw [← HS.out.2];rfl
  have HM :=Lib.hid (runRet_any R0.out DD.out.fits DD.out.cl bn (by omega))
  clear htk
  go_wp2_with fail
  refine (HM.out).mono ?_
  rintro e w3 ⟨rfl,⟨gs1,p1,r3⟩,b3⟩
  have R3 :=Lib.hid r3
  clear r3
  go_wp2
  go_ret
  rw [HD.out]
  exact ⟨rfl,⟨gs1,gc,hv,ov,p1,q,R3.out⟩,BB.out.trans b3⟩
set_option maxHeartbeats 3200000 in
set_option maxRecDepth 100000 in
theorem runDo9 {base :Nat} {w :World} {g gs gc :Nat} {fv hv ov :Value} {p q :Nat} {L :VmL} (h :RunV base w g gs gc fv hv ov p q L) (n m :Int) (cl :O3) (D :DoOk L ⟨9,n,m⟩ cl) :
  Calls Tryz.prog 149 #[.pointer (some ⟨g,0,none⟩), .agg #[.int .i64 9, .int .i64 n, .int .i64 m], .agg #[.int .i64 cl.c, .int .i64 cl.n, .int .i64 cl.m]] w fun e w'=> e= .returned (.int .i64 (doL L ⟨9,n,m⟩ cl).1)∧
   (∃gs' gc' hv' ov' p' q',RunV base w' g gs' gc' fv hv' ov' p' q' (doL L ⟨9,n,m⟩ cl).2)∧Below base w w' :=by
 obtain ⟨bn,hbn⟩ : ∃bn :Nat,cl.m=(bn :Int) :=⟨cl.m.toNat,by have :=D.cm;omega⟩
 obtain ⟨cc,cn,cm⟩ :=cl
 dsimp only at hbn
 subst hbn
 have hcm :=D.cm
 dsimp only at hcm
 have hss :=D.fits.s1
 obtain ⟨bj,hbj⟩ : ∃bj :Nat,bn-1=bj :=⟨_,rfl⟩
 have hjl :bj < L.ss.length :=by omega
 obtain ⟨self,hself⟩ : ∃self,L.ss.getD bj 0=self :=⟨_,rfl⟩
 have e1 :IntKind.i64.wrap ((bn :Int)-1)=(bj :Int) :=by rw [IntWalk.i64_in _ (by omega)];omega
 have e2 :IntKind.i64.wrap ((L.ss.length :Int)-(bn :Int))=(L.ss.length :Int)-(bn :Int) :=IntWalk.i64_in _ (by omega)
 have e3 :IntKind.i64.wrap ((L.ss.length :Int)-(bn :Int)-1)=(L.ss.length :Int)-(bn :Int)-1 :=IntWalk.i64_in _ (by omega)
 have HE :=Lib.hid (iEffect_lit 9 n m (by omega))
 have H0 :=Lib.hid h
 have DD :=Lib.hid D
 have hbs :=h.hb
 have hD :doL L ⟨9,n,m⟩ ⟨cc,cn,bn⟩ =if (L.ss.length :Int)-bn-1 < takesOf 9 m then (5,L) else kidL L (lastW L.ss 0) false n 1 :=by
  unfold doL
  dsimp only
  rw [show ((bn :Int)-1).toNat=bj by omega,hself]
  by_cases hc :(L.ss.length :Int)-bn-1 < takesOf 9 m
  ·rw [if_pos hc,if_pos hc]
  ·rw [if_neg hc,if_neg hc]
   simp
 obtain ⟨tk,htk⟩ : ∃tk,takesOf 9 m=tk :=⟨_,rfl⟩
 obtain ⟨pu,hpu⟩ : ∃pu,putsOf 9=pu :=⟨_,rfl⟩
 rw [htk,hpu] at HE
 rw [htk] at hD
 have HS :=Lib.hid (And.intro hself htk)
 clear h D hself htk hpu
 go_enter Tryz.func149,Tryz.ntmps149
 go_wp2_with fail
 generalize hxx :(w.alloc _).alloc _=x0
 obtain ⟨bx,k1,k2,sx⟩ :=alloc_box2 hxx
 clear hxx sx
 have r0 :=H0.out.below bx
 have bb :=bx.mono hbs
 have c1 :=own_cell r0.s bj hjl
 rw [List.getElem?_map,List.getElem?_eq_getElem hjl,Option.map_some,show L.ss[bj]=self by rw [← HS.out.1,List.getD_eq_getElem?_getD,List.getElem?_eq_getElem hjl];rfl] at c1
 have q5 :=r0.bx.2.1 5
 simp at q5
 have ck1 :=k1.2.1
 have yk1 :=k1.1
 have ck2 :=k2.2.1
 have yk2 :=k2.1
 go_quiet (fail)
 have s1 :Still x0 (x0.drewN nq) :=⟨nq,rfl⟩
 generalize x0.drewN nq=x1 at s1 ⊢
 replace r0 :=r0.still s1
 replace bb :=bb.trans (s1.below base)
 replace k1 :=k1.below (s1.below x0.heap.size) k1.1
 replace k2 :=k2.below (s1.below x0.heap.size) k2.1
 clear ck1 yk1 ck2 yk2 q5 c1 s1 bx
 have ck1 :=k1.2.1
 have yk1 :=k1.1
 go_wp2_with fail
 clear ck1 yk1
 refine (HE.out _).mono ?_
 rintro e w1 ⟨rfl,b1⟩
 replace bb :=bb.trans (b1.mono r0.hb)
 replace r0 :=r0.below b1
 replace k1 :=k1.below b1 k1.1
 replace k2 :=k2.below b1 k2.1
 have q5 :=r0.bx.2.1 5
 simp at q5
 have yg :=r0.bx.1
 have ck2 :=k2.2.1
 have yk2 :=k2.1
 go_wp2_with fail
 go_quiet (fail)
 have s1 :Still w1 (w1.drewN nq) :=⟨nq,rfl⟩
 generalize w1.drewN nq=w2 at s1 ⊢
 replace r0 :=r0.still s1
 replace bb :=bb.trans (s1.below base)
 replace k1 :=k1.below (s1.below w1.heap.size) k1.1
 replace k2 :=k2.below (s1.below w1.heap.size) k2.1
 clear ck2 yk2 q5 s1 b1 yg
 have ck1 :=k1.2.1
 have yk1 :=k1.1
 have ck2 :=k2.2.1
 have yk2 :=k2.1
 by_cases hlt :(L.ss.length :Int)-bn-1 < tk
 ·have HD :=Lib.hid (hD.trans (if_pos hlt))
  have R0 :=Lib.hid r0
  have BB :=Lib.hid bb
  clear hD r0 bb
  go_wp2
  go_ret
  rw [HD.out]
  exact ⟨rfl,⟨gs,gc,hv,ov,p,q,R0.out⟩,BB.out⟩
 ·have HD :=Lib.hid (hD.trans (if_neg hlt))
  have R0 :=Lib.hid r0
  have BB :=Lib.hid bb
  clear hD r0 bb
  obtain ⟨N,hN⟩ : ∃N :Nat,n=(N :Int) :=⟨n.toNat,by have :=DD.out.nn (by simp);dsimp only at this;omega⟩
  subst hN
  have htk :tk=1 :=by rw [← HS.out.2];rfl
  have hx :=DD.out.fits.s3 _ (last_mem (ss :=L.ss) (k :=0) (by omega))
  have HM :=Lib.hid (field_any R0.out DD.out.fits (by omega) hx N)
  clear htk hx
  go_wp2_with fail
  refine (HM.out).mono ?_
  rintro e w3 ⟨rfl,⟨gs1,p1,r3⟩,b3⟩
  have R3 :=Lib.hid r3
  clear r3
  go_wp2
  go_ret
  rw [HD.out]
  exact ⟨rfl,⟨gs1,gc,hv,ov,p1,q,R3.out⟩,BB.out.trans b3⟩
set_option maxHeartbeats 3200000 in
set_option maxRecDepth 100000 in
theorem runDo10 {base :Nat} {w :World} {g gs gc :Nat} {fv hv ov :Value} {p q :Nat} {L :VmL} (h :RunV base w g gs gc fv hv ov p q L) (n m :Int) (cl :O3) (D :DoOk L ⟨10,n,m⟩ cl) :
  Calls Tryz.prog 149 #[.pointer (some ⟨g,0,none⟩), .agg #[.int .i64 10, .int .i64 n, .int .i64 m], .agg #[.int .i64 cl.c, .int .i64 cl.n, .int .i64 cl.m]] w fun e w'=> e= .returned (.int .i64 (doL L ⟨10,n,m⟩ cl).1)∧
   (∃gs' gc' hv' ov' p' q',RunV base w' g gs' gc' fv hv' ov' p' q' (doL L ⟨10,n,m⟩ cl).2)∧Below base w w' :=by
 obtain ⟨bn,hbn⟩ : ∃bn :Nat,cl.m=(bn :Int) :=⟨cl.m.toNat,by have :=D.cm;omega⟩
 obtain ⟨cc,cn,cm⟩ :=cl
 dsimp only at hbn
 subst hbn
 have hcm :=D.cm
 dsimp only at hcm
 have hss :=D.fits.s1
 obtain ⟨bj,hbj⟩ : ∃bj :Nat,bn-1=bj :=⟨_,rfl⟩
 have hjl :bj < L.ss.length :=by omega
 obtain ⟨self,hself⟩ : ∃self,L.ss.getD bj 0=self :=⟨_,rfl⟩
 have e1 :IntKind.i64.wrap ((bn :Int)-1)=(bj :Int) :=by rw [IntWalk.i64_in _ (by omega)];omega
 have e2 :IntKind.i64.wrap ((L.ss.length :Int)-(bn :Int))=(L.ss.length :Int)-(bn :Int) :=IntWalk.i64_in _ (by omega)
 have e3 :IntKind.i64.wrap ((L.ss.length :Int)-(bn :Int)-1)=(L.ss.length :Int)-(bn :Int)-1 :=IntWalk.i64_in _ (by omega)
 have HE :=Lib.hid (iEffect_lit 10 n m (by omega))
 have H0 :=Lib.hid h
 have DD :=Lib.hid D
 have hbs :=h.hb
 have hD :doL L ⟨10,n,m⟩ ⟨cc,cn,bn⟩ =if (L.ss.length :Int)-bn-1 < takesOf 10 m then (5,L) else branchL L ⟨10,n,m⟩ :=by
  unfold doL
  dsimp only
  rw [show ((bn :Int)-1).toNat=bj by omega,hself]
  by_cases hc :(L.ss.length :Int)-bn-1 < takesOf 10 m
  ·rw [if_pos hc,if_pos hc]
  ·rw [if_neg hc,if_neg hc]
   simp
 obtain ⟨tk,htk⟩ : ∃tk,takesOf 10 m=tk :=⟨_,rfl⟩
 obtain ⟨pu,hpu⟩ : ∃pu,putsOf 10=pu :=⟨_,rfl⟩
 rw [htk,hpu] at HE
 rw [htk] at hD
 have HS :=Lib.hid (And.intro hself htk)
 clear h D hself htk hpu
 go_enter Tryz.func149,Tryz.ntmps149
 go_wp2_with fail
 generalize hxx :(w.alloc _).alloc _=x0
 obtain ⟨bx,k1,k2,sx⟩ :=alloc_box2 hxx
 clear hxx sx
 have r0 :=H0.out.below bx
 have bb :=bx.mono hbs
 have c1 :=own_cell r0.s bj hjl
 rw [List.getElem?_map,List.getElem?_eq_getElem hjl,Option.map_some,show L.ss[bj]=self by rw [← HS.out.1,List.getD_eq_getElem?_getD,List.getElem?_eq_getElem hjl];rfl] at c1
 have q5 :=r0.bx.2.1 5
 simp at q5
 have ck1 :=k1.2.1
 have yk1 :=k1.1
 have ck2 :=k2.2.1
 have yk2 :=k2.1
 go_quiet (fail)
 have s1 :Still x0 (x0.drewN nq) :=⟨nq,rfl⟩
 generalize x0.drewN nq=x1 at s1 ⊢
 replace r0 :=r0.still s1
 replace bb :=bb.trans (s1.below base)
 replace k1 :=k1.below (s1.below x0.heap.size) k1.1
 replace k2 :=k2.below (s1.below x0.heap.size) k2.1
 clear ck1 yk1 ck2 yk2 q5 c1 s1 bx
 have ck1 :=k1.2.1
 have yk1 :=k1.1
 go_wp2_with fail
 clear ck1 yk1
 refine (HE.out _).mono ?_
 rintro e w1 ⟨rfl,b1⟩
 replace bb :=bb.trans (b1.mono r0.hb)
 replace r0 :=r0.below b1
 replace k1 :=k1.below b1 k1.1
 replace k2 :=k2.below b1 k2.1
 have q5 :=r0.bx.2.1 5
 simp at q5
 have yg :=r0.bx.1
 have ck2 :=k2.2.1
 have yk2 :=k2.1
 go_wp2_with fail
 go_quiet (fail)
 have s1 :Still w1 (w1.drewN nq) :=⟨nq,rfl⟩
 generalize w1.drewN nq=w2 at s1 ⊢
 replace r0 :=r0.still s1
 replace bb :=bb.trans (s1.below base)
 replace k1 :=k1.below (s1.below w1.heap.size) k1.1
 replace k2 :=k2.below (s1.below w1.heap.size) k2.1
 clear ck2 yk2 q5 s1 b1 yg
 have ck1 :=k1.2.1
 have yk1 :=k1.1
 have ck2 :=k2.2.1
 have yk2 :=k2.1
 by_cases hlt :(L.ss.length :Int)-bn-1 < tk
 ·have HD :=Lib.hid (hD.trans (if_pos hlt))
  have R0 :=Lib.hid r0
  have BB :=Lib.hid bb
  clear hD r0 bb
  go_wp2
  go_ret
  rw [HD.out]
  exact ⟨rfl,⟨gs,gc,hv,ov,p,q,R0.out⟩,BB.out⟩
 ·have HD :=Lib.hid (hD.trans (if_neg hlt))
  have R0 :=Lib.hid r0
  have BB :=Lib.hid bb
  clear hD r0 bb
  have htk :tk=1 :=by rw [← HS.out.2];rfl
  have HM :=Lib.hid (runBranch10 R0.out DD.out.fits (by omega) DD.out.cl n m)
  clear htk
  go_wp2_with fail
  refine (HM.out).mono ?_
  rintro e w3 ⟨rfl,⟨gs1,gc1,p1,q1,r3⟩,b3⟩
  have R3 :=Lib.hid r3
  clear r3
  go_wp2
  go_ret
  rw [HD.out]
  exact ⟨rfl,⟨gs1,gc1,hv,ov,p1,q1,R3.out⟩,BB.out.trans b3⟩
set_option maxHeartbeats 3200000 in
set_option maxRecDepth 100000 in
theorem runDo11 {base :Nat} {w :World} {g gs gc :Nat} {fv hv ov :Value} {p q :Nat} {L :VmL} (h :RunV base w g gs gc fv hv ov p q L) (n m :Int) (cl :O3) (D :DoOk L ⟨11,n,m⟩ cl) :
  Calls Tryz.prog 149 #[.pointer (some ⟨g,0,none⟩), .agg #[.int .i64 11, .int .i64 n, .int .i64 m], .agg #[.int .i64 cl.c, .int .i64 cl.n, .int .i64 cl.m]] w fun e w'=> e= .returned (.int .i64 (doL L ⟨11,n,m⟩ cl).1)∧
   (∃gs' gc' hv' ov' p' q',RunV base w' g gs' gc' fv hv' ov' p' q' (doL L ⟨11,n,m⟩ cl).2)∧Below base w w' :=by
 obtain ⟨bn,hbn⟩ : ∃bn :Nat,cl.m=(bn :Int) :=⟨cl.m.toNat,by have :=D.cm;omega⟩
 obtain ⟨cc,cn,cm⟩ :=cl
 dsimp only at hbn
 subst hbn
 have hcm :=D.cm
 dsimp only at hcm
 have hss :=D.fits.s1
 obtain ⟨bj,hbj⟩ : ∃bj :Nat,bn-1=bj :=⟨_,rfl⟩
 have hjl :bj < L.ss.length :=by omega
 obtain ⟨self,hself⟩ : ∃self,L.ss.getD bj 0=self :=⟨_,rfl⟩
 have e1 :IntKind.i64.wrap ((bn :Int)-1)=(bj :Int) :=by rw [IntWalk.i64_in _ (by omega)];omega
 have e2 :IntKind.i64.wrap ((L.ss.length :Int)-(bn :Int))=(L.ss.length :Int)-(bn :Int) :=IntWalk.i64_in _ (by omega)
 have e3 :IntKind.i64.wrap ((L.ss.length :Int)-(bn :Int)-1)=(L.ss.length :Int)-(bn :Int)-1 :=IntWalk.i64_in _ (by omega)
 have HE :=Lib.hid (iEffect_lit 11 n m (by omega))
 have H0 :=Lib.hid h
 have DD :=Lib.hid D
 have hbs :=h.hb
 have hD :doL L ⟨11,n,m⟩ ⟨cc,cn,bn⟩ =if (L.ss.length :Int)-bn-1 < takesOf 11 m then (5,L) else branchL L ⟨11,n,m⟩ :=by
  unfold doL
  dsimp only
  rw [show ((bn :Int)-1).toNat=bj by omega,hself]
  by_cases hc :(L.ss.length :Int)-bn-1 < takesOf 11 m
  ·rw [if_pos hc,if_pos hc]
  ·rw [if_neg hc,if_neg hc]
   simp
 obtain ⟨tk,htk⟩ : ∃tk,takesOf 11 m=tk :=⟨_,rfl⟩
 obtain ⟨pu,hpu⟩ : ∃pu,putsOf 11=pu :=⟨_,rfl⟩
 rw [htk,hpu] at HE
 rw [htk] at hD
 have HS :=Lib.hid (And.intro hself htk)
 clear h D hself htk hpu
 go_enter Tryz.func149,Tryz.ntmps149
 go_wp2_with fail
 generalize hxx :(w.alloc _).alloc _=x0
 obtain ⟨bx,k1,k2,sx⟩ :=alloc_box2 hxx
 clear hxx sx
 have r0 :=H0.out.below bx
 have bb :=bx.mono hbs
 have c1 :=own_cell r0.s bj hjl
 rw [List.getElem?_map,List.getElem?_eq_getElem hjl,Option.map_some,show L.ss[bj]=self by rw [← HS.out.1,List.getD_eq_getElem?_getD,List.getElem?_eq_getElem hjl];rfl] at c1
 have q5 :=r0.bx.2.1 5
 simp at q5
 have ck1 :=k1.2.1
 have yk1 :=k1.1
 have ck2 :=k2.2.1
 have yk2 :=k2.1
 go_quiet (fail)
 have s1 :Still x0 (x0.drewN nq) :=⟨nq,rfl⟩
 generalize x0.drewN nq=x1 at s1 ⊢
 replace r0 :=r0.still s1
 replace bb :=bb.trans (s1.below base)
 replace k1 :=k1.below (s1.below x0.heap.size) k1.1
 replace k2 :=k2.below (s1.below x0.heap.size) k2.1
 clear ck1 yk1 ck2 yk2 q5 c1 s1 bx
 have ck1 :=k1.2.1
 have yk1 :=k1.1
 go_wp2_with fail
 clear ck1 yk1
 refine (HE.out _).mono ?_
 rintro e w1 ⟨rfl,b1⟩
 replace bb :=bb.trans (b1.mono r0.hb)
 replace r0 :=r0.below b1
 replace k1 :=k1.below b1 k1.1
 replace k2 :=k2.below b1 k2.1
 have q5 :=r0.bx.2.1 5
 simp at q5
 have yg :=r0.bx.1
 have ck2 :=k2.2.1
 have yk2 :=k2.1
 go_wp2_with fail
 go_quiet (fail)
 have s1 :Still w1 (w1.drewN nq) :=⟨nq,rfl⟩
 generalize w1.drewN nq=w2 at s1 ⊢
 replace r0 :=r0.still s1
 replace bb :=bb.trans (s1.below base)
 replace k1 :=k1.below (s1.below w1.heap.size) k1.1
 replace k2 :=k2.below (s1.below w1.heap.size) k2.1
 clear ck2 yk2 q5 s1 b1 yg
 have ck1 :=k1.2.1
 have yk1 :=k1.1
 have ck2 :=k2.2.1
 have yk2 :=k2.1
 by_cases hlt :(L.ss.length :Int)-bn-1 < tk
 ·have HD :=Lib.hid (hD.trans (if_pos hlt))
  have R0 :=Lib.hid r0
  have BB :=Lib.hid bb
  clear hD r0 bb
  go_wp2
  go_ret
  rw [HD.out]
  exact ⟨rfl,⟨gs,gc,hv,ov,p,q,R0.out⟩,BB.out⟩
 ·have HD :=Lib.hid (hD.trans (if_neg hlt))
  have R0 :=Lib.hid r0
  have BB :=Lib.hid bb
  clear hD r0 bb
  have htk :tk=1 :=by rw [← HS.out.2];rfl
  have HM :=Lib.hid (runBranch11 R0.out DD.out.fits (by omega) DD.out.cl n m)
  clear htk
  go_wp2_with fail
  refine (HM.out).mono ?_
  rintro e w3 ⟨rfl,⟨gs1,gc1,p1,q1,r3⟩,b3⟩
  have R3 :=Lib.hid r3
  clear r3
  go_wp2
  go_ret
  rw [HD.out]
  exact ⟨rfl,⟨gs1,gc1,hv,ov,p1,q1,R3.out⟩,BB.out.trans b3⟩
set_option maxHeartbeats 3200000 in
set_option maxRecDepth 100000 in
theorem runDo18 {base :Nat} {w :World} {g gs gc :Nat} {fv hv ov :Value} {p q :Nat} {L :VmL} (h :RunV base w g gs gc fv hv ov p q L) (n m :Int) (cl :O3) (D :DoOk L ⟨18,n,m⟩ cl) :
  Calls Tryz.prog 149 #[.pointer (some ⟨g,0,none⟩), .agg #[.int .i64 18, .int .i64 n, .int .i64 m], .agg #[.int .i64 cl.c, .int .i64 cl.n, .int .i64 cl.m]] w fun e w'=> e= .returned (.int .i64 (doL L ⟨18,n,m⟩ cl).1)∧
   (∃gs' gc' hv' ov' p' q',RunV base w' g gs' gc' fv hv' ov' p' q' (doL L ⟨18,n,m⟩ cl).2)∧Below base w w' :=by
 obtain ⟨bn,hbn⟩ : ∃bn :Nat,cl.m=(bn :Int) :=⟨cl.m.toNat,by have :=D.cm;omega⟩
 obtain ⟨cc,cn,cm⟩ :=cl
 dsimp only at hbn
 subst hbn
 have hcm :=D.cm
 dsimp only at hcm
 have hss :=D.fits.s1
 obtain ⟨bj,hbj⟩ : ∃bj :Nat,bn-1=bj :=⟨_,rfl⟩
 have hjl :bj < L.ss.length :=by omega
 obtain ⟨self,hself⟩ : ∃self,L.ss.getD bj 0=self :=⟨_,rfl⟩
 have e1 :IntKind.i64.wrap ((bn :Int)-1)=(bj :Int) :=by rw [IntWalk.i64_in _ (by omega)];omega
 have e2 :IntKind.i64.wrap ((L.ss.length :Int)-(bn :Int))=(L.ss.length :Int)-(bn :Int) :=IntWalk.i64_in _ (by omega)
 have e3 :IntKind.i64.wrap ((L.ss.length :Int)-(bn :Int)-1)=(L.ss.length :Int)-(bn :Int)-1 :=IntWalk.i64_in _ (by omega)
 have HE :=Lib.hid (iEffect_lit 18 n m (by omega))
 have H0 :=Lib.hid h
 have DD :=Lib.hid D
 have hbs :=h.hb
 have hD :doL L ⟨18,n,m⟩ ⟨cc,cn,bn⟩ =if (L.ss.length :Int)-bn-1 < takesOf 18 m then (5,L) else branchL L ⟨18,n,m⟩ :=by
  unfold doL
  dsimp only
  rw [show ((bn :Int)-1).toNat=bj by omega,hself]
  by_cases hc :(L.ss.length :Int)-bn-1 < takesOf 18 m
  ·rw [if_pos hc,if_pos hc]
  ·rw [if_neg hc,if_neg hc]
   simp
 obtain ⟨tk,htk⟩ : ∃tk,takesOf 18 m=tk :=⟨_,rfl⟩
 obtain ⟨pu,hpu⟩ : ∃pu,putsOf 18=pu :=⟨_,rfl⟩
 rw [htk,hpu] at HE
 rw [htk] at hD
 have HS :=Lib.hid (And.intro hself htk)
 clear h D hself htk hpu
 go_enter Tryz.func149,Tryz.ntmps149
 go_wp2_with fail
 generalize hxx :(w.alloc _).alloc _=x0
 obtain ⟨bx,k1,k2,sx⟩ :=alloc_box2 hxx
 clear hxx sx
 have r0 :=H0.out.below bx
 have bb :=bx.mono hbs
 have c1 :=own_cell r0.s bj hjl
 rw [List.getElem?_map,List.getElem?_eq_getElem hjl,Option.map_some,show L.ss[bj]=self by rw [← HS.out.1,List.getD_eq_getElem?_getD,List.getElem?_eq_getElem hjl];rfl] at c1
 have q5 :=r0.bx.2.1 5
 simp at q5
 have ck1 :=k1.2.1
 have yk1 :=k1.1
 have ck2 :=k2.2.1
 have yk2 :=k2.1
 go_quiet (fail)
 have s1 :Still x0 (x0.drewN nq) :=⟨nq,rfl⟩
 generalize x0.drewN nq=x1 at s1 ⊢
 replace r0 :=r0.still s1
 replace bb :=bb.trans (s1.below base)
 replace k1 :=k1.below (s1.below x0.heap.size) k1.1
 replace k2 :=k2.below (s1.below x0.heap.size) k2.1
 clear ck1 yk1 ck2 yk2 q5 c1 s1 bx
 have ck1 :=k1.2.1
 have yk1 :=k1.1
 go_wp2_with fail
 clear ck1 yk1
 refine (HE.out _).mono ?_
 rintro e w1 ⟨rfl,b1⟩
 replace bb :=bb.trans (b1.mono r0.hb)
 replace r0 :=r0.below b1
 replace k1 :=k1.below b1 k1.1
 replace k2 :=k2.below b1 k2.1
 have q5 :=r0.bx.2.1 5
 simp at q5
 have yg :=r0.bx.1
 have ck2 :=k2.2.1
 have yk2 :=k2.1
 go_wp2_with fail
 go_quiet (fail)
 have s1 :Still w1 (w1.drewN nq) :=⟨nq,rfl⟩
 generalize w1.drewN nq=w2 at s1 ⊢
 replace r0 :=r0.still s1
 replace bb :=bb.trans (s1.below base)
 replace k1 :=k1.below (s1.below w1.heap.size) k1.1
 replace k2 :=k2.below (s1.below w1.heap.size) k2.1
 clear ck2 yk2 q5 s1 b1 yg
 have ck1 :=k1.2.1
 have yk1 :=k1.1
 have ck2 :=k2.2.1
 have yk2 :=k2.1
 by_cases hlt :(L.ss.length :Int)-bn-1 < tk
 ·have HD :=Lib.hid (hD.trans (if_pos hlt))
  have R0 :=Lib.hid r0
  have BB :=Lib.hid bb
  clear hD r0 bb
  go_wp2
  go_ret
  rw [HD.out]
  exact ⟨rfl,⟨gs,gc,hv,ov,p,q,R0.out⟩,BB.out⟩
 ·have HD :=Lib.hid (hD.trans (if_neg hlt))
  have R0 :=Lib.hid r0
  have BB :=Lib.hid bb
  clear hD r0 bb
  have htk :tk=1 :=by rw [← HS.out.2];rfl
  have HM :=Lib.hid (runBranch18 R0.out DD.out.fits (by omega) DD.out.cl n m)
  clear htk
  go_wp2_with fail
  refine (HM.out).mono ?_
  rintro e w3 ⟨rfl,⟨gs1,gc1,p1,q1,r3⟩,b3⟩
  have R3 :=Lib.hid r3
  clear r3
  go_wp2
  go_ret
  rw [HD.out]
  exact ⟨rfl,⟨gs1,gc1,hv,ov,p1,q1,R3.out⟩,BB.out.trans b3⟩
set_option maxHeartbeats 3200000 in
set_option maxRecDepth 100000 in
theorem runDo21 {base :Nat} {w :World} {g gs gc :Nat} {fv hv ov :Value} {p q :Nat} {L :VmL} (h :RunV base w g gs gc fv hv ov p q L) (n m :Int) (cl :O3) (D :DoOk L ⟨21,n,m⟩ cl) :
  Calls Tryz.prog 149 #[.pointer (some ⟨g,0,none⟩), .agg #[.int .i64 21, .int .i64 n, .int .i64 m], .agg #[.int .i64 cl.c, .int .i64 cl.n, .int .i64 cl.m]] w fun e w'=> e= .returned (.int .i64 (doL L ⟨21,n,m⟩ cl).1)∧
   (∃gs' gc' hv' ov' p' q',RunV base w' g gs' gc' fv hv' ov' p' q' (doL L ⟨21,n,m⟩ cl).2)∧Below base w w' :=by
 obtain ⟨bn,hbn⟩ : ∃bn :Nat,cl.m=(bn :Int) :=⟨cl.m.toNat,by have :=D.cm;omega⟩
 obtain ⟨cc,cn,cm⟩ :=cl
 dsimp only at hbn
 subst hbn
 have hcm :=D.cm
 dsimp only at hcm
 have hss :=D.fits.s1
 obtain ⟨bj,hbj⟩ : ∃bj :Nat,bn-1=bj :=⟨_,rfl⟩
 have hjl :bj < L.ss.length :=by omega
 obtain ⟨self,hself⟩ : ∃self,L.ss.getD bj 0=self :=⟨_,rfl⟩
 have e1 :IntKind.i64.wrap ((bn :Int)-1)=(bj :Int) :=by rw [IntWalk.i64_in _ (by omega)];omega
 have e2 :IntKind.i64.wrap ((L.ss.length :Int)-(bn :Int))=(L.ss.length :Int)-(bn :Int) :=IntWalk.i64_in _ (by omega)
 have e3 :IntKind.i64.wrap ((L.ss.length :Int)-(bn :Int)-1)=(L.ss.length :Int)-(bn :Int)-1 :=IntWalk.i64_in _ (by omega)
 have HE :=Lib.hid (iEffect_lit 21 n m (by omega))
 have H0 :=Lib.hid h
 have DD :=Lib.hid D
 have hbs :=h.hb
 have hD :doL L ⟨21,n,m⟩ ⟨cc,cn,bn⟩ =if (L.ss.length :Int)-bn-1 < takesOf 21 m then (5,L) else (4,L) :=by
  unfold doL
  dsimp only
  rw [show ((bn :Int)-1).toNat=bj by omega,hself]
  by_cases hc :(L.ss.length :Int)-bn-1 < takesOf 21 m
  ·rw [if_pos hc,if_pos hc]
  ·rw [if_neg hc,if_neg hc]
   simp
 obtain ⟨tk,htk⟩ : ∃tk,takesOf 21 m=tk :=⟨_,rfl⟩
 obtain ⟨pu,hpu⟩ : ∃pu,putsOf 21=pu :=⟨_,rfl⟩
 rw [htk,hpu] at HE
 rw [htk] at hD
 have HS :=Lib.hid (And.intro hself htk)
 clear h D hself htk hpu
 go_enter Tryz.func149,Tryz.ntmps149
 go_wp2_with fail
 generalize hxx :(w.alloc _).alloc _=x0
 obtain ⟨bx,k1,k2,sx⟩ :=alloc_box2 hxx
 clear hxx sx
 have r0 :=H0.out.below bx
 have bb :=bx.mono hbs
 have c1 :=own_cell r0.s bj hjl
 rw [List.getElem?_map,List.getElem?_eq_getElem hjl,Option.map_some,show L.ss[bj]=self by rw [← HS.out.1,List.getD_eq_getElem?_getD,List.getElem?_eq_getElem hjl];rfl] at c1
 have q5 :=r0.bx.2.1 5
 simp at q5
 have ck1 :=k1.2.1
 have yk1 :=k1.1
 have ck2 :=k2.2.1
 have yk2 :=k2.1
 go_quiet (fail)
 have s1 :Still x0 (x0.drewN nq) :=⟨nq,rfl⟩
 generalize x0.drewN nq=x1 at s1 ⊢
 replace r0 :=r0.still s1
 replace bb :=bb.trans (s1.below base)
 replace k1 :=k1.below (s1.below x0.heap.size) k1.1
 replace k2 :=k2.below (s1.below x0.heap.size) k2.1
 clear ck1 yk1 ck2 yk2 q5 c1 s1 bx
 have ck1 :=k1.2.1
 have yk1 :=k1.1
 go_wp2_with fail
 clear ck1 yk1
 refine (HE.out _).mono ?_
 rintro e w1 ⟨rfl,b1⟩
 replace bb :=bb.trans (b1.mono r0.hb)
 replace r0 :=r0.below b1
 replace k1 :=k1.below b1 k1.1
 replace k2 :=k2.below b1 k2.1
 have q5 :=r0.bx.2.1 5
 simp at q5
 have yg :=r0.bx.1
 have ck2 :=k2.2.1
 have yk2 :=k2.1
 go_wp2_with fail
 go_quiet (fail)
 have s1 :Still w1 (w1.drewN nq) :=⟨nq,rfl⟩
 generalize w1.drewN nq=w2 at s1 ⊢
 replace r0 :=r0.still s1
 replace bb :=bb.trans (s1.below base)
 replace k1 :=k1.below (s1.below w1.heap.size) k1.1
 replace k2 :=k2.below (s1.below w1.heap.size) k2.1
 clear ck2 yk2 q5 s1 b1 yg
 have ck1 :=k1.2.1
 have yk1 :=k1.1
 have ck2 :=k2.2.1
 have yk2 :=k2.1
 by_cases hlt :(L.ss.length :Int)-bn-1 < tk
 ·have HD :=Lib.hid (hD.trans (if_pos hlt))
  have R0 :=Lib.hid r0
  have BB :=Lib.hid bb
  clear hD r0 bb
  go_wp2
  go_ret
  rw [HD.out]
  exact ⟨rfl,⟨gs,gc,hv,ov,p,q,R0.out⟩,BB.out⟩
 ·have HD :=Lib.hid (hD.trans (if_neg hlt))
  have R0 :=Lib.hid r0
  have BB :=Lib.hid bb
  clear hD r0 bb
  go_wp2
  go_ret
  rw [HD.out]
  exact ⟨rfl,⟨gs,gc,hv,ov,p,q,R0.out⟩,BB.out⟩
end Go.Proofs.YtfmebaafpfkeiaaGreat
end
section
namespace Go.Proofs.YtfmebaafpfkeiaaGreat
open Go.RowKit
set_option maxHeartbeats 3200000 in
set_option maxRecDepth 100000 in
theorem runDo12 {base :Nat} {w :World} {g gs gc :Nat} {fv hv ov :Value} {p q :Nat} {L :VmL} (h :RunV base w g gs gc fv hv ov p q L) (n m :Int) (cl :O3) (D :DoOk L ⟨12,n,m⟩ cl) :
  Calls Tryz.prog 149 #[.pointer (some ⟨g,0,none⟩), .agg #[.int .i64 12, .int .i64 n, .int .i64 m], .agg #[.int .i64 cl.c, .int .i64 cl.n, .int .i64 cl.m]] w fun e w'=> e= .returned (.int .i64 (doL L ⟨12,n,m⟩ cl).1)∧
   (∃gs' gc' hv' ov' p' q',RunV base w' g gs' gc' fv hv' ov' p' q' (doL L ⟨12,n,m⟩ cl).2)∧Below base w w' :=by
 obtain ⟨bn,hbn⟩ : ∃bn :Nat,cl.m=(bn :Int) :=⟨cl.m.toNat,by have :=D.cm;omega⟩
 obtain ⟨cc,cn,cm⟩ :=cl
 dsimp only at hbn
 subst hbn
 have hcm :=D.cm
 dsimp only at hcm
 have hss :=D.fits.s1
 obtain ⟨bj,hbj⟩ : ∃bj :Nat,bn-1=bj :=⟨_,rfl⟩
 have hjl :bj < L.ss.length :=by omega
 obtain ⟨self,hself⟩ : ∃self,L.ss.getD bj 0=self :=⟨_,rfl⟩
 have e1 :IntKind.i64.wrap ((bn :Int)-1)=(bj :Int) :=by rw [IntWalk.i64_in _ (by omega)];omega
 have e2 :IntKind.i64.wrap ((L.ss.length :Int)-(bn :Int))=(L.ss.length :Int)-(bn :Int) :=IntWalk.i64_in _ (by omega)
 have e3 :IntKind.i64.wrap ((L.ss.length :Int)-(bn :Int)-1)=(L.ss.length :Int)-(bn :Int)-1 :=IntWalk.i64_in _ (by omega)
 have HE :=Lib.hid (iEffect_lit 12 n m (by omega))
 have H0 :=Lib.hid h
 have DD :=Lib.hid D
 have hbs :=h.hb
 have hD :doL L ⟨12,n,m⟩ ⟨cc,cn,bn⟩ =if (L.ss.length :Int)-bn-1 < takesOf 12 m then (5,L) else reckL L 12 :=by
  unfold doL
  dsimp only
  rw [show ((bn :Int)-1).toNat=bj by omega,hself]
  by_cases hc :(L.ss.length :Int)-bn-1 < takesOf 12 m
  ·rw [if_pos hc,if_pos hc]
  ·rw [if_neg hc,if_neg hc]
   simp
 obtain ⟨tk,htk⟩ : ∃tk,takesOf 12 m=tk :=⟨_,rfl⟩
 obtain ⟨pu,hpu⟩ : ∃pu,putsOf 12=pu :=⟨_,rfl⟩
 rw [htk,hpu] at HE
 rw [htk] at hD
 have HS :=Lib.hid (And.intro hself htk)
 clear h D hself htk hpu
 go_enter Tryz.func149,Tryz.ntmps149
 go_wp2_with fail
 generalize hxx :(w.alloc _).alloc _=x0
 obtain ⟨bx,k1,k2,sx⟩ :=alloc_box2 hxx
 clear hxx sx
 have r0 :=H0.out.below bx
 have bb :=bx.mono hbs
 have c1 :=own_cell r0.s bj hjl
 rw [List.getElem?_map,List.getElem?_eq_getElem hjl,Option.map_some,show L.ss[bj]=self by rw [← HS.out.1,List.getD_eq_getElem?_getD,List.getElem?_eq_getElem hjl];rfl] at c1
 have q5 :=r0.bx.2.1 5
 simp at q5
 have ck1 :=k1.2.1
 have yk1 :=k1.1
 have ck2 :=k2.2.1
 have yk2 :=k2.1
 go_quiet (fail)
 have s1 :Still x0 (x0.drewN nq) :=⟨nq,rfl⟩
 generalize x0.drewN nq=x1 at s1 ⊢
 replace r0 :=r0.still s1
 replace bb :=bb.trans (s1.below base)
 replace k1 :=k1.below (s1.below x0.heap.size) k1.1
 replace k2 :=k2.below (s1.below x0.heap.size) k2.1
 clear ck1 yk1 ck2 yk2 q5 c1 s1 bx
 have ck1 :=k1.2.1
 have yk1 :=k1.1
 go_wp2_with fail
 clear ck1 yk1
 refine (HE.out _).mono ?_
 rintro e w1 ⟨rfl,b1⟩
 replace bb :=bb.trans (b1.mono r0.hb)
 replace r0 :=r0.below b1
 replace k1 :=k1.below b1 k1.1
 replace k2 :=k2.below b1 k2.1
 have q5 :=r0.bx.2.1 5
 simp at q5
 have yg :=r0.bx.1
 have ck2 :=k2.2.1
 have yk2 :=k2.1
 go_wp2_with fail
 go_quiet (fail)
 have s1 :Still w1 (w1.drewN nq) :=⟨nq,rfl⟩
 generalize w1.drewN nq=w2 at s1 ⊢
 replace r0 :=r0.still s1
 replace bb :=bb.trans (s1.below base)
 replace k1 :=k1.below (s1.below w1.heap.size) k1.1
 replace k2 :=k2.below (s1.below w1.heap.size) k2.1
 clear ck2 yk2 q5 s1 b1 yg
 have ck1 :=k1.2.1
 have yk1 :=k1.1
 have ck2 :=k2.2.1
 have yk2 :=k2.1
 by_cases hlt :(L.ss.length :Int)-bn-1 < tk
 ·have HD :=Lib.hid (hD.trans (if_pos hlt))
  have R0 :=Lib.hid r0
  have BB :=Lib.hid bb
  clear hD r0 bb
  go_wp2
  go_ret
  rw [HD.out]
  exact ⟨rfl,⟨gs,gc,hv,ov,p,q,R0.out⟩,BB.out⟩
 ·have HD :=Lib.hid (hD.trans (if_neg hlt))
  have R0 :=Lib.hid r0
  have BB :=Lib.hid bb
  clear hD r0 bb
  have htk :tk=2 :=by rw [← HS.out.2];rfl
  have HM :=Lib.hid (runReckon_any R0.out DD.out.fits (by omega) 12 (by omega))
  clear htk
  go_wp2_with fail
  refine (HM.out).mono ?_
  rintro e w3 ⟨rfl,⟨gs1,p1,r3⟩,b3⟩
  have R3 :=Lib.hid r3
  clear r3
  go_wp2
  go_ret
  rw [HD.out]
  exact ⟨rfl,⟨gs1,gc,hv,ov,p1,q,R3.out⟩,BB.out.trans b3⟩
set_option maxHeartbeats 3200000 in
set_option maxRecDepth 100000 in
theorem runDo13 {base :Nat} {w :World} {g gs gc :Nat} {fv hv ov :Value} {p q :Nat} {L :VmL} (h :RunV base w g gs gc fv hv ov p q L) (n m :Int) (cl :O3) (D :DoOk L ⟨13,n,m⟩ cl) :
  Calls Tryz.prog 149 #[.pointer (some ⟨g,0,none⟩), .agg #[.int .i64 13, .int .i64 n, .int .i64 m], .agg #[.int .i64 cl.c, .int .i64 cl.n, .int .i64 cl.m]] w fun e w'=> e= .returned (.int .i64 (doL L ⟨13,n,m⟩ cl).1)∧
   (∃gs' gc' hv' ov' p' q',RunV base w' g gs' gc' fv hv' ov' p' q' (doL L ⟨13,n,m⟩ cl).2)∧Below base w w' :=by
 obtain ⟨bn,hbn⟩ : ∃bn :Nat,cl.m=(bn :Int) :=⟨cl.m.toNat,by have :=D.cm;omega⟩
 obtain ⟨cc,cn,cm⟩ :=cl
 dsimp only at hbn
 subst hbn
 have hcm :=D.cm
 dsimp only at hcm
 have hss :=D.fits.s1
 obtain ⟨bj,hbj⟩ : ∃bj :Nat,bn-1=bj :=⟨_,rfl⟩
 have hjl :bj < L.ss.length :=by omega
 obtain ⟨self,hself⟩ : ∃self,L.ss.getD bj 0=self :=⟨_,rfl⟩
 have e1 :IntKind.i64.wrap ((bn :Int)-1)=(bj :Int) :=by rw [IntWalk.i64_in _ (by omega)];omega
 have e2 :IntKind.i64.wrap ((L.ss.length :Int)-(bn :Int))=(L.ss.length :Int)-(bn :Int) :=IntWalk.i64_in _ (by omega)
 have e3 :IntKind.i64.wrap ((L.ss.length :Int)-(bn :Int)-1)=(L.ss.length :Int)-(bn :Int)-1 :=IntWalk.i64_in _ (by omega)
 have HE :=Lib.hid (iEffect_lit 13 n m (by omega))
 have H0 :=Lib.hid h
 have DD :=Lib.hid D
 have hbs :=h.hb
 have hD :doL L ⟨13,n,m⟩ ⟨cc,cn,bn⟩ =if (L.ss.length :Int)-bn-1 < takesOf 13 m then (5,L) else reckL L 13 :=by
  unfold doL
  dsimp only
  rw [show ((bn :Int)-1).toNat=bj by omega,hself]
  by_cases hc :(L.ss.length :Int)-bn-1 < takesOf 13 m
  ·rw [if_pos hc,if_pos hc]
  ·rw [if_neg hc,if_neg hc]
   simp
 obtain ⟨tk,htk⟩ : ∃tk,takesOf 13 m=tk :=⟨_,rfl⟩
 obtain ⟨pu,hpu⟩ : ∃pu,putsOf 13=pu :=⟨_,rfl⟩
 rw [htk,hpu] at HE
 rw [htk] at hD
 have HS :=Lib.hid (And.intro hself htk)
 clear h D hself htk hpu
 go_enter Tryz.func149,Tryz.ntmps149
 go_wp2_with fail
 generalize hxx :(w.alloc _).alloc _=x0
 obtain ⟨bx,k1,k2,sx⟩ :=alloc_box2 hxx
 clear hxx sx
 have r0 :=H0.out.below bx
 have bb :=bx.mono hbs
 have c1 :=own_cell r0.s bj hjl
 rw [List.getElem?_map,List.getElem?_eq_getElem hjl,Option.map_some,show L.ss[bj]=self by rw [← HS.out.1,List.getD_eq_getElem?_getD,List.getElem?_eq_getElem hjl];rfl] at c1
 have q5 :=r0.bx.2.1 5
 simp at q5
 have ck1 :=k1.2.1
 have yk1 :=k1.1
 have ck2 :=k2.2.1
 have yk2 :=k2.1
 go_quiet (fail)
 have s1 :Still x0 (x0.drewN nq) :=⟨nq,rfl⟩
 generalize x0.drewN nq=x1 at s1 ⊢
 replace r0 :=r0.still s1
 replace bb :=bb.trans (s1.below base)
 replace k1 :=k1.below (s1.below x0.heap.size) k1.1
 replace k2 :=k2.below (s1.below x0.heap.size) k2.1
 clear ck1 yk1 ck2 yk2 q5 c1 s1 bx
 have ck1 :=k1.2.1
 have yk1 :=k1.1
 go_wp2_with fail
 clear ck1 yk1
 refine (HE.out _).mono ?_
 rintro e w1 ⟨rfl,b1⟩
 replace bb :=bb.trans (b1.mono r0.hb)
 replace r0 :=r0.below b1
 replace k1 :=k1.below b1 k1.1
 replace k2 :=k2.below b1 k2.1
 have q5 :=r0.bx.2.1 5
 simp at q5
 have yg :=r0.bx.1
 have ck2 :=k2.2.1
 have yk2 :=k2.1
 go_wp2_with fail
 go_quiet (fail)
 have s1 :Still w1 (w1.drewN nq) :=⟨nq,rfl⟩
 generalize w1.drewN nq=w2 at s1 ⊢
 replace r0 :=r0.still s1
 replace bb :=bb.trans (s1.below base)
 replace k1 :=k1.below (s1.below w1.heap.size) k1.1
 replace k2 :=k2.below (s1.below w1.heap.size) k2.1
 clear ck2 yk2 q5 s1 b1 yg
 have ck1 :=k1.2.1
 have yk1 :=k1.1
 have ck2 :=k2.2.1
 have yk2 :=k2.1
 by_cases hlt :(L.ss.length :Int)-bn-1 < tk
 ·have HD :=Lib.hid (hD.trans (if_pos hlt))
  have R0 :=Lib.hid r0
  have BB :=Lib.hid bb
  clear hD r0 bb
  go_wp2
  go_ret
  rw [HD.out]
  exact ⟨rfl,⟨gs,gc,hv,ov,p,q,R0.out⟩,BB.out⟩
 ·have HD :=Lib.hid (hD.trans (if_neg hlt))
  have R0 :=Lib.hid r0
  have BB :=Lib.hid bb
  clear hD r0 bb
  have htk :tk=2 :=by rw [← HS.out.2];rfl
  have HM :=Lib.hid (runReckon_any R0.out DD.out.fits (by omega) 13 (by omega))
  clear htk
  go_wp2_with fail
  refine (HM.out).mono ?_
  rintro e w3 ⟨rfl,⟨gs1,p1,r3⟩,b3⟩
  have R3 :=Lib.hid r3
  clear r3
  go_wp2
  go_ret
  rw [HD.out]
  exact ⟨rfl,⟨gs1,gc,hv,ov,p1,q,R3.out⟩,BB.out.trans b3⟩
set_option maxHeartbeats 3200000 in
set_option maxRecDepth 100000 in
theorem runDo14 {base :Nat} {w :World} {g gs gc :Nat} {fv hv ov :Value} {p q :Nat} {L :VmL} (h :RunV base w g gs gc fv hv ov p q L) (n m :Int) (cl :O3) (D :DoOk L ⟨14,n,m⟩ cl) :
  Calls Tryz.prog 149 #[.pointer (some ⟨g,0,none⟩), .agg #[.int .i64 14, .int .i64 n, .int .i64 m], .agg #[.int .i64 cl.c, .int .i64 cl.n, .int .i64 cl.m]] w fun e w'=> e= .returned (.int .i64 (doL L ⟨14,n,m⟩ cl).1)∧
   (∃gs' gc' hv' ov' p' q',RunV base w' g gs' gc' fv hv' ov' p' q' (doL L ⟨14,n,m⟩ cl).2)∧Below base w w' :=by
 obtain ⟨bn,hbn⟩ : ∃bn :Nat,cl.m=(bn :Int) :=⟨cl.m.toNat,by have :=D.cm;omega⟩
 obtain ⟨cc,cn,cm⟩ :=cl
 dsimp only at hbn
 subst hbn
 have hcm :=D.cm
 dsimp only at hcm
 have hss :=D.fits.s1
 obtain ⟨bj,hbj⟩ : ∃bj :Nat,bn-1=bj :=⟨_,rfl⟩
 have hjl :bj < L.ss.length :=by omega
 obtain ⟨self,hself⟩ : ∃self,L.ss.getD bj 0=self :=⟨_,rfl⟩
 have e1 :IntKind.i64.wrap ((bn :Int)-1)=(bj :Int) :=by rw [IntWalk.i64_in _ (by omega)];omega
 have e2 :IntKind.i64.wrap ((L.ss.length :Int)-(bn :Int))=(L.ss.length :Int)-(bn :Int) :=IntWalk.i64_in _ (by omega)
 have e3 :IntKind.i64.wrap ((L.ss.length :Int)-(bn :Int)-1)=(L.ss.length :Int)-(bn :Int)-1 :=IntWalk.i64_in _ (by omega)
 have HE :=Lib.hid (iEffect_lit 14 n m (by omega))
 have H0 :=Lib.hid h
 have DD :=Lib.hid D
 have hbs :=h.hb
 have hD :doL L ⟨14,n,m⟩ ⟨cc,cn,bn⟩ =if (L.ss.length :Int)-bn-1 < takesOf 14 m then (5,L) else reckL L 14 :=by
  unfold doL
  dsimp only
  rw [show ((bn :Int)-1).toNat=bj by omega,hself]
  by_cases hc :(L.ss.length :Int)-bn-1 < takesOf 14 m
  ·rw [if_pos hc,if_pos hc]
  ·rw [if_neg hc,if_neg hc]
   simp
 obtain ⟨tk,htk⟩ : ∃tk,takesOf 14 m=tk :=⟨_,rfl⟩
 obtain ⟨pu,hpu⟩ : ∃pu,putsOf 14=pu :=⟨_,rfl⟩
 rw [htk,hpu] at HE
 rw [htk] at hD
 have HS :=Lib.hid (And.intro hself htk)
 clear h D hself htk hpu
 go_enter Tryz.func149,Tryz.ntmps149
 go_wp2_with fail
 generalize hxx :(w.alloc _).alloc _=x0
 obtain ⟨bx,k1,k2,sx⟩ :=alloc_box2 hxx
 clear hxx sx
 have r0 :=H0.out.below bx
 have bb :=bx.mono hbs
 have c1 :=own_cell r0.s bj hjl
 rw [List.getElem?_map,List.getElem?_eq_getElem hjl,Option.map_some,show L.ss[bj]=self by rw [← HS.out.1,List.getD_eq_getElem?_getD,List.getElem?_eq_getElem hjl];rfl] at c1
 have q5 :=r0.bx.2.1 5
 simp at q5
 have ck1 :=k1.2.1
 have yk1 :=k1.1
 have ck2 :=k2.2.1
 have yk2 :=k2.1
 go_quiet (fail)
 have s1 :Still x0 (x0.drewN nq) :=⟨nq,rfl⟩
 generalize x0.drewN nq=x1 at s1 ⊢
 replace r0 :=r0.still s1
 replace bb :=bb.trans (s1.below base)
 replace k1 :=k1.below (s1.below x0.heap.size) k1.1
 replace k2 :=k2.below (s1.below x0.heap.size) k2.1
 clear ck1 yk1 ck2 yk2 q5 c1 s1 bx
 have ck1 :=k1.2.1
 have yk1 :=k1.1
 go_wp2_with fail
 clear ck1 yk1
 refine (HE.out _).mono ?_
 rintro e w1 ⟨rfl,b1⟩
 replace bb :=bb.trans (b1.mono r0.hb)
 replace r0 :=r0.below b1
 replace k1 :=k1.below b1 k1.1
 replace k2 :=k2.below b1 k2.1
 have q5 :=r0.bx.2.1 5
 simp at q5
 have yg :=r0.bx.1
 have ck2 :=k2.2.1
 have yk2 :=k2.1
 go_wp2_with fail
 go_quiet (fail)
 have s1 :Still w1 (w1.drewN nq) :=⟨nq,rfl⟩
 generalize w1.drewN nq=w2 at s1 ⊢
 replace r0 :=r0.still s1
 replace bb :=bb.trans (s1.below base)
 replace k1 :=k1.below (s1.below w1.heap.size) k1.1
 replace k2 :=k2.below (s1.below w1.heap.size) k2.1
 clear ck2 yk2 q5 s1 b1 yg
 have ck1 :=k1.2.1
 have yk1 :=k1.1
 have ck2 :=k2.2.1
 have yk2 :=k2.1
 by_cases hlt :(L.ss.length :Int)-bn-1 < tk
 ·have HD :=Lib.hid (hD.trans (if_pos hlt))
  have R0 :=Lib.hid r0
  have BB :=Lib.hid bb
  clear hD r0 bb
  go_wp2
  go_ret
  rw [HD.out]
  exact ⟨rfl,⟨gs,gc,hv,ov,p,q,R0.out⟩,BB.out⟩
 ·have HD :=Lib.hid (hD.trans (if_neg hlt))
  have R0 :=Lib.hid r0
  have BB :=Lib.hid bb
  clear hD r0 bb
  have htk :tk=2 :=by rw [← HS.out.2];rfl
  have HM :=Lib.hid (runReckon_any R0.out DD.out.fits (by omega) 14 (by omega))
  clear htk
  go_wp2_with fail
  refine (HM.out).mono ?_
  rintro e w3 ⟨rfl,⟨gs1,p1,r3⟩,b3⟩
  have R3 :=Lib.hid r3
  clear r3
  go_wp2
  go_ret
  rw [HD.out]
  exact ⟨rfl,⟨gs1,gc,hv,ov,p1,q,R3.out⟩,BB.out.trans b3⟩
set_option maxHeartbeats 3200000 in
set_option maxRecDepth 100000 in
theorem runDo15 {base :Nat} {w :World} {g gs gc :Nat} {fv hv ov :Value} {p q :Nat} {L :VmL} (h :RunV base w g gs gc fv hv ov p q L) (n m :Int) (cl :O3) (D :DoOk L ⟨15,n,m⟩ cl) :
  Calls Tryz.prog 149 #[.pointer (some ⟨g,0,none⟩), .agg #[.int .i64 15, .int .i64 n, .int .i64 m], .agg #[.int .i64 cl.c, .int .i64 cl.n, .int .i64 cl.m]] w fun e w'=> e= .returned (.int .i64 (doL L ⟨15,n,m⟩ cl).1)∧
   (∃gs' gc' hv' ov' p' q',RunV base w' g gs' gc' fv hv' ov' p' q' (doL L ⟨15,n,m⟩ cl).2)∧Below base w w' :=by
 obtain ⟨bn,hbn⟩ : ∃bn :Nat,cl.m=(bn :Int) :=⟨cl.m.toNat,by have :=D.cm;omega⟩
 obtain ⟨cc,cn,cm⟩ :=cl
 dsimp only at hbn
 subst hbn
 have hcm :=D.cm
 dsimp only at hcm
 have hss :=D.fits.s1
 obtain ⟨bj,hbj⟩ : ∃bj :Nat,bn-1=bj :=⟨_,rfl⟩
 have hjl :bj < L.ss.length :=by omega
 obtain ⟨self,hself⟩ : ∃self,L.ss.getD bj 0=self :=⟨_,rfl⟩
 have e1 :IntKind.i64.wrap ((bn :Int)-1)=(bj :Int) :=by rw [IntWalk.i64_in _ (by omega)];omega
 have e2 :IntKind.i64.wrap ((L.ss.length :Int)-(bn :Int))=(L.ss.length :Int)-(bn :Int) :=IntWalk.i64_in _ (by omega)
 have e3 :IntKind.i64.wrap ((L.ss.length :Int)-(bn :Int)-1)=(L.ss.length :Int)-(bn :Int)-1 :=IntWalk.i64_in _ (by omega)
 have HE :=Lib.hid (iEffect_lit 15 n m (by omega))
 have H0 :=Lib.hid h
 have DD :=Lib.hid D
 have hbs :=h.hb
 have hD :doL L ⟨15,n,m⟩ ⟨cc,cn,bn⟩ =if (L.ss.length :Int)-bn-1 < takesOf 15 m then (5,L) else reckL L 15 :=by
  unfold doL
  dsimp only
  rw [show ((bn :Int)-1).toNat=bj by omega,hself]
  by_cases hc :(L.ss.length :Int)-bn-1 < takesOf 15 m
  ·rw [if_pos hc,if_pos hc]
  ·rw [if_neg hc,if_neg hc]
   simp
 obtain ⟨tk,htk⟩ : ∃tk,takesOf 15 m=tk :=⟨_,rfl⟩
 obtain ⟨pu,hpu⟩ : ∃pu,putsOf 15=pu :=⟨_,rfl⟩
 rw [htk,hpu] at HE
 rw [htk] at hD
 have HS :=Lib.hid (And.intro hself htk)
 clear h D hself htk hpu
 go_enter Tryz.func149,Tryz.ntmps149
 go_wp2_with fail
 generalize hxx :(w.alloc _).alloc _=x0
 obtain ⟨bx,k1,k2,sx⟩ :=alloc_box2 hxx
 clear hxx sx
 have r0 :=H0.out.below bx
 have bb :=bx.mono hbs
 have c1 :=own_cell r0.s bj hjl
 rw [List.getElem?_map,List.getElem?_eq_getElem hjl,Option.map_some,show L.ss[bj]=self by rw [← HS.out.1,List.getD_eq_getElem?_getD,List.getElem?_eq_getElem hjl];rfl] at c1
 have q5 :=r0.bx.2.1 5
 simp at q5
 have ck1 :=k1.2.1
 have yk1 :=k1.1
 have ck2 :=k2.2.1
 have yk2 :=k2.1
 go_quiet (fail)
 have s1 :Still x0 (x0.drewN nq) :=⟨nq,rfl⟩
 generalize x0.drewN nq=x1 at s1 ⊢
 replace r0 :=r0.still s1
 replace bb :=bb.trans (s1.below base)
 replace k1 :=k1.below (s1.below x0.heap.size) k1.1
 replace k2 :=k2.below (s1.below x0.heap.size) k2.1
 clear ck1 yk1 ck2 yk2 q5 c1 s1 bx
 have ck1 :=k1.2.1
 have yk1 :=k1.1
 go_wp2_with fail
 clear ck1 yk1
 refine (HE.out _).mono ?_
 rintro e w1 ⟨rfl,b1⟩
 replace bb :=bb.trans (b1.mono r0.hb)
 replace r0 :=r0.below b1
 replace k1 :=k1.below b1 k1.1
 replace k2 :=k2.below b1 k2.1
 have q5 :=r0.bx.2.1 5
 simp at q5
 have yg :=r0.bx.1
 have ck2 :=k2.2.1
 have yk2 :=k2.1
 go_wp2_with fail
 go_quiet (fail)
 have s1 :Still w1 (w1.drewN nq) :=⟨nq,rfl⟩
 generalize w1.drewN nq=w2 at s1 ⊢
 replace r0 :=r0.still s1
 replace bb :=bb.trans (s1.below base)
 replace k1 :=k1.below (s1.below w1.heap.size) k1.1
 replace k2 :=k2.below (s1.below w1.heap.size) k2.1
 clear ck2 yk2 q5 s1 b1 yg
 have ck1 :=k1.2.1
 have yk1 :=k1.1
 have ck2 :=k2.2.1
 have yk2 :=k2.1
 by_cases hlt :(L.ss.length :Int)-bn-1 < tk
 ·have HD :=Lib.hid (hD.trans (if_pos hlt))
  have R0 :=Lib.hid r0
  have BB :=Lib.hid bb
  clear hD r0 bb
  go_wp2
  go_ret
  rw [HD.out]
  exact ⟨rfl,⟨gs,gc,hv,ov,p,q,R0.out⟩,BB.out⟩
 ·have HD :=Lib.hid (hD.trans (if_neg hlt))
  have R0 :=Lib.hid r0
  have BB :=Lib.hid bb
  clear hD r0 bb
  have htk :tk=2 :=by rw [← HS.out.2];rfl
  have HM :=Lib.hid (runReckon_any R0.out DD.out.fits (by omega) 15 (by omega))
  clear htk
  go_wp2_with fail
  refine (HM.out).mono ?_
  rintro e w3 ⟨rfl,⟨gs1,p1,r3⟩,b3⟩
  have R3 :=Lib.hid r3
  clear r3
  go_wp2
  go_ret
  rw [HD.out]
  exact ⟨rfl,⟨gs1,gc,hv,ov,p1,q,R3.out⟩,BB.out.trans b3⟩
set_option maxHeartbeats 3200000 in
set_option maxRecDepth 100000 in
theorem runDo16 {base :Nat} {w :World} {g gs gc :Nat} {fv hv ov :Value} {p q :Nat} {L :VmL} (h :RunV base w g gs gc fv hv ov p q L) (n m :Int) (cl :O3) (D :DoOk L ⟨16,n,m⟩ cl) :
  Calls Tryz.prog 149 #[.pointer (some ⟨g,0,none⟩), .agg #[.int .i64 16, .int .i64 n, .int .i64 m], .agg #[.int .i64 cl.c, .int .i64 cl.n, .int .i64 cl.m]] w fun e w'=> e= .returned (.int .i64 (doL L ⟨16,n,m⟩ cl).1)∧
   (∃gs' gc' hv' ov' p' q',RunV base w' g gs' gc' fv hv' ov' p' q' (doL L ⟨16,n,m⟩ cl).2)∧Below base w w' :=by
 obtain ⟨bn,hbn⟩ : ∃bn :Nat,cl.m=(bn :Int) :=⟨cl.m.toNat,by have :=D.cm;omega⟩
 obtain ⟨cc,cn,cm⟩ :=cl
 dsimp only at hbn
 subst hbn
 have hcm :=D.cm
 dsimp only at hcm
 have hss :=D.fits.s1
 obtain ⟨bj,hbj⟩ : ∃bj :Nat,bn-1=bj :=⟨_,rfl⟩
 have hjl :bj < L.ss.length :=by omega
 obtain ⟨self,hself⟩ : ∃self,L.ss.getD bj 0=self :=⟨_,rfl⟩
 have e1 :IntKind.i64.wrap ((bn :Int)-1)=(bj :Int) :=by rw [IntWalk.i64_in _ (by omega)];omega
 have e2 :IntKind.i64.wrap ((L.ss.length :Int)-(bn :Int))=(L.ss.length :Int)-(bn :Int) :=IntWalk.i64_in _ (by omega)
 have e3 :IntKind.i64.wrap ((L.ss.length :Int)-(bn :Int)-1)=(L.ss.length :Int)-(bn :Int)-1 :=IntWalk.i64_in _ (by omega)
 have HE :=Lib.hid (iEffect_lit 16 n m (by omega))
 have H0 :=Lib.hid h
 have DD :=Lib.hid D
 have hbs :=h.hb
 have hD :doL L ⟨16,n,m⟩ ⟨cc,cn,bn⟩ =if (L.ss.length :Int)-bn-1 < takesOf 16 m then (5,L) else reckL L 16 :=by
  unfold doL
  dsimp only
  rw [show ((bn :Int)-1).toNat=bj by omega,hself]
  by_cases hc :(L.ss.length :Int)-bn-1 < takesOf 16 m
  ·rw [if_pos hc,if_pos hc]
  ·rw [if_neg hc,if_neg hc]
   simp
 obtain ⟨tk,htk⟩ : ∃tk,takesOf 16 m=tk :=⟨_,rfl⟩
 obtain ⟨pu,hpu⟩ : ∃pu,putsOf 16=pu :=⟨_,rfl⟩
 rw [htk,hpu] at HE
 rw [htk] at hD
 have HS :=Lib.hid (And.intro hself htk)
 clear h D hself htk hpu
 go_enter Tryz.func149,Tryz.ntmps149
 go_wp2_with fail
 generalize hxx :(w.alloc _).alloc _=x0
 obtain ⟨bx,k1,k2,sx⟩ :=alloc_box2 hxx
 clear hxx sx
 have r0 :=H0.out.below bx
 have bb :=bx.mono hbs
 have c1 :=own_cell r0.s bj hjl
 rw [List.getElem?_map,List.getElem?_eq_getElem hjl,Option.map_some,show L.ss[bj]=self by rw [← HS.out.1,List.getD_eq_getElem?_getD,List.getElem?_eq_getElem hjl];rfl] at c1
 have q5 :=r0.bx.2.1 5
 simp at q5
 have ck1 :=k1.2.1
 have yk1 :=k1.1
 have ck2 :=k2.2.1
 have yk2 :=k2.1
 go_quiet (fail)
 have s1 :Still x0 (x0.drewN nq) :=⟨nq,rfl⟩
 generalize x0.drewN nq=x1 at s1 ⊢
 replace r0 :=r0.still s1
 replace bb :=bb.trans (s1.below base)
 replace k1 :=k1.below (s1.below x0.heap.size) k1.1
 replace k2 :=k2.below (s1.below x0.heap.size) k2.1
 clear ck1 yk1 ck2 yk2 q5 c1 s1 bx
 have ck1 :=k1.2.1
 have yk1 :=k1.1
 go_wp2_with fail
 clear ck1 yk1
 refine (HE.out _).mono ?_
 rintro e w1 ⟨rfl,b1⟩
 replace bb :=bb.trans (b1.mono r0.hb)
 replace r0 :=r0.below b1
 replace k1 :=k1.below b1 k1.1
 replace k2 :=k2.below b1 k2.1
 have q5 :=r0.bx.2.1 5
 simp at q5
 have yg :=r0.bx.1
 have ck2 :=k2.2.1
 have yk2 :=k2.1
 go_wp2_with fail
 go_quiet (fail)
 have s1 :Still w1 (w1.drewN nq) :=⟨nq,rfl⟩
 generalize w1.drewN nq=w2 at s1 ⊢
 replace r0 :=r0.still s1
 replace bb :=bb.trans (s1.below base)
 replace k1 :=k1.below (s1.below w1.heap.size) k1.1
 replace k2 :=k2.below (s1.below w1.heap.size) k2.1
 clear ck2 yk2 q5 s1 b1 yg
 have ck1 :=k1.2.1
 have yk1 :=k1.1
 have ck2 :=k2.2.1
 have yk2 :=k2.1
 by_cases hlt :(L.ss.length :Int)-bn-1 < tk
 ·have HD :=Lib.hid (hD.trans (if_pos hlt))
  have R0 :=Lib.hid r0
  have BB :=Lib.hid bb
  clear hD r0 bb
  go_wp2
  go_ret
  rw [HD.out]
  exact ⟨rfl,⟨gs,gc,hv,ov,p,q,R0.out⟩,BB.out⟩
 ·have HD :=Lib.hid (hD.trans (if_neg hlt))
  have R0 :=Lib.hid r0
  have BB :=Lib.hid bb
  clear hD r0 bb
  have htk :tk=2 :=by rw [← HS.out.2];rfl
  have HM :=Lib.hid (runReckon_any R0.out DD.out.fits (by omega) 16 (by omega))
  clear htk
  go_wp2_with fail
  refine (HM.out).mono ?_
  rintro e w3 ⟨rfl,⟨gs1,p1,r3⟩,b3⟩
  have R3 :=Lib.hid r3
  clear r3
  go_wp2
  go_ret
  rw [HD.out]
  exact ⟨rfl,⟨gs1,gc,hv,ov,p1,q,R3.out⟩,BB.out.trans b3⟩
set_option maxHeartbeats 3200000 in
set_option maxRecDepth 100000 in
theorem runDo20 {base :Nat} {w :World} {g gs gc :Nat} {fv hv ov :Value} {p q :Nat} {L :VmL} (h :RunV base w g gs gc fv hv ov p q L) (n m :Int) (cl :O3) (D :DoOk L ⟨20,n,m⟩ cl) :
  Calls Tryz.prog 149 #[.pointer (some ⟨g,0,none⟩), .agg #[.int .i64 20, .int .i64 n, .int .i64 m], .agg #[.int .i64 cl.c, .int .i64 cl.n, .int .i64 cl.m]] w fun e w'=> e= .returned (.int .i64 (doL L ⟨20,n,m⟩ cl).1)∧
   (∃gs' gc' hv' ov' p' q',RunV base w' g gs' gc' fv hv' ov' p' q' (doL L ⟨20,n,m⟩ cl).2)∧Below base w w' :=by
 obtain ⟨bn,hbn⟩ : ∃bn :Nat,cl.m=(bn :Int) :=⟨cl.m.toNat,by have :=D.cm;omega⟩
 obtain ⟨cc,cn,cm⟩ :=cl
 dsimp only at hbn
 subst hbn
 have hcm :=D.cm
 dsimp only at hcm
 have hss :=D.fits.s1
 obtain ⟨bj,hbj⟩ : ∃bj :Nat,bn-1=bj :=⟨_,rfl⟩
 have hjl :bj < L.ss.length :=by omega
 obtain ⟨self,hself⟩ : ∃self,L.ss.getD bj 0=self :=⟨_,rfl⟩
 have e1 :IntKind.i64.wrap ((bn :Int)-1)=(bj :Int) :=by rw [IntWalk.i64_in _ (by omega)];omega
 have e2 :IntKind.i64.wrap ((L.ss.length :Int)-(bn :Int))=(L.ss.length :Int)-(bn :Int) :=IntWalk.i64_in _ (by omega)
 have e3 :IntKind.i64.wrap ((L.ss.length :Int)-(bn :Int)-1)=(L.ss.length :Int)-(bn :Int)-1 :=IntWalk.i64_in _ (by omega)
 have HE :=Lib.hid (iEffect_lit 20 n m (by omega))
 have H0 :=Lib.hid h
 have DD :=Lib.hid D
 have hbs :=h.hb
 have hD :doL L ⟨20,n,m⟩ ⟨cc,cn,bn⟩ =if (L.ss.length :Int)-bn-1 < takesOf 20 m then (5,L) else pushR L 2 (lastW L.ss 0) :=by
  unfold doL
  dsimp only
  rw [show ((bn :Int)-1).toNat=bj by omega,hself]
  by_cases hc :(L.ss.length :Int)-bn-1 < takesOf 20 m
  ·rw [if_pos hc,if_pos hc]
  ·rw [if_neg hc,if_neg hc]
   simp
 obtain ⟨tk,htk⟩ : ∃tk,takesOf 20 m=tk :=⟨_,rfl⟩
 obtain ⟨pu,hpu⟩ : ∃pu,putsOf 20=pu :=⟨_,rfl⟩
 rw [htk,hpu] at HE
 rw [htk] at hD
 have HS :=Lib.hid (And.intro hself htk)
 clear h D hself htk hpu
 go_enter Tryz.func149,Tryz.ntmps149
 go_wp2_with fail
 generalize hxx :(w.alloc _).alloc _=x0
 obtain ⟨bx,k1,k2,sx⟩ :=alloc_box2 hxx
 clear hxx sx
 have r0 :=H0.out.below bx
 have bb :=bx.mono hbs
 have c1 :=own_cell r0.s bj hjl
 rw [List.getElem?_map,List.getElem?_eq_getElem hjl,Option.map_some,show L.ss[bj]=self by rw [← HS.out.1,List.getD_eq_getElem?_getD,List.getElem?_eq_getElem hjl];rfl] at c1
 have q5 :=r0.bx.2.1 5
 simp at q5
 have ck1 :=k1.2.1
 have yk1 :=k1.1
 have ck2 :=k2.2.1
 have yk2 :=k2.1
 go_quiet (fail)
 have s1 :Still x0 (x0.drewN nq) :=⟨nq,rfl⟩
 generalize x0.drewN nq=x1 at s1 ⊢
 replace r0 :=r0.still s1
 replace bb :=bb.trans (s1.below base)
 replace k1 :=k1.below (s1.below x0.heap.size) k1.1
 replace k2 :=k2.below (s1.below x0.heap.size) k2.1
 clear ck1 yk1 ck2 yk2 q5 c1 s1 bx
 have ck1 :=k1.2.1
 have yk1 :=k1.1
 go_wp2_with fail
 clear ck1 yk1
 refine (HE.out _).mono ?_
 rintro e w1 ⟨rfl,b1⟩
 replace bb :=bb.trans (b1.mono r0.hb)
 replace r0 :=r0.below b1
 replace k1 :=k1.below b1 k1.1
 replace k2 :=k2.below b1 k2.1
 have q5 :=r0.bx.2.1 5
 simp at q5
 have yg :=r0.bx.1
 have ck2 :=k2.2.1
 have yk2 :=k2.1
 go_wp2_with fail
 go_quiet (fail)
 have s1 :Still w1 (w1.drewN nq) :=⟨nq,rfl⟩
 generalize w1.drewN nq=w2 at s1 ⊢
 replace r0 :=r0.still s1
 replace bb :=bb.trans (s1.below base)
 replace k1 :=k1.below (s1.below w1.heap.size) k1.1
 replace k2 :=k2.below (s1.below w1.heap.size) k2.1
 clear ck2 yk2 q5 s1 b1 yg
 have ck1 :=k1.2.1
 have yk1 :=k1.1
 have ck2 :=k2.2.1
 have yk2 :=k2.1
 by_cases hlt :(L.ss.length :Int)-bn-1 < tk
 ·have HD :=Lib.hid (hD.trans (if_pos hlt))
  have R0 :=Lib.hid r0
  have BB :=Lib.hid bb
  clear hD r0 bb
  go_wp2
  go_ret
  rw [HD.out]
  exact ⟨rfl,⟨gs,gc,hv,ov,p,q,R0.out⟩,BB.out⟩
 ·have HD :=Lib.hid (hD.trans (if_neg hlt))
  have R0 :=Lib.hid r0
  have BB :=Lib.hid bb
  clear hD r0 bb
  have htk :tk=2 :=by rw [← HS.out.2];rfl
  have HL :=Lib.hid (last_any R0.out (by have :=DD.out.fits.s1;omega) 0 (by omega))
  have hl2 :2≤L.ss.length :=by omega
  clear htk
  go_wp2_with fail
  refine HL.out.mono ?_
  rintro e w4 ⟨rfl,s4⟩
  replace R0 :=Lib.hid (R0.out.still s4)
  replace BB :=Lib.hid (BB.out.trans (s4.below base))
  clear s4
  go_wp2_with fail
  refine (push_any R0.out DD.out.fits.z0 (by have :=DD.out.fits.s1;omega) 2 hl2 _).mono ?_
  rintro e w3 ⟨rfl,⟨gs1,p1,r3⟩,b3⟩
  have R3 :=Lib.hid r3
  clear r3
  go_wp2
  go_ret
  rw [HD.out]
  exact ⟨rfl,⟨gs1,gc,hv,ov,p1,q,R3.out⟩,BB.out.trans b3⟩
end Go.Proofs.YtfmebaafpfkeiaaGreat
end
