/- Parts of the proof of FnNoRoom. -/
import Derived.Test.YtfmebaafpfkeiaaGreatZ20
import Derived.Test.YtfmebaafpfkeiaaGreatZ12
import Derived.Test.YtfmebaafpfkeiaaGreatZ19
set_option linter.unusedVariables false
set_option linter.unusedSimpArgs false
section
namespace Go.Proofs.YtfmebaafpfkeiaaGreat
open Go.RowKit
set_option maxHeartbeats 6400000 in
set_option maxRecDepth 100000 in
theorem runMake_moveN {base :Nat} {w :World} {g gs gc :Nat} {fv hv ov :Value} {p q :Nat} {L :VmL} (h :RunV base w g gs gc fv hv ov p q L) (f :Bool) (tag :Int) (k :Nat) (h0 :0≤tag) (h1 :tag≤3000) (h2 :k≤20) (hM :MkOk L k)
  (hright :rightOf L.zs L.h L.b L.n L.ss=true) (he :L.each=false) (hr :roomL L < 1+(k :Int)) :
  Calls Tryz.prog 233 #[.pointer (some ⟨g,0,none⟩), .bool f, .int .i64 tag, .int .i64 k] w fun e w'=> e= .returned (.int .i64 (makeL L f tag k).1)∧
   (∃gs' gc' hv' p' q',RunV base w' g gs' gc' fv hv' ov p' q' (makeL L f tag k).2)∧Below base w w' :=by
 have hMM :=hM.moved hright
 have HCOL :=Lib.hid (fun (W :World) (v vr :Value) (rz :Rd W.heap.size .i64 W v L.zs) (rs :Rd W.heap.size .i64 W vr L.ss)=> collectM_any hright hM.z2 (by have :=hM.s1;omega) v vr W rz rs)
 have hIM :=isMoved L
 have hk0 :makeL L f tag k=putL (movedL L) f tag k :=by unfold makeL;rw [if_pos (.inr hr)]
 obtain ⟨M,hMd⟩ : ∃M,movedL L=M :=⟨_,rfl⟩
 rw [hMd] at hMM HCOL hIM hk0
 have IM :=Lib.hid hIM
 obtain ⟨m,hm⟩ : ∃m,M.ss.length-k=m :=⟨_,rfl⟩
 have HK :=Lib.hid hk0
 have LO :=Lib.hid hM
 have MO :=Lib.hid hMM
 have q6 :=h.bx.2.1 9
 simp at q6
 rw [he] at q6
 have H0 :=Lib.hid h
 have hbs :=h.hb
 have hgl :=h.bx.1
 have er :IntKind.i64.wrap (1+(k :Int))=1+(k :Int) :=IntWalk.i64_in _ (by omega)
 have hml :m+k=M.ss.length :=by have :=hMM.kl;omega
 have em :IntKind.i64.wrap ((M.ss.length :Int)-(k :Int))=(m :Int) :=by have :=hMM.s1;rw [IntWalk.i64_in _ (by omega)];omega
 have hm2 :m≤M.ss.length :=by omega
 obtain ⟨nN,hN⟩ : ∃nN :Nat,M.n=(nN :Int) :=⟨M.n.toNat,by have :=hMM.hn;omega⟩
 have HN :=Lib.hid hN
 have hdl :(M.ss.drop m).length=k :=by rw [List.length_drop];omega
 clear h hM hN hMM hright hk0 hMd hIM
 go_enter Tryz.func233,Tryz.ntmps233
 go_wp2_with fail
 generalize hxx :w.alloc _=x0
 obtain ⟨bx,kb⟩ :=Bx.alloc hxx
 clear hxx
 have R1 :=Lib.hid (H0.out.below bx)
 have KB :=Lib.hid kb
 have B1 :=Lib.hid (bx.mono hbs)
 have hgw : ¬w.heap.size=g :=by omega
 clear bx kb
 have KB0 :=KB.out
 refine (left_any R1.out KB0 LO.out.hb LO.out.hh (by have :=LO.out.hn;omega)).mono ?_
 rintro e w4 ⟨rfl,s5⟩
 replace R1 :=Lib.hid (R1.out.still s5)
 replace KB :=Lib.hid (KB.out.below (s5.below _) KB.out.1)
 replace B1 :=Lib.hid (B1.out.trans (s5.below base))
 clear KB0 s5
 have q0 :=KB.out.2.1 0
 simp at q0
 clear q0
 go_wp2_with fail
 go_cut [] from 24 to 45 (fun W=> ∃(gs2 p2 :Nat) (u2 :Value),RunV base W g gs2 gc fv u2 ov p2 q M∧Bx W w.heap.size #[.pointer (some ⟨g,0,none⟩)]∧Below base w W)
 case first=>
  have q0 :=KB.out.2.1 0
  have q1 :=R1.out.bx.2.1 1
  have q2 :=R1.out.bx.2.1 2
  have q3 :=R1.out.bx.2.1 3
  have q4 :=R1.out.bx.2.1 4
  have q5 :=R1.out.bx.2.1 5
  simp at q0 q1 q2 q3 q4 q5
  refine wp_region_held_drew (S :=(fun w'=> w'.cell? ⟨w.heap.size,0,none⟩ =some (.pointer (some ⟨g,0,none⟩)))) (by kernel_rfl) (by first | (dsimp only;exact q0) | (exact q0)) (fun hHeld=> ?_)
  refine tkH (i :=0) ?_
  refine tkH (i :=1) ?_
  refine tkH (i :=2) ?_
  refine tkH (i :=3) ?_
  refine tkH (i :=4) ?_
  refine tkH (i :=5) ?_
  refine tkH (i :=7) ?_
  refine tkH (i :=8) ?_
  refine tkH (i :=9) ?_
  refine tkH (i :=10) ?_
  generalize hxd :w4.drew=x1 at hHeld
  have hd :Below w4.heap.size w4 x1 :=by rw [← hxd];exact (Below.refl _ _).drew
  have R2 :=Lib.hid (R1.out.below hd)
  have K2 :=Lib.hid (KB.out.below hd KB.out.1)
  have B2 :=Lib.hid (B1.out.trans (hd.mono R1.out.hb))
  clear q0 q1 q2 q3 q4 q5
  have q0 :=K2.out.2.1 0
  have q1 :=R2.out.bx.2.1 1
  have q2 :=R2.out.bx.2.1 2
  have q3 :=R2.out.bx.2.1 3
  have q4 :=R2.out.bx.2.1 4
  have q5 :=R2.out.bx.2.1 5
  simp at q0 q1 q2 q3 q4 q5
  clear hxd hd R1 KB B1
  refine wpAnyH_ready (rs := [6,11]) (by kernel_rfl) (by simp) ?_
  refine AllReadyH.cons (by (simp only [List.getElem?_toArray,List.getElem?_cons_succ,List.getElem?_cons_zero];rfl)) (fun K hK=> ?_) (AllReadyH.cons (by (simp only [List.getElem?_toArray,List.getElem?_cons_succ,List.getElem?_cons_zero];rfl)) (fun K hK=> ?_) AllReadyH.nil)
  ·go_simp
   refine hK.out _ _ (by first | (dsimp only;exact hHeld) | (exact hHeld)) (fun hHeld=> ?_)
   clear hK K
   try simp only [Act.put,List.setIfInBounds_toArray,List.set_cons_zero,List.set_cons_succ]
   refine rdH (i :=11) (fun K hK=> ?_)
   go_simp
   refine bkH hK (by first | (dsimp only;exact hHeld) | (exact hHeld)) (fun hHeld=> ?_)
   clear hK K
   clear q0 q1 q2 q3 q4 q5
   refine rdH (i :=12) (fun K hK=> ?_)
   go_simp
   refine (HCOL.out x1 _ _ R2.out.z (Rd.of_own R2.out.s)).mono ?_
   rintro e w2 ⟨uv,qv,rfl,u2,s2,b2,d2⟩
   obtain ⟨gr2,c2,rfl,hu1,hu2⟩ :=own_slv u2 (List.length_pos_iff.2 MO.out.z0)
   obtain ⟨gs2,p2,rfl,hs1,hs2⟩ :=own_slv s2 MO.out.s0
   refine bkH hK (by first | (dsimp only;exact (b2.cell K2.out.1).trans hHeld) | (exact (b2.cell K2.out.1).trans hHeld)) (fun hHeld=> ?_)
   clear hK K
   refine tkH (i :=13) ?_
   refine tkH (i :=14) ?_
   refine tkH (i :=15) ?_
   refine tkH (i :=16) ?_
   refine tkH (i :=17) ?_
   refine tkH (i :=18) ?_
   have R3 :=R2.out.below b2
   have l6 :=R2.out.lts
   have lg6 :=R2.out.bx.1
   have lo6 :=own_lt R2.out.o
   have lk6 :=K2.out.1
   have hne2 :gr2≠gs2 :=fun e=> d2 gr2 rfl (by rw [e];rfl)
   have H4 :=R3.heap4 (Rd.of_own u2) (h :=L.h) (b :=M.b) (n :=M.n) (fun i hi=> by
    have hi' :gr2=i :=Option.some.inj hi
    subst hi'
    refine ⟨by omega,by omega,by omega,fun e=> ?_⟩
    have :=lo6 gr2 e
    omega)
   have s3 :=(own_base s2 (show base≤x1.heap.size from R2.out.hb)).kept H4.2.2 (.inr (fun e=> by have e' :gs2=g :=Option.some.inj e;omega))
   have H5 :=H4.1.stack2 (ss :=M.ss) s3 MO.out.s0 (fun i hi=> by
    have hi' :gs2=i :=Option.some.inj hi
    subst hi'
    refine ⟨by omega,by omega,fun e=> ?_,fun e=> hne2 (Option.some.inj e)⟩
    have :=lo6 gs2 e
    omega)
   have K3 :=Lib.hid ((K2.out.below b2 K2.out.1).grown H4.2.2 (fun e=> hgw (Option.some.inj e)))
   have g5 :=grownBy.setCell ((((w2.setCell ⟨g,1,none⟩ (slv gr2 M.zs.length c2)).setCell ⟨g,2,none⟩ (.int .i64 L.h)).setCell ⟨g,3,none⟩ (.int .i64 M.b)).setCell ⟨g,4,none⟩ (.int .i64 M.n)) g 5 (slv gs2 M.ss.length p2)
   have K4 :=Lib.hid (K3.out.grown g5 (fun e=> hgw (Option.some.inj e)))
   obtain ⟨gs3,p3,e3,R5,b5⟩ :=H5
   cases e3
   have B5 :=Lib.hid (((B2.out.trans (b2.mono R2.out.hb)).trans H4.2.1).trans b5)
   have R4 :=Lib.hid (IM.out.run R5)
   have c6 :=R3.bx.2.1
   have f6 :=R3.bx.2.2
   have y6 :=R3.bx.1
   clear H4 R5 s3 u2 s2 b2 d2 R3 lo6 K2 B2 b5 g5
   refine rdH (i :=19) (fun K hK=> ?_)
   go_simp
   refine bkH hK (by first | (dsimp only;(have k :=K3.out.2.1 0;exact k)) | ((have k :=K3.out.2.1 0;exact k))) (fun hHeld=> ?_)
   clear hK K
   refine tkH (i :=20) ?_
   refine tkH (i :=21) ?_
   refine tkH (i :=22) ?_
   refine rdH (i :=23) (fun K hK=> ?_)
   go_simp
   refine bkH hK (by first | (dsimp only;(have k :=K4.out.2.1 0;exact k)) | ((have k :=K4.out.2.1 0;exact k))) (fun hHeld=> ?_)
   clear hK K
   refine wpAnyH_done (by kernel_rfl) ?_ _
   go_wp2_with fail
   go_meet
   exact ⟨gs2,p2,_,R4.out,K4.out,B5.out⟩
  ·go_simp
   refine hK.out _ _ (by first | (dsimp only;exact hHeld) | (exact hHeld)) (fun hHeld=> ?_)
   clear hK K
   try simp only [Act.put,List.setIfInBounds_toArray,List.set_cons_zero,List.set_cons_succ]
   refine rdH (i :=6) (fun K hK=> ?_)
   go_simp
   refine bkH hK (by first | (dsimp only;exact hHeld) | (exact hHeld)) (fun hHeld=> ?_)
   clear hK K
   clear q0 q1 q2 q3 q4 q5
   refine rdH (i :=12) (fun K hK=> ?_)
   go_simp
   refine (HCOL.out x1 _ _ R2.out.z (Rd.of_own R2.out.s)).mono ?_
   rintro e w2 ⟨uv,qv,rfl,u2,s2,b2,d2⟩
   obtain ⟨gr2,c2,rfl,hu1,hu2⟩ :=own_slv u2 (List.length_pos_iff.2 MO.out.z0)
   obtain ⟨gs2,p2,rfl,hs1,hs2⟩ :=own_slv s2 MO.out.s0
   refine bkH hK (by first | (dsimp only;exact (b2.cell K2.out.1).trans hHeld) | (exact (b2.cell K2.out.1).trans hHeld)) (fun hHeld=> ?_)
   clear hK K
   refine tkH (i :=13) ?_
   refine tkH (i :=14) ?_
   refine tkH (i :=15) ?_
   refine tkH (i :=16) ?_
   refine tkH (i :=17) ?_
   refine tkH (i :=18) ?_
   have R3 :=R2.out.below b2
   have l6 :=R2.out.lts
   have lg6 :=R2.out.bx.1
   have lo6 :=own_lt R2.out.o
   have lk6 :=K2.out.1
   have hne2 :gr2≠gs2 :=fun e=> d2 gr2 rfl (by rw [e];rfl)
   have H4 :=R3.heap4 (Rd.of_own u2) (h :=L.h) (b :=M.b) (n :=M.n) (fun i hi=> by
    have hi' :gr2=i :=Option.some.inj hi
    subst hi'
    refine ⟨by omega,by omega,by omega,fun e=> ?_⟩
    have :=lo6 gr2 e
    omega)
   have s3 :=(own_base s2 (show base≤x1.heap.size from R2.out.hb)).kept H4.2.2 (.inr (fun e=> by have e' :gs2=g :=Option.some.inj e;omega))
   have H5 :=H4.1.stack2 (ss :=M.ss) s3 MO.out.s0 (fun i hi=> by
    have hi' :gs2=i :=Option.some.inj hi
    subst hi'
    refine ⟨by omega,by omega,fun e=> ?_,fun e=> hne2 (Option.some.inj e)⟩
    have :=lo6 gs2 e
    omega)
   have K3 :=Lib.hid ((K2.out.below b2 K2.out.1).grown H4.2.2 (fun e=> hgw (Option.some.inj e)))
   have g5 :=grownBy.setCell ((((w2.setCell ⟨g,1,none⟩ (slv gr2 M.zs.length c2)).setCell ⟨g,2,none⟩ (.int .i64 L.h)).setCell ⟨g,3,none⟩ (.int .i64 M.b)).setCell ⟨g,4,none⟩ (.int .i64 M.n)) g 5 (slv gs2 M.ss.length p2)
   have K4 :=Lib.hid (K3.out.grown g5 (fun e=> hgw (Option.some.inj e)))
   obtain ⟨gs3,p3,e3,R5,b5⟩ :=H5
   cases e3
   have B5 :=Lib.hid (((B2.out.trans (b2.mono R2.out.hb)).trans H4.2.1).trans b5)
   have R4 :=Lib.hid (IM.out.run R5)
   have c6 :=R3.bx.2.1
   have f6 :=R3.bx.2.2
   have y6 :=R3.bx.1
   clear H4 R5 s3 u2 s2 b2 d2 R3 lo6 K2 B2 b5 g5
   refine rdH (i :=19) (fun K hK=> ?_)
   go_simp
   refine bkH hK (by first | (dsimp only;(have k :=K3.out.2.1 0;exact k)) | ((have k :=K3.out.2.1 0;exact k))) (fun hHeld=> ?_)
   clear hK K
   refine tkH (i :=20) ?_
   refine tkH (i :=21) ?_
   refine tkH (i :=22) ?_
   refine rdH (i :=23) (fun K hK=> ?_)
   go_simp
   refine bkH hK (by first | (dsimp only;(have k :=K4.out.2.1 0;exact k)) | ((have k :=K4.out.2.1 0;exact k))) (fun hHeld=> ?_)
   clear hK K
   refine wpAnyH_done (by kernel_rfl) ?_ _
   go_wp2_with fail
   go_meet
   exact ⟨gs2,p2,_,R4.out,K4.out,B5.out⟩
 case rest=>
  obtain ⟨gs2,p2,u2,R1,KB,B1⟩ :=hcut
  have hlp :M.ss.length≤p2 :=own_cap R1.s
  have hmp :m≤p2 :=by omega
  have R1 :=Lib.hid R1
  have KB :=Lib.hid KB
  have B1 :=Lib.hid B1
  clear HCOL
  go_wp2_with fail
  have KB0 :=KB.out
  refine (left_any R1.out KB0 MO.out.hb MO.out.hh (by have :=MO.out.hn;omega)).mono ?_
  rintro e w5 ⟨rfl,s5⟩
  replace R1 :=Lib.hid (R1.out.still s5)
  replace KB :=Lib.hid (KB.out.below (s5.below _) KB.out.1)
  replace B1 :=Lib.hid (B1.out.trans (s5.below base))
  clear KB0 s5
  have q0 :=KB.out.2.1 0
  simp at q0
  by_cases hno :roomL M < 1+(k :Int)
  ·have HP :=Lib.hid (HK.out.trans (putL_no hno))
   clear q0
   go_wp2
   go_ret
   rw [HP.out]
   exact ⟨rfl,⟨gs2,gc,_,p2,q,R1.out⟩,B1.out⟩
  ·have HROOM :=Lib.hid hno
   have HP :=Lib.hid (HK.out.trans ((putL_yes (by omega) hm).trans (by rw [HN.out];rfl :_=((pushL M.ss k (2*(nN :Int))).1,({M with zs :=Go.Proofs.YtfmebaafpfkeiaaGreat.ov M.zs nN (hdOf f tag k ::M.ss.drop m),n :=(nN :Int)+(1+(k :Int)),ss :=(pushL M.ss k (2*(nN :Int))).2} :VmL)))))
   have q1 :=R1.out.bx.2.1 1
   have q2 :=R1.out.bx.2.1 2
   have q3 :=R1.out.bx.2.1 3
   have q4 :=R1.out.bx.2.1 4
   simp at q1 q2 q3 q4
   have ygb :=KB.out.1
   have yg :=R1.out.bx.1
   go_wp2_with fail
   refine wp_region_tail_drew 7 (S :=(fun w'=> w'.cell? ⟨w.heap.size,0,none⟩ =some (.pointer (some ⟨g,0,none⟩))∧w'.cell? ⟨g,1,none⟩ =some u2∧w'.cell? ⟨g,2,none⟩ =some (.int .i64 M.h)∧w'.cell? ⟨g,3,none⟩ =some (.int .i64 M.b)∧w'.cell? ⟨g,4,none⟩ =some (.int .i64 M.n))) (by kernel_rfl) (by kernel_rfl) (by first | (dsimp only;exact ⟨q0,q1,q2,q3,q4⟩) | (exact ⟨q0,q1,q2,q3,q4⟩)) (fun hHeld=> ?_)
   clear q0 q1 q2 q3 q4 ygb yg
   refine tkT (i :=0) ?_
   refine tkT (i :=1) ?_
   refine tkT (i :=2) ?_
   refine tkT (i :=3) ?_
   refine tkT (i :=4) ?_
   refine tkT (i :=5) ?_
   generalize hxd :w5.drew=x5 at hHeld
   have hd :Below w5.heap.size w5 x5 :=by rw [← hxd];exact (Below.refl _ _).drew
   have R2 :=Lib.hid (R1.out.below hd)
   have K2 :=Lib.hid (KB.out.below hd KB.out.1)
   have B2 :=Lib.hid (B1.out.trans (hd.mono R1.out.hb))
   clear hxd hd R1 KB B1
   refine rdT (i :=6) (fun K hK=> ?_)
   go_simp
   refine (copyHeap_any u2 M.zs M.h M.b M.n _ R2.out.z (by have :=MO.out.z1;omega)).mono ?_
   rintro e w6 ⟨v6,rfl,o6,b6⟩
   obtain ⟨gr,d6,rfl,hb6,hl6⟩ :=own_slv o6 (List.length_pos_iff.2 MO.out.z0)
   refine bkT hK (by first | (dsimp only;exact ⟨(b6.cell K2.out.1).trans hHeld.1,(b6.cell R2.out.bx.1).trans hHeld.2.1,(b6.cell R2.out.bx.1).trans hHeld.2.2.1,(b6.cell R2.out.bx.1).trans hHeld.2.2.2.1,(b6.cell R2.out.bx.1).trans hHeld.2.2.2.2⟩) | (exact ⟨(b6.cell K2.out.1).trans hHeld.1,(b6.cell R2.out.bx.1).trans hHeld.2.1,(b6.cell R2.out.bx.1).trans hHeld.2.2.1,(b6.cell R2.out.bx.1).trans hHeld.2.2.2.1,(b6.cell R2.out.bx.1).trans hHeld.2.2.2.2⟩)) (fun hHeld=> ?_)
   clear hK K
   have R3 :=R2.out.below b6
   have z6 :Rd w6.heap.size .i64 w6 (slv gr M.zs.length d6) M.zs :=Rd.of_own o6
   have hz6 : ∀k,(slv gr M.zs.length d6).ownBlock=some k→x5.heap.size≤k :=fun k hk=> (o6.lt k hk).1
   have hgr :gr≠g∧gr≠gs2∧gr≠gc∧ov.ownBlock≠some gr∧gr≠w.heap.size :=by
    have l6 :=R2.out.lts
    have lg6 :=R2.out.bx.1
    have lo6 :=own_lt R2.out.o
    have lk6 :=K2.out.1
    refine ⟨by omega,by omega,by omega,fun e=> ?_,by omega⟩
    have :=lo6 gr e
    omega
   have l6 :=R2.out.lts
   have lg6 :=R2.out.bx.1
   have lo6 :=own_lt R2.out.o
   have H4 :=R3.heap4 z6 (h :=M.h) (b :=M.b) (n :=M.n) (fun k hk=> by
    have :=hz6 k hk
    refine ⟨by omega,by omega,by omega,fun e=> ?_⟩
    have :=lo6 k e
    omega)
   have K3 :=Lib.hid ((K2.out.below b6 K2.out.1).grown H4.2.2 (fun e=> by have e' :=Option.some.inj e;have :=K2.out.1;exact hgw e'))
   have O4 :=Lib.hid ((own_base o6 (show base≤x5.heap.size from R2.out.hb)).kept H4.2.2 (.inr (fun e=> by have :=hz6 _ e;omega)))
   have R4 :=Lib.hid H4.1
   have B4 :=Lib.hid ((B2.out.trans (b6.mono R2.out.hb)).trans H4.2.1)
   have HZ6 :=Lib.hid hz6
   have c6 :=R3.bx.2.1
   have f6 :=R3.bx.2.2
   have y6 :=R3.bx.1
   clear H4 hz6 z6 o6 b6 R3 lo6 K2 B2
   refine wpAnyT_done (by kernel_rfl) ?_
   dsimp only [List.drop]
   go_wp2_with fail
   generalize hx7 :(World.setCell (World.setCell (World.setCell (World.setCell w6 _ _) _ _) _ _) _ _)=w7 at R4 O4 B4 K3 ⊢
   clear hx7 c6 f6 y6 hHeld
   have q0 :=K3.out.2.1 0
   have q5 :=R4.out.bx.2.1 5
   simp at q0 q5
   refine wp_region_tail_drew 20 (S :=(fun w'=> w'.cell? ⟨w.heap.size,0,none⟩ =some (.pointer (some ⟨g,0,none⟩))∧w'.cell? ⟨g,5,none⟩ =some (slv gs2 M.ss.length p2))) (by kernel_rfl) (by kernel_rfl) (by first | (dsimp only;exact ⟨q0,q5⟩) | (exact ⟨q0,q5⟩)) (fun hHeld=> ?_)
   clear q0 q5
   refine tkT (i :=0) ?_
   refine tkT (i :=1) ?_
   refine tkT (i :=2) ?_
   refine tkT (i :=3) ?_
   refine tkT (i :=4) ?_
   refine tkT (i :=5) ?_
   refine tkT (i :=6) ?_
   refine tkT (i :=7) ?_
   refine tkT (i :=8) ?_
   refine tkT (i :=9) ?_
   refine tkT (i :=10) ?_
   refine tkT (i :=11) ?_
   refine tkT (i :=12) ?_
   refine tkT (i :=13) ?_
   refine tkT (i :=14) ?_
   refine tkT (i :=15) ?_
   refine tkT (i :=16) ?_
   refine tkT (i :=17) ?_
   refine tkT (i :=18) ?_
   refine tkT (i :=19) ?_
   generalize hxd :w7.drew=x7 at hHeld
   have hd :Below w7.heap.size w7 x7 :=by rw [← hxd];exact (Below.refl _ _).drew
   have R5 :=Lib.hid (R4.out.below hd)
   have K5 :=Lib.hid (K3.out.below hd K3.out.1)
   have B5 :=Lib.hid (B4.out.trans (hd.mono R4.out.hb))
   have O5 :=Lib.hid (own_below O4.out hd (own_lt O4.out))
   clear hxd hd R4 K3 B4 O4
   refine wpAnyT_done (by kernel_rfl) ?_
   dsimp only [List.drop]
   have kb8 :Bx x7 g #[fv,slv gr M.zs.length d6, .int .i64 M.h, .int .i64 M.b, .int .i64 (nN :Int),slv gs2 M.ss.length p2,slv gc M.cs.length q,ov, .int .i64 M.code, .bool M.each] :=by have :=R5.out.bx;rw [← HN.out];exact this
   have hrk : ∀vk :Value,Rd x7.heap.size .i64 x7 vk (M.ss.drop m)→(∀i,vk.ownBlock=some i→i=gs2)→
     Calls Tryz.prog 142 #[.pointer (some ⟨g,1,none⟩), .bool f, .int .i64 tag,vk] x7 fun e w'=> e= .returned (.int .i64 (nN :Int))∧
      RunV base w' g gs2 gc fv (slv gr M.zs.length d6) ov p2 q {M with zs :=Go.Proofs.YtfmebaafpfkeiaaGreat.ov M.zs nN (hdOf f tag k ::M.ss.drop m),n :=(nN :Int)+(1+(k :Int))}∧Below base x7 w'∧Bx w' w.heap.size #[.pointer (some ⟨g,0,none⟩)] :=fun vk hvk hvb=> by
    have HA :=allocR_any (base :=base) (slv gr M.zs.length d6) vk fv (slv gs2 M.ss.length p2) (slv gc M.cs.length q) ov (.int .i64 M.code) (.bool M.each) M.zs (M.ss.drop m) M.h M.b nN f tag x7 kb8 O5.out R5.out.hg
     (fun e=> hgr.1 (Option.some.inj e).symm) hvk (fun i hi e=> hgr.2.1 ((Option.some.inj e).trans (hvb i hi))) h0 h1 (by rw [hdl];exact h2) (by rw [hdl];have :=MO.out.fit;have :=MO.out.hn;have hroom :=HROOM.out;have :=HN.out;unfold roomL at hroom;omega) MO.out.z1
    rw [hdl] at HA
    refine HA.mono ?_
    rintro e w8 ⟨he,o8,k8,b8,kp8⟩
    have kq :=kp8 gr rfl
    refine ⟨he,?_,b8,K5.out.kept2 kq hgw (fun e=> hgr.2.2.2.2 e.symm)⟩
    have R8 :=R5.out.kept kq b8 ⟨hgr.2.1,hgr.2.2.1,hgr.2.2.2.1⟩ k8 (Rd.of_own o8) (fun i hi=> by cases hi;exact ⟨hgr.1,hgr.2.1,hgr.2.2.1,hgr.2.2.2.1⟩)
    exact R8
   have HRK :=Lib.hid hrk
   have hdr :=R5.out.kidsRd (m :=m) (k :=M.ss.length-m) (c :=p2-m) (by (try dsimp only);omega) (by (try dsimp only);omega) (by have :=MO.out.s1;(try dsimp only);omega)
   have HDR :=Lib.hid hdr
   have hgo : ∀vk :Value,(p2=m→vk= .slice (some ⟨gs2,0,none⟩) (M.ss.length-m) 0)→(¬p2=m→vk= .slice (some ⟨gs2,m,none⟩) (M.ss.length-m) (p2-m))→Rd x7.heap.size .i64 x7 vk (M.ss.drop m)∧∀i,vk.ownBlock=some i→i=gs2 :=fun vk e1 e2=> by
    by_cases hpm :p2=m
    ·rw [e1 hpm]
     have h0 :M.ss.length-m=0 :=by omega
     refine ⟨.inl ⟨List.drop_eq_nil_of_le (by omega),_,_,by rw [h0]⟩,fun i hi=> by cases hi;rfl⟩
    ·rw [e2 hpm]
     exact ⟨HDR.out,fun i hi=> by cases hi;rfl⟩
   have HGO :=Lib.hid hgo
   have HZZ :=Lib.hid (show Go.Proofs.YtfmebaafpfkeiaaGreat.ov M.zs nN (hdOf f tag k ::M.ss.drop m)≠ [] by
    have :=MO.out.fit;have :=MO.out.hn;have hroom :=HROOM.out;have :=HN.out;unfold roomL at hroom
    have hl :(Go.Proofs.YtfmebaafpfkeiaaGreat.ov M.zs nN (hdOf f tag k ::M.ss.drop m)).length=M.zs.length :=ov_len (by rw [List.length_cons,hdl];omega)
    intro e;rw [e] at hl;exact MO.out.z0 (List.eq_nil_of_length_eq_zero hl.symm))
   have HRW :=Lib.hid (fun (W :World)=> (show Calls Tryz.prog 144 #[.int .i64 (nN :Int)] W fun e w'=> e= .returned (.int .i64 (2*(nN :Int)))∧W=w' from by
    have hrw :refW (nN :Int)=2*(nN :Int) :=by have :=MO.out.hn;have :=HN.out;unfold refW;rw [if_pos (inB_true.2 ⟨by omega,by omega⟩)]
    have :=iRefWord_any (nN :Int) W;rw [hrw] at this;exact this))
   clear hrk hdr hgo kb8 O5 K5 R5 hHeld
   go_wp2_with fail
   ·refine (HRK.out _ (HGO.out _ (fun e=> by first | rfl | contradiction | (exact absurd e ‹_›)) (fun e=> by first | rfl | contradiction | (exact absurd ‹_› e))).1 (HGO.out _ (fun e=> by first | rfl | contradiction | (exact absurd e ‹_›)) (fun e=> by first | rfl | contradiction | (exact absurd ‹_› e))).2).mono ?_
    rintro e w8 ⟨rfl,r8,b8,k8⟩
    have q0 :=k8.2.1 0
    simp at q0
    have R8 :=Lib.hid r8
    have B8 :=Lib.hid (B5.out.trans b8)
    clear r8 b8
    go_wp2_with fail
    refine wp_region_tail_drew 4 (S :=(fun w'=> w'.cell? ⟨w.heap.size,0,none⟩ =some (.pointer (some ⟨g,0,none⟩)))) (by kernel_rfl) (by kernel_rfl) (by first | (dsimp only;exact q0) | (exact q0)) (fun hHeld=> ?_)
    refine tkT (i :=0) ?_
    refine tkT (i :=1) ?_
    refine tkT (i :=2) ?_
    refine rdT (i :=3) (fun K hK=> ?_)
    go_simp
    refine (HRW.out _).mono ?_
    rintro e w9 ⟨rfl,rfl⟩
    refine bkT hK (by first | (dsimp only;exact hHeld) | (exact hHeld)) (fun hHeld=> ?_)
    clear hK K
    generalize hxd :w8.drew=x9 at hHeld
    have hd :Below w8.heap.size w8 x9 :=by rw [← hxd];exact (Below.refl _ _).drew
    have R9 :=Lib.hid (R8.out.below hd)
    have B9 :=Lib.hid (B8.out.trans (hd.mono R8.out.hb))
    clear hxd hd R8 B8 k8 q0
    refine wpAnyT_done (by kernel_rfl) ?_
    dsimp only [List.drop]
    go_wp2_with fail
    refine (push_any R9.out HZZ.out (by have :=MO.out.s1;dsimp only;omega) k MO.out.kl _).mono ?_
    rintro e w10 ⟨rfl,⟨gs2',p2',R10⟩,b10⟩
    have RX :=Lib.hid R10
    clear R10
    go_wp2
    go_ret
    rw [HP.out]
    exact ⟨rfl,⟨gs2',gc,_,p2',q,RX.out⟩,B9.out.trans b10⟩
   ·refine (HRK.out _ (HGO.out _ (fun e=> by first | rfl | contradiction | (exact absurd e ‹_›)) (fun e=> by first | rfl | contradiction | (exact absurd ‹_› e))).1 (HGO.out _ (fun e=> by first | rfl | contradiction | (exact absurd e ‹_›)) (fun e=> by first | rfl | contradiction | (exact absurd ‹_› e))).2).mono ?_
    rintro e w8 ⟨rfl,r8,b8,k8⟩
    have q0 :=k8.2.1 0
    simp at q0
    have R8 :=Lib.hid r8
    have B8 :=Lib.hid (B5.out.trans b8)
    clear r8 b8
    go_wp2_with fail
    refine wp_region_tail_drew 4 (S :=(fun w'=> w'.cell? ⟨w.heap.size,0,none⟩ =some (.pointer (some ⟨g,0,none⟩)))) (by kernel_rfl) (by kernel_rfl) (by first | (dsimp only;exact q0) | (exact q0)) (fun hHeld=> ?_)
    refine tkT (i :=0) ?_
    refine tkT (i :=1) ?_
    refine tkT (i :=2) ?_
    refine rdT (i :=3) (fun K hK=> ?_)
    go_simp
    refine (HRW.out _).mono ?_
    rintro e w9 ⟨rfl,rfl⟩
    refine bkT hK (by first | (dsimp only;exact hHeld) | (exact hHeld)) (fun hHeld=> ?_)
    clear hK K
    generalize hxd :w8.drew=x9 at hHeld
    have hd :Below w8.heap.size w8 x9 :=by rw [← hxd];exact (Below.refl _ _).drew
    have R9 :=Lib.hid (R8.out.below hd)
    have B9 :=Lib.hid (B8.out.trans (hd.mono R8.out.hb))
    clear hxd hd R8 B8 k8 q0
    refine wpAnyT_done (by kernel_rfl) ?_
    dsimp only [List.drop]
    go_wp2_with fail
    refine (push_any R9.out HZZ.out (by have :=MO.out.s1;dsimp only;omega) k MO.out.kl _).mono ?_
    rintro e w10 ⟨rfl,⟨gs2',p2',R10⟩,b10⟩
    have RX :=Lib.hid R10
    clear R10
    go_wp2
    go_ret
    rw [HP.out]
    exact ⟨rfl,⟨gs2',gc,_,p2',q,RX.out⟩,B9.out.trans b10⟩
theorem runMake_any {base :Nat} {w :World} {g gs gc :Nat} {fv hv ov :Value} {p q :Nat} {L :VmL} (h :RunV base w g gs gc fv hv ov p q L) (f :Bool) (tag :Int) (k :Nat) (h0 :0≤tag) (h1 :tag≤3000) (h2 :k≤20) (hM :MkOk L k)
  (hright :rightOf L.zs L.h L.b L.n L.ss=true) :
  Calls Tryz.prog 233 #[.pointer (some ⟨g,0,none⟩), .bool f, .int .i64 tag, .int .i64 k] w fun e w'=> e= .returned (.int .i64 (makeL L f tag k).1)∧
   (∃gs' gc' hv' p' q',RunV base w' g gs' gc' fv hv' ov p' q' (makeL L f tag k).2)∧Below base w w' :=by
 cases he :L.each
 ·by_cases hr :roomL L < 1+(k :Int)
  ·exact runMake_moveN h f tag k h0 h1 h2 hM hright he hr
  ·exact runMake_stay h f tag k h0 h1 h2 hM he hr
 ·exact runMake_moveE h f tag k h0 h1 h2 hM hright he
end Go.Proofs.YtfmebaafpfkeiaaGreat
end
section
namespace Go.Proofs.YtfmebaafpfkeiaaGreat
open Go.RowKit
theorem tmod_bd (n :Int) : -2147483648 < n.tmod 2147483648∧n.tmod 2147483648 < 2147483648 :=by
 constructor
 ·have :=Int.lt_tmod_of_pos n (show (0 :Int) < 2147483648 by omega);omega
 ·exact Int.tmod_lt_of_pos n (by omega)
theorem iRound_any (n :Int) (w :World) :
  Calls Tryz.prog 227 #[.int .i64 n] w fun e w'=> e= .returned (.int .i64 (roundL n))∧w=w' :=by
 obtain ⟨r,hr⟩ : ∃r,n.tmod 2147483648=r :=⟨_,rfl⟩
 have hb :=tmod_bd n
 rw [hr] at hb
 obtain ⟨h1,h2⟩ :=hb
 have hw :IntKind.i64.wrap r=r :=IntWalk.i64_in _ (by omega)
 have hR :roundL n=if 1073741823 < r then r-2147483648 else if r < -1073741824 then r+2147483648 else r :=by unfold roundL;rw [hr]
 rcases Int.lt_or_le 1073741823 r with c1 | c1
 ·rw [if_pos c1] at hR
  have HR :=Lib.hid hR
  go_enter Tryz.func227,Tryz.ntmps227
  go_wp2
  go_ret
  rw [HR.out]
  exact ⟨rfl,rfl⟩
 ·rw [if_neg (by omega)] at hR
  rcases Int.lt_or_le r (-1073741824) with c2 | c2
  ·rw [if_pos c2] at hR
   have HR :=Lib.hid hR
   go_enter Tryz.func227,Tryz.ntmps227
   go_wp2
   go_ret
   rw [HR.out]
   exact ⟨rfl,rfl⟩
  ·rw [if_neg (by omega)] at hR
   have HR :=Lib.hid hR
   go_enter Tryz.func227,Tryz.ntmps227
   go_wp2
   go_ret
   rw [HR.out]
   exact ⟨rfl,rfl⟩
theorem reckonI_any (op a b :Int) (ha : -1073741824≤a∧a≤1073741823) (hb : -1073741824≤b∧b≤1073741823) (w :World) :
  Calls Tryz.prog 140 #[.int .i64 op, .int .i64 a, .int .i64 b] w fun e w'=> e= .returned (.int .i64 (reckN op a b))∧w=w' :=by
 obtain ⟨a1,a2⟩ :=ha
 obtain ⟨b1,b2⟩ :=hb
 have HR :=Lib.hid iRound_any
 have hm : -1152921504606846976≤a*b∧a*b≤1152921504606846976 :=by
  have :(a*b).natAbs≤1073741824*1073741824 :=by rw [Int.natAbs_mul];exact Nat.mul_le_mul (by omega) (by omega)
  omega
 have e1 :IntKind.i64.wrap (a+b)=a+b :=IntWalk.i64_in _ (by omega)
 have e2 :IntKind.i64.wrap (a-b)=a-b :=IntWalk.i64_in _ (by omega)
 have e3 :IntKind.i64.wrap (a*b)=a*b :=IntWalk.i64_in _ (by omega)
 obtain ⟨z,hz⟩ : ∃z,reckN op a b=z :=⟨_,rfl⟩
 have HZ :=Lib.hid hz
 rw [hz]
 by_cases c10 :op=10
 ·subst c10
  clear hz hm e2 e3
  go_enter Tryz.func140,Tryz.ntmps140
  go_wp2_with (go_at_call 227;refine (HR.out _ _).mono ?_;rintro e w' ⟨rfl,rfl⟩)
  go_ret
  exact ⟨ret_int (by rw [← HZ.out];simp [reckN]),rfl⟩
 by_cases c11 :op=11
 ·subst c11
  clear hz hm e1 e3
  go_enter Tryz.func140,Tryz.ntmps140
  go_wp2_with (go_at_call 227;refine (HR.out _ _).mono ?_;rintro e w' ⟨rfl,rfl⟩)
  go_ret
  exact ⟨ret_int (by rw [← HZ.out];simp [reckN]),rfl⟩
 by_cases c12 :op=12
 ·subst c12
  clear hz hm e1 e2
  go_enter Tryz.func140,Tryz.ntmps140
  go_wp2_with (go_at_call 227;refine (HR.out _ _).mono ?_;rintro e w' ⟨rfl,rfl⟩)
  go_ret
  exact ⟨ret_int (by rw [← HZ.out];simp [reckN]),rfl⟩
 have n1 :(op==10)=false :=by simp [c10]
 have n2 :(op==11)=false :=by simp [c11]
 have n3 :(op==12)=false :=by simp [c12]
 unfold reckN at hz
 rw [if_neg c10,if_neg c11,if_neg c12] at hz
 by_cases c :(op=13∧a < b)∨(op=14∧a=b)
 ·rw [if_pos c] at hz
  subst hz
  clear HZ
  rcases c with ⟨rfl,c⟩ | ⟨rfl,rfl⟩
  ·go_enter Tryz.func140,Tryz.ntmps140
   go_wp2
   go_ret
   exact ⟨rfl,rfl⟩
  ·go_enter Tryz.func140,Tryz.ntmps140
   go_wp2
   go_ret
   exact ⟨rfl,rfl⟩
 ·rw [if_neg c] at hz
  subst hz
  clear HZ
  by_cases c13 :op=13
  ·subst c13
   have c' : ¬a < b :=fun h=> c (.inl ⟨rfl,h⟩)
   go_enter Tryz.func140,Tryz.ntmps140
   go_wp2
   go_ret
   exact ⟨rfl,rfl⟩
  ·by_cases c14 :op=14
   ·subst c14
    have c' : ¬a=b :=fun h=> c (.inr ⟨rfl,h⟩)
    have c'' :(a==b)=false :=by simp [c']
    go_enter Tryz.func140,Tryz.ntmps140
    go_wp2
    go_ret
    exact ⟨rfl,rfl⟩
   ·have n4 :(op==13)=false :=by simp [c13]
    have n5 :(op==14)=false :=by simp [c14]
    go_enter Tryz.func140,Tryz.ntmps140
    go_wp2
    go_ret
    exact ⟨rfl,rfl⟩
end Go.Proofs.YtfmebaafpfkeiaaGreat
end
section
namespace Go.Proofs.YtfmebaafpfkeiaaGreat
open Go.RowKit
set_option maxHeartbeats 1600000 in
set_option maxRecDepth 100000 in
theorem runReckon_any {base :Nat} {w :World} {g gs gc :Nat} {fv hv ov :Value} {p q :Nat} {L :VmL} (h :RunV base w g gs gc fv hv ov p q L) (hf :Fits L) (h2 :2≤L.ss.length) (c :Int) (hc :12≤c∧c≤16) :
  Calls Tryz.prog 239 #[.pointer (some ⟨g,0,none⟩), .int .i64 c] w fun e w'=> e= .returned (.int .i64 (reckL L c).1)∧
   (∃gs' p',RunV base w' g gs' gc fv hv ov p' q (reckL L c).2)∧Below base w w' :=by
 obtain ⟨c1,c2⟩ :=hc
 obtain ⟨a,ha⟩ : ∃a,lastW L.ss 1=a :=⟨_,rfl⟩
 obtain ⟨b,hb⟩ : ∃b,lastW L.ss 0=b :=⟨_,rfl⟩
 have HA :=Lib.hid (fun (W :World) (hW :RunV base W g gs gc fv hv ov p q L)=> last_any hW hf.sl 1 (by omega))
 have HB :=Lib.hid (fun (W :World) (hW :RunV base W g gs gc fv hv ov p q L)=> last_any hW hf.sl 0 (by omega))
 have sa :=hf.s2 _ (last_mem (show 1 < L.ss.length by omega))
 have sb :=hf.s2 _ (last_mem (show 0 < L.ss.length by omega))
 rw [ha] at HA sa
 rw [hb] at HB sb
 have HP :=Lib.hid (fun (W :World) (hW :RunV base W g gs gc fv hv ov p q L) (y :Int)=> push_any hW hf.z0 hf.sl 2 h2 y)
 have HI :=Lib.hid iIsRef_any
 have HW :=Lib.hid iWordInt_any
 have HN :=Lib.hid iIntWord_any
 have H0 :=Lib.hid h
 have hbs :=h.hb
 have e1 :IntKind.i64.wrap (c-12)=c-12 :=IntWalk.i64_in _ (by omega)
 have e2 :IntKind.i64.wrap (c-12+10)=c-12+10 :=IntWalk.i64_in _ (by omega)
 have hz :reckL L c=if a%2=0∨b%2=0 then (5,L) else ((pushL L.ss 2 (intW (reckN (c-12+10) (a/2) (b/2)))).1,{L with ss :=(pushL L.ss 2 (intW (reckN (c-12+10) (a/2) (b/2)))).2}) :=by
  unfold reckL;rw [ha,hb]
 clear h hf ha hb
 by_cases hev :a%2=0∨b%2=0
 ·have HK :=Lib.hid (hz.trans (if_pos hev))
  clear hz
  go_enter Tryz.func239,Tryz.ntmps239
  go_wp2_with fail
  refine (HA.out _ H0.out).mono ?_
  rintro e w1 ⟨rfl,s1⟩
  have r1 :=H0.out.still s1
  have b1 :=s1.below base
  go_wp2_with fail
  refine (HB.out _ r1).mono ?_
  rintro e w2 ⟨rfl,s2⟩
  have r2 :=r1.still s2
  have b2 :=b1.trans (s2.below base)
  rcases hev with hev | hev
  ·have hI :=HI.out a
   rw [show (a%2==0)=true by simp [hev]] at hI
   go_wp2_with (go_at_call 71;refine (hI _).mono ?_;rintro e w' ⟨rfl,rfl⟩)
   go_ret
   rw [HK.out]
   exact ⟨rfl,⟨gs,p,r2⟩,b2⟩
  ·have hI :=HI.out b
   rw [show (b%2==0)=true by simp [hev]] at hI
   by_cases ha2 :a%2=0
   ·have hI :=HI.out a
    rw [show (a%2==0)=true by simp [ha2]] at hI
    go_wp2_with (go_at_call 71;refine (hI _).mono ?_;rintro e w' ⟨rfl,rfl⟩)
    go_ret
    rw [HK.out]
    exact ⟨rfl,⟨gs,p,r2⟩,b2⟩
   ·have hJ :=HI.out a
    rw [show (a%2==0)=false by simp [ha2]] at hJ
    go_wp2_with (go_at_call 71;first | (refine (hJ _).mono ?_;rintro e w' ⟨rfl,rfl⟩) | (refine (hI _).mono ?_;rintro e w' ⟨rfl,rfl⟩))
    go_ret
    rw [HK.out]
    exact ⟨rfl,⟨gs,p,r2⟩,b2⟩
 ·have HK :=Lib.hid (hz.trans (if_neg hev))
  clear hz
  have na : ¬a%2=0 :=fun h=> hev (.inl h)
  have nb : ¬b%2=0 :=fun h=> hev (.inr h)
  have hJ :=HI.out a
  rw [show (a%2==0)=false by simp [na]] at hJ
  have hI :=HI.out b
  rw [show (b%2==0)=false by simp [nb]] at hI
  have hR :=Lib.hid (reckonI_any (c-12+10) (a/2) (b/2) (sa na) (sb nb))
  clear sa sb hev
  go_enter Tryz.func239,Tryz.ntmps239
  go_wp2_with fail
  refine (HA.out _ H0.out).mono ?_
  rintro e w1 ⟨rfl,s1⟩
  have r1 :=H0.out.still s1
  have b1 :=s1.below base
  go_wp2_with fail
  refine (HB.out _ r1).mono ?_
  rintro e w2 ⟨rfl,s2⟩
  have r2 :=r1.still s2
  have b2 :=b1.trans (s2.below base)
  go_wp2_with (first | (go_at_call 71;first | (refine (hJ _).mono ?_;rintro e w' ⟨rfl,rfl⟩) | (refine (hI _).mono ?_;rintro e w' ⟨rfl,rfl⟩)) | (go_at_call 73;refine (HW.out _ _).mono ?_;rintro e w' ⟨rfl,rfl⟩) | (go_at_call 140;refine (hR.out _).mono ?_;rintro e w' ⟨rfl,rfl⟩) | (go_at_call 158;refine (HN.out _ _).mono ?_;rintro e w' ⟨rfl,rfl⟩))
  refine (HP.out _ r2 _).mono ?_
  rintro e w3 ⟨rfl,hr3,b3⟩
  go_wp2
  go_ret
  rw [HK.out]
  exact ⟨rfl,hr3,b2.trans b3⟩
end Go.Proofs.YtfmebaafpfkeiaaGreat
end
section
namespace Go.Proofs.YtfmebaafpfkeiaaGreat
open Go.RowKit
set_option maxHeartbeats 3200000 in
set_option maxRecDepth 100000 in
theorem runBranch11 {base :Nat} {w :World} {g gs gc :Nat} {fv hv ov :Value} {p q :Nat} {L :VmL} (h :RunV base w g gs gc fv hv ov p q L) (hf :Fits L) (h1 :0 < L.ss.length) (hcl :0 < L.cs.length∧L.cs.length≤120) (n m :Int) :
  Calls Tryz.prog 237 #[.pointer (some ⟨g,0,none⟩), .agg #[.int .i64 11, .int .i64 n, .int .i64 m]] w fun e w'=> e= .returned (.int .i64 (branchL L ⟨11,n,m⟩).1)∧
   (∃gs' gc' p' q',RunV base w' g gs' gc' fv hv ov p' q' (branchL L ⟨11,n,m⟩).2)∧Below base w w' :=by
 obtain ⟨x,hx⟩ : ∃x,lastW L.ss 0=x :=⟨_,rfl⟩
 have HL :=Lib.hid (fun (W :World) (hW :RunV base W g gs gc fv hv ov p q L)=> hx▸last_any hW hf.sl 0 h1)
 have hb3 :=hf.s3 _ (last_mem h1)
 rw [hx] at hb3
 obtain ⟨j,hj⟩ : ∃j,L.ss.length-1=j :=⟨_,rfl⟩
 obtain ⟨i,hi⟩ : ∃i,L.cs.length-1=i :=⟨_,rfl⟩
 have hpc :=setPc_eq hi (show i < L.cs.length by omega)
 have hss :=hf.s1
 have hil :i < L.cs.length :=by omega
 have e1 :IntKind.i64.wrap ((L.ss.length :Int)-1)=(j :Int) :=by rw [IntWalk.i64_in _ (by omega)];omega
 have e2 :IntKind.i64.wrap ((L.cs.length :Int)-1)=(i :Int) :=by rw [IntWalk.i64_in _ (by omega)];omega
 have hjp :j≤p :=by have :=own_cap h.s;omega
 have H0 :=Lib.hid h
 have hbs :=h.hb
 have hk :branchL L ⟨11,n,m⟩ =if (11 :Int)=18∧x%2=0 then (5,L) else (0,{L with ss :=L.ss.take j,cs :=if goesL L.zs ⟨11,n,m⟩ x then L.cs.set i {L.cs[i] with n :=(if (11 :Int)=18 then n else m)} else L.cs}) :=by
  unfold branchL
  dsimp only
  rw [hx,hj,hpc]
 have HBK :=Lib.hid (fun (W :World) (hW :RunV base W g gs gc fv hv ov p q L)=> block_any hW hf.z1 hf.z2 x false hb3)
 clear h hf hb3 hx hpc
 rw [if_neg (by simp)] at hk
 have HN :=Lib.hid (iIntWord_any n)
 go_enter Tryz.func237,Tryz.ntmps237
 go_wp2_with fail
 generalize hxx :w.alloc _=x0
 obtain ⟨bx,k1⟩ :=Bx.alloc hxx
 clear hxx
 have r0 :=H0.out.below bx
 have bb :=bx.mono hbs
 refine (HL.out _ r0).mono ?_
 rintro e w1 ⟨rfl,s1⟩
 have r1 :=r0.still s1
 replace bb :=bb.trans (s1.below base)
 replace k1 :=k1.below (s1.below x0.heap.size) k1.1
 clear s1 r0 bx
 have ck1 :=k1.2.1
 have yk1 :=k1.1
 go_wp2_with fail
 go_quiet (fail)
 by_cases ht :x=intW n
 ·have hg :goesL L.zs ⟨11,n,m⟩ x=false :=by simp [goesL,ht]
  have HK :=Lib.hid (show branchL L ⟨11,n,m⟩ =(0,{L with ss :=L.ss.take j}) by rw [hk,hg];rfl)
  have ht' :(x !=intW n)=false :=by simp [ht]
  clear hk HL HBK H0
  go_wp2_with (go_at_call 158;refine (HN.out _).mono ?_;rintro e w' ⟨rfl,rfl⟩)
  have s2 :Still w1 (w1.drewN nq) :=⟨nq,rfl⟩
  have r2 :=r1.still s2
  replace bb :=bb.trans (s2.below base)
  replace k1 :=k1.below (s2.below w1.heap.size) k1.1
  clear ck1 yk1 s2
  have R1 :=Lib.hid r2
  have B1 :=Lib.hid bb
  have ck1 :=k1.2.1
  have yk1 :=k1.1
  clear r2 bb r1
  clear ck1 yk1 k1
  have q5 :=R1.out.bx.2.1 5
  simp at q5
  refine wp_region_tail_drew 14 (S :=(fun w'=> w'.cell? ⟨g,5,none⟩ =some (slv gs L.ss.length p))) (by kernel_rfl) (by kernel_rfl) (by first | (dsimp only;exact q5) | (exact q5)) (fun hHeld=> ?_)
  refine tkT (i :=0) ?_
  refine tkT (i :=1) ?_
  refine tkT (i :=2) ?_
  refine tkT (i :=3) ?_
  refine tkT (i :=4) ?_
  refine tkT (i :=5) ?_
  refine tkT (i :=6) ?_
  refine tkT (i :=7) ?_
  refine tkT (i :=8) ?_
  refine tkT (i :=9) ?_
  refine tkT (i :=10) ?_
  refine tkT (i :=11) ?_
  refine tkT (i :=12) ?_
  refine tkT (i :=13) ?_
  generalize hxd :(w1.drewN nq).drew=y0 at hHeld
  have hd :Below (w1.drewN nq).heap.size (w1.drewN nq) y0 :=by rw [← hxd];exact (Below.refl _ _).drew
  have r4 :=R1.out.below hd
  clear hxd
  have c4 :=r4.bx.2.1
  have f4 :=r4.bx.2.2
  have y4 :=r4.bx.1
  have R5 :=Lib.hid (r4.cut (k :=j) (by omega))
  have B4 :=Lib.hid (B1.out.trans (hd.mono R1.out.hb))
  clear r4 hd q5
  refine wpAnyT_done (by kernel_rfl) ?_
  dsimp only [List.drop]
  go_wp2
  go_ret
  rw [HK.out]
  exact ⟨rfl,⟨gs,gc,p,q,R5.out.1⟩,B4.out.trans R5.out.2⟩
 ·have hg :goesL L.zs ⟨11,n,m⟩ x=true :=by simp [goesL,ht]
  have HK :=Lib.hid (show branchL L ⟨11,n,m⟩ =(0,{L with ss :=L.ss.take j,cs :=L.cs.set i {L.cs[i] with n :=m}}) by rw [hk,hg];rfl)
  have ht' :(x !=intW n)=true :=by simp [ht]
  clear hk HL HBK H0
  go_wp2_with (go_at_call 158;refine (HN.out _).mono ?_;rintro e w' ⟨rfl,rfl⟩)
  have s2 :Still w1 (w1.drewN nq) :=⟨nq,rfl⟩
  have r2 :=r1.still s2
  replace bb :=bb.trans (s2.below base)
  replace k1 :=k1.below (s2.below w1.heap.size) k1.1
  clear ck1 yk1 s2
  have R1 :=Lib.hid r2
  have B1 :=Lib.hid bb
  have ck1 :=k1.2.1
  have yk1 :=k1.1
  clear r2 bb r1
  clear ck1 yk1 k1
  have q5 :=R1.out.bx.2.1 5
  simp at q5
  refine wp_region_tail_drew 14 (S :=(fun w'=> w'.cell? ⟨g,5,none⟩ =some (slv gs L.ss.length p))) (by kernel_rfl) (by kernel_rfl) (by first | (dsimp only;exact q5) | (exact q5)) (fun hHeld=> ?_)
  refine tkT (i :=0) ?_
  refine tkT (i :=1) ?_
  refine tkT (i :=2) ?_
  refine tkT (i :=3) ?_
  refine tkT (i :=4) ?_
  refine tkT (i :=5) ?_
  refine tkT (i :=6) ?_
  refine tkT (i :=7) ?_
  refine tkT (i :=8) ?_
  refine tkT (i :=9) ?_
  refine tkT (i :=10) ?_
  refine tkT (i :=11) ?_
  refine tkT (i :=12) ?_
  refine tkT (i :=13) ?_
  generalize hxd :(w1.drewN nq).drew=y0 at hHeld
  have hd :Below (w1.drewN nq).heap.size (w1.drewN nq) y0 :=by rw [← hxd];exact (Below.refl _ _).drew
  have r4 :=R1.out.below hd
  clear hxd
  have c4 :=r4.bx.2.1
  have f4 :=r4.bx.2.2
  have y4 :=r4.bx.1
  have R5 :=Lib.hid (r4.cut (k :=j) (by omega))
  have B4 :=Lib.hid (B1.out.trans (hd.mono R1.out.hb))
  clear r4 hd q5
  refine wpAnyT_done (by kernel_rfl) ?_
  dsimp only [List.drop]
  go_wp2_with fail
  generalize hx3 :y0.setCell _ _=w3 at R5 ⊢
  clear hx3 c4 f4 y4 hHeld
  have q6 :=R5.out.1.bx.2.1 6
  simp at q6
  refine wp_region_tail_drew 15 (S :=(fun w'=> w'.cell? ⟨g,6,none⟩ =some (slv gc L.cs.length q))) (by kernel_rfl) (by kernel_rfl) (by first | (dsimp only;exact q6) | (exact q6)) (fun hHeld=> ?_)
  refine tkT (i :=0) ?_
  refine tkT (i :=1) ?_
  refine tkT (i :=2) ?_
  refine tkT (i :=3) ?_
  refine tkT (i :=4) ?_
  refine tkT (i :=5) ?_
  refine tkT (i :=6) ?_
  refine tkT (i :=7) ?_
  refine tkT (i :=8) ?_
  refine tkT (i :=9) ?_
  refine tkT (i :=10) ?_
  refine tkT (i :=11) ?_
  refine tkT (i :=12) ?_
  refine tkT (i :=13) ?_
  refine tkT (i :=14) ?_
  generalize hxd :w3.drew=y1 at hHeld
  have hd :Below w3.heap.size w3 y1 :=by rw [← hxd];exact (Below.refl _ _).drew
  have r6 :=R5.out.1.below hd
  clear hxd
  have hfl :(flat O3.enc L.cs).length=L.cs.length*3 :=flat_len O3.enc_len _
  have c6 :=own_cellN r6.c (i*3+1) (by dsimp only;omega)
  try dsimp only at c6
  rw [List.getElem?_eq_getElem (by omega)] at c6
  have f6 :=own_frozen r6.c (i*3+1)
  try dsimp only at f6
  have R7 :=Lib.hid (r6.pc (k :=i) (by dsimp only;omega) m)
  have B6 :=Lib.hid ((B4.out.trans R5.out.2).trans (hd.mono R5.out.1.hb))
  clear r6 hd q6
  refine wpAnyT_done (by kernel_rfl) ?_
  dsimp only [List.drop]
  go_wp2
  go_ret
  rw [HK.out]
  exact ⟨rfl,⟨gs,gc,p,q,R7.out.1⟩,B6.out.trans R7.out.2⟩
set_option maxHeartbeats 3200000 in
set_option maxRecDepth 100000 in
theorem runBranch18 {base :Nat} {w :World} {g gs gc :Nat} {fv hv ov :Value} {p q :Nat} {L :VmL} (h :RunV base w g gs gc fv hv ov p q L) (hf :Fits L) (h1 :0 < L.ss.length) (hcl :0 < L.cs.length∧L.cs.length≤120) (n m :Int) :
  Calls Tryz.prog 237 #[.pointer (some ⟨g,0,none⟩), .agg #[.int .i64 18, .int .i64 n, .int .i64 m]] w fun e w'=> e= .returned (.int .i64 (branchL L ⟨18,n,m⟩).1)∧
   (∃gs' gc' p' q',RunV base w' g gs' gc' fv hv ov p' q' (branchL L ⟨18,n,m⟩).2)∧Below base w w' :=by
 obtain ⟨x,hx⟩ : ∃x,lastW L.ss 0=x :=⟨_,rfl⟩
 have HL :=Lib.hid (fun (W :World) (hW :RunV base W g gs gc fv hv ov p q L)=> hx▸last_any hW hf.sl 0 h1)
 have hb3 :=hf.s3 _ (last_mem h1)
 rw [hx] at hb3
 obtain ⟨j,hj⟩ : ∃j,L.ss.length-1=j :=⟨_,rfl⟩
 obtain ⟨i,hi⟩ : ∃i,L.cs.length-1=i :=⟨_,rfl⟩
 have hpc :=setPc_eq hi (show i < L.cs.length by omega)
 have hss :=hf.s1
 have hil :i < L.cs.length :=by omega
 have e1 :IntKind.i64.wrap ((L.ss.length :Int)-1)=(j :Int) :=by rw [IntWalk.i64_in _ (by omega)];omega
 have e2 :IntKind.i64.wrap ((L.cs.length :Int)-1)=(i :Int) :=by rw [IntWalk.i64_in _ (by omega)];omega
 have hjp :j≤p :=by have :=own_cap h.s;omega
 have H0 :=Lib.hid h
 have hbs :=h.hb
 have hk :branchL L ⟨18,n,m⟩ =if (18 :Int)=18∧x%2=0 then (5,L) else (0,{L with ss :=L.ss.take j,cs :=if goesL L.zs ⟨18,n,m⟩ x then L.cs.set i {L.cs[i] with n :=(if (18 :Int)=18 then n else m)} else L.cs}) :=by
  unfold branchL
  dsimp only
  rw [hx,hj,hpc]
 have HBK :=Lib.hid (fun (W :World) (hW :RunV base W g gs gc fv hv ov p q L)=> block_any hW hf.z1 hf.z2 x false hb3)
 clear h hf hb3 hx hpc
 rw [if_pos rfl] at hk
 have HN :=Lib.hid (fun (W :World)=> (show Calls Tryz.prog 158 #[.int .i64 0] W fun e w'=> e= .returned (.int .i64 1)∧w'=W from (iIntWord_any 0 W).mono (fun e w' h=> ⟨h.1,h.2.symm⟩)))
 have HI :=Lib.hid (iIsRef_any x)
 go_enter Tryz.func237,Tryz.ntmps237
 go_wp2_with fail
 generalize hxx :w.alloc _=x0
 obtain ⟨bx,k1⟩ :=Bx.alloc hxx
 clear hxx
 have r0 :=H0.out.below bx
 have bb :=bx.mono hbs
 refine (HL.out _ r0).mono ?_
 rintro e w1 ⟨rfl,s1⟩
 have r1 :=r0.still s1
 replace bb :=bb.trans (s1.below base)
 replace k1 :=k1.below (s1.below x0.heap.size) k1.1
 clear s1 r0 bx
 have ck1 :=k1.2.1
 have yk1 :=k1.1
 go_wp2_with fail
 go_quiet (fail)
 by_cases hev :x%2=0
 ·have HK :=Lib.hid (show branchL L ⟨18,n,m⟩ =(5,L) by rw [hk,if_pos ⟨trivial,hev⟩])
  rw [show (x%2==0)=true by simp [hev]] at HI
  clear hk HL HBK H0
  go_wp2_with (go_at_call 71;refine (HI.out _).mono ?_;rintro e w' ⟨rfl,rfl⟩)
  have s2 :Still w1 (w1.drewN nq) :=⟨nq,rfl⟩
  have r2 :=r1.still s2
  replace bb :=bb.trans (s2.below base)
  replace k1 :=k1.below (s2.below w1.heap.size) k1.1
  clear ck1 yk1 s2
  go_ret
  rw [HK.out]
  exact ⟨rfl,⟨gs,gc,p,q,r2⟩,bb⟩
 ·rw [if_neg (fun h=> hev h.2)] at hk
  rw [show (x%2==0)=false by simp [hev]] at HI
  by_cases ht :x=1
  ·have hg :goesL L.zs ⟨18,n,m⟩ x=true :=by simp [goesL,ht]
   have HK :=Lib.hid (show branchL L ⟨18,n,m⟩ =(0,{L with ss :=L.ss.take j,cs :=L.cs.set i {L.cs[i] with n :=n}}) by rw [hk,hg];rfl)
   have ht' :(x==1)=true :=by simp [ht]
   clear hk HL HBK H0 ht
   go_wp2_with (go_at_call 71;refine (HI.out _).mono ?_;rintro e w' ⟨rfl,rfl⟩)
   have s2 :Still w1 (w1.drewN nq) :=⟨nq,rfl⟩
   have r2 :=r1.still s2
   replace bb :=bb.trans (s2.below base)
   replace k1 :=k1.below (s2.below w1.heap.size) k1.1
   clear ck1 yk1 s2
   have R1 :=Lib.hid r2
   have B1 :=Lib.hid bb
   have ck1 :=k1.2.1
   have yk1 :=k1.1
   clear r2 bb r1
   generalize hdr :w1.drewN nq=w2 at R1 B1 k1 ck1 yk1 ⊢
   clear hdr
   go_quiet ((go_at_call 158;exact Calls.quiet_of_same (HN.out _)))
   have s2 :Still w2 (w2.drewN nq) :=⟨nq,rfl⟩
   replace R1 :=Lib.hid (R1.out.still s2)
   replace B1 :=Lib.hid (B1.out.trans (s2.below base))
   clear s2 ck1 yk1 k1
   go_wp2_with fail
   have q5 :=R1.out.bx.2.1 5
   simp at q5
   refine wp_region_tail_drew 14 (S :=(fun w'=> w'.cell? ⟨g,5,none⟩ =some (slv gs L.ss.length p))) (by kernel_rfl) (by kernel_rfl) (by first | (dsimp only;exact q5) | (exact q5)) (fun hHeld=> ?_)
   refine tkT (i :=0) ?_
   refine tkT (i :=1) ?_
   refine tkT (i :=2) ?_
   refine tkT (i :=3) ?_
   refine tkT (i :=4) ?_
   refine tkT (i :=5) ?_
   refine tkT (i :=6) ?_
   refine tkT (i :=7) ?_
   refine tkT (i :=8) ?_
   refine tkT (i :=9) ?_
   refine tkT (i :=10) ?_
   refine tkT (i :=11) ?_
   refine tkT (i :=12) ?_
   refine tkT (i :=13) ?_
   generalize hxd :(w2.drewN nq).drew=y0 at hHeld
   have hd :Below (w2.drewN nq).heap.size (w2.drewN nq) y0 :=by rw [← hxd];exact (Below.refl _ _).drew
   have r4 :=R1.out.below hd
   clear hxd
   have c4 :=r4.bx.2.1
   have f4 :=r4.bx.2.2
   have y4 :=r4.bx.1
   have R5 :=Lib.hid (r4.cut (k :=j) (by omega))
   have B4 :=Lib.hid (B1.out.trans (hd.mono R1.out.hb))
   clear r4 hd q5
   refine wpAnyT_done (by kernel_rfl) ?_
   dsimp only [List.drop]
   go_wp2_with fail
   generalize hx3 :y0.setCell _ _=w3 at R5 ⊢
   clear hx3 c4 f4 y4 hHeld
   have q6 :=R5.out.1.bx.2.1 6
   simp at q6
   refine wp_region_tail_drew 15 (S :=(fun w'=> w'.cell? ⟨g,6,none⟩ =some (slv gc L.cs.length q))) (by kernel_rfl) (by kernel_rfl) (by first | (dsimp only;exact q6) | (exact q6)) (fun hHeld=> ?_)
   refine tkT (i :=0) ?_
   refine tkT (i :=1) ?_
   refine tkT (i :=2) ?_
   refine tkT (i :=3) ?_
   refine tkT (i :=4) ?_
   refine tkT (i :=5) ?_
   refine tkT (i :=6) ?_
   refine tkT (i :=7) ?_
   refine tkT (i :=8) ?_
   refine tkT (i :=9) ?_
   refine tkT (i :=10) ?_
   refine tkT (i :=11) ?_
   refine tkT (i :=12) ?_
   refine tkT (i :=13) ?_
   refine tkT (i :=14) ?_
   generalize hxd :w3.drew=y1 at hHeld
   have hd :Below w3.heap.size w3 y1 :=by rw [← hxd];exact (Below.refl _ _).drew
   have r6 :=R5.out.1.below hd
   clear hxd
   have hfl :(flat O3.enc L.cs).length=L.cs.length*3 :=flat_len O3.enc_len _
   have c6 :=own_cellN r6.c (i*3+1) (by dsimp only;omega)
   try dsimp only at c6
   rw [List.getElem?_eq_getElem (by omega)] at c6
   have f6 :=own_frozen r6.c (i*3+1)
   try dsimp only at f6
   have R7 :=Lib.hid (r6.pc (k :=i) (by dsimp only;omega) n)
   have B6 :=Lib.hid ((B4.out.trans R5.out.2).trans (hd.mono R5.out.1.hb))
   clear r6 hd q6
   refine wpAnyT_done (by kernel_rfl) ?_
   dsimp only [List.drop]
   go_wp2
   go_ret
   rw [HK.out]
   exact ⟨rfl,⟨gs,gc,p,q,R7.out.1⟩,B6.out.trans R7.out.2⟩
  ·have hg :goesL L.zs ⟨18,n,m⟩ x=false :=by simp [goesL,ht]
   have HK :=Lib.hid (show branchL L ⟨18,n,m⟩ =(0,{L with ss :=L.ss.take j}) by rw [hk,hg];rfl)
   have ht' :(x==1)=false :=by simp [ht]
   clear hk HL HBK H0 ht
   go_wp2_with (go_at_call 71;refine (HI.out _).mono ?_;rintro e w' ⟨rfl,rfl⟩)
   have s2 :Still w1 (w1.drewN nq) :=⟨nq,rfl⟩
   have r2 :=r1.still s2
   replace bb :=bb.trans (s2.below base)
   replace k1 :=k1.below (s2.below w1.heap.size) k1.1
   clear ck1 yk1 s2
   have R1 :=Lib.hid r2
   have B1 :=Lib.hid bb
   have ck1 :=k1.2.1
   have yk1 :=k1.1
   clear r2 bb r1
   generalize hdr :w1.drewN nq=w2 at R1 B1 k1 ck1 yk1 ⊢
   clear hdr
   go_quiet ((go_at_call 158;exact Calls.quiet_of_same (HN.out _)))
   have s2 :Still w2 (w2.drewN nq) :=⟨nq,rfl⟩
   replace R1 :=Lib.hid (R1.out.still s2)
   replace B1 :=Lib.hid (B1.out.trans (s2.below base))
   clear s2 ck1 yk1 k1
   go_wp2_with fail
   have q5 :=R1.out.bx.2.1 5
   simp at q5
   refine wp_region_tail_drew 14 (S :=(fun w'=> w'.cell? ⟨g,5,none⟩ =some (slv gs L.ss.length p))) (by kernel_rfl) (by kernel_rfl) (by first | (dsimp only;exact q5) | (exact q5)) (fun hHeld=> ?_)
   refine tkT (i :=0) ?_
   refine tkT (i :=1) ?_
   refine tkT (i :=2) ?_
   refine tkT (i :=3) ?_
   refine tkT (i :=4) ?_
   refine tkT (i :=5) ?_
   refine tkT (i :=6) ?_
   refine tkT (i :=7) ?_
   refine tkT (i :=8) ?_
   refine tkT (i :=9) ?_
   refine tkT (i :=10) ?_
   refine tkT (i :=11) ?_
   refine tkT (i :=12) ?_
   refine tkT (i :=13) ?_
   generalize hxd :(w2.drewN nq).drew=y0 at hHeld
   have hd :Below (w2.drewN nq).heap.size (w2.drewN nq) y0 :=by rw [← hxd];exact (Below.refl _ _).drew
   have r4 :=R1.out.below hd
   clear hxd
   have c4 :=r4.bx.2.1
   have f4 :=r4.bx.2.2
   have y4 :=r4.bx.1
   have R5 :=Lib.hid (r4.cut (k :=j) (by omega))
   have B4 :=Lib.hid (B1.out.trans (hd.mono R1.out.hb))
   clear r4 hd q5
   refine wpAnyT_done (by kernel_rfl) ?_
   dsimp only [List.drop]
   go_wp2
   go_ret
   rw [HK.out]
   exact ⟨rfl,⟨gs,gc,p,q,R5.out.1⟩,B4.out.trans R5.out.2⟩
end Go.Proofs.YtfmebaafpfkeiaaGreat
end
section
namespace Go.Proofs.YtfmebaafpfkeiaaGreat
open Go.RowKit
set_option maxHeartbeats 3200000 in
set_option maxRecDepth 100000 in
theorem runBranch10 {base :Nat} {w :World} {g gs gc :Nat} {fv hv ov :Value} {p q :Nat} {L :VmL} (h :RunV base w g gs gc fv hv ov p q L) (hf :Fits L) (h1 :0 < L.ss.length) (hcl :0 < L.cs.length∧L.cs.length≤120) (n m :Int) :
  Calls Tryz.prog 237 #[.pointer (some ⟨g,0,none⟩), .agg #[.int .i64 10, .int .i64 n, .int .i64 m]] w fun e w'=> e= .returned (.int .i64 (branchL L ⟨10,n,m⟩).1)∧
   (∃gs' gc' p' q',RunV base w' g gs' gc' fv hv ov p' q' (branchL L ⟨10,n,m⟩).2)∧Below base w w' :=by
 obtain ⟨x,hx⟩ : ∃x,lastW L.ss 0=x :=⟨_,rfl⟩
 have HL :=Lib.hid (fun (W :World) (hW :RunV base W g gs gc fv hv ov p q L)=> hx▸last_any hW hf.sl 0 h1)
 have hb3 :=hf.s3 _ (last_mem h1)
 rw [hx] at hb3
 obtain ⟨j,hj⟩ : ∃j,L.ss.length-1=j :=⟨_,rfl⟩
 obtain ⟨i,hi⟩ : ∃i,L.cs.length-1=i :=⟨_,rfl⟩
 have hpc :=setPc_eq hi (show i < L.cs.length by omega)
 have hss :=hf.s1
 have hil :i < L.cs.length :=by omega
 have e1 :IntKind.i64.wrap ((L.ss.length :Int)-1)=(j :Int) :=by rw [IntWalk.i64_in _ (by omega)];omega
 have e2 :IntKind.i64.wrap ((L.cs.length :Int)-1)=(i :Int) :=by rw [IntWalk.i64_in _ (by omega)];omega
 have hjp :j≤p :=by have :=own_cap h.s;omega
 have H0 :=Lib.hid h
 have hbs :=h.hb
 have hk :branchL L ⟨10,n,m⟩ =if (10 :Int)=18∧x%2=0 then (5,L) else (0,{L with ss :=L.ss.take j,cs :=if goesL L.zs ⟨10,n,m⟩ x then L.cs.set i {L.cs[i] with n :=(if (10 :Int)=18 then n else m)} else L.cs}) :=by
  unfold branchL
  dsimp only
  rw [hx,hj,hpc]
 have HBK :=Lib.hid (fun (W :World) (hW :RunV base W g gs gc fv hv ov p q L)=> block_any hW hf.z1 hf.z2 x false hb3)
 clear h hf hb3 hx hpc
 rw [if_neg (by simp)] at hk
 go_enter Tryz.func237,Tryz.ntmps237
 go_wp2_with fail
 generalize hxx :w.alloc _=x0
 obtain ⟨bx,k1⟩ :=Bx.alloc hxx
 clear hxx
 have r0 :=H0.out.below bx
 have bb :=bx.mono hbs
 refine (HL.out _ r0).mono ?_
 rintro e w1 ⟨rfl,s1⟩
 have r1 :=r0.still s1
 replace bb :=bb.trans (s1.below base)
 replace k1 :=k1.below (s1.below x0.heap.size) k1.1
 clear s1 r0 bx
 have ck1 :=k1.2.1
 have yk1 :=k1.1
 go_wp2_with fail
 go_quiet (fail)
 go_wp2_with fail
 have s2 :Still w1 (w1.drewN nq) :=⟨nq,rfl⟩
 have r2 :=r1.still s2
 replace bb :=bb.trans (s2.below base)
 replace k1 :=k1.below (s2.below w1.heap.size) k1.1
 clear ck1 yk1 s2
 refine (HBK.out _ r2).mono ?_
 rintro e w2 ⟨tg,u,rfl,hu,r3,b3⟩
 replace bb :=bb.trans (b3.mono r2.hb)
 replace k1 :=k1.below b3 k1.1
 clear b3 HL HBK H0
 by_cases hb :isBlk L.zs x false=true
 ·obtain ⟨rfl,ru⟩ :=hu hb
  obtain ⟨ua,uc,rfl⟩ :=ru.form
  rw [hb]
  by_cases ht :tagAt L.zs x=n
  ·have hg :goesL L.zs ⟨10,n,m⟩ x=false :=by simp [goesL,hb,ht]
   have HK :=Lib.hid (show branchL L ⟨10,n,m⟩ =(0,{L with ss :=L.ss.take j}) by rw [hk,hg];rfl)
   have ht' :(tagAt L.zs x !=n)=false :=by simp [ht]
   clear hk hu ru
   have R1 :=Lib.hid r3
   have B1 :=Lib.hid bb
   have ck1 :=k1.2.1
   have yk1 :=k1.1
   clear r3 bb r2 r1
   go_wp2_with fail
   clear ck1 yk1 k1
   have q5 :=R1.out.bx.2.1 5
   simp at q5
   refine wp_region_tail_drew 14 (S :=(fun w'=> w'.cell? ⟨g,5,none⟩ =some (slv gs L.ss.length p))) (by kernel_rfl) (by kernel_rfl) (by first | (dsimp only;exact q5) | (exact q5)) (fun hHeld=> ?_)
   refine tkT (i :=0) ?_
   refine tkT (i :=1) ?_
   refine tkT (i :=2) ?_
   refine tkT (i :=3) ?_
   refine tkT (i :=4) ?_
   refine tkT (i :=5) ?_
   refine tkT (i :=6) ?_
   refine tkT (i :=7) ?_
   refine tkT (i :=8) ?_
   refine tkT (i :=9) ?_
   refine tkT (i :=10) ?_
   refine tkT (i :=11) ?_
   refine tkT (i :=12) ?_
   refine tkT (i :=13) ?_
   generalize hxd :w2.drew=y0 at hHeld
   have hd :Below w2.heap.size w2 y0 :=by rw [← hxd];exact (Below.refl _ _).drew
   have r4 :=R1.out.below hd
   clear hxd
   have c4 :=r4.bx.2.1
   have f4 :=r4.bx.2.2
   have y4 :=r4.bx.1
   have R5 :=Lib.hid (r4.cut (k :=j) (by omega))
   have B4 :=Lib.hid (B1.out.trans (hd.mono R1.out.hb))
   clear r4 hd q5
   refine wpAnyT_done (by kernel_rfl) ?_
   dsimp only [List.drop]
   go_wp2
   go_ret
   rw [HK.out]
   exact ⟨rfl,⟨gs,gc,p,q,R5.out.1⟩,B4.out.trans R5.out.2⟩
  ·have hg :goesL L.zs ⟨10,n,m⟩ x=true :=by simp [goesL,ht]
   have HK :=Lib.hid (show branchL L ⟨10,n,m⟩ =(0,{L with ss :=L.ss.take j,cs :=L.cs.set i {L.cs[i] with n :=m}}) by rw [hk,hg];rfl)
   have ht' :(tagAt L.zs x !=n)=true :=by simp [ht]
   clear hk hu ru
   have R1 :=Lib.hid r3
   have B1 :=Lib.hid bb
   have ck1 :=k1.2.1
   have yk1 :=k1.1
   clear r3 bb r2 r1
   go_wp2_with fail
   clear ck1 yk1 k1
   have q5 :=R1.out.bx.2.1 5
   simp at q5
   refine wp_region_tail_drew 14 (S :=(fun w'=> w'.cell? ⟨g,5,none⟩ =some (slv gs L.ss.length p))) (by kernel_rfl) (by kernel_rfl) (by first | (dsimp only;exact q5) | (exact q5)) (fun hHeld=> ?_)
   refine tkT (i :=0) ?_
   refine tkT (i :=1) ?_
   refine tkT (i :=2) ?_
   refine tkT (i :=3) ?_
   refine tkT (i :=4) ?_
   refine tkT (i :=5) ?_
   refine tkT (i :=6) ?_
   refine tkT (i :=7) ?_
   refine tkT (i :=8) ?_
   refine tkT (i :=9) ?_
   refine tkT (i :=10) ?_
   refine tkT (i :=11) ?_
   refine tkT (i :=12) ?_
   refine tkT (i :=13) ?_
   generalize hxd :w2.drew=y0 at hHeld
   have hd :Below w2.heap.size w2 y0 :=by rw [← hxd];exact (Below.refl _ _).drew
   have r4 :=R1.out.below hd
   clear hxd
   have c4 :=r4.bx.2.1
   have f4 :=r4.bx.2.2
   have y4 :=r4.bx.1
   have R5 :=Lib.hid (r4.cut (k :=j) (by omega))
   have B4 :=Lib.hid (B1.out.trans (hd.mono R1.out.hb))
   clear r4 hd q5
   refine wpAnyT_done (by kernel_rfl) ?_
   dsimp only [List.drop]
   go_wp2_with fail
   generalize hx3 :y0.setCell _ _=w3 at R5 ⊢
   clear hx3 c4 f4 y4 hHeld
   have q6 :=R5.out.1.bx.2.1 6
   simp at q6
   refine wp_region_tail_drew 15 (S :=(fun w'=> w'.cell? ⟨g,6,none⟩ =some (slv gc L.cs.length q))) (by kernel_rfl) (by kernel_rfl) (by first | (dsimp only;exact q6) | (exact q6)) (fun hHeld=> ?_)
   refine tkT (i :=0) ?_
   refine tkT (i :=1) ?_
   refine tkT (i :=2) ?_
   refine tkT (i :=3) ?_
   refine tkT (i :=4) ?_
   refine tkT (i :=5) ?_
   refine tkT (i :=6) ?_
   refine tkT (i :=7) ?_
   refine tkT (i :=8) ?_
   refine tkT (i :=9) ?_
   refine tkT (i :=10) ?_
   refine tkT (i :=11) ?_
   refine tkT (i :=12) ?_
   refine tkT (i :=13) ?_
   refine tkT (i :=14) ?_
   generalize hxd :w3.drew=y1 at hHeld
   have hd :Below w3.heap.size w3 y1 :=by rw [← hxd];exact (Below.refl _ _).drew
   have r6 :=R5.out.1.below hd
   clear hxd
   have hfl :(flat O3.enc L.cs).length=L.cs.length*3 :=flat_len O3.enc_len _
   have c6 :=own_cellN r6.c (i*3+1) (by dsimp only;omega)
   try dsimp only at c6
   rw [List.getElem?_eq_getElem (by omega)] at c6
   have f6 :=own_frozen r6.c (i*3+1)
   try dsimp only at f6
   have R7 :=Lib.hid (r6.pc (k :=i) (by dsimp only;omega) m)
   have B6 :=Lib.hid ((B4.out.trans R5.out.2).trans (hd.mono R5.out.1.hb))
   clear r6 hd q6
   refine wpAnyT_done (by kernel_rfl) ?_
   dsimp only [List.drop]
   go_wp2
   go_ret
   rw [HK.out]
   exact ⟨rfl,⟨gs,gc,p,q,R7.out.1⟩,B6.out.trans R7.out.2⟩
 ·have hb' :isBlk L.zs x false=false :=by simpa using hb
  have hg :goesL L.zs ⟨10,n,m⟩ x=true :=by simp [goesL,hb']
  have HK :=Lib.hid (show branchL L ⟨10,n,m⟩ =(0,{L with ss :=L.ss.take j,cs :=L.cs.set i {L.cs[i] with n :=m}}) by rw [hk,hg];rfl)
  rw [hb']
  clear hk hu
  have R1 :=Lib.hid r3
  have B1 :=Lib.hid bb
  have ck1 :=k1.2.1
  have yk1 :=k1.1
  clear r3 bb r2 r1
  go_wp2_with fail
  clear ck1 yk1 k1
  have q5 :=R1.out.bx.2.1 5
  simp at q5
  refine wp_region_tail_drew 14 (S :=(fun w'=> w'.cell? ⟨g,5,none⟩ =some (slv gs L.ss.length p))) (by kernel_rfl) (by kernel_rfl) (by first | (dsimp only;exact q5) | (exact q5)) (fun hHeld=> ?_)
  refine tkT (i :=0) ?_
  refine tkT (i :=1) ?_
  refine tkT (i :=2) ?_
  refine tkT (i :=3) ?_
  refine tkT (i :=4) ?_
  refine tkT (i :=5) ?_
  refine tkT (i :=6) ?_
  refine tkT (i :=7) ?_
  refine tkT (i :=8) ?_
  refine tkT (i :=9) ?_
  refine tkT (i :=10) ?_
  refine tkT (i :=11) ?_
  refine tkT (i :=12) ?_
  refine tkT (i :=13) ?_
  generalize hxd :w2.drew=y0 at hHeld
  have hd :Below w2.heap.size w2 y0 :=by rw [← hxd];exact (Below.refl _ _).drew
  have r4 :=R1.out.below hd
  clear hxd
  have c4 :=r4.bx.2.1
  have f4 :=r4.bx.2.2
  have y4 :=r4.bx.1
  have R5 :=Lib.hid (r4.cut (k :=j) (by omega))
  have B4 :=Lib.hid (B1.out.trans (hd.mono R1.out.hb))
  clear r4 hd q5
  refine wpAnyT_done (by kernel_rfl) ?_
  dsimp only [List.drop]
  go_wp2_with fail
  generalize hx3 :y0.setCell _ _=w3 at R5 ⊢
  clear hx3 c4 f4 y4 hHeld
  have q6 :=R5.out.1.bx.2.1 6
  simp at q6
  refine wp_region_tail_drew 15 (S :=(fun w'=> w'.cell? ⟨g,6,none⟩ =some (slv gc L.cs.length q))) (by kernel_rfl) (by kernel_rfl) (by first | (dsimp only;exact q6) | (exact q6)) (fun hHeld=> ?_)
  refine tkT (i :=0) ?_
  refine tkT (i :=1) ?_
  refine tkT (i :=2) ?_
  refine tkT (i :=3) ?_
  refine tkT (i :=4) ?_
  refine tkT (i :=5) ?_
  refine tkT (i :=6) ?_
  refine tkT (i :=7) ?_
  refine tkT (i :=8) ?_
  refine tkT (i :=9) ?_
  refine tkT (i :=10) ?_
  refine tkT (i :=11) ?_
  refine tkT (i :=12) ?_
  refine tkT (i :=13) ?_
  refine tkT (i :=14) ?_
  generalize hxd :w3.drew=y1 at hHeld
  have hd :Below w3.heap.size w3 y1 :=by rw [← hxd];exact (Below.refl _ _).drew
  have r6 :=R5.out.1.below hd
  clear hxd
  have hfl :(flat O3.enc L.cs).length=L.cs.length*3 :=flat_len O3.enc_len _
  have c6 :=own_cellN r6.c (i*3+1) (by dsimp only;omega)
  try dsimp only at c6
  rw [List.getElem?_eq_getElem (by omega)] at c6
  have f6 :=own_frozen r6.c (i*3+1)
  try dsimp only at f6
  have R7 :=Lib.hid (r6.pc (k :=i) (by dsimp only;omega) m)
  have B6 :=Lib.hid ((B4.out.trans R5.out.2).trans (hd.mono R5.out.1.hb))
  clear r6 hd q6
  refine wpAnyT_done (by kernel_rfl) ?_
  dsimp only [List.drop]
  go_wp2
  go_ret
  rw [HK.out]
  exact ⟨rfl,⟨gs,gc,p,q,R7.out.1⟩,B6.out.trans R7.out.2⟩
end Go.Proofs.YtfmebaafpfkeiaaGreat
end
