/- Parts of the proof of FnNoRoom. -/
import Derived.Test.YtfmebaafpfkeiaaGreatZ21
import Derived.Test.YtfmebaafpfkeiaaGreatZ19
set_option linter.unusedVariables false
set_option linter.unusedSimpArgs false
section
namespace Go.Proofs.YtfmebaafpfkeiaaGreat
open Go.RowKit
set_option maxHeartbeats 1600000 in
set_option maxRecDepth 100000 in
theorem runCall_any {base :Nat} {w :World} {g gs gc :Nat} {fv hv ov :Value} {p q :Nat} {L :VmL} (h :RunV base w g gs gc fv hv ov p q L) (hf :Fits L) (h2 :2≤L.ss.length) (hcl :L.cs.length≤120) :
  Calls Tryz.prog 234 #[.pointer (some ⟨g,0,none⟩)] w fun e w'=> e= .returned (.int .i64 (callL L).1)∧
   (∃gc' q',RunV base w' g gs gc' fv hv ov p q' (callL L).2)∧Below base w w' :=by
 obtain ⟨i0,hi,hz0,hz1,hz2⟩ :=info_parts Tryz.infoCall
 have HZ :=Lib.hid hf.z0
 obtain ⟨x,hx⟩ : ∃x,lastW L.ss 1=x :=⟨_,rfl⟩
 have hL :=last_any h hf.sl 1 (by omega)
 have hb3 :=hf.s3 _ (last_mem (show 1 < L.ss.length by omega))
 rw [hx] at hL hb3
 have HL :=Lib.hid hL
 have HB :=Lib.hid (fun (W :World) (hW :RunV base W g gs gc fv hv ov p q L)=> block_any hW hf.z1 hf.z2 x true hb3)
 have H0 :=Lib.hid h
 have hbs :=h.hb
 have hss :=hf.s1
 have hz :callL L=if isBlk L.zs x true=false∨(L.fs.length :Int)≤tagAt L.zs x then (5,L) else if L.cs.length=120 then (3,L) else (0,{L with cs :=L.cs++ [⟨tagAt L.zs x,0,(L.ss.length :Int)-1⟩]}) :=by
  unfold callL;rw [hx]
 obtain ⟨fa,fc,rfl⟩ :=h.f.form
 clear h hf hL hb3 hx
 go_enter Tryz.func234,Tryz.ntmps234
 go_wp2_with fail
 refine HL.out.mono ?_
 rintro e w1 ⟨rfl,s1⟩
 have r1 :=H0.out.still s1
 have b1 :=s1.below base
 have hb1 :=r1.hb
 go_wp2_with fail
 refine (HB.out _ r1).mono ?_
 rintro e w2 ⟨tg,u,rfl,hu,r2,b2⟩
 replace b2 :=b1.trans (b2.mono hb1)
 have B2 :=Lib.hid b2
 clear b1 b2 s1 r1 hb1
 by_cases hk :isBlk L.zs x true=true
 ·obtain ⟨rfl,ru⟩ :=hu hk
  obtain ⟨ua,uc,rfl⟩ :=ru.form
  rw [hk]
  have q0 :=r2.bx.2.1 0
  have q5 :=r2.bx.2.1 5
  have q6 :=r2.bx.2.1 6
  simp at q0 q5 q6
  have R2 :=Lib.hid r2
  clear r2 ru hu
  by_cases hn :(L.fs.length :Int)≤tagAt L.zs x
  ·have HK :=Lib.hid (hz.trans (if_pos (.inr hn)))
   clear hz
   go_wp2
   go_ret
   rw [HK.out]
   exact ⟨rfl,⟨gc,q,R2.out⟩,B2.out⟩
  ·by_cases hc :L.cs.length=120
   ·have HK :=Lib.hid (hz.trans ((if_neg (by simp [hk];omega)).trans (if_pos hc)))
    have hc' :(L.cs.length :Int)=120 :=by omega
    clear hz
    go_wp2
    go_ret
    rw [HK.out]
    exact ⟨rfl,⟨gc,q,R2.out⟩,B2.out⟩
   ·have HK :=Lib.hid (hz.trans ((if_neg (by simp [hk];omega)).trans (if_neg hc)))
    have hc' : ¬(L.cs.length :Int)=120 :=by omega
    have hc2 :((L.cs.length :Int)==120)=false :=by simp;omega
    have e1 :IntKind.i64.wrap ((L.ss.length :Int)-1)=(L.ss.length :Int)-1 :=IntWalk.i64_in _ (by omega)
    clear hz
    go_wp2_with fail
    refine wp_region_tail_drew 17 (S :=(fun w'=> w'.cell? ⟨g,5,none⟩ =some (slv gs L.ss.length p)∧w'.cell? ⟨g,6,none⟩ =some (slv gc L.cs.length q))) (by kernel_rfl) (by kernel_rfl) (by first | (dsimp only;exact ⟨q5,q6⟩) | (exact ⟨q5,q6⟩)) (fun hHeld=> ?_)
    refine tkT (i :=0) ?_
    refine tkT (i :=1) ?_
    refine tkT (i :=2) ?_
    refine tkT (i :=3) ?_
    refine tkT (i :=4) ?_
    refine tkT (i :=5) ?_
    refine tkT (i :=6) ?_
    refine tkT (i :=7) ?_
    refine tkT (i :=8) ?_
    refine tkT (i :=9) ?_
    refine tkT (i :=10) ?_
    refine tkT (i :=11) ?_
    refine tkT (i :=12) ?_
    refine tkT (i :=13) ?_
    refine tkT (i :=14) ?_
    generalize hxd :w2.drew=x0 at hHeld
    have hd :Below w2.heap.size w2 x0 :=by rw [← hxd];exact (Below.refl _ _).drew
    have r0 :=R2.out.below hd
    clear hxd
    refine rdT (i :=15) (fun K hK=> ?_)
    go_simp
    generalize hy :x0.alloc _=x1
    obtain ⟨b1,k1⟩ :=Bx.alloc hy
    clear hy
    have r1 :=r0.below b1
    refine bkT hK (by first | (dsimp only;exact ⟨(b1.cell (by dsimp only;exact r0.bx.1)).trans hHeld.1,(b1.cell (by dsimp only;exact r0.bx.1)).trans hHeld.2⟩) | (exact ⟨(b1.cell (by dsimp only;exact r0.bx.1)).trans hHeld.1,(b1.cell (by dsimp only;exact r0.bx.1)).trans hHeld.2⟩)) (fun hHeld=> ?_)
    clear hK K
    refine wpAnyT_ready (rs := [16]) (by kernel_rfl) (by simp) ?_
    refine AllReadyT.cons (by (simp only [List.getElem?_toArray,List.getElem?_cons_succ,List.getElem?_cons_zero];rfl)) (fun K hK=> ?_) AllReadyT.nil
    rw [if_pos (by rfl)]
    refine step_app1 _ _ 30 rfl base 63 i0 (.agg #[.int .i64 0, .int .i64 0, .int .i64 0]) 3 24 Tryz.underlying30 hi hz0 hz1 hz2 rfl (by decide) _ _ _ rfl r1.c #[.int .i64 (tagAt L.zs x), .int .i64 0, .int .i64 ((L.ss.length :Int)-1)] rfl ?_ x0.heap.size rfl ?_ ?_ ?_ ?_ ?_
    ·simp [Value.oneCell']
    ·exact k1.2.1
    ·unfold maxLen;omega
    ·omega
    ·exact r1.hb
    ·intro v' x2 ho hg hat
     have e2 :flat O3.enc L.cs++ #[.int .i64 (tagAt L.zs x), .int .i64 0, .int .i64 ((L.ss.length :Int)-1)].toList=flat O3.enc (L.cs++ [⟨tagAt L.zs x,0,(L.ss.length :Int)-1⟩]) :=by rw [flat_snoc];rfl
     rw [e2] at ho
     have hl2 :(L.cs++ [(⟨tagAt L.zs x,0,(L.ss.length :Int)-1⟩ :O3)]).length=L.cs.length+1 :=by simp
     have R3 :=Lib.hid (r1.calls HZ.out (cs :=L.cs++ [⟨tagAt L.zs x,0,(L.ss.length :Int)-1⟩]) hg (by rw [hl2];exact ho) (by omega) (fun k hk=> by
      rcases hat with e | e
      ·exact .inl (Option.some.inj (hk.symm.trans e))
      ·exact .inr (by have :=Option.some.inj (hk.symm.trans e);omega)))
     have hk2 :=r1.bx.grown hg (fun e=> r1.n2 (Option.some.inj e))
     refine hK.out _ _ (by first | (dsimp only;exact ⟨hk2.2.1 5,hk2.2.1 6⟩) | (exact ⟨hk2.2.1 5,hk2.2.1 6⟩)) (fun hHeld=> ?_)
     clear hK K
     try simp only [Act.put,List.setIfInBounds_toArray,List.set_cons_zero,List.set_cons_succ]
     have c2 :=hk2.2.1
     have f2 :=hk2.2.2
     have y2 :=hk2.1
     have bb :=B2.out.trans ((hd.trans (b1.mono hd.size)).mono R2.out.hb)
     have BB :=Lib.hid bb
     clear bb hg ho hk2 r1 r0 k1 b1 hd hat
     obtain ⟨gc',q',rfl,R4,b3⟩ :=R3.out
     have R4 :=Lib.hid R4
     clear R3
     refine wpAnyT_done (by kernel_rfl) ?_
     dsimp only [List.drop]
     go_wp2
     go_ret
     have R5 :=R4.out
     rw [hl2] at R5 b3
     rw [HK.out]
     exact ⟨rfl,⟨gc',q',R5⟩,BB.out.trans b3⟩
 ·have hk' :isBlk L.zs x true=false :=by simpa using hk
  have HK :=Lib.hid (hz.trans (if_pos (.inl hk')))
  rw [hk']
  clear hz
  go_wp2
  go_ret
  rw [HK.out]
  exact ⟨rfl,⟨gc,q,r2⟩,B2.out⟩
end Go.Proofs.YtfmebaafpfkeiaaGreat
end
section
namespace Go.Proofs.YtfmebaafpfkeiaaGreat
open Go.RowKit
set_option maxHeartbeats 1600000 in
set_option maxRecDepth 100000 in
theorem runRet_any {base :Nat} {w :World} {g gs gc :Nat} {fv hv ov :Value} {p q :Nat} {L :VmL} (h :RunV base w g gs gc fv hv ov p q L) (hf :Fits L) (hcl :0 < L.cs.length∧L.cs.length≤120) (c :Nat) (hc :1≤c∧c≤4294967296) :
  Calls Tryz.prog 235 #[.pointer (some ⟨g,0,none⟩), .int .i64 c] w fun e w'=> e= .returned (.int .i64 (retL L c).1)∧
   (∃gs' p',RunV base w' g gs' gc fv hv ov p' q (retL L c).2)∧Below base w w' :=by
 obtain ⟨i0,hi,hz0,hz1,hz2⟩ :=info_parts Tryz.infoI2
 have HZ :=Lib.hid hf.z0
 have hss :=hf.s1
 have q5 :=h.bx.2.1 5
 have q6 :=h.bx.2.1 6
 simp at q5 q6
 have H0 :=Lib.hid h
 have e0 :IntKind.i64.wrap ((c :Int)+2)=(c :Int)+2 :=IntWalk.i64_in _ (by omega)
 by_cases hne :L.ss.length=c+2
 ·have hL :=last_any h hf.sl 0 (by omega)
  obtain ⟨x,hx⟩ : ∃x,lastW L.ss 0=x :=⟨_,rfl⟩
  rw [hx] at hL
  have HL :=Lib.hid hL
  have hz :retL L c=(if L.cs.length=1 then 1 else 0,{L with ss :=L.ss.take (c-1)++ [x],cs :=L.cs.dropLast}) :=by
   unfold retL;rw [if_neg (by omega),hx,show ((c :Int)-1).toNat=c-1 by omega]
  have HK :=Lib.hid hz
  obtain ⟨n,hn⟩ : ∃n,c-1=n :=⟨_,rfl⟩
  have e1 :IntKind.i64.wrap ((c :Int)-1)=(n :Int) :=by rw [IntWalk.i64_in _ (by omega)];omega
  have hnp :n≤p :=by have :=own_cap h.s;omega
  rw [hn] at HK
  have hne' :((L.ss.length :Int) !=((c :Int)+2))=false :=by simp;omega
  have hb :=h.hb
  clear h hf hL hx hz
  go_enter Tryz.func235,Tryz.ntmps235
  go_wp2_with fail
  refine HL.out.mono ?_
  rintro e w1 ⟨rfl,s1⟩
  have r1 :=H0.out.still s1
  have b1 :=s1.below base
  have q5 :=r1.bx.2.1 5
  have f1 :=r1.bx.2.2
  have y1 :=r1.bx.1
  simp at q5
  have os :=own_take r1.s (show n≤L.ss.length by omega)
  have R1 :=Lib.hid r1
  have B1 :=Lib.hid b1
  have OS :=Lib.hid os
  have hb1 :=r1.hb
  clear r1 b1 s1 os
  go_wp2_with (at_builtin;refine wpList_app1_at rfl _ _ 27 rfl base 3 i0 (.int .i64 0) 1 8 Tryz.underlying27 hi hz0 hz1 hz2 rfl (by decide) _ _ _ rfl OS.out #[_] rfl ?_ w1.heap.size rfl rfl ?_ ?_ ?_ ?_)
  ·rfl
  ·unfold maxLen;omega
  ·omega
  ·exact hb1
  ·intro v' w2 ho hg hat
   have e2 :(L.ss.map (Value.int .i64)).take n++ [.int .i64 x]=(L.ss.take n++ [x]).map (Value.int .i64) :=by simp
   try rw [Nat.mul_one] at ho
   change w2.ownsRow _ _ _ _ _ ((L.ss.map (Value.int .i64)).take n++ [.int .i64 x]) at ho
   rw [e2] at ho
   have hl2 :(L.ss.take n++ [x]).length=n+1 :=by simp;omega
   have R2 :=R1.out.stack HZ.out (ss :=L.ss.take n++ [x]) hg (by rw [hl2];exact ho) (by omega) (fun k hk=> by
    rcases hat with e | e
    ·exact .inl (Option.some.inj (hk.symm.trans e))
    ·exact .inr (by have :=Option.some.inj (hk.symm.trans e);omega))
   have hk2 :=R1.out.bx.grown hg (fun e=> R1.out.n1 (Option.some.inj e))
   have c2 :=hk2.2.1
   have f2 :=hk2.2.2
   have y2 :=hk2.1
   obtain ⟨gs',p',rfl,R3,b3⟩ :=R2
   rw [hl2] at R3 b3
   have q6 :=R3.bx.2.1 6
   simp at q6
   have R3 :=Lib.hid R3
   have BB :=Lib.hid (B1.out.trans b3)
   clear hg ho hat hk2 b3
   go_wp2_with fail
   generalize hx3 :w2.setCell _ _=w3 at q6 R3 BB ⊢
   clear hx3 c2 f2 y2 q5 f1 y1
   obtain ⟨m,hm⟩ : ∃m,L.cs.length-1=m :=⟨_,rfl⟩
   have e4 :IntKind.i64.wrap ((L.cs.length :Int)-1)=(m :Int) :=by rw [IntWalk.i64_in _ (by omega)];omega
   have hmq :m≤q :=by have :=own_cap R3.out.c;dsimp only at this;omega
   refine wp_region_tail_drew 14 (S :=(fun w'=> w'.cell? ⟨g,6,none⟩ =some (slv gc L.cs.length q))) (by kernel_rfl) (by kernel_rfl) (by first | (dsimp only;exact q6) | (exact q6)) (fun hHeld=> ?_)
   refine tkT (i :=0) ?_
   refine tkT (i :=1) ?_
   refine tkT (i :=2) ?_
   refine tkT (i :=3) ?_
   refine tkT (i :=4) ?_
   refine tkT (i :=5) ?_
   refine tkT (i :=6) ?_
   refine tkT (i :=7) ?_
   refine tkT (i :=8) ?_
   refine tkT (i :=9) ?_
   refine tkT (i :=10) ?_
   refine tkT (i :=11) ?_
   refine tkT (i :=12) ?_
   refine tkT (i :=13) ?_
   generalize hxd :w3.drew=x0 at hHeld
   have hd :Below w3.heap.size w3 x0 :=by rw [← hxd];exact (Below.refl _ _).drew
   have r4 :=R3.out.below hd
   clear hxd
   have c4 :=r4.bx.2.1
   have f4 :=r4.bx.2.2
   have y4 :=r4.bx.1
   have R5 :=Lib.hid (r4.cutC (k :=m) (by dsimp only;omega))
   have B4 :=Lib.hid (BB.out.trans (hd.mono R3.out.hb))
   have hdl :L.cs.dropLast=L.cs.take m :=by rw [List.dropLast_eq_take,hm]
   clear r4 hd
   by_cases hm0 :m=0
   ·subst hm0
    have h1 :L.cs.length=1 :=by omega
    refine wpAnyT_done (by kernel_rfl) ?_
    dsimp only [List.drop]
    go_wp2
    go_ret
    rw [HK.out,if_pos h1,hdl]
    exact ⟨rfl,⟨gs',p',R5.out.1⟩,B4.out.trans R5.out.2⟩
   ·have h1 : ¬L.cs.length=1 :=by omega
    have hm1 :((m :Int)==0)=false :=by simp;omega
    have hm2 : ¬(m :Int)=0 :=by omega
    refine wpAnyT_done (by kernel_rfl) ?_
    dsimp only [List.drop]
    go_wp2
    go_ret
    rw [HK.out,if_neg h1,hdl]
    exact ⟨rfl,⟨gs',p',R5.out.1⟩,B4.out.trans R5.out.2⟩
 ·have HK :=Lib.hid (show retL L c=(5,L) by unfold retL;rw [if_pos (by omega)])
  have hne' :((L.ss.length :Int) !=((c :Int)+2))=true :=by simp;omega
  have hne2 : ¬(L.ss.length :Int)=((c :Int)+2) :=by omega
  clear h hf
  go_enter Tryz.func235,Tryz.ntmps235
  go_wp2
  go_ret
  rw [HK.out]
  exact ⟨rfl,⟨gs,p,H0.out⟩,Below.refl _ _⟩
end Go.Proofs.YtfmebaafpfkeiaaGreat
end
section
namespace Go.Proofs.YtfmebaafpfkeiaaGreat
open Go.RowKit
theorem iEffect_lit (c n m :Int) (hc :1≤c∧c≤21) (w :World) :
  Calls Tryz.prog 151 #[.agg #[.int .i64 c, .int .i64 n, .int .i64 m]] w fun e w'=> e= .returned (.tuple #[.int .i64 (takesOf c m), .int .i64 (putsOf c)])∧Below w.heap.size w w' :=by
 have hcs :c=1∨c=2∨c=3∨c=4∨c=5∨c=6∨c=7∨c=8∨c=9∨c=10∨c=11∨c=12∨c=13∨c=14∨c=15∨c=16∨c=17∨c=18∨c=19∨c=20∨c=21 :=by omega
 rcases hcs with rfl | rfl | rfl | rfl | rfl | rfl | rfl | rfl | rfl | rfl | rfl | rfl | rfl | rfl | rfl | rfl | rfl | rfl | rfl | rfl | rfl
 all_goals
  go_enter Tryz.func151,Tryz.ntmps151
  go_wp2_with fail
  generalize hxx :w.alloc _=x0
  obtain ⟨bx,k1⟩ :=Bx.alloc hxx
  clear hxx
  have ck :=k1.2.1
  have yk :=k1.1
  go_wp2
  go_ret2
  exact ⟨rfl,bx⟩
structure DoOk (L :VmL) (o c :O3) :Prop where
 fits :Fits L
 right :rightOf L.zs L.h L.b L.n L.ss=true
 cl :0 < L.cs.length∧L.cs.length≤120
 cm :1≤c.m∧c.m≤(L.ss.length :Int)-1
 rng :1≤o.c∧o.c≤21
 n0 : -2147483648≤o.n∧o.n≤2147483648
 m0 :0≤o.m∧o.m≤3000
 nn :o.c=2∨o.c=3∨o.c=5∨o.c=8∨o.c=9→0≤o.n∧o.n≤3000
 mm :o.c=5∨o.c=8→o.m≤20
 ol :L.os.length≤4294967296
theorem Right.mkOk {L :VmL} {k :Nat} (hf :Fits L) (hr :rightOf L.zs L.h L.b L.n L.ss=true) (hk :k≤L.ss.length) (h0 :0 < L.ss.length) :MkOk L k :=by
 obtain ⟨h,b,n,ps,e1,e2,e3,hR,hx⟩ :=Right.ofR hr
 have F :=hR.frame
 have f1 :=F.h1
 have f2 :=F.len
 have f3 :=F.base
 have f4 :=F.n1
 exact ⟨hf.z0,hf.z1,hf.z2,hf.s1,hk,h0,by omega,by omega,by omega,by omega⟩
end Go.Proofs.YtfmebaafpfkeiaaGreat
end
section
namespace Go.Proofs.YtfmebaafpfkeiaaGreat
open Go.RowKit
set_option maxHeartbeats 3200000 in
set_option maxRecDepth 100000 in
theorem runDo1 {base :Nat} {w :World} {g gs gc :Nat} {fv hv ov :Value} {p q :Nat} {L :VmL} (h :RunV base w g gs gc fv hv ov p q L) (n m :Int) (cl :O3) (D :DoOk L ⟨1,n,m⟩ cl) :
  Calls Tryz.prog 149 #[.pointer (some ⟨g,0,none⟩), .agg #[.int .i64 1, .int .i64 n, .int .i64 m], .agg #[.int .i64 cl.c, .int .i64 cl.n, .int .i64 cl.m]] w fun e w'=> e= .returned (.int .i64 (doL L ⟨1,n,m⟩ cl).1)∧
   (∃gs' gc' hv' ov' p' q',RunV base w' g gs' gc' fv hv' ov' p' q' (doL L ⟨1,n,m⟩ cl).2)∧Below base w w' :=by
 obtain ⟨bn,hbn⟩ : ∃bn :Nat,cl.m=(bn :Int) :=⟨cl.m.toNat,by have :=D.cm;omega⟩
 obtain ⟨cc,cn,cm⟩ :=cl
 dsimp only at hbn
 subst hbn
 have hcm :=D.cm
 dsimp only at hcm
 have hss :=D.fits.s1
 obtain ⟨bj,hbj⟩ : ∃bj :Nat,bn-1=bj :=⟨_,rfl⟩
 have hjl :bj < L.ss.length :=by omega
 obtain ⟨self,hself⟩ : ∃self,L.ss.getD bj 0=self :=⟨_,rfl⟩
 have e1 :IntKind.i64.wrap ((bn :Int)-1)=(bj :Int) :=by rw [IntWalk.i64_in _ (by omega)];omega
 have e2 :IntKind.i64.wrap ((L.ss.length :Int)-(bn :Int))=(L.ss.length :Int)-(bn :Int) :=IntWalk.i64_in _ (by omega)
 have e3 :IntKind.i64.wrap ((L.ss.length :Int)-(bn :Int)-1)=(L.ss.length :Int)-(bn :Int)-1 :=IntWalk.i64_in _ (by omega)
 have HE :=Lib.hid (iEffect_lit 1 n m (by omega))
 have H0 :=Lib.hid h
 have DD :=Lib.hid D
 have hbs :=h.hb
 have hD :doL L ⟨1,n,m⟩ ⟨cc,cn,bn⟩ =if (L.ss.length :Int)-bn-1 < takesOf 1 m then (5,L) else pushR L 0 (intW n) :=by
  unfold doL
  dsimp only
  rw [show ((bn :Int)-1).toNat=bj by omega,hself]
  by_cases hc :(L.ss.length :Int)-bn-1 < takesOf 1 m
  ·rw [if_pos hc,if_pos hc]
  ·rw [if_neg hc,if_neg hc]
   simp
 obtain ⟨tk,htk⟩ : ∃tk,takesOf 1 m=tk :=⟨_,rfl⟩
 obtain ⟨pu,hpu⟩ : ∃pu,putsOf 1=pu :=⟨_,rfl⟩
 rw [htk,hpu] at HE
 rw [htk] at hD
 have HS :=Lib.hid (And.intro hself htk)
 clear h D hself htk hpu
 go_enter Tryz.func149,Tryz.ntmps149
 go_wp2_with fail
 generalize hxx :(w.alloc _).alloc _=x0
 obtain ⟨bx,k1,k2,sx⟩ :=alloc_box2 hxx
 clear hxx sx
 have r0 :=H0.out.below bx
 have bb :=bx.mono hbs
 have c1 :=own_cell r0.s bj hjl
 rw [List.getElem?_map,List.getElem?_eq_getElem hjl,Option.map_some,show L.ss[bj]=self by rw [← HS.out.1,List.getD_eq_getElem?_getD,List.getElem?_eq_getElem hjl];rfl] at c1
 have q5 :=r0.bx.2.1 5
 simp at q5
 have ck1 :=k1.2.1
 have yk1 :=k1.1
 have ck2 :=k2.2.1
 have yk2 :=k2.1
 go_quiet (fail)
 have s1 :Still x0 (x0.drewN nq) :=⟨nq,rfl⟩
 generalize x0.drewN nq=x1 at s1 ⊢
 replace r0 :=r0.still s1
 replace bb :=bb.trans (s1.below base)
 replace k1 :=k1.below (s1.below x0.heap.size) k1.1
 replace k2 :=k2.below (s1.below x0.heap.size) k2.1
 clear ck1 yk1 ck2 yk2 q5 c1 s1 bx
 have ck1 :=k1.2.1
 have yk1 :=k1.1
 go_wp2_with fail
 clear ck1 yk1
 refine (HE.out _).mono ?_
 rintro e w1 ⟨rfl,b1⟩
 replace bb :=bb.trans (b1.mono r0.hb)
 replace r0 :=r0.below b1
 replace k1 :=k1.below b1 k1.1
 replace k2 :=k2.below b1 k2.1
 have q5 :=r0.bx.2.1 5
 simp at q5
 have yg :=r0.bx.1
 have ck2 :=k2.2.1
 have yk2 :=k2.1
 go_wp2_with fail
 go_quiet (fail)
 have s1 :Still w1 (w1.drewN nq) :=⟨nq,rfl⟩
 generalize w1.drewN nq=w2 at s1 ⊢
 replace r0 :=r0.still s1
 replace bb :=bb.trans (s1.below base)
 replace k1 :=k1.below (s1.below w1.heap.size) k1.1
 replace k2 :=k2.below (s1.below w1.heap.size) k2.1
 clear ck2 yk2 q5 s1 b1 yg
 have ck1 :=k1.2.1
 have yk1 :=k1.1
 have ck2 :=k2.2.1
 have yk2 :=k2.1
 by_cases hlt :(L.ss.length :Int)-bn-1 < tk
 ·have HD :=Lib.hid (hD.trans (if_pos hlt))
  have R0 :=Lib.hid r0
  have BB :=Lib.hid bb
  clear hD r0 bb
  go_wp2
  go_ret
  rw [HD.out]
  exact ⟨rfl,⟨gs,gc,hv,ov,p,q,R0.out⟩,BB.out⟩
 ·have HD :=Lib.hid (hD.trans (if_neg hlt))
  have R0 :=Lib.hid r0
  have BB :=Lib.hid bb
  clear hD r0 bb
  go_wp2_with fail
  refine (iIntWord_any n _).mono ?_
  rintro e w' ⟨rfl,rfl⟩
  go_wp2_with fail
  refine (push_any R0.out DD.out.fits.z0 (by have :=DD.out.fits.s1;omega) 0 (Nat.zero_le _) _).mono ?_
  rintro e w3 ⟨rfl,⟨gs1,p1,r3⟩,b3⟩
  have R3 :=Lib.hid r3
  clear r3
  go_wp2
  go_ret
  rw [HD.out]
  exact ⟨rfl,⟨gs1,gc,hv,ov,p1,q,R3.out⟩,BB.out.trans b3⟩
set_option maxHeartbeats 3200000 in
set_option maxRecDepth 100000 in
theorem runDo3 {base :Nat} {w :World} {g gs gc :Nat} {fv hv ov :Value} {p q :Nat} {L :VmL} (h :RunV base w g gs gc fv hv ov p q L) (n m :Int) (cl :O3) (D :DoOk L ⟨3,n,m⟩ cl) :
  Calls Tryz.prog 149 #[.pointer (some ⟨g,0,none⟩), .agg #[.int .i64 3, .int .i64 n, .int .i64 m], .agg #[.int .i64 cl.c, .int .i64 cl.n, .int .i64 cl.m]] w fun e w'=> e= .returned (.int .i64 (doL L ⟨3,n,m⟩ cl).1)∧
   (∃gs' gc' hv' ov' p' q',RunV base w' g gs' gc' fv hv' ov' p' q' (doL L ⟨3,n,m⟩ cl).2)∧Below base w w' :=by
 obtain ⟨bn,hbn⟩ : ∃bn :Nat,cl.m=(bn :Int) :=⟨cl.m.toNat,by have :=D.cm;omega⟩
 obtain ⟨cc,cn,cm⟩ :=cl
 dsimp only at hbn
 subst hbn
 have hcm :=D.cm
 dsimp only at hcm
 have hss :=D.fits.s1
 obtain ⟨bj,hbj⟩ : ∃bj :Nat,bn-1=bj :=⟨_,rfl⟩
 have hjl :bj < L.ss.length :=by omega
 obtain ⟨self,hself⟩ : ∃self,L.ss.getD bj 0=self :=⟨_,rfl⟩
 have e1 :IntKind.i64.wrap ((bn :Int)-1)=(bj :Int) :=by rw [IntWalk.i64_in _ (by omega)];omega
 have e2 :IntKind.i64.wrap ((L.ss.length :Int)-(bn :Int))=(L.ss.length :Int)-(bn :Int) :=IntWalk.i64_in _ (by omega)
 have e3 :IntKind.i64.wrap ((L.ss.length :Int)-(bn :Int)-1)=(L.ss.length :Int)-(bn :Int)-1 :=IntWalk.i64_in _ (by omega)
 have HE :=Lib.hid (iEffect_lit 3 n m (by omega))
 have H0 :=Lib.hid h
 have DD :=Lib.hid D
 have hbs :=h.hb
 have hD :doL L ⟨3,n,m⟩ ⟨cc,cn,bn⟩ =if (L.ss.length :Int)-bn-1 < takesOf 3 m then (5,L) else kidL L self true n 0 :=by
  unfold doL
  dsimp only
  rw [show ((bn :Int)-1).toNat=bj by omega,hself]
  by_cases hc :(L.ss.length :Int)-bn-1 < takesOf 3 m
  ·rw [if_pos hc,if_pos hc]
  ·rw [if_neg hc,if_neg hc]
   simp
 obtain ⟨tk,htk⟩ : ∃tk,takesOf 3 m=tk :=⟨_,rfl⟩
 obtain ⟨pu,hpu⟩ : ∃pu,putsOf 3=pu :=⟨_,rfl⟩
 rw [htk,hpu] at HE
 rw [htk] at hD
 have HS :=Lib.hid (And.intro hself htk)
 clear h D hself htk hpu
 go_enter Tryz.func149,Tryz.ntmps149
 go_wp2_with fail
 generalize hxx :(w.alloc _).alloc _=x0
 obtain ⟨bx,k1,k2,sx⟩ :=alloc_box2 hxx
 clear hxx sx
 have r0 :=H0.out.below bx
 have bb :=bx.mono hbs
 have c1 :=own_cell r0.s bj hjl
 rw [List.getElem?_map,List.getElem?_eq_getElem hjl,Option.map_some,show L.ss[bj]=self by rw [← HS.out.1,List.getD_eq_getElem?_getD,List.getElem?_eq_getElem hjl];rfl] at c1
 have q5 :=r0.bx.2.1 5
 simp at q5
 have ck1 :=k1.2.1
 have yk1 :=k1.1
 have ck2 :=k2.2.1
 have yk2 :=k2.1
 go_quiet (fail)
 have s1 :Still x0 (x0.drewN nq) :=⟨nq,rfl⟩
 generalize x0.drewN nq=x1 at s1 ⊢
 replace r0 :=r0.still s1
 replace bb :=bb.trans (s1.below base)
 replace k1 :=k1.below (s1.below x0.heap.size) k1.1
 replace k2 :=k2.below (s1.below x0.heap.size) k2.1
 clear ck1 yk1 ck2 yk2 q5 c1 s1 bx
 have ck1 :=k1.2.1
 have yk1 :=k1.1
 go_wp2_with fail
 clear ck1 yk1
 refine (HE.out _).mono ?_
 rintro e w1 ⟨rfl,b1⟩
 replace bb :=bb.trans (b1.mono r0.hb)
 replace r0 :=r0.below b1
 replace k1 :=k1.below b1 k1.1
 replace k2 :=k2.below b1 k2.1
 have q5 :=r0.bx.2.1 5
 simp at q5
 have yg :=r0.bx.1
 have ck2 :=k2.2.1
 have yk2 :=k2.1
 go_wp2_with fail
 go_quiet (fail)
 have s1 :Still w1 (w1.drewN nq) :=⟨nq,rfl⟩
 generalize w1.drewN nq=w2 at s1 ⊢
 replace r0 :=r0.still s1
 replace bb :=bb.trans (s1.below base)
 replace k1 :=k1.below (s1.below w1.heap.size) k1.1
 replace k2 :=k2.below (s1.below w1.heap.size) k2.1
 clear ck2 yk2 q5 s1 b1 yg
 have ck1 :=k1.2.1
 have yk1 :=k1.1
 have ck2 :=k2.2.1
 have yk2 :=k2.1
 by_cases hlt :(L.ss.length :Int)-bn-1 < tk
 ·have HD :=Lib.hid (hD.trans (if_pos hlt))
  have R0 :=Lib.hid r0
  have BB :=Lib.hid bb
  clear hD r0 bb
  go_wp2
  go_ret
  rw [HD.out]
  exact ⟨rfl,⟨gs,gc,hv,ov,p,q,R0.out⟩,BB.out⟩
 ·have HD :=Lib.hid (hD.trans (if_neg hlt))
  have R0 :=Lib.hid r0
  have BB :=Lib.hid bb
  clear hD r0 bb
  obtain ⟨N,hN⟩ : ∃N :Nat,n=(N :Int) :=⟨n.toNat,by have :=DD.out.nn (by simp);dsimp only at this;omega⟩
  subst hN
  have hx :=DD.out.fits.s3 self (by rw [← HS.out.1,List.getD_eq_getElem?_getD,List.getElem?_eq_getElem hjl];exact List.getElem_mem _)
  go_wp2_with fail
  refine (free_any R0.out DD.out.fits self hx N).mono ?_
  rintro e w3 ⟨rfl,⟨gs1,p1,r3⟩,b3⟩
  have R3 :=Lib.hid r3
  clear r3
  go_wp2
  go_ret
  rw [HD.out]
  exact ⟨rfl,⟨gs1,gc,hv,ov,p1,q,R3.out⟩,BB.out.trans b3⟩
set_option maxHeartbeats 3200000 in
set_option maxRecDepth 100000 in
theorem runDo4 {base :Nat} {w :World} {g gs gc :Nat} {fv hv ov :Value} {p q :Nat} {L :VmL} (h :RunV base w g gs gc fv hv ov p q L) (n m :Int) (cl :O3) (D :DoOk L ⟨4,n,m⟩ cl) :
  Calls Tryz.prog 149 #[.pointer (some ⟨g,0,none⟩), .agg #[.int .i64 4, .int .i64 n, .int .i64 m], .agg #[.int .i64 cl.c, .int .i64 cl.n, .int .i64 cl.m]] w fun e w'=> e= .returned (.int .i64 (doL L ⟨4,n,m⟩ cl).1)∧
   (∃gs' gc' hv' ov' p' q',RunV base w' g gs' gc' fv hv' ov' p' q' (doL L ⟨4,n,m⟩ cl).2)∧Below base w w' :=by
 obtain ⟨bn,hbn⟩ : ∃bn :Nat,cl.m=(bn :Int) :=⟨cl.m.toNat,by have :=D.cm;omega⟩
 obtain ⟨cc,cn,cm⟩ :=cl
 dsimp only at hbn
 subst hbn
 have hcm :=D.cm
 dsimp only at hcm
 have hss :=D.fits.s1
 obtain ⟨bj,hbj⟩ : ∃bj :Nat,bn-1=bj :=⟨_,rfl⟩
 have hjl :bj < L.ss.length :=by omega
 obtain ⟨self,hself⟩ : ∃self,L.ss.getD bj 0=self :=⟨_,rfl⟩
 have e1 :IntKind.i64.wrap ((bn :Int)-1)=(bj :Int) :=by rw [IntWalk.i64_in _ (by omega)];omega
 have e2 :IntKind.i64.wrap ((L.ss.length :Int)-(bn :Int))=(L.ss.length :Int)-(bn :Int) :=IntWalk.i64_in _ (by omega)
 have e3 :IntKind.i64.wrap ((L.ss.length :Int)-(bn :Int)-1)=(L.ss.length :Int)-(bn :Int)-1 :=IntWalk.i64_in _ (by omega)
 have HE :=Lib.hid (iEffect_lit 4 n m (by omega))
 have H0 :=Lib.hid h
 have DD :=Lib.hid D
 have hbs :=h.hb
 have hD :doL L ⟨4,n,m⟩ ⟨cc,cn,bn⟩ =if (L.ss.length :Int)-bn-1 < takesOf 4 m then (5,L) else pushR L 0 self :=by
  unfold doL
  dsimp only
  rw [show ((bn :Int)-1).toNat=bj by omega,hself]
  by_cases hc :(L.ss.length :Int)-bn-1 < takesOf 4 m
  ·rw [if_pos hc,if_pos hc]
  ·rw [if_neg hc,if_neg hc]
   simp
 obtain ⟨tk,htk⟩ : ∃tk,takesOf 4 m=tk :=⟨_,rfl⟩
 obtain ⟨pu,hpu⟩ : ∃pu,putsOf 4=pu :=⟨_,rfl⟩
 rw [htk,hpu] at HE
 rw [htk] at hD
 have HS :=Lib.hid (And.intro hself htk)
 clear h D hself htk hpu
 go_enter Tryz.func149,Tryz.ntmps149
 go_wp2_with fail
 generalize hxx :(w.alloc _).alloc _=x0
 obtain ⟨bx,k1,k2,sx⟩ :=alloc_box2 hxx
 clear hxx sx
 have r0 :=H0.out.below bx
 have bb :=bx.mono hbs
 have c1 :=own_cell r0.s bj hjl
 rw [List.getElem?_map,List.getElem?_eq_getElem hjl,Option.map_some,show L.ss[bj]=self by rw [← HS.out.1,List.getD_eq_getElem?_getD,List.getElem?_eq_getElem hjl];rfl] at c1
 have q5 :=r0.bx.2.1 5
 simp at q5
 have ck1 :=k1.2.1
 have yk1 :=k1.1
 have ck2 :=k2.2.1
 have yk2 :=k2.1
 go_quiet (fail)
 have s1 :Still x0 (x0.drewN nq) :=⟨nq,rfl⟩
 generalize x0.drewN nq=x1 at s1 ⊢
 replace r0 :=r0.still s1
 replace bb :=bb.trans (s1.below base)
 replace k1 :=k1.below (s1.below x0.heap.size) k1.1
 replace k2 :=k2.below (s1.below x0.heap.size) k2.1
 clear ck1 yk1 ck2 yk2 q5 c1 s1 bx
 have ck1 :=k1.2.1
 have yk1 :=k1.1
 go_wp2_with fail
 clear ck1 yk1
 refine (HE.out _).mono ?_
 rintro e w1 ⟨rfl,b1⟩
 replace bb :=bb.trans (b1.mono r0.hb)
 replace r0 :=r0.below b1
 replace k1 :=k1.below b1 k1.1
 replace k2 :=k2.below b1 k2.1
 have q5 :=r0.bx.2.1 5
 simp at q5
 have yg :=r0.bx.1
 have ck2 :=k2.2.1
 have yk2 :=k2.1
 go_wp2_with fail
 go_quiet (fail)
 have s1 :Still w1 (w1.drewN nq) :=⟨nq,rfl⟩
 generalize w1.drewN nq=w2 at s1 ⊢
 replace r0 :=r0.still s1
 replace bb :=bb.trans (s1.below base)
 replace k1 :=k1.below (s1.below w1.heap.size) k1.1
 replace k2 :=k2.below (s1.below w1.heap.size) k2.1
 clear ck2 yk2 q5 s1 b1 yg
 have ck1 :=k1.2.1
 have yk1 :=k1.1
 have ck2 :=k2.2.1
 have yk2 :=k2.1
 by_cases hlt :(L.ss.length :Int)-bn-1 < tk
 ·have HD :=Lib.hid (hD.trans (if_pos hlt))
  have R0 :=Lib.hid r0
  have BB :=Lib.hid bb
  clear hD r0 bb
  go_wp2
  go_ret
  rw [HD.out]
  exact ⟨rfl,⟨gs,gc,hv,ov,p,q,R0.out⟩,BB.out⟩
 ·have HD :=Lib.hid (hD.trans (if_neg hlt))
  have R0 :=Lib.hid r0
  have BB :=Lib.hid bb
  clear hD r0 bb
  go_wp2_with fail
  refine (push_any R0.out DD.out.fits.z0 (by have :=DD.out.fits.s1;omega) 0 (Nat.zero_le _) _).mono ?_
  rintro e w3 ⟨rfl,⟨gs1,p1,r3⟩,b3⟩
  have R3 :=Lib.hid r3
  clear r3
  go_wp2
  go_ret
  rw [HD.out]
  exact ⟨rfl,⟨gs1,gc,hv,ov,p1,q,R3.out⟩,BB.out.trans b3⟩
set_option maxHeartbeats 3200000 in
set_option maxRecDepth 100000 in
theorem runDo5 {base :Nat} {w :World} {g gs gc :Nat} {fv hv ov :Value} {p q :Nat} {L :VmL} (h :RunV base w g gs gc fv hv ov p q L) (n m :Int) (cl :O3) (D :DoOk L ⟨5,n,m⟩ cl) :
  Calls Tryz.prog 149 #[.pointer (some ⟨g,0,none⟩), .agg #[.int .i64 5, .int .i64 n, .int .i64 m], .agg #[.int .i64 cl.c, .int .i64 cl.n, .int .i64 cl.m]] w fun e w'=> e= .returned (.int .i64 (doL L ⟨5,n,m⟩ cl).1)∧
   (∃gs' gc' hv' ov' p' q',RunV base w' g gs' gc' fv hv' ov' p' q' (doL L ⟨5,n,m⟩ cl).2)∧Below base w w' :=by
 obtain ⟨bn,hbn⟩ : ∃bn :Nat,cl.m=(bn :Int) :=⟨cl.m.toNat,by have :=D.cm;omega⟩
 obtain ⟨cc,cn,cm⟩ :=cl
 dsimp only at hbn
 subst hbn
 have hcm :=D.cm
 dsimp only at hcm
 have hss :=D.fits.s1
 obtain ⟨bj,hbj⟩ : ∃bj :Nat,bn-1=bj :=⟨_,rfl⟩
 have hjl :bj < L.ss.length :=by omega
 obtain ⟨self,hself⟩ : ∃self,L.ss.getD bj 0=self :=⟨_,rfl⟩
 have e1 :IntKind.i64.wrap ((bn :Int)-1)=(bj :Int) :=by rw [IntWalk.i64_in _ (by omega)];omega
 have e2 :IntKind.i64.wrap ((L.ss.length :Int)-(bn :Int))=(L.ss.length :Int)-(bn :Int) :=IntWalk.i64_in _ (by omega)
 have e3 :IntKind.i64.wrap ((L.ss.length :Int)-(bn :Int)-1)=(L.ss.length :Int)-(bn :Int)-1 :=IntWalk.i64_in _ (by omega)
 have HE :=Lib.hid (iEffect_lit 5 n m (by omega))
 have H0 :=Lib.hid h
 have DD :=Lib.hid D
 have hbs :=h.hb
 have hD :doL L ⟨5,n,m⟩ ⟨cc,cn,bn⟩ =if (L.ss.length :Int)-bn-1 < takesOf 5 m then (5,L) else makeL L true n m.toNat :=by
  unfold doL
  dsimp only
  rw [show ((bn :Int)-1).toNat=bj by omega,hself]
  by_cases hc :(L.ss.length :Int)-bn-1 < takesOf 5 m
  ·rw [if_pos hc,if_pos hc]
  ·rw [if_neg hc,if_neg hc]
   simp
 obtain ⟨tk,htk⟩ : ∃tk,takesOf 5 m=tk :=⟨_,rfl⟩
 obtain ⟨pu,hpu⟩ : ∃pu,putsOf 5=pu :=⟨_,rfl⟩
 rw [htk,hpu] at HE
 rw [htk] at hD
 have HS :=Lib.hid (And.intro hself htk)
 clear h D hself htk hpu
 go_enter Tryz.func149,Tryz.ntmps149
 go_wp2_with fail
 generalize hxx :(w.alloc _).alloc _=x0
 obtain ⟨bx,k1,k2,sx⟩ :=alloc_box2 hxx
 clear hxx sx
 have r0 :=H0.out.below bx
 have bb :=bx.mono hbs
 have c1 :=own_cell r0.s bj hjl
 rw [List.getElem?_map,List.getElem?_eq_getElem hjl,Option.map_some,show L.ss[bj]=self by rw [← HS.out.1,List.getD_eq_getElem?_getD,List.getElem?_eq_getElem hjl];rfl] at c1
 have q5 :=r0.bx.2.1 5
 simp at q5
 have ck1 :=k1.2.1
 have yk1 :=k1.1
 have ck2 :=k2.2.1
 have yk2 :=k2.1
 go_quiet (fail)
 have s1 :Still x0 (x0.drewN nq) :=⟨nq,rfl⟩
 generalize x0.drewN nq=x1 at s1 ⊢
 replace r0 :=r0.still s1
 replace bb :=bb.trans (s1.below base)
 replace k1 :=k1.below (s1.below x0.heap.size) k1.1
 replace k2 :=k2.below (s1.below x0.heap.size) k2.1
 clear ck1 yk1 ck2 yk2 q5 c1 s1 bx
 have ck1 :=k1.2.1
 have yk1 :=k1.1
 go_wp2_with fail
 clear ck1 yk1
 refine (HE.out _).mono ?_
 rintro e w1 ⟨rfl,b1⟩
 replace bb :=bb.trans (b1.mono r0.hb)
 replace r0 :=r0.below b1
 replace k1 :=k1.below b1 k1.1
 replace k2 :=k2.below b1 k2.1
 have q5 :=r0.bx.2.1 5
 simp at q5
 have yg :=r0.bx.1
 have ck2 :=k2.2.1
 have yk2 :=k2.1
 go_wp2_with fail
 go_quiet (fail)
 have s1 :Still w1 (w1.drewN nq) :=⟨nq,rfl⟩
 generalize w1.drewN nq=w2 at s1 ⊢
 replace r0 :=r0.still s1
 replace bb :=bb.trans (s1.below base)
 replace k1 :=k1.below (s1.below w1.heap.size) k1.1
 replace k2 :=k2.below (s1.below w1.heap.size) k2.1
 clear ck2 yk2 q5 s1 b1 yg
 have ck1 :=k1.2.1
 have yk1 :=k1.1
 have ck2 :=k2.2.1
 have yk2 :=k2.1
 by_cases hlt :(L.ss.length :Int)-bn-1 < tk
 ·have HD :=Lib.hid (hD.trans (if_pos hlt))
  have R0 :=Lib.hid r0
  have BB :=Lib.hid bb
  clear hD r0 bb
  go_wp2
  go_ret
  rw [HD.out]
  exact ⟨rfl,⟨gs,gc,hv,ov,p,q,R0.out⟩,BB.out⟩
 ·have HD :=Lib.hid (hD.trans (if_neg hlt))
  have R0 :=Lib.hid r0
  have BB :=Lib.hid bb
  clear hD r0 bb
  obtain ⟨k,hk⟩ : ∃k :Nat,m=(k :Int) :=⟨m.toNat,by have :=DD.out.m0;dsimp only at this;omega⟩
  subst hk
  have htk :tk=(k :Int) :=by rw [← HS.out.2];rfl
  have hn :=DD.out.nn (by simp)
  have hm :=DD.out.mm (by simp)
  dsimp only at hn hm
  have HM :=Lib.hid (runMake_any R0.out true n k hn.1 hn.2 (by omega) (Right.mkOk DD.out.fits DD.out.right (by omega) (by omega)) DD.out.right)
  clear hn hm htk
  go_wp2_with fail
  refine (HM.out).mono ?_
  rintro e w3 ⟨rfl,⟨gs1,gc1,hv1,p1,q1,r3⟩,b3⟩
  have R3 :=Lib.hid r3
  clear r3
  go_wp2
  go_ret
  rw [HD.out]
  exact ⟨rfl,⟨gs1,gc1,hv1,ov,p1,q1,R3.out⟩,BB.out.trans b3⟩
set_option maxHeartbeats 3200000 in
set_option maxRecDepth 100000 in
theorem runDo8 {base :Nat} {w :World} {g gs gc :Nat} {fv hv ov :Value} {p q :Nat} {L :VmL} (h :RunV base w g gs gc fv hv ov p q L) (n m :Int) (cl :O3) (D :DoOk L ⟨8,n,m⟩ cl) :
  Calls Tryz.prog 149 #[.pointer (some ⟨g,0,none⟩), .agg #[.int .i64 8, .int .i64 n, .int .i64 m], .agg #[.int .i64 cl.c, .int .i64 cl.n, .int .i64 cl.m]] w fun e w'=> e= .returned (.int .i64 (doL L ⟨8,n,m⟩ cl).1)∧
   (∃gs' gc' hv' ov' p' q',RunV base w' g gs' gc' fv hv' ov' p' q' (doL L ⟨8,n,m⟩ cl).2)∧Below base w w' :=by
 obtain ⟨bn,hbn⟩ : ∃bn :Nat,cl.m=(bn :Int) :=⟨cl.m.toNat,by have :=D.cm;omega⟩
 obtain ⟨cc,cn,cm⟩ :=cl
 dsimp only at hbn
 subst hbn
 have hcm :=D.cm
 dsimp only at hcm
 have hss :=D.fits.s1
 obtain ⟨bj,hbj⟩ : ∃bj :Nat,bn-1=bj :=⟨_,rfl⟩
 have hjl :bj < L.ss.length :=by omega
 obtain ⟨self,hself⟩ : ∃self,L.ss.getD bj 0=self :=⟨_,rfl⟩
 have e1 :IntKind.i64.wrap ((bn :Int)-1)=(bj :Int) :=by rw [IntWalk.i64_in _ (by omega)];omega
 have e2 :IntKind.i64.wrap ((L.ss.length :Int)-(bn :Int))=(L.ss.length :Int)-(bn :Int) :=IntWalk.i64_in _ (by omega)
 have e3 :IntKind.i64.wrap ((L.ss.length :Int)-(bn :Int)-1)=(L.ss.length :Int)-(bn :Int)-1 :=IntWalk.i64_in _ (by omega)
 have HE :=Lib.hid (iEffect_lit 8 n m (by omega))
 have H0 :=Lib.hid h
 have DD :=Lib.hid D
 have hbs :=h.hb
 have hD :doL L ⟨8,n,m⟩ ⟨cc,cn,bn⟩ =if (L.ss.length :Int)-bn-1 < takesOf 8 m then (5,L) else makeL L false n m.toNat :=by
  unfold doL
  dsimp only
  rw [show ((bn :Int)-1).toNat=bj by omega,hself]
  by_cases hc :(L.ss.length :Int)-bn-1 < takesOf 8 m
  ·rw [if_pos hc,if_pos hc]
  ·rw [if_neg hc,if_neg hc]
   simp
 obtain ⟨tk,htk⟩ : ∃tk,takesOf 8 m=tk :=⟨_,rfl⟩
 obtain ⟨pu,hpu⟩ : ∃pu,putsOf 8=pu :=⟨_,rfl⟩
 rw [htk,hpu] at HE
 rw [htk] at hD
 have HS :=Lib.hid (And.intro hself htk)
 clear h D hself htk hpu
 go_enter Tryz.func149,Tryz.ntmps149
 go_wp2_with fail
 generalize hxx :(w.alloc _).alloc _=x0
 obtain ⟨bx,k1,k2,sx⟩ :=alloc_box2 hxx
 clear hxx sx
 have r0 :=H0.out.below bx
 have bb :=bx.mono hbs
 have c1 :=own_cell r0.s bj hjl
 rw [List.getElem?_map,List.getElem?_eq_getElem hjl,Option.map_some,show L.ss[bj]=self by rw [← HS.out.1,List.getD_eq_getElem?_getD,List.getElem?_eq_getElem hjl];rfl] at c1
 have q5 :=r0.bx.2.1 5
 simp at q5
 have ck1 :=k1.2.1
 have yk1 :=k1.1
 have ck2 :=k2.2.1
 have yk2 :=k2.1
 go_quiet (fail)
 have s1 :Still x0 (x0.drewN nq) :=⟨nq,rfl⟩
 generalize x0.drewN nq=x1 at s1 ⊢
 replace r0 :=r0.still s1
 replace bb :=bb.trans (s1.below base)
 replace k1 :=k1.below (s1.below x0.heap.size) k1.1
 replace k2 :=k2.below (s1.below x0.heap.size) k2.1
 clear ck1 yk1 ck2 yk2 q5 c1 s1 bx
 have ck1 :=k1.2.1
 have yk1 :=k1.1
 go_wp2_with fail
 clear ck1 yk1
 refine (HE.out _).mono ?_
 rintro e w1 ⟨rfl,b1⟩
 replace bb :=bb.trans (b1.mono r0.hb)
 replace r0 :=r0.below b1
 replace k1 :=k1.below b1 k1.1
 replace k2 :=k2.below b1 k2.1
 have q5 :=r0.bx.2.1 5
 simp at q5
 have yg :=r0.bx.1
 have ck2 :=k2.2.1
 have yk2 :=k2.1
 go_wp2_with fail
 go_quiet (fail)
 have s1 :Still w1 (w1.drewN nq) :=⟨nq,rfl⟩
 generalize w1.drewN nq=w2 at s1 ⊢
 replace r0 :=r0.still s1
 replace bb :=bb.trans (s1.below base)
 replace k1 :=k1.below (s1.below w1.heap.size) k1.1
 replace k2 :=k2.below (s1.below w1.heap.size) k2.1
 clear ck2 yk2 q5 s1 b1 yg
 have ck1 :=k1.2.1
 have yk1 :=k1.1
 have ck2 :=k2.2.1
 have yk2 :=k2.1
 by_cases hlt :(L.ss.length :Int)-bn-1 < tk
 ·have HD :=Lib.hid (hD.trans (if_pos hlt))
  have R0 :=Lib.hid r0
  have BB :=Lib.hid bb
  clear hD r0 bb
  go_wp2
  go_ret
  rw [HD.out]
  exact ⟨rfl,⟨gs,gc,hv,ov,p,q,R0.out⟩,BB.out⟩
 ·have HD :=Lib.hid (hD.trans (if_neg hlt))
  have R0 :=Lib.hid r0
  have BB :=Lib.hid bb
  clear hD r0 bb
  obtain ⟨k,hk⟩ : ∃k :Nat,m=(k :Int) :=⟨m.toNat,by have :=DD.out.m0;dsimp only at this;omega⟩
  subst hk
  have htk :tk=(k :Int) :=by rw [← HS.out.2];rfl
  have hn :=DD.out.nn (by simp)
  have hm :=DD.out.mm (by simp)
  dsimp only at hn hm
  have HM :=Lib.hid (runMake_any R0.out false n k hn.1 hn.2 (by omega) (Right.mkOk DD.out.fits DD.out.right (by omega) (by omega)) DD.out.right)
  clear hn hm htk
  go_wp2_with fail
  refine (HM.out).mono ?_
  rintro e w3 ⟨rfl,⟨gs1,gc1,hv1,p1,q1,r3⟩,b3⟩
  have R3 :=Lib.hid r3
  clear r3
  go_wp2
  go_ret
  rw [HD.out]
  exact ⟨rfl,⟨gs1,gc1,hv1,ov,p1,q1,R3.out⟩,BB.out.trans b3⟩
set_option maxHeartbeats 3200000 in
set_option maxRecDepth 100000 in
theorem runDo6 {base :Nat} {w :World} {g gs gc :Nat} {fv hv ov :Value} {p q :Nat} {L :VmL} (h :RunV base w g gs gc fv hv ov p q L) (n m :Int) (cl :O3) (D :DoOk L ⟨6,n,m⟩ cl) :
  Calls Tryz.prog 149 #[.pointer (some ⟨g,0,none⟩), .agg #[.int .i64 6, .int .i64 n, .int .i64 m], .agg #[.int .i64 cl.c, .int .i64 cl.n, .int .i64 cl.m]] w fun e w'=> e= .returned (.int .i64 (doL L ⟨6,n,m⟩ cl).1)∧
   (∃gs' gc' hv' ov' p' q',RunV base w' g gs' gc' fv hv' ov' p' q' (doL L ⟨6,n,m⟩ cl).2)∧Below base w w' :=by
 obtain ⟨bn,hbn⟩ : ∃bn :Nat,cl.m=(bn :Int) :=⟨cl.m.toNat,by have :=D.cm;omega⟩
 obtain ⟨cc,cn,cm⟩ :=cl
 dsimp only at hbn
 subst hbn
 have hcm :=D.cm
 dsimp only at hcm
 have hss :=D.fits.s1
 obtain ⟨bj,hbj⟩ : ∃bj :Nat,bn-1=bj :=⟨_,rfl⟩
 have hjl :bj < L.ss.length :=by omega
 obtain ⟨self,hself⟩ : ∃self,L.ss.getD bj 0=self :=⟨_,rfl⟩
 have e1 :IntKind.i64.wrap ((bn :Int)-1)=(bj :Int) :=by rw [IntWalk.i64_in _ (by omega)];omega
 have e2 :IntKind.i64.wrap ((L.ss.length :Int)-(bn :Int))=(L.ss.length :Int)-(bn :Int) :=IntWalk.i64_in _ (by omega)
 have e3 :IntKind.i64.wrap ((L.ss.length :Int)-(bn :Int)-1)=(L.ss.length :Int)-(bn :Int)-1 :=IntWalk.i64_in _ (by omega)
 have HE :=Lib.hid (iEffect_lit 6 n m (by omega))
 have H0 :=Lib.hid h
 have DD :=Lib.hid D
 have hbs :=h.hb
 have hD :doL L ⟨6,n,m⟩ ⟨cc,cn,bn⟩ =if (L.ss.length :Int)-bn-1 < takesOf 6 m then (5,L) else callL L :=by
  unfold doL
  dsimp only
  rw [show ((bn :Int)-1).toNat=bj by omega,hself]
  by_cases hc :(L.ss.length :Int)-bn-1 < takesOf 6 m
  ·rw [if_pos hc,if_pos hc]
  ·rw [if_neg hc,if_neg hc]
   simp
 obtain ⟨tk,htk⟩ : ∃tk,takesOf 6 m=tk :=⟨_,rfl⟩
 obtain ⟨pu,hpu⟩ : ∃pu,putsOf 6=pu :=⟨_,rfl⟩
 rw [htk,hpu] at HE
 rw [htk] at hD
 have HS :=Lib.hid (And.intro hself htk)
 clear h D hself htk hpu
 go_enter Tryz.func149,Tryz.ntmps149
 go_wp2_with fail
 generalize hxx :(w.alloc _).alloc _=x0
 obtain ⟨bx,k1,k2,sx⟩ :=alloc_box2 hxx
 clear hxx sx
 have r0 :=H0.out.below bx
 have bb :=bx.mono hbs
 have c1 :=own_cell r0.s bj hjl
 rw [List.getElem?_map,List.getElem?_eq_getElem hjl,Option.map_some,show L.ss[bj]=self by rw [← HS.out.1,List.getD_eq_getElem?_getD,List.getElem?_eq_getElem hjl];rfl] at c1
 have q5 :=r0.bx.2.1 5
 simp at q5
 have ck1 :=k1.2.1
 have yk1 :=k1.1
 have ck2 :=k2.2.1
 have yk2 :=k2.1
 go_quiet (fail)
 have s1 :Still x0 (x0.drewN nq) :=⟨nq,rfl⟩
 generalize x0.drewN nq=x1 at s1 ⊢
 replace r0 :=r0.still s1
 replace bb :=bb.trans (s1.below base)
 replace k1 :=k1.below (s1.below x0.heap.size) k1.1
 replace k2 :=k2.below (s1.below x0.heap.size) k2.1
 clear ck1 yk1 ck2 yk2 q5 c1 s1 bx
 have ck1 :=k1.2.1
 have yk1 :=k1.1
 go_wp2_with fail
 clear ck1 yk1
 refine (HE.out _).mono ?_
 rintro e w1 ⟨rfl,b1⟩
 replace bb :=bb.trans (b1.mono r0.hb)
 replace r0 :=r0.below b1
 replace k1 :=k1.below b1 k1.1
 replace k2 :=k2.below b1 k2.1
 have q5 :=r0.bx.2.1 5
 simp at q5
 have yg :=r0.bx.1
 have ck2 :=k2.2.1
 have yk2 :=k2.1
 go_wp2_with fail
 go_quiet (fail)
 have s1 :Still w1 (w1.drewN nq) :=⟨nq,rfl⟩
 generalize w1.drewN nq=w2 at s1 ⊢
 replace r0 :=r0.still s1
 replace bb :=bb.trans (s1.below base)
 replace k1 :=k1.below (s1.below w1.heap.size) k1.1
 replace k2 :=k2.below (s1.below w1.heap.size) k2.1
 clear ck2 yk2 q5 s1 b1 yg
 have ck1 :=k1.2.1
 have yk1 :=k1.1
 have ck2 :=k2.2.1
 have yk2 :=k2.1
 by_cases hlt :(L.ss.length :Int)-bn-1 < tk
 ·have HD :=Lib.hid (hD.trans (if_pos hlt))
  have R0 :=Lib.hid r0
  have BB :=Lib.hid bb
  clear hD r0 bb
  go_wp2
  go_ret
  rw [HD.out]
  exact ⟨rfl,⟨gs,gc,hv,ov,p,q,R0.out⟩,BB.out⟩
 ·have HD :=Lib.hid (hD.trans (if_neg hlt))
  have R0 :=Lib.hid r0
  have BB :=Lib.hid bb
  clear hD r0 bb
  have htk :tk=2 :=by rw [← HS.out.2];rfl
  have HM :=Lib.hid (runCall_any R0.out DD.out.fits (by omega) DD.out.cl.2)
  clear htk
  go_wp2_with fail
  refine (HM.out).mono ?_
  rintro e w3 ⟨rfl,⟨gc1,q1,r3⟩,b3⟩
  have R3 :=Lib.hid r3
  clear r3
  go_wp2
  go_ret
  rw [HD.out]
  exact ⟨rfl,⟨gs,gc1,hv,ov,p,q1,R3.out⟩,BB.out.trans b3⟩
end Go.Proofs.YtfmebaafpfkeiaaGreat
end
