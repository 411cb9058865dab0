/- Parts of the proof of FnNoRoom. -/
import Derived.Test.YtfmebaafpfkeiaaGreatZ19
import Derived.Test.YtfmebaafpfkeiaaGreatZ13
import Derived.BigQuiet
import Derived.Test.YtfmebaafpfkeiaaGreatZ18
set_option linter.unusedVariables false
set_option linter.unusedSimpArgs false
section
namespace Go.Proofs.YtfmebaafpfkeiaaGreat
open Go.RowKit
theorem RunV.still {base :Nat} {w w' :World} {g gs gc :Nat} {fv hv ov :Value} {p q :Nat} {L :VmL} (h :RunV base w g gs gc fv hv ov p q L) (hs :Still w w') :RunV base w' g gs gc fv hv ov p q L :=h.below (hs.below _)
set_option maxHeartbeats 1600000 in
set_option maxRecDepth 100000 in
theorem last_any {base :Nat} {w :World} {g gs gc :Nat} {fv hv ov :Value} {p q :Nat} {L :VmL} (h :RunV base w g gs gc fv hv ov p q L) (hl :L.ss.length≤4294967296) (k :Nat) (hk :k < L.ss.length) :
  Calls Tryz.prog 238 #[.pointer (some ⟨g,0,none⟩), .int .i64 k] w fun e w'=> e= .returned (.int .i64 (lastW L.ss k))∧Still w w' :=by
 have q5 :=h.bx.2.1 5
 simp at q5
 obtain ⟨j,hj⟩ : ∃j,L.ss.length-1-k=j :=⟨_,rfl⟩
 have hjl :j < L.ss.length :=by omega
 have c1 :=own_cell h.s j hjl
 rw [List.getElem?_map,List.getElem?_eq_getElem hjl,Option.map_some] at c1
 have hw :lastW L.ss k=L.ss[j] :=by unfold lastW;rw [hj,List.getD_eq_getElem?_getD,List.getElem?_eq_getElem hjl];rfl
 have e1 :IntKind.i64.wrap ((L.ss.length :Int)-1)=((L.ss.length-1 :Nat) :Int) :=by rw [IntWalk.i64_in _ (by omega)];omega
 have e2 :IntKind.i64.wrap (((L.ss.length-1 :Nat) :Int)-(k :Int))=(j :Int) :=by rw [IntWalk.i64_in _ (by omega)];omega
 have hz :(L.ss.length :Int)-1-(k :Int)=(j :Int) :=by omega
 rw [hw]
 clear h
 go_enter Tryz.func238,Tryz.ntmps238
 go_wp2_with fail
 go_quiet (fail)
 go_wp2
 go_ret
 exact ⟨rfl,_,rfl⟩
def BkAt (L :VmL) (x :Int) :Prop :=x%2=0→0≤x∧hOk (L.zs.getD (x/2).toNat 0)=true∧(x/2).toNat+1+hK (L.zs.getD (x/2).toNat 0)≤L.zs.length
set_option maxHeartbeats 1600000 in
set_option maxRecDepth 100000 in
theorem block_any {base :Nat} {w :World} {g gs gc :Nat} {fv hv ov :Value} {p q :Nat} {L :VmL} (h :RunV base w g gs gc fv hv ov p q L) (hl :L.zs.length≤6000) (hw :intsOk L.zs) (x :Int) (f :Bool) (hx :BkAt L x) :
  Calls Tryz.prog 305 #[.pointer (some ⟨g,0,none⟩), .int .i64 x, .bool f] w fun e w'=> ∃tg u,e= .returned (.tuple #[.int .i64 tg,u, .bool (isBlk L.zs x f)])∧
   (isBlk L.zs x f=true→tg=tagAt L.zs x∧Rd w'.heap.size .i64 w' u (kidsOf L.zs x))∧RunV base w' g gs gc fv hv ov p q L∧Below w.heap.size w w' :=by
 by_cases hev :x%2=0
 ·obtain ⟨x0,x1,x2⟩ :=hx hev
  have q1 :=h.bx.2.1 1
  have q2 :=h.bx.2.1 2
  have q3 :=h.bx.2.1 3
  have q4 :=h.bx.2.1 4
  simp at q1 q2 q3 q4
  have hI :=iIsRef_any x
  rw [show (x%2==0)=true by simp [hev]] at hI
  have hR :=iWordRef_any x
  rw [show x/2=(((x/2).toNat :Nat) :Int) by omega] at hR
  have HI :=Lib.hid hI
  have HR :=Lib.hid hR
  obtain ⟨P,hP⟩ : ∃P,(x/2).toNat=P :=⟨_,rfl⟩
  have hbk :isBlk L.zs x f=(hFun (L.zs.getD P 0)==f) :=by simp [isBlk,hev,hP]
  have htg :tagAt L.zs x=hTag (L.zs.getD P 0) :=by simp [tagAt,hP]
  have hks :kidsOf L.zs x=kidsAt L.zs P :=by simp [kidsOf,hP]
  rw [hP] at x1 x2 hR
  have HB :=Lib.hid (fun (W :World) (hb :Below w.heap.size w W)=> blockAt_any hv L.zs L.h L.b L.n P W (h.below hb).z hw x1 x2 (by omega))
  have HH :=Lib.hid h
  have HE :=Lib.hid (And.intro hbk (And.intro htg hks))
  rw [hP] at HR
  obtain ⟨ha,hc,rfl⟩ :=h.z.form
  have hbx :=h.bx.1
  clear h hx hI hR x1 x2 hbk htg hks hP
  go_enter Tryz.func305,Tryz.ntmps305
  go_wp2_with fail
  refine (HI.out _).mono ?_
  rintro e w1 ⟨rfl,rfl⟩
  go_wp2_with fail
  refine wp_region_held_drew (S :=(fun w'=> w'.cell? ⟨g,1,none⟩ =some (.slice ha L.zs.length hc)∧w'.cell? ⟨g,2,none⟩ =some (.int .i64 L.h)∧w'.cell? ⟨g,3,none⟩ =some (.int .i64 L.b)∧w'.cell? ⟨g,4,none⟩ =some (.int .i64 L.n))) (by kernel_rfl) (by first | (dsimp only;exact ⟨q1,q2,q3,q4⟩) | (exact ⟨q1,q2,q3,q4⟩)) (fun hHeld=> ?_)
  refine tkH (i :=0) ?_
  refine tkH (i :=1) ?_
  refine tkH (i :=2) ?_
  refine tkH (i :=3) ?_
  refine tkH (i :=4) ?_
  refine tkH (i :=5) ?_
  refine rdH (i :=6) (fun K hK=> ?_)
  go_simp
  refine (HR.out _).mono ?_
  rintro e w1 ⟨rfl,rfl⟩
  refine bkH hK (by first | (dsimp only;exact hHeld) | (exact hHeld)) (fun hHeld=> ?_)
  clear hK K
  generalize hxd :w.drew=x0 at hHeld
  have hd :Below w.heap.size w x0 :=by rw [← hxd];exact (Below.refl _ _).drew
  clear hxd
  refine rdH (i :=7) (fun K hK=> ?_)
  go_simp
  refine (HB.out _ hd).mono ?_
  rintro e w1 ⟨u,rfl,ru,b1⟩
  refine bkH hK (by first | (dsimp only;exact ⟨(b1.cell (Nat.lt_of_lt_of_le hbx hd.size)).trans hHeld.1,(b1.cell (Nat.lt_of_lt_of_le hbx hd.size)).trans hHeld.2.1,(b1.cell (Nat.lt_of_lt_of_le hbx hd.size)).trans hHeld.2.2.1,(b1.cell (Nat.lt_of_lt_of_le hbx hd.size)).trans hHeld.2.2.2⟩) | (exact ⟨(b1.cell (Nat.lt_of_lt_of_le hbx hd.size)).trans hHeld.1,(b1.cell (Nat.lt_of_lt_of_le hbx hd.size)).trans hHeld.2.1,(b1.cell (Nat.lt_of_lt_of_le hbx hd.size)).trans hHeld.2.2.1,(b1.cell (Nat.lt_of_lt_of_le hbx hd.size)).trans hHeld.2.2.2⟩)) (fun hHeld=> ?_)
  clear hK K
  refine tkH (i :=8) ?_
  refine tkH (i :=9) ?_
  refine tkH (i :=10) ?_
  refine tkH (i :=11) ?_
  refine tkH (i :=12) ?_
  refine tkH (i :=13) ?_
  refine tkH (i :=14) ?_
  refine wpAnyH_done (by kernel_rfl) ?_ _
  obtain ⟨ua,uc,rfl⟩ :=ru.form
  go_wp2
  go_ret3
  obtain ⟨e1,e2,e3⟩ :=HE.out
  rw [e1,e2,e3]
  exact ⟨_,_,rfl,fun _=> ⟨rfl,ru.mono (by have :=b1.size;omega)⟩,HH.out.below (hd.trans (b1.mono hd.size)),hd.trans (b1.mono hd.size)⟩
 ·have hI :=iIsRef_any x
  rw [show (x%2==0)=false by simp [hev]] at hI
  have HI :=Lib.hid hI
  have HE :=Lib.hid (show isBlk L.zs x f=false by simp [isBlk,hev])
  have HH :=Lib.hid h
  clear h hx hI
  go_enter Tryz.func305,Tryz.ntmps305
  go_wp2_with fail
  refine (HI.out _).mono ?_
  rintro e w1 ⟨rfl,rfl⟩
  go_wp2
  go_ret3
  rw [HE.out]
  exact ⟨_,_,rfl,fun h=> (by cases h),HH.out,Below.refl _ _⟩
end Go.Proofs.YtfmebaafpfkeiaaGreat
end
section
namespace Go.Proofs.YtfmebaafpfkeiaaGreat
open Go.RowKit
structure Fits (L :VmL) :Prop where
 z0 :L.zs≠ []
 z1 :L.zs.length≤6000
 z2 :intsOk L.zs
 s1 :L.ss.length≤600
 s2 : ∀x∈L.ss,x%2≠0→ -1073741824≤x/2∧x/2≤1073741823
 s3 : ∀x∈L.ss,BkAt L x
theorem last_mem {ss :List Int} {k :Nat} (hk :k < ss.length) :lastW ss k∈ss :=by
 unfold lastW
 rw [List.getD_eq_getElem?_getD,List.getElem?_eq_getElem (show ss.length-1-k < ss.length by omega)]
 exact List.getElem_mem _
theorem Fits.sl {L :VmL} (h :Fits L) :L.ss.length≤4294967296 :=by have :=h.s1;omega
set_option maxHeartbeats 1600000 in
set_option maxRecDepth 100000 in
theorem free_any {base :Nat} {w :World} {g gs gc :Nat} {fv hv ov :Value} {p q :Nat} {L :VmL} (h :RunV base w g gs gc fv hv ov p q L) (hf :Fits L) (x :Int) (hx :BkAt L x) (n :Nat) :
  Calls Tryz.prog 232 #[.pointer (some ⟨g,0,none⟩), .int .i64 x, .int .i64 n] w fun e w'=> e= .returned (.int .i64 (kidL L x true n 0).1)∧
   (∃gs' p',RunV base w' g gs' gc fv hv ov p' q (kidL L x true n 0).2)∧Below base w w' :=by
 have HB :=Lib.hid (block_any h hf.z1 hf.z2 x true hx)
 have HP :=Lib.hid (fun (W :World) (hW :RunV base W g gs gc fv hv ov p q L) (y :Int)=> push_any hW hf.z0 hf.sl 0 (Nat.zero_le _) y)
 have hb :=h.hb
 have hzl :=hf.z1
 clear h hf hx
 go_enter Tryz.func232,Tryz.ntmps232
 go_wp2_with fail
 refine HB.out.mono ?_
 rintro e w1 ⟨tg,u,rfl,hu,r1,b1⟩
 have hbb :=b1.mono hb
 by_cases hk :isBlk L.zs x true=true
 ·obtain ⟨rfl,ru⟩ :=hu hk
  obtain ⟨ua,uc,rfl⟩ :=ru.form
  rw [hk]
  by_cases hn :((kidsOf L.zs x).length :Int)≤(n :Int)
  ·have HK :=Lib.hid (show kidL L x true n 0=(5,L) from if_pos (.inr hn))
   go_wp2
   go_ret
   rw [HK.out]
   exact ⟨rfl,⟨gs,p,r1⟩,hbb⟩
  ·have hn' :n < (kidsOf L.zs x).length :=by omega
   have hK :kidL L x true n 0=((pushL L.ss 0 ((kidsOf L.zs x).getD n 0)).1,{L with ss :=(pushL L.ss 0 ((kidsOf L.zs x).getD n 0)).2}) :=by unfold kidL;rw [if_neg (by simp [hk];omega)];rfl
   obtain ⟨y,hy⟩ : ∃y,(kidsOf L.zs x).getD n 0=y :=⟨_,rfl⟩
   rw [hy] at hK
   have HK :=Lib.hid hK
   have R1 :=Lib.hid r1
   rcases ru with ⟨h0,_⟩ | ⟨bl,off,cap,hv,h2,h3,h4,h5⟩
   ·rw [h0] at hn';simp at hn'
   cases hv
   have c1 :=h5 n hn'
   rw [hy] at c1
   clear hK r1 h5 hu hy
   go_wp2_with fail
   refine (HP.out _ R1.out _).mono ?_
   rintro e w2 ⟨rfl,hr2,b2⟩
   go_wp2
   go_ret
   rw [HK.out]
   exact ⟨rfl,hr2,hbb.trans b2⟩
 ·have hk' :isBlk L.zs x true=false :=by simpa using hk
  have HK :=Lib.hid (show kidL L x true n 0=(5,L) from if_pos (.inl hk'))
  rw [hk']
  go_wp2
  go_ret
  rw [HK.out]
  exact ⟨rfl,⟨gs,p,r1⟩,hbb⟩
set_option maxHeartbeats 1600000 in
set_option maxRecDepth 100000 in
theorem field_any {base :Nat} {w :World} {g gs gc :Nat} {fv hv ov :Value} {p q :Nat} {L :VmL} (h :RunV base w g gs gc fv hv ov p q L) (hf :Fits L) (h1 :0 < L.ss.length) (hx :BkAt L (lastW L.ss 0)) (n :Nat) :
  Calls Tryz.prog 236 #[.pointer (some ⟨g,0,none⟩), .int .i64 n] w fun e w'=> e= .returned (.int .i64 (kidL L (lastW L.ss 0) false n 1).1)∧
   (∃gs' p',RunV base w' g gs' gc fv hv ov p' q (kidL L (lastW L.ss 0) false n 1).2)∧Below base w w' :=by
 obtain ⟨x,hxx⟩ : ∃x,lastW L.ss 0=x :=⟨_,rfl⟩
 have hL :=last_any h hf.sl 0 h1
 rw [hxx] at hx hL ⊢
 have HL :=Lib.hid hL
 have HB :=Lib.hid (fun (W :World) (hW :RunV base W g gs gc fv hv ov p q L)=> block_any hW hf.z1 hf.z2 x false hx)
 have H0 :=Lib.hid h
 have HP :=Lib.hid (fun (W :World) (hW :RunV base W g gs gc fv hv ov p q L) (y :Int)=> push_any hW hf.z0 hf.sl 1 h1 y)
 have hb :=h.hb
 have hzl :=hf.z1
 clear h hf hx hL hxx
 go_enter Tryz.func236,Tryz.ntmps236
 go_wp2_with fail
 refine HL.out.mono ?_
 rintro e w0 ⟨rfl,s0⟩
 have r0 :=H0.out.still s0
 have b0 :=(s0.below w.heap.size).mono hb
 have hb0 :=r0.hb
 go_wp2_with fail
 refine (HB.out _ r0).mono ?_
 rintro e w1 ⟨tg,u,rfl,hu,r1,b1⟩
 have hbb :=b0.trans (b1.mono hb0)
 by_cases hk :isBlk L.zs x false=true
 ·obtain ⟨rfl,ru⟩ :=hu hk
  obtain ⟨ua,uc,rfl⟩ :=ru.form
  rw [hk]
  by_cases hn :((kidsOf L.zs x).length :Int)≤(n :Int)
  ·have HK :=Lib.hid (show kidL L x false n 1=(5,L) from if_pos (.inr hn))
   go_wp2
   go_ret
   rw [HK.out]
   exact ⟨rfl,⟨gs,p,r1⟩,hbb⟩
  ·have hn' :n < (kidsOf L.zs x).length :=by omega
   have hK :kidL L x false n 1=((pushL L.ss 1 ((kidsOf L.zs x).getD n 0)).1,{L with ss :=(pushL L.ss 1 ((kidsOf L.zs x).getD n 0)).2}) :=by unfold kidL;rw [if_neg (by simp [hk];omega)];rfl
   obtain ⟨y,hy⟩ : ∃y,(kidsOf L.zs x).getD n 0=y :=⟨_,rfl⟩
   rw [hy] at hK
   have HK :=Lib.hid hK
   have R1 :=Lib.hid r1
   rcases ru with ⟨h0,_⟩ | ⟨bl,off,cap,hv,h2,h3,h4,h5⟩
   ·rw [h0] at hn';simp at hn'
   cases hv
   have c1 :=h5 n hn'
   rw [hy] at c1
   clear hK r1 h5 hu hy
   go_wp2_with fail
   refine (HP.out _ R1.out _).mono ?_
   rintro e w2 ⟨rfl,hr2,b2⟩
   go_wp2
   go_ret
   rw [HK.out]
   exact ⟨rfl,hr2,hbb.trans b2⟩
 ·have hk' :isBlk L.zs x false=false :=by simpa using hk
  have HK :=Lib.hid (show kidL L x false n 1=(5,L) from if_pos (.inl hk'))
  rw [hk']
  go_wp2
  go_ret
  rw [HK.out]
  exact ⟨rfl,⟨gs,p,r1⟩,hbb⟩
end Go.Proofs.YtfmebaafpfkeiaaGreat
end
section
namespace Go.Proofs.YtfmebaafpfkeiaaGreat
open Go.RowKit
set_option maxHeartbeats 1600000 in
set_option maxRecDepth 100000 in
theorem left_any {base gb :Nat} {w :World} {g gs gc :Nat} {fv hv ov :Value} {p q :Nat} {L :VmL} (h :RunV base w g gs gc fv hv ov p q L) (kb :Bx w gb #[.pointer (some ⟨g,0,none⟩)])
  (hb : -6000≤L.b∧L.b≤6000) (hh : -6000≤L.h∧L.h≤6000) (hn : -6000≤L.n∧L.n≤6000) :
  Calls Tryz.prog 306 #[.pointer (some ⟨gb,0,none⟩)] w fun e w'=> e= .returned (.int .i64 (roomL L))∧Still w w' :=by
 have q2 :=h.bx.2.1 2
 have q3 :=h.bx.2.1 3
 have q4 :=h.bx.2.1 4
 have q0 :=kb.2.1 0
 simp at q0 q2 q3 q4
 obtain ⟨r,hr⟩ : ∃r,roomL L=r :=⟨_,rfl⟩
 have e1 :IntKind.i64.wrap (L.b+L.h)=L.b+L.h :=IntWalk.i64_in _ (by omega)
 have e2 :IntKind.i64.wrap (L.b+L.h-L.n)=r :=by rw [IntWalk.i64_in _ (by omega),← hr];rfl
 have e3 :L.b+L.h-L.n=r :=by rw [← hr];rfl
 rw [hr]
 clear h kb hr
 go_enter Tryz.func306,Tryz.ntmps306
 go_wp2_with fail
 go_quiet (fail)
 go_wp2
 go_ret
 exact ⟨by first | rfl | (rw [e3]) | (simp [e3]),_,rfl⟩
end Go.Proofs.YtfmebaafpfkeiaaGreat
end
section
namespace Go.Proofs.YtfmebaafpfkeiaaGreat
open Go.RowKit
structure MkOk (L :VmL) (k :Nat) :Prop where
 z0 :L.zs≠ []
 z1 :L.zs.length≤6000
 z2 :intsOk L.zs
 s1 :L.ss.length≤600
 kl :k≤L.ss.length
 s0 :0 < L.ss.length
 hb : -6000≤L.b∧L.b≤6000
 hh : -6000≤L.h∧L.h≤6000
 hn :0≤L.n∧L.n≤6000
 fit :L.b+L.h≤L.zs.length
theorem putL_no {L :VmL} {f :Bool} {tag :Int} {k :Nat} (h :roomL L < 1+k) :putL L f tag k=(2,L) :=by unfold putL;rw [if_pos h]
theorem putL_yes {L :VmL} {f :Bool} {tag :Int} {k m :Nat} (h : ¬roomL L < 1+k) (hm :L.ss.length-k=m) :putL L f tag k=((pushL L.ss k (2*L.n)).1,{L with zs :=ov L.zs L.n.toNat (hdOf f tag k ::L.ss.drop m),n :=L.n+(1+k),ss :=(pushL L.ss k (2*L.n)).2}) :=by
 unfold putL;rw [if_neg h,hm]
set_option maxHeartbeats 3200000 in
set_option maxRecDepth 100000 in
theorem runMake_stay {base :Nat} {w :World} {g gs gc :Nat} {fv hv ov :Value} {p q :Nat} {L :VmL} (h :RunV base w g gs gc fv hv ov p q L) (f :Bool) (tag :Int) (k :Nat) (h0 :0≤tag) (h1 :tag≤3000) (h2 :k≤20) (hM :MkOk L k)
  (he :L.each=false) (hr : ¬roomL L < 1+(k :Int)) :
  Calls Tryz.prog 233 #[.pointer (some ⟨g,0,none⟩), .bool f, .int .i64 tag, .int .i64 k] w fun e w'=> e= .returned (.int .i64 (makeL L f tag k).1)∧
   (∃gs' gc' hv' p' q',RunV base w' g gs' gc' fv hv' ov p' q' (makeL L f tag k).2)∧Below base w w' :=by
 obtain ⟨m,hm⟩ : ∃m,L.ss.length-k=m :=⟨_,rfl⟩
 have HK :=Lib.hid (show makeL L f tag k=putL L f tag k by unfold makeL;rw [if_neg (by rintro (e | e);(·rw [he] at e;cases e);exact hr e)])
 have MO :=Lib.hid hM
 have q6 :=h.bx.2.1 9
 simp at q6
 rw [he] at q6
 have H0 :=Lib.hid h
 have hbs :=h.hb
 have hgl :=h.bx.1
 have er :IntKind.i64.wrap (1+(k :Int))=1+(k :Int) :=IntWalk.i64_in _ (by omega)
 have hml :m+k=L.ss.length :=by have :=hM.kl;omega
 have em :IntKind.i64.wrap ((L.ss.length :Int)-(k :Int))=(m :Int) :=by have :=hM.s1;rw [IntWalk.i64_in _ (by omega)];omega
 have hlp :L.ss.length≤p :=own_cap h.s
 have hmp :m≤p :=by omega
 have hm2 :m≤L.ss.length :=by omega
 obtain ⟨nN,hN⟩ : ∃nN :Nat,L.n=(nN :Int) :=⟨L.n.toNat,by have :=hM.hn;omega⟩
 have HN :=Lib.hid hN
 have hdl :(L.ss.drop m).length=k :=by rw [List.length_drop];omega
 have HROOM :=Lib.hid hr
 clear h hM hN
 go_enter Tryz.func233,Tryz.ntmps233
 go_wp2_with fail
 generalize hxx :w.alloc _=x0
 obtain ⟨bx,kb⟩ :=Bx.alloc hxx
 clear hxx
 have R1 :=Lib.hid (H0.out.below bx)
 have KB :=Lib.hid kb
 have B1 :=Lib.hid (bx.mono hbs)
 have hgw : ¬w.heap.size=g :=by omega
 have KB0 :=KB.out
 refine (left_any R1.out KB0 MO.out.hb MO.out.hh (by have :=MO.out.hn;omega)).mono ?_
 rintro e w4 ⟨rfl,s5⟩
 replace R1 :=Lib.hid (R1.out.still s5)
 replace KB :=Lib.hid (KB.out.below (s5.below _) KB.out.1)
 replace B1 :=Lib.hid (B1.out.trans (s5.below base))
 clear KB0 s5
 have q0 :=KB.out.2.1 0
 simp at q0
 go_wp2_with fail
 have KB0 :=KB.out
 refine (left_any R1.out KB0 MO.out.hb MO.out.hh (by have :=MO.out.hn;omega)).mono ?_
 rintro e w5 ⟨rfl,s5⟩
 replace R1 :=Lib.hid (R1.out.still s5)
 replace KB :=Lib.hid (KB.out.below (s5.below _) KB.out.1)
 replace B1 :=Lib.hid (B1.out.trans (s5.below base))
 clear KB0 s5
 have q0 :=KB.out.2.1 0
 simp at q0
 have HP :=Lib.hid (HK.out.trans ((putL_yes (by omega) hm).trans (by rw [HN.out];rfl :_=((pushL L.ss k (2*(nN :Int))).1,({L with zs :=Go.Proofs.YtfmebaafpfkeiaaGreat.ov L.zs nN (hdOf f tag k ::L.ss.drop m),n :=(nN :Int)+(1+(k :Int)),ss :=(pushL L.ss k (2*(nN :Int))).2} :VmL)))))
 have q1 :=R1.out.bx.2.1 1
 have q2 :=R1.out.bx.2.1 2
 have q3 :=R1.out.bx.2.1 3
 have q4 :=R1.out.bx.2.1 4
 simp at q1 q2 q3 q4
 have ygb :=KB.out.1
 have yg :=R1.out.bx.1
 go_wp2_with fail
 refine wp_region_tail_drew 7 (S :=(fun w'=> w'.cell? ⟨w.heap.size,0,none⟩ =some (.pointer (some ⟨g,0,none⟩))∧w'.cell? ⟨g,1,none⟩ =some hv∧w'.cell? ⟨g,2,none⟩ =some (.int .i64 L.h)∧w'.cell? ⟨g,3,none⟩ =some (.int .i64 L.b)∧w'.cell? ⟨g,4,none⟩ =some (.int .i64 L.n))) (by kernel_rfl) (by kernel_rfl) (by first | (dsimp only;exact ⟨q0,q1,q2,q3,q4⟩) | (exact ⟨q0,q1,q2,q3,q4⟩)) (fun hHeld=> ?_)
 clear q0 q1 q2 q3 q4 ygb yg
 refine tkT (i :=0) ?_
 refine tkT (i :=1) ?_
 refine tkT (i :=2) ?_
 refine tkT (i :=3) ?_
 refine tkT (i :=4) ?_
 refine tkT (i :=5) ?_
 generalize hxd :w5.drew=x5 at hHeld
 have hd :Below w5.heap.size w5 x5 :=by rw [← hxd];exact (Below.refl _ _).drew
 have R2 :=Lib.hid (R1.out.below hd)
 have K2 :=Lib.hid (KB.out.below hd KB.out.1)
 have B2 :=Lib.hid (B1.out.trans (hd.mono R1.out.hb))
 clear hxd hd R1 KB B1
 refine rdT (i :=6) (fun K hK=> ?_)
 go_simp
 refine (copyHeap_any hv L.zs L.h L.b L.n _ R2.out.z (by have :=MO.out.z1;omega)).mono ?_
 rintro e w6 ⟨v6,rfl,o6,b6⟩
 obtain ⟨gr,d6,rfl,hb6,hl6⟩ :=own_slv o6 (List.length_pos_iff.2 MO.out.z0)
 refine bkT hK (by first | (dsimp only;exact ⟨(b6.cell K2.out.1).trans hHeld.1,(b6.cell R2.out.bx.1).trans hHeld.2.1,(b6.cell R2.out.bx.1).trans hHeld.2.2.1,(b6.cell R2.out.bx.1).trans hHeld.2.2.2.1,(b6.cell R2.out.bx.1).trans hHeld.2.2.2.2⟩) | (exact ⟨(b6.cell K2.out.1).trans hHeld.1,(b6.cell R2.out.bx.1).trans hHeld.2.1,(b6.cell R2.out.bx.1).trans hHeld.2.2.1,(b6.cell R2.out.bx.1).trans hHeld.2.2.2.1,(b6.cell R2.out.bx.1).trans hHeld.2.2.2.2⟩)) (fun hHeld=> ?_)
 clear hK K
 have R3 :=R2.out.below b6
 have z6 :Rd w6.heap.size .i64 w6 (slv gr L.zs.length d6) L.zs :=Rd.of_own o6
 have hz6 : ∀k,(slv gr L.zs.length d6).ownBlock=some k→x5.heap.size≤k :=fun k hk=> (o6.lt k hk).1
 have hgr :gr≠g∧gr≠gs∧gr≠gc∧ov.ownBlock≠some gr∧gr≠w.heap.size :=by
  have l6 :=R2.out.lts
  have lg6 :=R2.out.bx.1
  have lo6 :=own_lt R2.out.o
  have lk6 :=K2.out.1
  refine ⟨by omega,by omega,by omega,fun e=> ?_,by omega⟩
  have :=lo6 gr e
  omega
 have l6 :=R2.out.lts
 have lg6 :=R2.out.bx.1
 have lo6 :=own_lt R2.out.o
 have H4 :=R3.heap4 z6 (h :=L.h) (b :=L.b) (n :=L.n) (fun k hk=> by
  have :=hz6 k hk
  refine ⟨by omega,by omega,by omega,fun e=> ?_⟩
  have :=lo6 k e
  omega)
 have K3 :=Lib.hid ((K2.out.below b6 K2.out.1).grown H4.2.2 (fun e=> by have e' :=Option.some.inj e;have :=K2.out.1;exact hgw e'))
 have O4 :=Lib.hid ((own_base o6 (show base≤x5.heap.size from R2.out.hb)).kept H4.2.2 (.inr (fun e=> by have :=hz6 _ e;omega)))
 have R4 :=Lib.hid H4.1
 have B4 :=Lib.hid ((B2.out.trans (b6.mono R2.out.hb)).trans H4.2.1)
 have HZ6 :=Lib.hid hz6
 have c6 :=R3.bx.2.1
 have f6 :=R3.bx.2.2
 have y6 :=R3.bx.1
 clear H4 hz6 z6 o6 b6 R3 lo6 K2 B2
 refine wpAnyT_done (by kernel_rfl) ?_
 dsimp only [List.drop]
 go_wp2_with fail
 generalize hx7 :(World.setCell (World.setCell (World.setCell (World.setCell w6 _ _) _ _) _ _) _ _)=w7 at R4 O4 B4 K3 ⊢
 clear hx7 c6 f6 y6 hHeld
 have q0 :=K3.out.2.1 0
 have q5 :=R4.out.bx.2.1 5
 simp at q0 q5
 refine wp_region_tail_drew 20 (S :=(fun w'=> w'.cell? ⟨w.heap.size,0,none⟩ =some (.pointer (some ⟨g,0,none⟩))∧w'.cell? ⟨g,5,none⟩ =some (slv gs L.ss.length p))) (by kernel_rfl) (by kernel_rfl) (by first | (dsimp only;exact ⟨q0,q5⟩) | (exact ⟨q0,q5⟩)) (fun hHeld=> ?_)
 clear q0 q5
 refine tkT (i :=0) ?_
 refine tkT (i :=1) ?_
 refine tkT (i :=2) ?_
 refine tkT (i :=3) ?_
 refine tkT (i :=4) ?_
 refine tkT (i :=5) ?_
 refine tkT (i :=6) ?_
 refine tkT (i :=7) ?_
 refine tkT (i :=8) ?_
 refine tkT (i :=9) ?_
 refine tkT (i :=10) ?_
 refine tkT (i :=11) ?_
 refine tkT (i :=12) ?_
 refine tkT (i :=13) ?_
 refine tkT (i :=14) ?_
 refine tkT (i :=15) ?_
 refine tkT (i :=16) ?_
 refine tkT (i :=17) ?_
 refine tkT (i :=18) ?_
 refine tkT (i :=19) ?_
 generalize hxd :w7.drew=x7 at hHeld
 have hd :Below w7.heap.size w7 x7 :=by rw [← hxd];exact (Below.refl _ _).drew
 have R5 :=Lib.hid (R4.out.below hd)
 have K5 :=Lib.hid (K3.out.below hd K3.out.1)
 have B5 :=Lib.hid (B4.out.trans (hd.mono R4.out.hb))
 have O5 :=Lib.hid (own_below O4.out hd (own_lt O4.out))
 clear hxd hd R4 K3 B4 O4
 refine wpAnyT_done (by kernel_rfl) ?_
 dsimp only [List.drop]
 have kb8 :Bx x7 g #[fv,slv gr L.zs.length d6, .int .i64 L.h, .int .i64 L.b, .int .i64 (nN :Int),slv gs L.ss.length p,slv gc L.cs.length q,ov, .int .i64 L.code, .bool L.each] :=by have :=R5.out.bx;rw [← HN.out];exact this
 have hrk : ∀vk :Value,Rd x7.heap.size .i64 x7 vk (L.ss.drop m)→(∀i,vk.ownBlock=some i→i=gs)→
   Calls Tryz.prog 142 #[.pointer (some ⟨g,1,none⟩), .bool f, .int .i64 tag,vk] x7 fun e w'=> e= .returned (.int .i64 (nN :Int))∧
    RunV base w' g gs gc fv (slv gr L.zs.length d6) ov p q {L with zs :=Go.Proofs.YtfmebaafpfkeiaaGreat.ov L.zs nN (hdOf f tag k ::L.ss.drop m),n :=(nN :Int)+(1+(k :Int))}∧Below base x7 w'∧Bx w' w.heap.size #[.pointer (some ⟨g,0,none⟩)] :=fun vk hvk hvb=> by
  have HA :=allocR_any (base :=base) (slv gr L.zs.length d6) vk fv (slv gs L.ss.length p) (slv gc L.cs.length q) ov (.int .i64 L.code) (.bool L.each) L.zs (L.ss.drop m) L.h L.b nN f tag x7 kb8 O5.out R5.out.hg
   (fun e=> hgr.1 (Option.some.inj e).symm) hvk (fun i hi e=> hgr.2.1 ((Option.some.inj e).trans (hvb i hi))) h0 h1 (by rw [hdl];exact h2) (by rw [hdl];have :=MO.out.fit;have :=MO.out.hn;have hroom :=HROOM.out;have :=HN.out;unfold roomL at hroom;omega) MO.out.z1
  rw [hdl] at HA
  refine HA.mono ?_
  rintro e w8 ⟨he,o8,k8,b8,kp8⟩
  have kq :=kp8 gr rfl
  refine ⟨he,?_,b8,K5.out.kept2 kq hgw (fun e=> hgr.2.2.2.2 e.symm)⟩
  have R8 :=R5.out.kept kq b8 ⟨hgr.2.1,hgr.2.2.1,hgr.2.2.2.1⟩ k8 (Rd.of_own o8) (fun i hi=> by cases hi;exact ⟨hgr.1,hgr.2.1,hgr.2.2.1,hgr.2.2.2.1⟩)
  exact R8
 have HRK :=Lib.hid hrk
 have hdr :=R5.out.kidsRd (m :=m) (k :=L.ss.length-m) (c :=p-m) (by (try dsimp only);omega) (by (try dsimp only);omega) (by have :=MO.out.s1;(try dsimp only);omega)
 have HDR :=Lib.hid hdr
 have hgo : ∀vk :Value,(p=m→vk= .slice (some ⟨gs,0,none⟩) (L.ss.length-m) 0)→(¬p=m→vk= .slice (some ⟨gs,m,none⟩) (L.ss.length-m) (p-m))→Rd x7.heap.size .i64 x7 vk (L.ss.drop m)∧∀i,vk.ownBlock=some i→i=gs :=fun vk e1 e2=> by
  by_cases hpm :p=m
  ·rw [e1 hpm]
   have h0 :L.ss.length-m=0 :=by omega
   refine ⟨.inl ⟨List.drop_eq_nil_of_le (by omega),_,_,by rw [h0]⟩,fun i hi=> by cases hi;rfl⟩
  ·rw [e2 hpm]
   exact ⟨HDR.out,fun i hi=> by cases hi;rfl⟩
 have HGO :=Lib.hid hgo
 have HZZ :=Lib.hid (show Go.Proofs.YtfmebaafpfkeiaaGreat.ov L.zs nN (hdOf f tag k ::L.ss.drop m)≠ [] by
  have :=MO.out.fit;have :=MO.out.hn;have hroom :=HROOM.out;have :=HN.out;unfold roomL at hroom
  have hl :(Go.Proofs.YtfmebaafpfkeiaaGreat.ov L.zs nN (hdOf f tag k ::L.ss.drop m)).length=L.zs.length :=ov_len (by rw [List.length_cons,hdl];omega)
  intro e;rw [e] at hl;exact MO.out.z0 (List.eq_nil_of_length_eq_zero hl.symm))
 have HRW :=Lib.hid (fun (W :World)=> (show Calls Tryz.prog 144 #[.int .i64 (nN :Int)] W fun e w'=> e= .returned (.int .i64 (2*(nN :Int)))∧W=w' from by
  have hrw :refW (nN :Int)=2*(nN :Int) :=by have :=MO.out.hn;have :=HN.out;unfold refW;rw [if_pos (inB_true.2 ⟨by omega,by omega⟩)]
  have :=iRefWord_any (nN :Int) W;rw [hrw] at this;exact this))
 clear hrk hdr hgo kb8 O5 K5 R5 hHeld
 go_wp2_with fail
 ·refine (HRK.out _ (HGO.out _ (fun e=> by first | rfl | contradiction | (exact absurd e ‹_›)) (fun e=> by first | rfl | contradiction | (exact absurd ‹_› e))).1 (HGO.out _ (fun e=> by first | rfl | contradiction | (exact absurd e ‹_›)) (fun e=> by first | rfl | contradiction | (exact absurd ‹_› e))).2).mono ?_
  rintro e w8 ⟨rfl,r8,b8,k8⟩
  have q0 :=k8.2.1 0
  simp at q0
  have R8 :=Lib.hid r8
  have B8 :=Lib.hid (B5.out.trans b8)
  clear r8 b8
  go_wp2_with fail
  refine wp_region_tail_drew 4 (S :=(fun w'=> w'.cell? ⟨w.heap.size,0,none⟩ =some (.pointer (some ⟨g,0,none⟩)))) (by kernel_rfl) (by kernel_rfl) (by first | (dsimp only;exact q0) | (exact q0)) (fun hHeld=> ?_)
  refine tkT (i :=0) ?_
  refine tkT (i :=1) ?_
  refine tkT (i :=2) ?_
  refine rdT (i :=3) (fun K hK=> ?_)
  go_simp
  refine (HRW.out _).mono ?_
  rintro e w9 ⟨rfl,rfl⟩
  refine bkT hK (by first | (dsimp only;exact hHeld) | (exact hHeld)) (fun hHeld=> ?_)
  clear hK K
  generalize hxd :w8.drew=x9 at hHeld
  have hd :Below w8.heap.size w8 x9 :=by rw [← hxd];exact (Below.refl _ _).drew
  have R9 :=Lib.hid (R8.out.below hd)
  have B9 :=Lib.hid (B8.out.trans (hd.mono R8.out.hb))
  clear hxd hd R8 B8 k8 q0
  refine wpAnyT_done (by kernel_rfl) ?_
  dsimp only [List.drop]
  go_wp2_with fail
  refine (push_any R9.out HZZ.out (by have :=MO.out.s1;dsimp only;omega) k MO.out.kl _).mono ?_
  rintro e w10 ⟨rfl,⟨gs',p',R10⟩,b10⟩
  have RX :=Lib.hid R10
  clear R10
  go_wp2
  go_ret
  rw [HP.out]
  exact ⟨rfl,⟨gs',gc,_,p',q,RX.out⟩,B9.out.trans b10⟩
 ·refine (HRK.out _ (HGO.out _ (fun e=> by first | rfl | contradiction | (exact absurd e ‹_›)) (fun e=> by first | rfl | contradiction | (exact absurd ‹_› e))).1 (HGO.out _ (fun e=> by first | rfl | contradiction | (exact absurd e ‹_›)) (fun e=> by first | rfl | contradiction | (exact absurd ‹_› e))).2).mono ?_
  rintro e w8 ⟨rfl,r8,b8,k8⟩
  have q0 :=k8.2.1 0
  simp at q0
  have R8 :=Lib.hid r8
  have B8 :=Lib.hid (B5.out.trans b8)
  clear r8 b8
  go_wp2_with fail
  refine wp_region_tail_drew 4 (S :=(fun w'=> w'.cell? ⟨w.heap.size,0,none⟩ =some (.pointer (some ⟨g,0,none⟩)))) (by kernel_rfl) (by kernel_rfl) (by first | (dsimp only;exact q0) | (exact q0)) (fun hHeld=> ?_)
  refine tkT (i :=0) ?_
  refine tkT (i :=1) ?_
  refine tkT (i :=2) ?_
  refine rdT (i :=3) (fun K hK=> ?_)
  go_simp
  refine (HRW.out _).mono ?_
  rintro e w9 ⟨rfl,rfl⟩
  refine bkT hK (by first | (dsimp only;exact hHeld) | (exact hHeld)) (fun hHeld=> ?_)
  clear hK K
  generalize hxd :w8.drew=x9 at hHeld
  have hd :Below w8.heap.size w8 x9 :=by rw [← hxd];exact (Below.refl _ _).drew
  have R9 :=Lib.hid (R8.out.below hd)
  have B9 :=Lib.hid (B8.out.trans (hd.mono R8.out.hb))
  clear hxd hd R8 B8 k8 q0
  refine wpAnyT_done (by kernel_rfl) ?_
  dsimp only [List.drop]
  go_wp2_with fail
  refine (push_any R9.out HZZ.out (by have :=MO.out.s1;dsimp only;omega) k MO.out.kl _).mono ?_
  rintro e w10 ⟨rfl,⟨gs',p',R10⟩,b10⟩
  have RX :=Lib.hid R10
  clear R10
  go_wp2
  go_ret
  rw [HP.out]
  exact ⟨rfl,⟨gs',gc,_,p',q,RX.out⟩,B9.out.trans b10⟩
end Go.Proofs.YtfmebaafpfkeiaaGreat
end
section
namespace Go.Proofs.YtfmebaafpfkeiaaGreat
open Go.RowKit
theorem movedL_is {L :VmL} (hr :rightOf L.zs L.h L.b L.n L.ss=true) (hz :intsOk L.zs) : ∃(h b n :Nat) (ps :List Nat),L.h=h∧L.b=b∧L.n=n∧Right L.zs h b n ps∧L.ss.all (wordIn ps)=true∧b≤h∧
  movedL L={L with zs :=lay (h-b) L.zs.length (mvd L.zs (h-b) (orderOf L.zs L.ss) (orderOf L.zs L.ss)),b :=((h-b :Nat) :Int),n :=((h-b+(raw L.zs (orderOf L.zs L.ss)).length :Nat) :Int),ss :=L.ss.map (mv L.zs (h-b) (orderOf L.zs L.ss))}∧
  (lay (h-b) L.zs.length (mvd L.zs (h-b) (orderOf L.zs L.ss) (orderOf L.zs L.ss))).length=L.zs.length∧intsOk (lay (h-b) L.zs.length (mvd L.zs (h-b) (orderOf L.zs L.ss) (orderOf L.zs L.ss)))∧(raw L.zs (orderOf L.zs L.ss)).length≤h :=by
 obtain ⟨h,b,n,ps,e1,e2,e3,hR,hx⟩ :=Right.ofR hr
 have hbh :b≤h :=by have :=hR.frame.base;omega
 have h1 :=hR.raw_le (order_ok hR hx)
 have h2 :=hR.frame.len
 have h3 :=hR.frame.h1
 have hl :(lay (h-b) L.zs.length (mvd L.zs (h-b) (orderOf L.zs L.ss) (orderOf L.zs L.ss))).length=L.zs.length :=lay_len (by rw [mvd_len];omega)
 refine ⟨h,b,n,ps,e1,e2,e3,hR,hx,hbh,?_,hl,lay_ok (mvd_ok hR (order_ok hR hx) (by omega) hz _),h1⟩
 unfold movedL
 rw [e1,e2,e3] at hr ⊢
 rw [collect_yes hbh hr]
theorem MkOk.moved {L :VmL} {k :Nat} (M :MkOk L k) (hr :rightOf L.zs L.h L.b L.n L.ss=true) :MkOk (movedL L) k :=by
 obtain ⟨h,b,n,ps,e1,e2,e3,hR,hx,hbh,e,hl,hi,hraw⟩ :=movedL_is hr M.z2
 have h2 :=hR.frame.len
 have h3 :=hR.frame.h1
 have h0 :=hR.frame.h0
 rw [e]
 refine ⟨fun e=> ?_,by dsimp only;rw [hl];exact M.z1,hi,by dsimp only;rw [List.length_map];exact M.s1,by dsimp only;rw [List.length_map];exact M.kl,by dsimp only;rw [List.length_map];exact M.s0,?_,?_,?_,?_⟩
 ·dsimp only at e
  rw [e] at hl
  exact M.z0 (List.eq_nil_of_length_eq_zero hl.symm)
 ·dsimp only;omega
 ·dsimp only;omega
 ·dsimp only;omega
 ·dsimp only;rw [hl,e1];omega
structure IsMoved (L M :VmL) :Prop where
 f :M.fs=L.fs
 h :M.h=L.h
 c :M.cs=L.cs
 o :M.os=L.os
 code :M.code=L.code
 each :M.each=L.each
theorem IsMoved.run {L M :VmL} (i :IsMoved L M) {base :Nat} {w :World} {g gs gc :Nat} {fv hv ov :Value} {p q :Nat} (R :RunV base w g gs gc fv hv ov p q {L with zs :=M.zs,h :=L.h,b :=M.b,n :=M.n,ss :=M.ss}) :RunV base w g gs gc fv hv ov p q M :=by
 obtain ⟨mf,mz,mh,mb,mn,mss,mcs,mos,mcode,meach⟩ :=M
 obtain ⟨e1,e2,e3,e4,e5,e6⟩ :=i
 dsimp only at e1 e2 e3 e4 e5 e6
 subst e1 e2 e3 e4 e5 e6
 exact R
theorem isMoved (L :VmL) :IsMoved L (movedL L) :=⟨rfl,rfl,rfl,rfl,rfl,rfl⟩
theorem collectM_any {L :VmL} (hr :rightOf L.zs L.h L.b L.n L.ss=true) (hz :intsOk L.zs) (hl :L.ss.length≤4294967296) (v vr :Value) (w :World) (rz :Rd w.heap.size .i64 w v L.zs) (rs :Rd w.heap.size .i64 w vr L.ss) :
  Calls Tryz.prog 68 #[.agg #[v, .int .i64 L.h, .int .i64 L.b, .int .i64 L.n],vr] w fun e w'=> ∃uv qv,e= .returned (.tuple #[.agg #[uv, .int .i64 L.h, .int .i64 (movedL L).b, .int .i64 (movedL L).n],qv])∧
   w'.ownsRow w.heap.size 3 1 uv (movedL L).zs.length ((movedL L).zs.map (Value.int .i64))∧w'.ownsRow w.heap.size 3 1 qv (movedL L).ss.length ((movedL L).ss.map (Value.int .i64))∧Below w.heap.size w w'∧Diff uv qv :=by
 obtain ⟨h,b,n,ps,e1,e2,e3,hR,hx,hbh,e,hl',hi,hraw⟩ :=movedL_is hr hz
 rw [e,e1,e2,e3]
 dsimp only
 rw [hl',List.length_map]
 exact collect_any v vr L.zs L.ss h b n ps w hR rz hz rs hx hl
end Go.Proofs.YtfmebaafpfkeiaaGreat
end
section
namespace Go.Proofs.YtfmebaafpfkeiaaGreat
open Go.RowKit
set_option maxHeartbeats 6400000 in
set_option maxRecDepth 100000 in
theorem runMake_moveE {base :Nat} {w :World} {g gs gc :Nat} {fv hv ov :Value} {p q :Nat} {L :VmL} (h :RunV base w g gs gc fv hv ov p q L) (f :Bool) (tag :Int) (k :Nat) (h0 :0≤tag) (h1 :tag≤3000) (h2 :k≤20) (hM :MkOk L k)
  (hright :rightOf L.zs L.h L.b L.n L.ss=true) (he :L.each=true) :
  Calls Tryz.prog 233 #[.pointer (some ⟨g,0,none⟩), .bool f, .int .i64 tag, .int .i64 k] w fun e w'=> e= .returned (.int .i64 (makeL L f tag k).1)∧
   (∃gs' gc' hv' p' q',RunV base w' g gs' gc' fv hv' ov p' q' (makeL L f tag k).2)∧Below base w w' :=by
 have hMM :=hM.moved hright
 have HCOL :=Lib.hid (fun (W :World) (v vr :Value) (rz :Rd W.heap.size .i64 W v L.zs) (rs :Rd W.heap.size .i64 W vr L.ss)=> collectM_any hright hM.z2 (by have :=hM.s1;omega) v vr W rz rs)
 have hIM :=isMoved L
 have hk0 :makeL L f tag k=putL (movedL L) f tag k :=by unfold makeL;rw [if_pos (.inl he)]
 obtain ⟨M,hMd⟩ : ∃M,movedL L=M :=⟨_,rfl⟩
 rw [hMd] at hMM HCOL hIM hk0
 have IM :=Lib.hid hIM
 obtain ⟨m,hm⟩ : ∃m,M.ss.length-k=m :=⟨_,rfl⟩
 have HK :=Lib.hid hk0
 have LO :=Lib.hid hM
 have MO :=Lib.hid hMM
 have q6 :=h.bx.2.1 9
 simp at q6
 rw [he] at q6
 have H0 :=Lib.hid h
 have hbs :=h.hb
 have hgl :=h.bx.1
 have er :IntKind.i64.wrap (1+(k :Int))=1+(k :Int) :=IntWalk.i64_in _ (by omega)
 have hml :m+k=M.ss.length :=by have :=hMM.kl;omega
 have em :IntKind.i64.wrap ((M.ss.length :Int)-(k :Int))=(m :Int) :=by have :=hMM.s1;rw [IntWalk.i64_in _ (by omega)];omega
 have hm2 :m≤M.ss.length :=by omega
 obtain ⟨nN,hN⟩ : ∃nN :Nat,M.n=(nN :Int) :=⟨M.n.toNat,by have :=hMM.hn;omega⟩
 have HN :=Lib.hid hN
 have hdl :(M.ss.drop m).length=k :=by rw [List.length_drop];omega
 clear h hM hN hMM hright hk0 hMd hIM
 go_enter Tryz.func233,Tryz.ntmps233
 go_wp2_with fail
 generalize hxx :w.alloc _=x0
 obtain ⟨bx,kb⟩ :=Bx.alloc hxx
 clear hxx
 have R1 :=Lib.hid (H0.out.below bx)
 have KB :=Lib.hid kb
 have B1 :=Lib.hid (bx.mono hbs)
 have hgw : ¬w.heap.size=g :=by omega
 clear bx kb
 go_cut [] from 24 to 45 (fun W=> ∃(gs2 p2 :Nat) (u2 :Value),RunV base W g gs2 gc fv u2 ov p2 q M∧Bx W w.heap.size #[.pointer (some ⟨g,0,none⟩)]∧Below base w W)
 case first=>
  have q0 :=KB.out.2.1 0
  have q1 :=R1.out.bx.2.1 1
  have q2 :=R1.out.bx.2.1 2
  have q3 :=R1.out.bx.2.1 3
  have q4 :=R1.out.bx.2.1 4
  have q5 :=R1.out.bx.2.1 5
  simp at q0 q1 q2 q3 q4 q5
  refine wp_region_held_drew (S :=(fun w'=> w'.cell? ⟨w.heap.size,0,none⟩ =some (.pointer (some ⟨g,0,none⟩)))) (by kernel_rfl) (by first | (dsimp only;exact q0) | (exact q0)) (fun hHeld=> ?_)
  refine tkH (i :=0) ?_
  refine tkH (i :=1) ?_
  refine tkH (i :=2) ?_
  refine tkH (i :=3) ?_
  refine tkH (i :=4) ?_
  refine tkH (i :=5) ?_
  refine tkH (i :=7) ?_
  refine tkH (i :=8) ?_
  refine tkH (i :=9) ?_
  refine tkH (i :=10) ?_
  generalize hxd :x0.drew=x1 at hHeld
  have hd :Below x0.heap.size x0 x1 :=by rw [← hxd];exact (Below.refl _ _).drew
  have R2 :=Lib.hid (R1.out.below hd)
  have K2 :=Lib.hid (KB.out.below hd KB.out.1)
  have B2 :=Lib.hid (B1.out.trans (hd.mono R1.out.hb))
  clear q0 q1 q2 q3 q4 q5
  have q0 :=K2.out.2.1 0
  have q1 :=R2.out.bx.2.1 1
  have q2 :=R2.out.bx.2.1 2
  have q3 :=R2.out.bx.2.1 3
  have q4 :=R2.out.bx.2.1 4
  have q5 :=R2.out.bx.2.1 5
  simp at q0 q1 q2 q3 q4 q5
  clear hxd hd R1 KB B1
  refine wpAnyH_ready (rs := [6,11]) (by kernel_rfl) (by simp) ?_
  refine AllReadyH.cons (by (simp only [List.getElem?_toArray,List.getElem?_cons_succ,List.getElem?_cons_zero];rfl)) (fun K hK=> ?_) (AllReadyH.cons (by (simp only [List.getElem?_toArray,List.getElem?_cons_succ,List.getElem?_cons_zero];rfl)) (fun K hK=> ?_) AllReadyH.nil)
  ·go_simp
   refine hK.out _ _ (by first | (dsimp only;exact hHeld) | (exact hHeld)) (fun hHeld=> ?_)
   clear hK K
   try simp only [Act.put,List.setIfInBounds_toArray,List.set_cons_zero,List.set_cons_succ]
   refine rdH (i :=11) (fun K hK=> ?_)
   go_simp
   refine bkH hK (by first | (dsimp only;exact hHeld) | (exact hHeld)) (fun hHeld=> ?_)
   clear hK K
   clear q0 q1 q2 q3 q4 q5
   refine rdH (i :=12) (fun K hK=> ?_)
   go_simp
   refine (HCOL.out x1 _ _ R2.out.z (Rd.of_own R2.out.s)).mono ?_
   rintro e w2 ⟨uv,qv,rfl,u2,s2,b2,d2⟩
   obtain ⟨gr2,c2,rfl,hu1,hu2⟩ :=own_slv u2 (List.length_pos_iff.2 MO.out.z0)
   obtain ⟨gs2,p2,rfl,hs1,hs2⟩ :=own_slv s2 MO.out.s0
   refine bkH hK (by first | (dsimp only;exact (b2.cell K2.out.1).trans hHeld) | (exact (b2.cell K2.out.1).trans hHeld)) (fun hHeld=> ?_)
   clear hK K
   refine tkH (i :=13) ?_
   refine tkH (i :=14) ?_
   refine tkH (i :=15) ?_
   refine tkH (i :=16) ?_
   refine tkH (i :=17) ?_
   refine tkH (i :=18) ?_
   have R3 :=R2.out.below b2
   have l6 :=R2.out.lts
   have lg6 :=R2.out.bx.1
   have lo6 :=own_lt R2.out.o
   have lk6 :=K2.out.1
   have hne2 :gr2≠gs2 :=fun e=> d2 gr2 rfl (by rw [e];rfl)
   have H4 :=R3.heap4 (Rd.of_own u2) (h :=L.h) (b :=M.b) (n :=M.n) (fun i hi=> by
    have hi' :gr2=i :=Option.some.inj hi
    subst hi'
    refine ⟨by omega,by omega,by omega,fun e=> ?_⟩
    have :=lo6 gr2 e
    omega)
   have s3 :=(own_base s2 (show base≤x1.heap.size from R2.out.hb)).kept H4.2.2 (.inr (fun e=> by have e' :gs2=g :=Option.some.inj e;omega))
   have H5 :=H4.1.stack2 (ss :=M.ss) s3 MO.out.s0 (fun i hi=> by
    have hi' :gs2=i :=Option.some.inj hi
    subst hi'
    refine ⟨by omega,by omega,fun e=> ?_,fun e=> hne2 (Option.some.inj e)⟩
    have :=lo6 gs2 e
    omega)
   have K3 :=Lib.hid ((K2.out.below b2 K2.out.1).grown H4.2.2 (fun e=> hgw (Option.some.inj e)))
   have g5 :=grownBy.setCell ((((w2.setCell ⟨g,1,none⟩ (slv gr2 M.zs.length c2)).setCell ⟨g,2,none⟩ (.int .i64 L.h)).setCell ⟨g,3,none⟩ (.int .i64 M.b)).setCell ⟨g,4,none⟩ (.int .i64 M.n)) g 5 (slv gs2 M.ss.length p2)
   have K4 :=Lib.hid (K3.out.grown g5 (fun e=> hgw (Option.some.inj e)))
   obtain ⟨gs3,p3,e3,R5,b5⟩ :=H5
   cases e3
   have B5 :=Lib.hid (((B2.out.trans (b2.mono R2.out.hb)).trans H4.2.1).trans b5)
   have R4 :=Lib.hid (IM.out.run R5)
   have c6 :=R3.bx.2.1
   have f6 :=R3.bx.2.2
   have y6 :=R3.bx.1
   clear H4 R5 s3 u2 s2 b2 d2 R3 lo6 K2 B2 b5 g5
   refine rdH (i :=19) (fun K hK=> ?_)
   go_simp
   refine bkH hK (by first | (dsimp only;(have k :=K3.out.2.1 0;exact k)) | ((have k :=K3.out.2.1 0;exact k))) (fun hHeld=> ?_)
   clear hK K
   refine tkH (i :=20) ?_
   refine tkH (i :=21) ?_
   refine tkH (i :=22) ?_
   refine rdH (i :=23) (fun K hK=> ?_)
   go_simp
   refine bkH hK (by first | (dsimp only;(have k :=K4.out.2.1 0;exact k)) | ((have k :=K4.out.2.1 0;exact k))) (fun hHeld=> ?_)
   clear hK K
   refine wpAnyH_done (by kernel_rfl) ?_ _
   go_wp2_with fail
   go_meet
   exact ⟨gs2,p2,_,R4.out,K4.out,B5.out⟩
  ·go_simp
   refine hK.out _ _ (by first | (dsimp only;exact hHeld) | (exact hHeld)) (fun hHeld=> ?_)
   clear hK K
   try simp only [Act.put,List.setIfInBounds_toArray,List.set_cons_zero,List.set_cons_succ]
   refine rdH (i :=6) (fun K hK=> ?_)
   go_simp
   refine bkH hK (by first | (dsimp only;exact hHeld) | (exact hHeld)) (fun hHeld=> ?_)
   clear hK K
   clear q0 q1 q2 q3 q4 q5
   refine rdH (i :=12) (fun K hK=> ?_)
   go_simp
   refine (HCOL.out x1 _ _ R2.out.z (Rd.of_own R2.out.s)).mono ?_
   rintro e w2 ⟨uv,qv,rfl,u2,s2,b2,d2⟩
   obtain ⟨gr2,c2,rfl,hu1,hu2⟩ :=own_slv u2 (List.length_pos_iff.2 MO.out.z0)
   obtain ⟨gs2,p2,rfl,hs1,hs2⟩ :=own_slv s2 MO.out.s0
   refine bkH hK (by first | (dsimp only;exact (b2.cell K2.out.1).trans hHeld) | (exact (b2.cell K2.out.1).trans hHeld)) (fun hHeld=> ?_)
   clear hK K
   refine tkH (i :=13) ?_
   refine tkH (i :=14) ?_
   refine tkH (i :=15) ?_
   refine tkH (i :=16) ?_
   refine tkH (i :=17) ?_
   refine tkH (i :=18) ?_
   have R3 :=R2.out.below b2
   have l6 :=R2.out.lts
   have lg6 :=R2.out.bx.1
   have lo6 :=own_lt R2.out.o
   have lk6 :=K2.out.1
   have hne2 :gr2≠gs2 :=fun e=> d2 gr2 rfl (by rw [e];rfl)
   have H4 :=R3.heap4 (Rd.of_own u2) (h :=L.h) (b :=M.b) (n :=M.n) (fun i hi=> by
    have hi' :gr2=i :=Option.some.inj hi
    subst hi'
    refine ⟨by omega,by omega,by omega,fun e=> ?_⟩
    have :=lo6 gr2 e
    omega)
   have s3 :=(own_base s2 (show base≤x1.heap.size from R2.out.hb)).kept H4.2.2 (.inr (fun e=> by have e' :gs2=g :=Option.some.inj e;omega))
   have H5 :=H4.1.stack2 (ss :=M.ss) s3 MO.out.s0 (fun i hi=> by
    have hi' :gs2=i :=Option.some.inj hi
    subst hi'
    refine ⟨by omega,by omega,fun e=> ?_,fun e=> hne2 (Option.some.inj e)⟩
    have :=lo6 gs2 e
    omega)
   have K3 :=Lib.hid ((K2.out.below b2 K2.out.1).grown H4.2.2 (fun e=> hgw (Option.some.inj e)))
   have g5 :=grownBy.setCell ((((w2.setCell ⟨g,1,none⟩ (slv gr2 M.zs.length c2)).setCell ⟨g,2,none⟩ (.int .i64 L.h)).setCell ⟨g,3,none⟩ (.int .i64 M.b)).setCell ⟨g,4,none⟩ (.int .i64 M.n)) g 5 (slv gs2 M.ss.length p2)
   have K4 :=Lib.hid (K3.out.grown g5 (fun e=> hgw (Option.some.inj e)))
   obtain ⟨gs3,p3,e3,R5,b5⟩ :=H5
   cases e3
   have B5 :=Lib.hid (((B2.out.trans (b2.mono R2.out.hb)).trans H4.2.1).trans b5)
   have R4 :=Lib.hid (IM.out.run R5)
   have c6 :=R3.bx.2.1
   have f6 :=R3.bx.2.2
   have y6 :=R3.bx.1
   clear H4 R5 s3 u2 s2 b2 d2 R3 lo6 K2 B2 b5 g5
   refine rdH (i :=19) (fun K hK=> ?_)
   go_simp
   refine bkH hK (by first | (dsimp only;(have k :=K3.out.2.1 0;exact k)) | ((have k :=K3.out.2.1 0;exact k))) (fun hHeld=> ?_)
   clear hK K
   refine tkH (i :=20) ?_
   refine tkH (i :=21) ?_
   refine tkH (i :=22) ?_
   refine rdH (i :=23) (fun K hK=> ?_)
   go_simp
   refine bkH hK (by first | (dsimp only;(have k :=K4.out.2.1 0;exact k)) | ((have k :=K4.out.2.1 0;exact k))) (fun hHeld=> ?_)
   clear hK K
   refine wpAnyH_done (by kernel_rfl) ?_ _
   go_wp2_with fail
   go_meet
   exact ⟨gs2,p2,_,R4.out,K4.out,B5.out⟩
 case rest=>
  obtain ⟨gs2,p2,u2,R1,KB,B1⟩ :=hcut
  have hlp :M.ss.length≤p2 :=own_cap R1.s
  have hmp :m≤p2 :=by omega
  have R1 :=Lib.hid R1
  have KB :=Lib.hid KB
  have B1 :=Lib.hid B1
  clear HCOL
  go_wp2_with fail
  have KB0 :=KB.out
  refine (left_any R1.out KB0 MO.out.hb MO.out.hh (by have :=MO.out.hn;omega)).mono ?_
  rintro e w5 ⟨rfl,s5⟩
  replace R1 :=Lib.hid (R1.out.still s5)
  replace KB :=Lib.hid (KB.out.below (s5.below _) KB.out.1)
  replace B1 :=Lib.hid (B1.out.trans (s5.below base))
  clear KB0 s5
  have q0 :=KB.out.2.1 0
  simp at q0
  by_cases hno :roomL M < 1+(k :Int)
  ·have HP :=Lib.hid (HK.out.trans (putL_no hno))
   clear q0
   go_wp2
   go_ret
   rw [HP.out]
   exact ⟨rfl,⟨gs2,gc,_,p2,q,R1.out⟩,B1.out⟩
  ·have HROOM :=Lib.hid hno
   have HP :=Lib.hid (HK.out.trans ((putL_yes (by omega) hm).trans (by rw [HN.out];rfl :_=((pushL M.ss k (2*(nN :Int))).1,({M with zs :=Go.Proofs.YtfmebaafpfkeiaaGreat.ov M.zs nN (hdOf f tag k ::M.ss.drop m),n :=(nN :Int)+(1+(k :Int)),ss :=(pushL M.ss k (2*(nN :Int))).2} :VmL)))))
   have q1 :=R1.out.bx.2.1 1
   have q2 :=R1.out.bx.2.1 2
   have q3 :=R1.out.bx.2.1 3
   have q4 :=R1.out.bx.2.1 4
   simp at q1 q2 q3 q4
   have ygb :=KB.out.1
   have yg :=R1.out.bx.1
   go_wp2_with fail
   refine wp_region_tail_drew 7 (S :=(fun w'=> w'.cell? ⟨w.heap.size,0,none⟩ =some (.pointer (some ⟨g,0,none⟩))∧w'.cell? ⟨g,1,none⟩ =some u2∧w'.cell? ⟨g,2,none⟩ =some (.int .i64 M.h)∧w'.cell? ⟨g,3,none⟩ =some (.int .i64 M.b)∧w'.cell? ⟨g,4,none⟩ =some (.int .i64 M.n))) (by kernel_rfl) (by kernel_rfl) (by first | (dsimp only;exact ⟨q0,q1,q2,q3,q4⟩) | (exact ⟨q0,q1,q2,q3,q4⟩)) (fun hHeld=> ?_)
   clear q0 q1 q2 q3 q4 ygb yg
   refine tkT (i :=0) ?_
   refine tkT (i :=1) ?_
   refine tkT (i :=2) ?_
   refine tkT (i :=3) ?_
   refine tkT (i :=4) ?_
   refine tkT (i :=5) ?_
   generalize hxd :w5.drew=x5 at hHeld
   have hd :Below w5.heap.size w5 x5 :=by rw [← hxd];exact (Below.refl _ _).drew
   have R2 :=Lib.hid (R1.out.below hd)
   have K2 :=Lib.hid (KB.out.below hd KB.out.1)
   have B2 :=Lib.hid (B1.out.trans (hd.mono R1.out.hb))
   clear hxd hd R1 KB B1
   refine rdT (i :=6) (fun K hK=> ?_)
   go_simp
   refine (copyHeap_any u2 M.zs M.h M.b M.n _ R2.out.z (by have :=MO.out.z1;omega)).mono ?_
   rintro e w6 ⟨v6,rfl,o6,b6⟩
   obtain ⟨gr,d6,rfl,hb6,hl6⟩ :=own_slv o6 (List.length_pos_iff.2 MO.out.z0)
   refine bkT hK (by first | (dsimp only;exact ⟨(b6.cell K2.out.1).trans hHeld.1,(b6.cell R2.out.bx.1).trans hHeld.2.1,(b6.cell R2.out.bx.1).trans hHeld.2.2.1,(b6.cell R2.out.bx.1).trans hHeld.2.2.2.1,(b6.cell R2.out.bx.1).trans hHeld.2.2.2.2⟩) | (exact ⟨(b6.cell K2.out.1).trans hHeld.1,(b6.cell R2.out.bx.1).trans hHeld.2.1,(b6.cell R2.out.bx.1).trans hHeld.2.2.1,(b6.cell R2.out.bx.1).trans hHeld.2.2.2.1,(b6.cell R2.out.bx.1).trans hHeld.2.2.2.2⟩)) (fun hHeld=> ?_)
   clear hK K
   have R3 :=R2.out.below b6
   have z6 :Rd w6.heap.size .i64 w6 (slv gr M.zs.length d6) M.zs :=Rd.of_own o6
   have hz6 : ∀k,(slv gr M.zs.length d6).ownBlock=some k→x5.heap.size≤k :=fun k hk=> (o6.lt k hk).1
   have hgr :gr≠g∧gr≠gs2∧gr≠gc∧ov.ownBlock≠some gr∧gr≠w.heap.size :=by
    have l6 :=R2.out.lts
    have lg6 :=R2.out.bx.1
    have lo6 :=own_lt R2.out.o
    have lk6 :=K2.out.1
    refine ⟨by omega,by omega,by omega,fun e=> ?_,by omega⟩
    have :=lo6 gr e
    omega
   have l6 :=R2.out.lts
   have lg6 :=R2.out.bx.1
   have lo6 :=own_lt R2.out.o
   have H4 :=R3.heap4 z6 (h :=M.h) (b :=M.b) (n :=M.n) (fun k hk=> by
    have :=hz6 k hk
    refine ⟨by omega,by omega,by omega,fun e=> ?_⟩
    have :=lo6 k e
    omega)
   have K3 :=Lib.hid ((K2.out.below b6 K2.out.1).grown H4.2.2 (fun e=> by have e' :=Option.some.inj e;have :=K2.out.1;exact hgw e'))
   have O4 :=Lib.hid ((own_base o6 (show base≤x5.heap.size from R2.out.hb)).kept H4.2.2 (.inr (fun e=> by have :=hz6 _ e;omega)))
   have R4 :=Lib.hid H4.1
   have B4 :=Lib.hid ((B2.out.trans (b6.mono R2.out.hb)).trans H4.2.1)
   have HZ6 :=Lib.hid hz6
   have c6 :=R3.bx.2.1
   have f6 :=R3.bx.2.2
   have y6 :=R3.bx.1
   clear H4 hz6 z6 o6 b6 R3 lo6 K2 B2
   refine wpAnyT_done (by kernel_rfl) ?_
   dsimp only [List.drop]
   go_wp2_with fail
   generalize hx7 :(World.setCell (World.setCell (World.setCell (World.setCell w6 _ _) _ _) _ _) _ _)=w7 at R4 O4 B4 K3 ⊢
   clear hx7 c6 f6 y6 hHeld
   have q0 :=K3.out.2.1 0
   have q5 :=R4.out.bx.2.1 5
   simp at q0 q5
   refine wp_region_tail_drew 20 (S :=(fun w'=> w'.cell? ⟨w.heap.size,0,none⟩ =some (.pointer (some ⟨g,0,none⟩))∧w'.cell? ⟨g,5,none⟩ =some (slv gs2 M.ss.length p2))) (by kernel_rfl) (by kernel_rfl) (by first | (dsimp only;exact ⟨q0,q5⟩) | (exact ⟨q0,q5⟩)) (fun hHeld=> ?_)
   clear q0 q5
   refine tkT (i :=0) ?_
   refine tkT (i :=1) ?_
   refine tkT (i :=2) ?_
   refine tkT (i :=3) ?_
   refine tkT (i :=4) ?_
   refine tkT (i :=5) ?_
   refine tkT (i :=6) ?_
   refine tkT (i :=7) ?_
   refine tkT (i :=8) ?_
   refine tkT (i :=9) ?_
   refine tkT (i :=10) ?_
   refine tkT (i :=11) ?_
   refine tkT (i :=12) ?_
   refine tkT (i :=13) ?_
   refine tkT (i :=14) ?_
   refine tkT (i :=15) ?_
   refine tkT (i :=16) ?_
   refine tkT (i :=17) ?_
   refine tkT (i :=18) ?_
   refine tkT (i :=19) ?_
   generalize hxd :w7.drew=x7 at hHeld
   have hd :Below w7.heap.size w7 x7 :=by rw [← hxd];exact (Below.refl _ _).drew
   have R5 :=Lib.hid (R4.out.below hd)
   have K5 :=Lib.hid (K3.out.below hd K3.out.1)
   have B5 :=Lib.hid (B4.out.trans (hd.mono R4.out.hb))
   have O5 :=Lib.hid (own_below O4.out hd (own_lt O4.out))
   clear hxd hd R4 K3 B4 O4
   refine wpAnyT_done (by kernel_rfl) ?_
   dsimp only [List.drop]
   have kb8 :Bx x7 g #[fv,slv gr M.zs.length d6, .int .i64 M.h, .int .i64 M.b, .int .i64 (nN :Int),slv gs2 M.ss.length p2,slv gc M.cs.length q,ov, .int .i64 M.code, .bool M.each] :=by have :=R5.out.bx;rw [← HN.out];exact this
   have hrk : ∀vk :Value,Rd x7.heap.size .i64 x7 vk (M.ss.drop m)→(∀i,vk.ownBlock=some i→i=gs2)→
     Calls Tryz.prog 142 #[.pointer (some ⟨g,1,none⟩), .bool f, .int .i64 tag,vk] x7 fun e w'=> e= .returned (.int .i64 (nN :Int))∧
      RunV base w' g gs2 gc fv (slv gr M.zs.length d6) ov p2 q {M with zs :=Go.Proofs.YtfmebaafpfkeiaaGreat.ov M.zs nN (hdOf f tag k ::M.ss.drop m),n :=(nN :Int)+(1+(k :Int))}∧Below base x7 w'∧Bx w' w.heap.size #[.pointer (some ⟨g,0,none⟩)] :=fun vk hvk hvb=> by
    have HA :=allocR_any (base :=base) (slv gr M.zs.length d6) vk fv (slv gs2 M.ss.length p2) (slv gc M.cs.length q) ov (.int .i64 M.code) (.bool M.each) M.zs (M.ss.drop m) M.h M.b nN f tag x7 kb8 O5.out R5.out.hg
     (fun e=> hgr.1 (Option.some.inj e).symm) hvk (fun i hi e=> hgr.2.1 ((Option.some.inj e).trans (hvb i hi))) h0 h1 (by rw [hdl];exact h2) (by rw [hdl];have :=MO.out.fit;have :=MO.out.hn;have hroom :=HROOM.out;have :=HN.out;unfold roomL at hroom;omega) MO.out.z1
    rw [hdl] at HA
    refine HA.mono ?_
    rintro e w8 ⟨he,o8,k8,b8,kp8⟩
    have kq :=kp8 gr rfl
    refine ⟨he,?_,b8,K5.out.kept2 kq hgw (fun e=> hgr.2.2.2.2 e.symm)⟩
    have R8 :=R5.out.kept kq b8 ⟨hgr.2.1,hgr.2.2.1,hgr.2.2.2.1⟩ k8 (Rd.of_own o8) (fun i hi=> by cases hi;exact ⟨hgr.1,hgr.2.1,hgr.2.2.1,hgr.2.2.2.1⟩)
    exact R8
   have HRK :=Lib.hid hrk
   have hdr :=R5.out.kidsRd (m :=m) (k :=M.ss.length-m) (c :=p2-m) (by (try dsimp only);omega) (by (try dsimp only);omega) (by have :=MO.out.s1;(try dsimp only);omega)
   have HDR :=Lib.hid hdr
   have hgo : ∀vk :Value,(p2=m→vk= .slice (some ⟨gs2,0,none⟩) (M.ss.length-m) 0)→(¬p2=m→vk= .slice (some ⟨gs2,m,none⟩) (M.ss.length-m) (p2-m))→Rd x7.heap.size .i64 x7 vk (M.ss.drop m)∧∀i,vk.ownBlock=some i→i=gs2 :=fun vk e1 e2=> by
    by_cases hpm :p2=m
    ·rw [e1 hpm]
     have h0 :M.ss.length-m=0 :=by omega
     refine ⟨.inl ⟨List.drop_eq_nil_of_le (by omega),_,_,by rw [h0]⟩,fun i hi=> by cases hi;rfl⟩
    ·rw [e2 hpm]
     exact ⟨HDR.out,fun i hi=> by cases hi;rfl⟩
   have HGO :=Lib.hid hgo
   have HZZ :=Lib.hid (show Go.Proofs.YtfmebaafpfkeiaaGreat.ov M.zs nN (hdOf f tag k ::M.ss.drop m)≠ [] by
    have :=MO.out.fit;have :=MO.out.hn;have hroom :=HROOM.out;have :=HN.out;unfold roomL at hroom
    have hl :(Go.Proofs.YtfmebaafpfkeiaaGreat.ov M.zs nN (hdOf f tag k ::M.ss.drop m)).length=M.zs.length :=ov_len (by rw [List.length_cons,hdl];omega)
    intro e;rw [e] at hl;exact MO.out.z0 (List.eq_nil_of_length_eq_zero hl.symm))
   have HRW :=Lib.hid (fun (W :World)=> (show Calls Tryz.prog 144 #[.int .i64 (nN :Int)] W fun e w'=> e= .returned (.int .i64 (2*(nN :Int)))∧W=w' from by
    have hrw :refW (nN :Int)=2*(nN :Int) :=by have :=MO.out.hn;have :=HN.out;unfold refW;rw [if_pos (inB_true.2 ⟨by omega,by omega⟩)]
    have :=iRefWord_any (nN :Int) W;rw [hrw] at this;exact this))
   clear hrk hdr hgo kb8 O5 K5 R5 hHeld
   go_wp2_with fail
   ·refine (HRK.out _ (HGO.out _ (fun e=> by first | rfl | contradiction | (exact absurd e ‹_›)) (fun e=> by first | rfl | contradiction | (exact absurd ‹_› e))).1 (HGO.out _ (fun e=> by first | rfl | contradiction | (exact absurd e ‹_›)) (fun e=> by first | rfl | contradiction | (exact absurd ‹_› e))).2).mono ?_
    rintro e w8 ⟨rfl,r8,b8,k8⟩
    have q0 :=k8.2.1 0
    simp at q0
    have R8 :=Lib.hid r8
    have B8 :=Lib.hid (B5.out.trans b8)
    clear r8 b8
    go_wp2_with fail
    refine wp_region_tail_drew 4 (S :=(fun w'=> w'.cell? ⟨w.heap.size,0,none⟩ =some (.pointer (some ⟨g,0,none⟩)))) (by kernel_rfl) (by kernel_rfl) (by first | (dsimp only;exact q0) | (exact q0)) (fun hHeld=> ?_)
    refine tkT (i :=0) ?_
    refine tkT (i :=1) ?_
    refine tkT (i :=2) ?_
    refine rdT (i :=3) (fun K hK=> ?_)
    go_simp
    refine (HRW.out _).mono ?_
    rintro e w9 ⟨rfl,rfl⟩
    refine bkT hK (by first | (dsimp only;exact hHeld) | (exact hHeld)) (fun hHeld=> ?_)
    clear hK K
    generalize hxd :w8.drew=x9 at hHeld
    have hd :Below w8.heap.size w8 x9 :=by rw [← hxd];exact (Below.refl _ _).drew
    have R9 :=Lib.hid (R8.out.below hd)
    have B9 :=Lib.hid (B8.out.trans (hd.mono R8.out.hb))
    clear hxd hd R8 B8 k8 q0
    refine wpAnyT_done (by kernel_rfl) ?_
    dsimp only [List.drop]
    go_wp2_with fail
    refine (push_any R9.out HZZ.out (by have :=MO.out.s1;dsimp only;omega) k MO.out.kl _).mono ?_
    rintro e w10 ⟨rfl,⟨gs2',p2',R10⟩,b10⟩
    have RX :=Lib.hid R10
    clear R10
    go_wp2
    go_ret
    rw [HP.out]
    exact ⟨rfl,⟨gs2',gc,_,p2',q,RX.out⟩,B9.out.trans b10⟩
   ·refine (HRK.out _ (HGO.out _ (fun e=> by first | rfl | contradiction | (exact absurd e ‹_›)) (fun e=> by first | rfl | contradiction | (exact absurd ‹_› e))).1 (HGO.out _ (fun e=> by first | rfl | contradiction | (exact absurd e ‹_›)) (fun e=> by first | rfl | contradiction | (exact absurd ‹_› e))).2).mono ?_
    rintro e w8 ⟨rfl,r8,b8,k8⟩
    have q0 :=k8.2.1 0
    simp at q0
    have R8 :=Lib.hid r8
    have B8 :=Lib.hid (B5.out.trans b8)
    clear r8 b8
    go_wp2_with fail
    refine wp_region_tail_drew 4 (S :=(fun w'=> w'.cell? ⟨w.heap.size,0,none⟩ =some (.pointer (some ⟨g,0,none⟩)))) (by kernel_rfl) (by kernel_rfl) (by first | (dsimp only;exact q0) | (exact q0)) (fun hHeld=> ?_)
    refine tkT (i :=0) ?_
    refine tkT (i :=1) ?_
    refine tkT (i :=2) ?_
    refine rdT (i :=3) (fun K hK=> ?_)
    go_simp
    refine (HRW.out _).mono ?_
    rintro e w9 ⟨rfl,rfl⟩
    refine bkT hK (by first | (dsimp only;exact hHeld) | (exact hHeld)) (fun hHeld=> ?_)
    clear hK K
    generalize hxd :w8.drew=x9 at hHeld
    have hd :Below w8.heap.size w8 x9 :=by rw [← hxd];exact (Below.refl _ _).drew
    have R9 :=Lib.hid (R8.out.below hd)
    have B9 :=Lib.hid (B8.out.trans (hd.mono R8.out.hb))
    clear hxd hd R8 B8 k8 q0
    refine wpAnyT_done (by kernel_rfl) ?_
    dsimp only [List.drop]
    go_wp2_with fail
    refine (push_any R9.out HZZ.out (by have :=MO.out.s1;dsimp only;omega) k MO.out.kl _).mono ?_
    rintro e w10 ⟨rfl,⟨gs2',p2',R10⟩,b10⟩
    have RX :=Lib.hid R10
    clear R10
    go_wp2
    go_ret
    rw [HP.out]
    exact ⟨rfl,⟨gs2',gc,_,p2',q,RX.out⟩,B9.out.trans b10⟩
end Go.Proofs.YtfmebaafpfkeiaaGreat
end
