/- Parts of the proof of FnExactJudgeSame. -/
import Derived.Test.YtifhcbeaiijkcaaGreatJ24
import Derived.Test.YtifhcbeaiijkcaaGreatJ29
import Derived.Test.YtifhcbeaiijkcaaGreatJ30
import Derived.Deep.DeepCutAuto
import Derived.Deep.CutRange
import Derived.Test.YtifhcbeaiijkcaaGreatJ19
import Derived.Test.YtifhcbeaiijkcaaGreatRows
import Derived.Test.YtifhcbeaiijkcaaGreatJ01
import Derived.Deep.QuietTactic
import Derived.BigQuiet
import Derived.Test.YtifhcbeaiijkcaaGreatJ05
set_option linter.unusedVariables false
set_option linter.unusedSimpArgs false
set_option maxRecDepth 1000000
set_option maxHeartbeats 16000000
namespace Go.Proofs.YtifhcbeaiijkcaaGreat
open Go.RowKit
open _root_.Go.World renaming alloc→Wa,setCell→Ws
open _root_.Go.Proofs.Tryz renaming prog→Pq
theorem OE {B:Nat}(ds:List Dt) (zs:List Int) (h b n:Int) (lv hv:Value) (x:Int) (w:World) (hz:Rd B .i64 w hv zs) (zi:EI zs) (hlen:zs.length≤4294967296)
  (bh:-9223372036854775808≤h∧h≤9223372036854775807) (bb0:-9223372036854775808≤b∧b≤9223372036854775807) (bn:-9223372036854775808≤n∧n≤9223372036854775807) (hd:RdDts B w lv ds) (hwd:AN ds≤1048576):
  Calls Pq 69 #[lv,.agg #[hv,.int .i64 h,.int .i64 b,.int .i64 n],.int .i64 x] w (OcR w (Cx ds zs h b n x)):=by
 have HO:=Aa (fun(W:World) (hb:Below w.heap.size w W)=>Jo hv zs h b n W (hz.below' hb) zi hlen bh bb0 bn);have HD:=Aa (fun(W:World) (hb:Below w.heap.size w W)=>hd.later' hb);obtain⟨la,lc,rfl⟩:=hd.form;cases hok:Cf zs h b n with
 |false=>
  have hr:Cx ds zs h b n x=none:=by unfold Cx;rw[Ae (by rw[hok];decide)]
  rw[hr];rw[hok]at HO;obtain⟨ha,hc,rfl⟩:=hz.form;clear hz hd hr hok bh bb0 bn;go_enter Tryz.func69,Tryz.ntmps69;go_wp2_with fail;generalize hxx:Wa (Wa _ _) _=x0;obtain⟨bb,k4,k6,sx⟩:=BV hxx;clear hxx;have ck4:=k4.2.1;have yk4:=k4.1;refine(HO.out x0 bb).mono ?_;rintro e w1 ⟨rfl,b1⟩;clear ck4 yk4;have k61:=k6.below b1 k6.1;have BB:=Aa (bb.trans (b1.mono bb.size));have K61:=Aa k61;clear b1 k4 k6 bb sx;have ck61:=k61.2.1;have yk61:=k61.1;have zk61:=k61.2.2;go_wp2;obtain⟨k7,g7⟩:=Bx.st4 K61.out (.int .i64 0) (.int .i64 0) (.string ⟨#[]⟩) (.slice none 0 0);have q7:=k7.2.1;refine Aq (v:= .tuple #[.agg #[.int .i64 0,.int .i64 0,.string ⟨#[]⟩,.slice none 0 0],.bool false]) ?_ rfl ⟨Below.grown_at BB.out g7 BB.out.size (by omega),rfl⟩;simp[results,Tryz.results69,go_sem,q7]
 |true=>
  obtain⟨h',b',n',ps,rfl,rfl,rfl,hR⟩:=Right.of hok;have HRES:=Aa (show Cx ds zs h' b' n' x= (AK ds zs ps 200 x 4000).map Prod.fst by
   unfold Cx;rw[Af hok,Dq,Dq,hR.some];rfl)
  rw[hok]at HO;generalize Cx ds zs h' b' n' x=res at*;have F:=hR.frame;have h0:=F.h0;have hl2:=F.len;have HZ:=Aa (fun(W:World) (hb:Below w.heap.size w W)=>hz.below' hb);have HS:=Aa (fun(W:World) (hb:Below w.heap.size w W)=>(by have:=Im hv zs h' b' n' W (hz.below' hb) zi F;rw[hR.some]at this;exact this:Calls Pq 66 #[.agg #[hv,.int .i64 h',.int .i64 b',.int .i64 n']] W fun e w'=>Told W e w' (some ps)∧Below W.heap.size W w'));rcases hz with ⟨hn,_⟩ |⟨hb0,ha,hc,rfl,_⟩
  ·rw[hn]at hl2;simp at hl2;omega
  clear hd hok bh bb0 bn h0 hl2 F;go_enter Tryz.func69,Tryz.ntmps69;go_wp2_with fail;generalize hxx:Wa (Wa _ _) _=x0;obtain⟨bb,k4,k6,sx⟩:=BV hxx;clear hxx;have ck4:=k4.2.1;have yk4:=k4.1;refine(HO.out x0 bb).mono ?_;rintro e w1 ⟨rfl,b1⟩;clear ck4 yk4;replace k4:=k4.below b1 k4.1;replace k6:=k6.below b1 k6.1;replace bb:=bb.trans (b1.mono bb.size);clear b1;have ck4:=k4.2.1;have yk4:=k4.1;go_wp2_with fail;refine(HS.out w1 bb).mono ?_;rintro e w2 ⟨⟨pv,rfl,op⟩,b2⟩;clear ck4 yk4;obtain⟨pa,pc,rfl⟩:=AR op;replace k4:=k4.below b2 k4.1;replace k6:=k6.below b2 k6.1;replace bb:=bb.trans (b2.mono bb.size);clear b2;have rp:Rd w2.heap.size .i64 w2 (.slice pa ps.length pc) (AS ps):=by
   rw[Fs]at op;have h2:w2.ownsRow w1.heap.size 3 1 (.slice pa ps.length pc) (AS ps).length ((AS ps).map (Value.int .i64)):=by rw[Ep];exact op
   exact Rd.of_own h2
  have RP:=Aa rp;clear op rp;have ck4:=k4.2.1;have yk4:=k4.1;have zk4:=k4.2.2;go_wp2_with fail;generalize hxx:w2.alloc _=w3;obtain⟨b3,kG⟩:=Bx.alloc hxx;clear hxx;clear ck4 yk4 zk4;have hGw:w.heap.size+1 < w2.heap.size:=k6.1;have RP3:=Aa (RP.out.below b3 (Ad _));replace k4:=k4.below b3 k4.1;replace k6:=k6.below b3 k6.1;replace bb:=bb.trans (b3.mono bb.size);clear b3;have z3:=k6.1;obtain⟨G,hG⟩:∃G,w2.heap.size=G:=⟨_,rfl⟩;rw[hG]at kG hGw RP3 ⊢;have hbw:∀W,w3.grownBy W (some G)→Below w.heap.size w W:=fun W hW=>Below.grown_at bb hW bb.size (by omega);have T:Bkr w3 G ds zs ps h' b' n' (.slice la ds.length lc) (.slice pa ps.length pc) (.slice (some ⟨hb0,ha,none⟩) zs.length hc):=
   ⟨hR,zi,fun W hW=>(HZ.out W (hbw W hW)).mono (hbw W hW).size,fun W hW=>RP3.out.grow_lt' hW (Ad _),fun W hW=>(HD.out W (hbw W hW)).later' (Ab W.heap.size W),hwd⟩
  have HV:=Kt T 200 x 4000 w3 (Ad _) (Ad _) (grownBy.refl _ _) kG;refine HV.mono ?_;rintro e w4 hb4;obtain⟨k',n9,s',a',l',c',rfl,g4,rt, -⟩:=hb4.open;have bb4:=Aa (hbw w4 g4);replace k6:=k6.grown g4 (fun e=>by have:=Am e;omega);have K6:=Aa k6;have hsz:=g4.size;have HRS:=Aa (show res= (AK ds zs ps 200 x 4000).map Prod.fst from HRES.out);have hso:(AK ds zs ps 200 x 4000).isSome=res.isSome:=by rw[HRS.out];cases AK ds zs ps 200 x 4000 <;> rfl
  rw[←HRS.out]at rt;rw[hso];have RT:=Aa rt;clear T HV hbw k4 kG bb g4 HRES hb4 hso rt;have ck6:=k6.2.1;have yk6:=k6.1;have zk6:=k6.2.2;go_wp2;generalize hyy:Wa _ _=w9;obtain⟨b9, -⟩:=Bx.alloc hyy;obtain⟨k7,g7⟩:=Bx.st4 K6.out (.int .i64 k') (.int .i64 n9) (.string s') (.slice a' l' c');have q7:=(k7.below b9 k7.1).2.1;have hb5:=Below.grown_at bb4.out g7 bb4.out.size (by omega);refine Aq (v:= .tuple #[.agg #[.int .i64 k',.int .i64 n9,.string s',.slice a' l' c'],.bool res.isSome]) ?_ rfl (OcR.close (hb5.trans (b9.mono hb5.size)) ((RT.out.grown g7 z3).later fun q hq hl=>⟨by omega,Ah hl b9.size,b9.block q hl⟩));simp[results,Tryz.results69,go_sem,q7]
theorem OF {B:Nat}(ds:List Dt) (L:VmL) (lv fv hv sv cv ov:Value) (w:World) (hd:RdDts B w lv ds) (hwd:AN ds≤1048576) (hr:RdV B w fv hv sv cv ov L) (hi:D9 L) (hz:Bw L≤1048576):
  Calls Pq 27 #[lv,vmV fv hv sv cv ov L] w (OcR w (Cq ds L)):=by
 have hr0:=hr.below' (Ab w.heap.size w);have HBK:=Aa (fun(x:Int) (W:World) (hb:Below w.heap.size w W)=>OE ds L.zs L.h L.b L.n lv hv x W (hr0.z.below' hb) hi.2.1 (by unfold Bw at hz;omega) hi.2.2.1 hi.2.2.2.1 hi.2.2.2.2.1 (hd.later' hb) hwd);obtain⟨la,lc,rfl⟩:=hd.form;have hs:=hr0.s;obtain⟨fa,fc,ha,hcp,sa,sc,ca,cc,oa,oc,rfl,rfl,rfl,rfl,rfl⟩:=hr0.forms;have hsl:L.ss.length≤1048576:=by unfold Bw at hz;omega
 by_cases hgood:L.code=1∧L.ss.length=1
 ·have HRES:=Aa (show Cq ds L=Cx ds L.zs L.h L.b L.n (L.ss.getD 0 0)from Af hgood);generalize Cq ds L=res at*;obtain⟨hcode,hlen⟩:=hgood;obtain⟨x,hx⟩:∃x,L.ss=[x]:=by
   match h:L.ss,hlen with
   | [x],_=>exact⟨x,rfl⟩
  rw[hx]at HRES;have HB:=Aa (fun(W:World) (hb:Below w.heap.size w W)=>(by have:=HBK.out x W hb;rw[show Cx ds L.zs L.h L.b L.n x=res from HRES.out.symm]at this;exact this:Calls Pq 69 #[.slice la ds.length lc,.agg #[.slice ha L.zs.length hcp,.int .i64 L.h,.int .i64 L.b,.int .i64 L.n],.int .i64 x] W (OcR W res)));rcases hs with ⟨h',_⟩ |⟨sb,soff,sc',hv',hsb,hsb',_,hcell⟩
  ·rw[hx]at h';cases h'
  have c0:w.cell? ⟨sb,soff,none⟩=some (.int .i64 x):=by
   have:=hcell 0 (by rw[hx];simp);rw[hx]at this
   simpa using this
  injection hv' with e1 e2 e3
  subst e1 e3;obtain⟨fs,zs,hh,bb0,nn,ss,cs,os,code,each⟩:=L;dsimp only at*;subst hcode hx;clear hcell hr0 hr hi hz hd HBK HRES hlen hsl;unfold vmV;dsimp only[List.length_cons,List.length_nil];go_enter Tryz.func27,Tryz.ntmps27;go_wp2_with fail;generalize hxx:(w.alloc _).alloc _=x0;obtain⟨bb,k3,k4,sx⟩:=BV hxx;clear hxx;have c1:=(bb.cell (p:=⟨sb,soff,none⟩) hsb').trans c0;clear c0;have K3:=Aa k3;have K4:=Aa k4;have BB:=Aa bb;have hsx0:sb < x0.heap.size:=Ah hsb' bb.size;clear k3 k4 bb;go_cut [6,7]from 18 to 28 (fun pt ok W=>∃ (g6:Nat) (k' n':Int) (s':ByteArray) (a':Option Addr) (l' c':Nat),pt= .pointer (some ⟨g6,0,none⟩)∧ok= .bool res.isSome∧Below x0.heap.size x0 W∧x0.heap.size≤g6∧
   Bx W g6 #[.int .i64 k',.int .i64 n',.string s',.slice a' l' c']∧OcP (fun b=>w.heap.size+2≤b) W res #[.int .i64 k',.int .i64 n',.string s',.slice a' l' c'])
  case first=>
   refine wp_region_held_drew (S:=(fun w'=>(∀j,w'.cell? ⟨w.heap.size,j,none⟩= #[.slice fa fs.length fc,.slice ha zs.length hcp,.int .i64 hh,.int .i64 bb0,.int .i64 nn,.slice (some ⟨sb,soff,none⟩) 1 sc,.slice ca cs.length cc,.slice oa os.length oc,.int .i64 1,.bool each][j]?)∧w'.cell? ⟨sb,soff,none⟩=some (.int .i64 x))) (by kernel_rfl) (by first | (dsimp only;exact⟨K3.out.2.1,c1⟩) | (exact⟨K3.out.2.1,c1⟩)) (fun hHeld=> ?_);refine tkH (i:=0) ?_;refine tkH (i:=1) ?_;refine tkH (i:=2) ?_;refine tkH (i:=3) ?_;refine tkH (i:=4) ?_;refine tkH (i:=5) ?_;refine tkH (i:=6) ?_;generalize hxd:x0.drew=x1 at hHeld;have hd:Below x0.heap.size x0 x1:=by rw[←hxd];exact(Ab _ _).drew
   have k31:=K3.out.below hd K3.out.1;have bb1:=BB.out.trans (hd.mono BB.out.size);have z1:=hd.size;clear hxd;refine wpAnyH_ready (rs:=[7,11]) (by kernel_rfl) (by simp) ?_;refine AllReadyH.cons (by (simp only[List.getElem?_toArray,List.getElem?_cons_succ,List.getElem?_cons_zero];rfl)) (fun K hK=> ?_) (AllReadyH.cons (by (simp only[List.getElem?_toArray,List.getElem?_cons_succ,List.getElem?_cons_zero];rfl)) (fun K hK=> ?_) AllReadyH.nil)
   ·go_simp;refine(HB.out x1 bb1).mono ?_;rintro e w4 ho;obtain⟨k',n',s',a',l',c',rfl,b4,rt⟩:=ho.open;have k34:=k31.below b4 k31.1;have z4:=b4.size;refine bkH hK (by first | (dsimp only;exact⟨k34.2.1,(b4.cell (p:=⟨sb,soff,none⟩) (show sb < x1.heap.size by omega)).trans hHeld.2⟩) | (exact⟨k34.2.1,(b4.cell (p:=⟨sb,soff,none⟩) (show sb < x1.heap.size by omega)).trans hHeld.2⟩)) (fun hHeld=> ?_);clear hK K;refine tkH (i:=8) ?_;refine tkH (i:=9) ?_;refine tkH (i:=10) ?_;refine rdH (i:=11) (fun K hK=> ?_);go_simp;generalize hy8:w4.alloc _=w8;obtain⟨b8,k8⟩:=Bx.alloc hy8;refine bkH hK (by first | (dsimp only;exact⟨(k34.below b8 k34.1).2.1,(b8.cell (p:=⟨sb,soff,none⟩) (show sb < w4.heap.size by omega)).trans hHeld.2⟩) | (exact⟨(k34.below b8 k34.1).2.1,(b8.cell (p:=⟨sb,soff,none⟩) (show sb < w4.heap.size by omega)).trans hHeld.2⟩)) (fun hHeld=> ?_);clear hK K;have hz8:=b8.size;have k38:=k34.below b8 k34.1;obtain⟨kz,gz⟩:=k8.st4 (.int .i64 k') (.int .i64 n') (.string s') (.slice a' l' c');have KZ:=Aa kz;have GZ:=Aa gz;clear hy8 kz gz;have ck8:=k8.2.1;have yk8:=k8.1;have zk8:=k8.2.2;refine rdH (i:=12) (fun K hK=> ?_);go_simp;refine bkH hK (by first | (dsimp only;exact⟨(k38.grown GZ.out (fun e=>by have:=Option.some.inj e;omega)).2.1,(GZ.out.cell_far ⟨sb,soff,none⟩ (show sb < w8.heap.size by omega) (fun e=>by have h9:sb=w4.heap.size:=Option.some.inj e;omega)).trans hHeld.2⟩) | (exact⟨(k38.grown GZ.out (fun e=>by have:=Option.some.inj e;omega)).2.1,(GZ.out.cell_far ⟨sb,soff,none⟩ (show sb < w8.heap.size by omega) (fun e=>by have h9:sb=w4.heap.size:=Option.some.inj e;omega)).trans hHeld.2⟩)) (fun hHeld=> ?_);clear hK K;refine tkH (i:=13) ?_;refine A2 (by kernel_rfl) ?_ _;clear ck8 yk8 zk8;generalize hxx:Ws _ _ _=wz at KZ GZ ⊢;clear hxx hHeld;have hb8:Below x0.heap.size x0 w8:=(hd.trans (b4.mono z1)).trans (b8.mono (At z1 z4));go_wp2_with fail;go_meet;exact⟨_,k',n',s',a',l',c',rfl,rfl,Below.grown_at hb8 GZ.out hb8.size (by omega),by omega,KZ.out,rt.later fun q hq hl=>⟨by omega,Ah hl (At hz8 GZ.out.size),(GZ.out.block q (by omega) (fun e=>by have:=Am e;omega)).trans (b8.block q hl)⟩⟩
   ·go_simp;generalize hy8:x1.alloc _=x2;obtain⟨b8,k8⟩:=Bx.alloc hy8;have hz2:x2.heap.size=x1.heap.size+1:=by rw[←hy8,Bo]
    clear hy8;have hz8:=b8.size;have k32:=k31.below b8 k31.1;refine bkH hK (by first | (dsimp only;exact⟨k32.2.1,(b8.cell (p:=⟨sb,soff,none⟩) (show sb < x1.heap.size by omega)).trans hHeld.2⟩) | (exact⟨k32.2.1,(b8.cell (p:=⟨sb,soff,none⟩) (show sb < x1.heap.size by omega)).trans hHeld.2⟩)) (fun hHeld=> ?_);clear hK K
    try simp only[Act.put,List.setIfInBounds_toArray,List.set_cons_zero,List.set_cons_succ]
    have bb2:=bb1.trans (b8.mono bb1.size);refine rdH (i:=7) (fun K hK=> ?_);go_simp;refine(HB.out x2 bb2).mono ?_;rintro e w4 ho;obtain⟨k',n',s',a',l',c',rfl,b4,rt⟩:=ho.open;have k34:=k32.below b4 k32.1;refine bkH hK (by first | (dsimp only;exact⟨k34.2.1,(b4.cell (p:=⟨sb,soff,none⟩) (show sb < x2.heap.size by omega)).trans hHeld.2⟩) | (exact⟨k34.2.1,(b4.cell (p:=⟨sb,soff,none⟩) (show sb < x2.heap.size by omega)).trans hHeld.2⟩)) (fun hHeld=> ?_);clear hK K;refine tkH (i:=8) ?_;refine tkH (i:=9) ?_;refine tkH (i:=10) ?_;have z4:=b4.size;have k84:=k8.below b4 k8.1;obtain⟨kz,gz⟩:=k84.st4 (.int .i64 k') (.int .i64 n') (.string s') (.slice a' l' c');have KZ:=Aa kz;have GZ:=Aa gz;have HZ2:=Aa hz2;clear kz gz hz2;have ck84:=k84.2.1;have yk84:=k84.1;have zk84:=k84.2.2;refine rdH (i:=12) (fun K hK=> ?_);go_simp;refine bkH hK (by first | (dsimp only;exact⟨(k34.grown GZ.out (fun e=>by have:=Option.some.inj e;omega)).2.1,(GZ.out.cell_far ⟨sb,soff,none⟩ (show sb < w4.heap.size by omega) (fun e=>by have h9:sb=x1.heap.size:=Option.some.inj e;omega)).trans hHeld.2⟩) | (exact⟨(k34.grown GZ.out (fun e=>by have:=Option.some.inj e;omega)).2.1,(GZ.out.cell_far ⟨sb,soff,none⟩ (show sb < w4.heap.size by omega) (fun e=>by have h9:sb=x1.heap.size:=Option.some.inj e;omega)).trans hHeld.2⟩)) (fun hHeld=> ?_);clear hK K;refine tkH (i:=13) ?_;refine A2 (by kernel_rfl) ?_ _;clear ck84 yk84 zk84;generalize hxx:Ws _ _ _=wz at KZ GZ ⊢;clear hxx hHeld;have hz2:=HZ2.out;have hb8:Below x0.heap.size x0 w4:=(hd.trans (b8.mono z1)).trans (b4.mono (At z1 hz8));go_wp2_with fail;go_meet;exact⟨_,k',n',s',a',l',c',rfl,rfl,Below.grown_at hb8 GZ.out hb8.size (by omega),by omega,KZ.out,rt.later fun q hq hl=>⟨by omega,Ah hl GZ.out.size,GZ.out.block q hl (fun e=>by have:=Am e;omega)⟩⟩
  case rest=>
   obtain⟨g6,k',n',s',a',l',c',rfl,rfl,bc,hg6,k6,hoc⟩:=hcut;have k4c:=K4.out.below bc K4.out.1;have K4C:=Aa k4c;have HOC:=Aa hoc;have hbw:=BB.out.trans (bc.mono BB.out.size);clear hoc;have ck6:=k6.2.1;have yk6:=k6.1;have zk6:=k6.2.2;have ck4c:=k4c.2.1;have yk4c:=k4c.1;have zk4c:=k4c.2.2;go_wp2;obtain⟨k7,g7⟩:=Bx.st4 K4C.out (.int .i64 k') (.int .i64 n') (.string s') (.slice a' l' c');have q7:=k7.2.1;refine Aq (v:= .tuple #[.agg #[.int .i64 k',.int .i64 n',.string s',.slice a' l' c'],.bool res.isSome]) ?_ rfl (OcR.close (Below.grown_at hbw g7 hbw.size (by omega)) ((HOC.out.grown g7 (by omega)).later fun q hq hl=>⟨by omega,hl,rfl⟩));simp[results,Tryz.results27,go_sem,q7]
 ·have hres:Cq ds L=none:=Ae hgood;rw[hres];clear hres HBK hr0 hr hd hs;obtain⟨fs,zs,hh,bb0,nn,ss,cs,os,code,each⟩:=L;dsimp only at*;unfold vmV;dsimp only;have K:∀w6:World,Bx w6 (w.heap.size+1) #[.int .i64 0,.int .i64 0,.string ⟨#[]⟩,.slice none 0 0]→Below w.heap.size w w6→True:=fun _ _ _=>trivial;clear K;by_cases hc1:code=1
  ·subst hc1;have hl:¬ss.length=1:=fun h=>hgood ⟨rfl,h⟩;have hlb:((ss.length:Int) !=1)=true:=by simp;omega
   clear hgood hl;go_enter Tryz.func27,Tryz.ntmps27;go_wp2;generalize hxx:Wa (Wa _ _) _=x0;obtain⟨bb,k3,k4,sx⟩:=BV hxx;have q6:=k4.2.1;refine Aq (v:= .tuple #[.agg #[.int .i64 0,.int .i64 0,.string ⟨#[]⟩,.slice none 0 0],.bool false]) ?_ rfl ⟨bb,rfl⟩;simp[results,Tryz.results27,go_sem,q6]
  ·have hlb:(code !=1)=true:=by simpa using hc1
   clear hgood hc1;go_enter Tryz.func27,Tryz.ntmps27;go_wp2;generalize hxx:Wa (Wa _ _) _=x0;obtain⟨bb,k3,k4,sx⟩:=BV hxx;have q6:=k4.2.1;refine Aq (v:= .tuple #[.agg #[.int .i64 0,.int .i64 0,.string ⟨#[]⟩,.slice none 0 0],.bool false]) ?_ rfl ⟨bb,rfl⟩;simp[results,Tryz.results27,go_sem,q6]
def Bd {α:Type}(r:Rs α):Prop:=∀c o,r= .bad c o→c≠0
theorem Bd.ok {α:Type}(a:α) (s:Es):Bd (.ok a s):=fun c o h=>by cases h
theorem Bd.bad {α:Type}{c:Int}(hc:c≠0) (o:List Int):Bd (α:=α) (.bad c o):=fun c' o' h=>by cases h;exact hc
theorem Bd.bind {α β:Type}{r:Rs α}{k:α→Es→Rs β}(h:Bd r) (hk:∀a s',r= .ok a s'→Bd (k a s')):Bd (r.bind k):=by
 cases r with
 |ok a s1=>exact hk a s1 rfl
 |bad c o=>exact Bd.bad (h c o rfl) o
theorem L3 (v:Vl) (s:Es):Bd (Co v s):=by
 cases v with
 |int n=>exact Bd.ok _ _
 |_=>exact Bd.bad (by decide) _
theorem L4 {E:Nd→Env→Es→Rs Vl}(hE:∀x env s,Bd (E x env s)) (env:Env):∀ks s,Bd (Bn E env ks s)
 | [],s=>Bd.ok _ _
 |k::ks,s=>(hE _ _ _).bind fun v s1 _=>(L4 hE env ks s1).bind fun vs s2 _=>Bd.ok _ _
theorem L5 {E:Nd→Env→Es→Rs Vl}(hE:∀x env s,Bd (E x env s)) (env:Env) (v:Vl):∀az s,Bd (Bi E env v az s)
 | [],s=>Bd.bad (by decide) _
 |a::az,s=>by
  unfold Bi;split
  ·exact hE _ _ _
  ·exact L5 hE env v az s
theorem QN {E:Nd→Env→Es→Rs Vl}(hE:∀x env s,Bd (E x env s)) (f x:Vl) (s:Es):Bd (Cw E f x s):=by
 cases f with
 |fn=>exact hE _ _ _
 |_=>exact Bd.bad (by decide) _
theorem QO {ar:Str→Option Nat}{E:Nd→Env→Es→Rs Vl}(hE:∀x env s,Bd (E x env s)) (x:Nd) (env:Env) (s:Es):Bd (AI ar E x env s):=by
 unfold AI;by_cases h1:x.op=1
 ·rw[Af h1];exact Bd.ok _ _
 rw[Ae h1];by_cases h2:x.op=2
 ·rw[Af h2];cases look env x.s with
  |some v=>exact Bd.ok _ _
  |none=>exact Bd.bad (by decide) _
 rw[Ae h2];by_cases h3:x.op=3
 ·rw[Af h3];exact Bd.ok _ _
 rw[Ae h3];by_cases h4:x.op=4
 ·rw[Af h4];exact(hE _ _ _).bind fun f s1 _=>(hE _ _ _).bind fun a s2 _=>QN hE _ _ _
 rw[Ae h4];by_cases h6:x.op=6
 ·rw[Af h6];exact hE _ _ _
 rw[Ae h6];by_cases h7:x.op=7
 ·rw[Af h7];exact(hE _ _ _).bind fun v s1 _=>L5 hE _ _ _ _
 rw[Ae h7];by_cases h15:x.op=15
 ·rw[Af h15];refine(L4 hE _ _ _).bind fun vs s1 _=> ?_;by_cases ha:ar x.s=some x.kids.length
  ·rw[Af ha];exact Bd.ok _ _
  ·rw[Ae ha];exact Bd.bad (by decide) _
 rw[Ae h15];refine(hE _ _ _).bind fun v s1 _=> ?_;by_cases h5:x.op=5
 ·rw[Af h5];exact hE _ _ _
 rw[Ae h5];refine(L3 _ _).bind fun a s2 _=> ?_;by_cases h16:x.op=16
 ·rw[Af h16];exact Bd.ok _ _
 rw[Ae h16];by_cases h9:x.op=9
 ·rw[Af h9];by_cases ha:a≠0
  ·rw[Af ha];exact hE _ _ _
  ·rw[Ae ha];exact hE _ _ _
 rw[Ae h9];exact(hE _ _ _).bind fun v2 s3 _=>(L3 _ _).bind fun b s4 _=>Bd.ok _ _
theorem L6 (ar:Str→Option Nat):∀m x env s,Bd (Ag ar m x env s)
 |0,x,env,s=>Bd.bad (by decide) _
 |m+1,x,env,s=>by
  unfold Ag;split
  ·exact Bd.bad (by decide) _
  ·exact QO (ar:=ar) (L6 ar m) x env _
theorem L7 (ds:List Dt) (x:Nd) (F:Int):((AV ds x F).1=0∧ ∃v,(AV ds x F).2.1=some v)∨((AV ds x F).1≠0∧(AV ds x F).2.1=none):=by
 unfold AV;by_cases hs:BG ds x=true∧ckP ds=0
 ·rw[Af hs];cases h:Ag (arP ds) (Bq F) x [] ⟨Bq F,[]⟩with
  |ok v s=>
   unfold Fl;dsimp only;by_cases hc:Ar v > 4000
   ·rw[Af hc];exact .inr ⟨show(1:Int)≠0 by decide,rfl⟩
   ·rw[Ae hc];exact .inl ⟨rfl,v,rfl⟩
  |bad c o=>exact .inr ⟨L6 _ _ _ _ _ c o h,rfl⟩
 ·rw[Ae hs];exact .inr ⟨by decide,rfl⟩
theorem L8 {ds:List Dt}{L:VmL}(hd:AN ds≤1048576) (hv:Bc L=true) {u:Vl}(h:Cq ds L=some u):Ar u≤4000∧lnV u≤4611686018427387904∧Good (.th u):=by
 unfold Cq at h;by_cases hg:L.code=1∧L.ss.length=1
 ·rw[Af hg]at h;unfold Cx at h;by_cases hok:Cf L.zs L.h L.b L.n=true
  ·rw[Af hok,Option.map_eq_some_iff]at h;obtain⟨⟨v,l'⟩,h1,h2⟩:=h;cases h2
   have hc:=Hc _ _ _ _ _ h1;obtain⟨h',b',n',ps,e1,e2,e3,hR⟩:=Right.of hok;rw[e2,e3,Dq,Dq,hR.some,Option.getD_some]at h1;have hw:AA ps (L.ss.getD 0 0)=true:=by
    unfold Bc at hv;rw[Cd,Cd]at hv;have hr:=hv.2.1;unfold El at hr;rw[hok,e2,e3,Dq,Dq,hR.some]at hr;have hall:L.ss.all (AA ps)=true:=by simpa using hr
    have hl:=hg.2
    match hss:L.ss,hl with
    | [y],_=>
     rw[hss]at hall
     simpa using hall
   have hgood:=Ko (fun p hp=>(hR.at_ hp).2.2.2.2) _ _ _ _ _ hw h1;have htag:=Kq (q:=fun s=>s.size≤1048576) (fun d hd' c hc'=>by
    have h1:=Dm hd';have h2:=Eb hc';unfold wgD at h1;unfold wgC at h2;omega) _ _ _ _ _ h1
   have hln:=JU _ htag;have:Ar v* (1048576+24)≤4000* (1048576+24):=Er _ (by omega);exact⟨show Ar v≤4000 by omega,show lnV v≤4611686018427387904 by omega,hgood⟩
  ·rw[Ae hok]at h;cases h
 ·rw[Ae hg]at h;cases h
def Cb (xs ys:List Int):Bool:=decide (xs.take (min xs.length ys.length)=ys.take (min xs.length ys.length))
theorem QP (xs:List Int):Cb xs xs=true:=Ax rfl
theorem QQ {xs ys:List Int}(h:Cb xs ys=true) (hl:xs.length=ys.length):xs=ys:=by
 have:=of_decide_eq_true h;rw[hl,Nat.min_self,B8,←hl,B8]at this;exact this
def DZ (o v:Option Vl) (xs ys:List Int):Bool:=match o,v with
 |some u,some v=>decide (txV u=txV v)&& decide (xs=ys)
 |_,_=>false
theorem Js (v:Option Vl) (xs ys:List Int):DZ none v xs ys=false:=by cases v <;> rfl
theorem Jt (o:Option Vl) (xs ys:List Int):DZ o none xs ys=false:=by cases o <;> rfl
theorem Gy (u v:Vl) (xs ys:List Int):DZ (some u) (some v) xs ys= (decide (txV u=txV v)&& decide (xs=ys)):=rfl
theorem QR {xs ys:List Int}(o v:Option Vl) (h:Cb xs ys=false):DZ o v xs ys=false:=by
 have hne:xs≠ys:=fun e=>by rw[e,QP]at h;cases h
 cases o with
 |none=>rw[Js]
 |some u=>cases v with
  |none=>rw[Jt]
  |some v=>rw[Gy,AF hne,Bool.and_false]
theorem QS {xs ys:List Int}(h:Cb xs ys=true):decide (xs=ys)= ((xs.length:Int)==(ys.length:Int)):=by
 by_cases hl:xs.length=ys.length
 ·rw[Ax (QQ h hl),hl];simp
 ·rw[AF (fun e=>hl (by rw[e]))];symm;rw[Kj];omega
noncomputable def Ft (ds:List Dt) (x:Nd) (L:VmL):Bool:=
 Bc L&& (if L.code=1∧(AV ds x 4000).1≠1 then DZ (Cq ds L) (AV ds x 4000).2.1 L.os (AV ds x 4000).2.2 else Cb L.os (AV ds x 4000).2.2)
theorem TQ {B1 B2:Nat}(va vb:Value) (xs ys:List Int) (w:World) (ha:Rd B1 .i64 w va xs) (hb:Rd B2 .i64 w vb ys):
  Calls Pq 38 #[va,vb] w fun e w'=>e= .returned (.bool (decide (xs=ys)))∧Still w w':=by
 have hx:=ha.len;have hy:=hb.len;unfold maxLen at hx hy;by_cases hl:xs.length=ys.length
 ·rcases ha with ⟨rfl,a,cap,rfl⟩ |⟨b,off,cap,rfl,hB,hbs,hm,hc⟩
  ·have hy0:ys=[]:=List.eq_nil_of_length_eq_zero (by simpa using hl.symm);subst hy0;rcases hb with ⟨_,a',cap',rfl⟩ |⟨b',off',cap',rfl,hB',hbs',hm',hc'⟩
   all_goals
    go_enter Tryz.func38,Tryz.ntmps38;go_wp2;refine FD 1 ?_;rw[FE];go_wp2;go_ret;exact⟨Ac (by simp),Still.refl _⟩
  ·rcases hb with ⟨rfl,a',cap',rfl⟩ |⟨b',off',cap',rfl,hB',hbs',hm',hc'⟩
   ·have hx0:xs=[]:=List.eq_nil_of_length_eq_zero (by simpa using hl);subst hx0;go_enter Tryz.func38,Tryz.ntmps38;go_wp2;refine FD 1 ?_;rw[FE];go_wp2;go_ret;exact⟨Ac (by simp),Still.refl _⟩
   ·have hne:((xs.length:Int) !=(ys.length:Int))=false:=by simp[hl]
    have HL:=Aa hl;clear hl;go_enter Tryz.func38,Tryz.ntmps38;go_wp2
    go_loopw [13] (fun i wr=>∃k n:Nat,k≤xs.length∧i= .int .i64 k∧wr=w.drewN n∧Hid (∀j,j < k→xs.getD j 0=ys.getD j 0)) (fun i _=>xs.length - (intOf i).toNat)
    case atStart=>exact⟨0,0,Ao _,rfl,rfl,fun j hj=>by omega⟩
    case round=>
     obtain⟨k,n,hk,rfl,rfl,hd⟩:=hrel;by_cases hlt:k < xs.length
     ·have c1:=hc k hlt;have c2:=hc' k (by rw[←HL.out];exact hlt);have hlt2:k < ys.length:=by rw[←HL.out];exact hlt
      clear hc hc';go_wp2;go_quiet (fail);go_wp2
      ·have h:(xs[k] !=ys[k])=true:=by assumption
       go_ret;exact⟨Ac (by simp only[G0]at h;symm;rw[Dr];rintro rfl;exact h rfl),⟨n+nq,by simp⟩⟩
      ·have h:(xs[k] !=ys[k])=false:=by assumption
       go_roundw
       case rel=>exact⟨k+1,n+nq,hlt,by go_num,rfl,Md HL.out hlt hd (by simp only[bne_eq_false_iff_eq]at h;simpa [List.getD,Ay hlt,Ay hlt2] using h)⟩
       case measure=>simp[intOf];omega
     ·go_wp2;go_ret;exact⟨Ac (by rw[Me HL.out (fun j hj=>hd j (by omega))];simp),⟨_,rfl⟩⟩
 ·have hne:((xs.length:Int) !=(ys.length:Int))=true:=by simp;omega
  have hv:(∃a n cap,va= .slice a n cap∧n=xs.length)∧(∃a n cap,vb= .slice a n cap∧n=ys.length):=by
   constructor
   ·rcases ha with ⟨rfl,a,cap,rfl⟩ |⟨b,off,cap,rfl,_⟩
    ·exact⟨_,_,_,rfl,rfl⟩
    ·exact⟨_,_,_,rfl,rfl⟩
   ·rcases hb with ⟨rfl,a,cap,rfl⟩ |⟨b,off,cap,rfl,_⟩
    ·exact⟨_,_,_,rfl,rfl⟩
    ·exact⟨_,_,_,rfl,rfl⟩
  obtain⟨⟨a1,n1,c1,rfl,rfl⟩,⟨a2,n2,c2,rfl,rfl⟩⟩:=hv;have hf:decide (xs=ys)=false:=by simp;intro h;exact hl (by rw[h])
  have HF:=Aa hf;clear hf ha hb hl;go_enter Tryz.func38,Tryz.ntmps38;go_wp2;go_ret;exact⟨Ac HF.out.symm,Still.refl _⟩
theorem Nk {B:Nat}{k:IntKind}{w:World}{a:Option Addr}{cap:Nat}{zs:List Int}(h:Rd B k w (.slice a zs.length cap) zs):zs.length≤cap:=by
 rcases h with ⟨h,_⟩ |⟨b,off,cap',hv,_,_,h4,_⟩
 ·rw[h];exact Ao _
 ·injection hv with _ _ e
  rw[e];exact h4.2
theorem Is {B:Nat}{k:IntKind}{w:World}{a:Option Addr}{cap cap' m:Nat}{zs:List Int}(h:Rd B k w (.slice a zs.length cap) zs) (hm:m≤zs.length) (hc:m≤cap'):Rd B k w (.slice a m cap') (zs.take m):=by
 have hl:(zs.take m).length=m:=by rw[IG];omega
 rcases h with ⟨h,_⟩ |⟨b,off,cap2,hv,h2,h3,h4,h5⟩
 ·rw[h]at hm ⊢;have:m=0:=by simpa using hm
  subst this;exact .inl ⟨rfl,_,_,rfl⟩
 ·injection hv with e1 _ _
  subst e1;refine .inr ⟨b,off,cap',by rw[hl],h2,h3,⟨by omega,by omega⟩,fun j hj=> ?_⟩;rw[hl]at hj;rw[h5 j (by omega),List.getD_eq_getElem?_getD,List.getD_eq_getElem?_getD,DU,Af hj]
theorem Jr {B1 B2:Nat}(va vb:Value) (xs ys:List Int) (w:World) (ra:Rd B1 .i64 w va xs) (rb:Rd B2 .i64 w vb ys):
  Calls Pq 38 #[va,vb] w fun e w'=>e= .returned (.bool (decide (xs=ys)))∧Below w.heap.size w w':=
 (TQ va vb xs ys w ra rb).mono fun e w' h=>⟨h.1,h.2.below _⟩
theorem L2 {B1 B2:Nat}(va vb:Value) (xs ys:List Int) (w:World) (ra:Rd B1 .i64 w va xs) (rb:Rd B2 .i64 w vb ys) (hs:xs.length≤1048576):
  Calls Pq 36 #[va,vb] w fun e w'=>e= .returned (.bool (Cb xs ys))∧Below w.heap.size w w':=by
 obtain⟨a,ca,rfl⟩:=ra.form;obtain⟨b,cb,rfl⟩:=rb.form;have hyl:=rb.len;unfold maxLen at hyl;have c1:=Nk ra;have c2:=Nk rb;have HR:=Aa ra;have HB:=Aa rb;by_cases hle:xs.length≤ys.length
 ·have hmin:min xs.length ys.length=xs.length:=Nat.min_eq_left hle;have HE:=Aa (show decide (xs=ys.take xs.length)=Cb xs ys by unfold Cb;rw[hmin,B8]);have hlt:(xs.length:Int)≤ (ys.length:Int):=by omega
  have hc1:(xs.length:Int)≤ (ca:Int):=by omega
  have hc2:(xs.length:Int)≤ (cb:Int):=by omega
  have h0:(0:Int)≤ (xs.length:Int):=by omega
  clear ra rb hmin;go_enter Tryz.func36,Tryz.ntmps36;go_wp2;refine wp_region_held_drew (S:=(fun w'=>True)) (by kernel_rfl) (by first | (dsimp only;trivial) | (trivial)) (fun hHeld=> ?_);refine tkH (i:=0) ?_;refine tkH (i:=1) ?_;refine tkH (i:=2) ?_;refine tkH (i:=3) ?_;refine tkH (i:=4) ?_;refine tkH (i:=5) ?_;generalize hxd:w.drew=w1 at hHeld;have hd:Below w.heap.size w w1:=by rw[←hxd];exact(Ab _ _).drew
  have ra:=Is (HR.out.below' hd) (Ad _) (cap':=ca) (by omega);have rb:=Is (HB.out.below' hd) hle (cap':=cb) (by omega);rw[B8]at ra;have HC:=Jr _ _ _ _ w1 ra rb;rw[HE.out]at HC;refine rdH (i:=6) (fun K hK=> ?_);go_simp;refine HC.mono ?_;rintro e w2 ⟨rfl,b2⟩;refine bkH hK (by first | (dsimp only;trivial) | (trivial)) (fun hHeld=> ?_);clear hK K;refine tkH (i:=7) ?_;refine A2 (by kernel_rfl) ?_ _;go_wp2;go_ret;exact⟨rfl,hd.trans (b2.mono hd.size)⟩
 ·have hle':ys.length≤xs.length:=by omega
  have hmin:min xs.length ys.length=ys.length:=Nat.min_eq_right hle';have HE:=Aa (show decide (xs.take ys.length=ys)=Cb xs ys by unfold Cb;rw[hmin,B8]);have hlt:¬(xs.length:Int)≤ (ys.length:Int):=by omega
  have hc1:(ys.length:Int)≤ (ca:Int):=by omega
  have hc2:(ys.length:Int)≤ (cb:Int):=by omega
  have h0:(0:Int)≤ (ys.length:Int):=by omega
  clear ra rb hmin;go_enter Tryz.func36,Tryz.ntmps36;go_wp2;refine wp_region_held_drew (S:=(fun w'=>True)) (by kernel_rfl) (by first | (dsimp only;trivial) | (trivial)) (fun hHeld=> ?_);refine tkH (i:=0) ?_;refine tkH (i:=1) ?_;refine tkH (i:=2) ?_;refine tkH (i:=3) ?_;refine tkH (i:=4) ?_;refine tkH (i:=5) ?_;generalize hxd:w.drew=w1 at hHeld;have hd:Below w.heap.size w w1:=by rw[←hxd];exact(Ab _ _).drew
  have ra:=Is (HR.out.below' hd) hle' (cap':=ca) (by omega);have rb:=Is (HB.out.below' hd) (Ad _) (cap':=cb) (by omega);rw[B8]at rb;have HC:=Jr _ _ _ _ w1 ra rb;rw[HE.out]at HC;refine rdH (i:=6) (fun K hK=> ?_);go_simp;refine HC.mono ?_;rintro e w2 ⟨rfl,b2⟩;refine bkH hK (by first | (dsimp only;trivial) | (trivial)) (fun hHeld=> ?_);clear hK K;refine tkH (i:=7) ?_;refine A2 (by kernel_rfl) ?_ _;go_wp2;go_ret;exact⟨rfl,hd.trans (b2.mono hd.size)⟩
theorem QJ (xs ys:List Int) (k:Nat) (h1:k < xs.length) (h2:k < ys.length) (h:xs.getD k 0≠ys.getD k 0):Cb xs ys=false:=by
 unfold Cb;rw[Dr];intro e;have:=Bk (fun l=>l.getD k 0) e;simp only[List.getD_eq_getElem?_getD,DU]at this h;rw[Af (by omega),Af (by omega)]at this;exact h this
theorem QK (xs ys:List Int) (k:Nat) (hk:xs.length≤k∨ys.length≤k) (hd:∀j,j < k→xs.getD j 0=ys.getD j 0):Cb xs ys=true:=by
 unfold Cb;refine Ax ?_;refine Ke fun j=> ?_;rw[DU,DU];by_cases hj:j < min xs.length ys.length
 ·rw[Af hj,Af hj];have:=hd j (by omega);simp only[List.getD_eq_getElem?_getD]at this;rw[Ay (by omega),Ay (by omega)]at this ⊢;exact Bk some this
 ·rw[Ae hj,Ae hj]
theorem QL {B1 B2:Nat}(va vb:Value) (xs ys:List Int) (w:World) (ra:Rd B1 .i64 w va xs) (rb:Rd B2 .i64 w vb ys):
  Calls Pq 26 #[va,vb] w fun e w'=>e= .returned (.bool (Cb xs ys))∧Below w.heap.size w w':=by
 have hx:=ra.len;have hy:=rb.len;unfold maxLen at hx hy;have HA:=Aa ra;have HB:=Aa rb;have HN:=Aa (QJ xs ys);have HY:=Aa (QK xs ys);generalize Cb xs ys=bg at*;obtain⟨a,ca,rfl⟩:=ra.form;obtain⟨b,cb,rfl⟩:=rb.form;clear ra rb;go_enter Tryz.func26,Tryz.ntmps26;go_wp2
 go_loopw [5] (fun i wr=>∃k n:Nat,k≤xs.length∧i= .int .i64 k∧wr=w.drewN n∧Hid (∀j,j < k→xs.getD j 0=ys.getD j 0)) (fun i _=>xs.length - (intOf i).toNat)
 case atStart=>exact⟨0,0,Ao _,rfl,rfl,fun j hj=>by omega⟩
 case round=>
  obtain⟨k,n,hk,rfl,rfl,hd⟩:=hrel;have BB:=Aa (AM (Ab w.heap.size w) n);by_cases hlt:k < xs.length
  ·have hki:(k:Int) < (xs.length:Int):=by omega
   by_cases hl2:k < ys.length
   ·have hkj:(k:Int) < (ys.length:Int):=by omega
    have hk0:(0:Int)≤ (k:Int):=by omega
    rcases HA.out with ⟨h',_⟩ |⟨pb,poff,pc,hv,_,_,hm,hc⟩
    ·rw[h']at hlt;simp at hlt
    cases hv
    rcases HB.out with ⟨h',_⟩ |⟨pb',poff',pc',hv,_,_,hm',hc'⟩
    ·rw[h']at hl2;simp at hl2
    cases hv
    have c1:=hc k hlt;have c2:=hc' k hl2;clear hc hc' hm hm';by_cases he:xs.getD k 0=ys.getD k 0
    ·have HE:=Aa he;rw[he]at c1;clear he;obtain⟨v,hv⟩:∃v,ys.getD k 0=v:=⟨_,rfl⟩;rw[hv]at c1 c2;have hq:(v !=v)=false:=by simp
     have HV:=Aa hv;clear hv;go_wp2;go_quiet (fail);go_wp2;go_roundw
     case rel=>exact⟨k+1,n+nq,hlt,by go_num,by simp,fun j hj=>by
      by_cases e:j=k
      ·subst e;exact HE.out
      ·exact hd.out j (by omega)⟩
     case measure=>simp[intOf];omega
    ·have HF:=Aa (HN.out k hlt hl2 he);have hq:(xs.getD k 0 !=ys.getD k 0)=true:=by simpa using he
     clear he;generalize xs.getD k 0=u at*;generalize ys.getD k 0=v at*;go_wp2;go_quiet (fail);go_wp2;go_ret;exact⟨Ac HF.out.symm,by first |exact AM BB.out _ |exact BB.out.drew⟩
   ·have hkj:¬(k:Int) < (ys.length:Int):=by omega
    have HF:=Aa (HY.out k (.inr (by omega)) hd.out);go_wp2;go_ret;exact⟨Ac HF.out.symm,BB.out⟩
  ·have hki:¬(k:Int) < (xs.length:Int):=by omega
   have HF:=Aa (HY.out k (.inl (by omega)) hd.out);go_wp2;go_ret;exact⟨Ac HF.out.symm,BB.out⟩
end Go.Proofs.YtifhcbeaiijkcaaGreat
