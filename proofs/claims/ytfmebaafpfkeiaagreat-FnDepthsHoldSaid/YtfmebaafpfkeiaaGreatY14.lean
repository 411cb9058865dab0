/- Parts of the proof of FnDepthsHold, FnEnds, FnMeant, FnMovedWhenever, FnSizes. -/
import Derived.Test.YtfmebaafpfkeiaaGreatY12
import Derived.Test.YtfmebaafpfkeiaaGreatY13
import Derived.IntWalk
import Derived.Deep.DeepCutAuto
import Derived.Deep.CutRange
import Derived.Test.YtfmebaafpfkeiaaGreatY11
import Derived.StillTailTactics
set_option linter.unusedVariables false
set_option linter.unusedSimpArgs false
set_option maxRecDepth 1000000
set_option maxHeartbeats 16000000
namespace Go.Proofs.YtfmebaafpfkeiaaGreat
open Go.RowKit
def Qe (u:Value) (bl at_ m:Nat):Prop:=∃a k c,u= .slice a k c∧k=m∧(m=0∨a=some ⟨bl,at_,none⟩)
theorem Qf {B:Nat}(bl off cap:Nat) (ws:List Int) (h b n:Int) (p:Nat) (w:World) (hr:Rd B .i64 w (.slice (some ⟨bl,off,none⟩) ws.length cap) ws) (hw:Au ws) (hh:hOk (ws.getD p 0)=true) (hfit:p+1+hK (ws.getD p 0)≤ws.length) (hlen:ws.length≤4294967296):
  Calls Tryz.prog 74 #[.agg #[.slice (some ⟨bl,off,none⟩) ws.length cap,.int .i64 h,.int .i64 b,.int .i64 n],.int .i64 p] w fun e w'=>
   ∃u,e= .returned (.tuple #[.bool (Ce (ws.getD p 0)),.int .i64 (Az (ws.getD p 0)),u])∧Qe u bl (off+ (p+1)) (hK (ws.getD p 0))∧Below w.heap.size w w':=by
 rcases hr with ⟨hnil,_⟩ |⟨bl',off',cap',hv,hB,hbs,hm,hc⟩
 ·rw[hnil]at hfit;simp at hfit
 cases hv
 obtain⟨hm1,hm2⟩:=hm;have c2:=hc p (by omega);obtain⟨x,hxx⟩:∃x,ws.getD p 0=x:=⟨_,rfl⟩;have hx:=hw p;rw[hxx]at hx hh hfit c2 ⊢;obtain⟨hx0,hx1⟩:=hx;have HX:=Lib.hid hxx;have hkn:=FK x;have HKN:=Lib.hid hkn;have hkb:=Ex x;rw[←hkn]at hkb;obtain⟨hkb1,hkb2⟩:=hkb;clear hxx hkn hw hc;by_cases hcp:cap=p+1
 ·have h0:hK x=0:=by omega
  subst hcp;go_enter Tryz.func74,Tryz.ntmps74;go_wp2_with fail;refine(Fc _ _ hh hx1).mono ?_;rw[←HKN.out];rintro e w' ⟨rfl,rfl⟩;go_wp2_with fail;go_quiet (fail);go_wp2
  go_ret3
  exact⟨_,rfl,⟨_,_,_,rfl,by omega,.inl (by omega)⟩,below_drewN ((Below.refl _ _).alloc (Nat.le_refl _) _) _⟩
 ·go_enter Tryz.func74,Tryz.ntmps74;go_wp2_with fail;refine(Fc _ _ hh hx1).mono ?_;rw[←HKN.out];rintro e w' ⟨rfl,rfl⟩;go_wp2_with fail;go_quiet (fail);go_wp2
  go_ret3
  exact⟨_,rfl,⟨_,_,_,rfl,by omega,.inr rfl⟩,below_drewN ((Below.refl _ _).alloc (Nat.le_refl _) _) _⟩
theorem Rd.of_nums {base:Nat}{w:World}{a:Option Addr}{c:Nat}{S:List Nat}(h:w.ownsRow base 3 1 (.slice a S.length c) S.length (S.map ofN)):Rd w.heap.size .i64 w (.slice a S.length c) (Ax S):=by
 rw[GA]at h;have h2:w.ownsRow base 3 1 (.slice a S.length c) (Ax S).length ((Ax S).map (Value.int .i64)):=by rw[De];exact h
 exact Rd.of_own h2
structure Mvs (w:World) (H g8 gr g9 N:Nat) (h b nx:Int) (ts:List Int) (pv:Value) (pl:List Nat):Prop where
 b8:Bx w g8 #[.slice (some ⟨gr,0,none⟩) N N,.int .i64 h,.int .i64 b,.int .i64 nx]
 tr:w.ownsRow H 3 1 (.slice (some ⟨gr,0,none⟩) N N) N (ts.map (Value.int .i64))
 b9:Bx w g9 #[pv]
 pr:w.ownsRow H 3 1 pv pl.length (pl.map ofN)
 ap:∀k,pv.ownBlock=some k→k≠g8∧k≠gr∧k≠g9
theorem Bx.kept2 {w w':World}{g gr i:Nat}{cur:Array Value}(h:Bx w i cur) (k:Kept2 w w' g gr) (h1:i≠g) (h2:i≠gr):Bx w' i cur:=
 ⟨Nat.lt_of_lt_of_le h.1 k.1,fun j=>(World.cell?_of_block (k.2 i h.1 h1 h2)).trans (h.2.1 j),fun j=>(World.frozen?_of_block (k.2 i h.1 h1 h2)).trans (h.2.2 j)⟩
theorem Hp {base:Nat}{e:TypeId}{sz:Nat}{w w':World}{v:Value}{n g gr:Nat}{xs:List Value}(h:w.ownsRow base e sz v n xs) (k:Kept2 w w' g gr) (hB:∀i,v.ownBlock=some i→i≠g∧i≠gr):w'.ownsRow base e sz v n xs:=by
 refine⟨h.1,?_⟩;rcases h.2 with hn |⟨b,cap,cur,rfl,hbs,hg,rest⟩
 ·exact .inl hn
 ·refine .inr ⟨b,cap,cur,rfl,hbs,?_,rest⟩;rw[k.2 b (Af h b rfl) (hB b rfl).1 (hB b rfl).2];exact hg
structure Sep (H g8 gr g9:Nat):Prop where
 a:H≤g8
 b:H≤gr
 c:H≤g9
 d:g8≠gr
 e:g8≠g9
 f:gr≠g9
theorem Mvs.below {w w':World}{H g8 gr g9 N:Nat}{h b nx:Int}{ts:List Int}{pv:Value}{pl:List Nat}(m:Mvs w H g8 gr g9 N h b nx ts pv pl) (hb:Below w.heap.size w w'):Mvs w' H g8 gr g9 N h b nx ts pv pl:=
 ⟨m.b8.below hb m.b8.1,Al m.tr hb (Af m.tr),m.b9.below hb m.b9.1,Al m.pr hb (Af m.pr),m.ap⟩
theorem Mvs.turn {w:World}{H g8 gr g9 N:Nat}{h b nx:Int}{ts:List Int}{pv:Value}{pl:List Nat}(m:Mvs w H g8 gr g9 N h b nx ts pv pl) (se:Sep H g8 gr g9) {i:Nat}(hi:i < N) (y:Int):
  Mvs (w.setCell ⟨gr,i,none⟩ (.int .i64 y)) H g8 gr g9 N h b nx (ts.set i y) pv pl:=by
 refine⟨m.b8.grown (grownBy.setCell w gr i _) (fun h=>se.d (Option.some.inj h)),?_,m.b9.grown (grownBy.setCell w gr i _) (fun h=>se.f (Option.some.inj h).symm),?_,m.ap⟩
 ·rw[List.map_set];exact Eh m.tr i hi _
 ·exact ownsRow_setCell_other (a:=⟨gr,i,none⟩) m.pr (fun h=>(m.ap _ h).2.1 rfl) _
theorem Ql {b N i:Nat}{l:List Int}(h:i < l.length):(lay b N l)[b+i]?=l[i]?:=by
 unfold lay;rw[List.getElem?_append_right (by simp),List.getElem?_append_left (by simp;omega)];simp
theorem Qm {base N:Nat}{w:World}{gr cap:Nat}{ts:List Int}(h:w.ownsRow base 3 1 (.slice (some ⟨gr,0,none⟩) N cap) N (ts.map (Value.int .i64))) (hl:ts.length=N):Rd w.heap.size .i64 w (.slice (some ⟨gr,0,none⟩) N cap) ts:=by
 subst hl;exact Rd.of_own h
theorem Lx {B:Nat}(v vr:Value) (ws rs:List Int) (h b n:Nat) (ps:List Nat) (w:World) (hR:Right ws h b n ps) (hr:Rd B .i64 w v ws) (hw:Au ws) (hq:Rd B .i64 w vr rs) (hx:rs.all (Ai ps)=true) (hrl:rs.length≤4294967296):
  Calls Tryz.prog 68 #[.agg #[v,.int .i64 h,.int .i64 b,.int .i64 n],vr] w fun e w'=>∃uv qv,e= .returned (.tuple #[.agg #[uv,.int .i64 h,.int .i64 (h - b:Nat),.int .i64 (h - b+ (raw ws (Ao ws rs)).length:Nat)],qv])∧
   w'.ownsRow w.heap.size 3 1 uv ws.length ((lay (h - b) ws.length (mvd ws (h - b) (Ao ws rs) (Ao ws rs))).map (Value.int .i64))∧
   w'.ownsRow w.heap.size 3 1 qv rs.length ((rs.map (mv ws (h - b) (Ao ws rs))).map (Value.int .i64))∧Below w.heap.size w w'∧Diff uv qv:=by
 obtain⟨i0,hi,hz0,hz1,hz2⟩:=info_parts Tryz.infoI2;have hN0:=hR.n_le;have HNL:=Lib.hid hR.frame.len;have hNz:0 < ws.length:=by have:=hR.frame.h0;have:=HNL.out;omega
 obtain⟨hN1,hN2⟩:=hN0;have hbh:b≤h:=by have:=hR.frame.base;omega
 obtain⟨b',hb'⟩:∃b',h - b=b':=⟨_,rfl⟩;have hbb:b'≤3000∧h≤3000:=by have:=hR.frame.h1;omega
 have hb1:b'≤h:=by omega
 have hsub:=Lib.hid (show(h:Int) - (b:Int)= (b':Int)by omega);rw[hb'];have HBE:=Lib.hid hb';clear hb';have hmt:=fun(W:World) (hb:Below w.heap.size w W)=>OM v vr ws rs h b n ps W hR (hr.below' hb) hw (hq.below' hb) hx hrl;have hO:Bo ps (Ao ws rs):=O0 hR _ _ _ (FS (GS ps) hx);obtain⟨o,ho⟩:∃o,Ao ws rs=o:=⟨_,rfl⟩;have hcl:=fun p hp=>KR hR hx (p:=p) hp;have hcr:=KQ ws rs;rw[ho]at hmt hO hcl hcr ⊢;have HM:=Lib.hid hmt;have RW:=Lib.hid (fun(W:World) (hb:Below w.heap.size w W)=>hr.below' hb);have RQ:=Lib.hid (fun(W:World) (hb:Below w.heap.size w W)=>hq.below' hb);obtain⟨a,cap,rfl⟩:=hr.form;obtain⟨qa,qc,rfl⟩:=hq.form;have HO:=Lib.hid hO;have HCL:=Lib.hid hcl;have HCR:=Lib.hid hcr;have HRi:=Lib.hid hR;have HXR:=Lib.hid hx;clear hr hq hmt ho hx hcl hcr;go_enter Tryz.func68,Tryz.ntmps68;go_wp2_with fail;generalize hx:(w.alloc _).alloc _=x;obtain⟨bx,k0,k4,sx⟩:=AS hx;clear hx;refine(HM.out _ bx).mono ?_;rintro e w1 ⟨ov,nv,rfl,oo,rn,b1⟩;replace k0:=k0.below b1 k0.1;replace k4:=k4.below b1 k4.1;obtain⟨na,nc,rfl⟩:=rn.form;obtain⟨oa,oc,rfl⟩:=AC oo;have hol:o.length≤6000:=by have:=HRi.out.ord_len HO.out;omega
 have bb:=bx.trans (b1.mono bx.size);have zx1:=b1.size;clear bx b1;have q0:=k0.2.1 0;have q1:=k0.2.1 1;have q2:=k0.2.1 2;simp at q0 q1 q2;have y0:=k0.1;go_wp2_with fail;generalize hy:w1.alloc _=x1;obtain⟨b2,k7⟩:=Bx.alloc hy;clear hy;replace q0:=(b2.cell (p:=⟨w.heap.size,0,none⟩) y0).trans q0;replace q1:=(b2.cell (p:=⟨w.heap.size,1,none⟩) y0).trans q1;replace q2:=(b2.cell (p:=⟨w.heap.size,2,none⟩) y0).trans q2;replace k0:=k0.below b2 k0.1;replace k4:=k4.below b2 k4.1;replace oo:=Al oo b2 (Af oo);replace rn:=rn.below' b2;replace bb:=bb.trans (b2.mono bb.size);replace y0:=k0.1;have K0:=Lib.hid k0;have K4:=Lib.hid k4;have K7:=Lib.hid k7;have OO:=Lib.hid oo;have RN:=Lib.hid rn;have BB:=Lib.hid bb;have zx2:=b2.size;clear k0 k4 k7 oo rn bb b2;go_cut [8]from 32 to 43 (fun p W=>∃g8 gr:Nat,p= .pointer (some ⟨g8,0,none⟩)∧Below x1.heap.size x1 W∧x1.heap.size≤g8∧x1.heap.size≤gr∧g8≠gr∧Bx W g8 #[.slice (some ⟨gr,0,none⟩) ws.length ws.length,.int .i64 h,.int .i64 b',.int .i64 0]∧
  W.ownsRow x1.heap.size 3 1 (.slice (some ⟨gr,0,none⟩) ws.length ws.length) ws.length (List.replicate ws.length (.int .i64 0)))
 case first=>
  refine wp_region_held_drew (S:=(fun w'=>w'.cell? ⟨w.heap.size,0,none⟩=some (.slice a ws.length cap)∧w'.cell? ⟨w.heap.size,1,none⟩=some (.int .i64 h)∧w'.cell? ⟨w.heap.size,2,none⟩=some (.int .i64 b))) (by kernel_rfl) (by first | (dsimp only;exact⟨q0,q1,q2⟩) | (exact⟨q0,q1,q2⟩)) (fun hHeld=> ?_);have e1:IntKind.i64.wrap ((h:Int) - (b:Int))= (b':Int):=by rw[hsub.out];exact IntWalk.i64_in _ (by omega)
  refine tkH (i:=0) ?_;refine tkH (i:=1) ?_;refine tkH (i:=2) ?_;refine tkH (i:=4) ?_;refine tkH (i:=5) ?_;refine tkH (i:=6) ?_;refine tkH (i:=7) ?_;refine tkH (i:=8) ?_;refine tkH (i:=9) ?_;refine tkH (i:=10) ?_;have hxd:x1.drew.heap.size=x1.heap.size:=World.size_drew _;generalize hxw:x1.drew=xd at hHeld hxd;have bxd:Below x1.heap.size x1 xd:=by rw[←hxw];exact(Below.refl _ _).drew
  clear hxw;refine wpAnyH_ready (rs:=[3,12]) (by kernel_rfl) (by simp) ?_;refine AllReadyH.cons (by (simp only[List.getElem?_toArray,List.getElem?_cons_succ,List.getElem?_cons_zero];rfl)) (fun K hK=> ?_) (AllReadyH.cons (by (simp only[List.getElem?_toArray,List.getElem?_cons_succ,List.getElem?_cons_zero];rfl)) (fun K hK=> ?_) AllReadyH.nil)
  ·
   rw[if_pos (by rfl)];refine M6 _ (.tmp 34) (.tmp 34) 27 rfl xd.heap.size 3 i0 (.int .i64 0) 1 Tryz.underlying27 hi hz0 hz1 .i64 .i64 _ _ ws.length rfl rfl rfl rfl (by rw[hz2];omega) (by unfold maxLen;omega) (Nat.le_refl _) ?_;intro w2 hown hgrow;have b9:Below xd.heap.size xd w2:=(Below.refl _ _).grown hgrow (Nat.le_refl _) (by simp);rw[show(Value.int IntKind.i64 0).cells= #[.int .i64 0]from rfl,Nat.mul_one,toList_madeCells_one]at hown;refine hK.out _ _ (by first | (dsimp only;exact⟨(b9.cell (by dsimp only;omega)).trans hHeld.1,(b9.cell (by dsimp only;omega)).trans hHeld.2.1,(b9.cell (by dsimp only;omega)).trans hHeld.2.2⟩) | (exact⟨(b9.cell (by dsimp only;omega)).trans hHeld.1,(b9.cell (by dsimp only;omega)).trans hHeld.2.1,(b9.cell (by dsimp only;omega)).trans hHeld.2.2⟩)) (fun hHeld=> ?_);clear hK K
   try simp only[Act.put,List.setIfInBounds_toArray,List.set_cons_zero,List.set_cons_succ]
   refine tkH (i:=11) ?_;refine wpAnyH_ready (rs:=[12]) (by kernel_rfl) (by simp) ?_;refine AllReadyH.cons (by (simp only[List.getElem?_toArray,List.getElem?_cons_succ,List.getElem?_cons_zero];rfl)) (fun K hK=> ?_) AllReadyH.nil;go_simp;generalize hy:w2.alloc _=x2;obtain⟨b8,k8⟩:=Bx.alloc hy;clear hy;have b9z:=b9.size;refine hK.out _ _ (by first | (dsimp only;exact⟨(b8.cell (by dsimp only;omega)).trans hHeld.1,(b8.cell (by dsimp only;omega)).trans hHeld.2.1,(b8.cell (by dsimp only;omega)).trans hHeld.2.2⟩) | (exact⟨(b8.cell (by dsimp only;omega)).trans hHeld.1,(b8.cell (by dsimp only;omega)).trans hHeld.2.1,(b8.cell (by dsimp only;omega)).trans hHeld.2.2⟩)) (fun hHeld=> ?_);clear hK K
   try simp only[Act.put,List.setIfInBounds_toArray,List.set_cons_zero,List.set_cons_succ]
   have c8:=k8.2.1;have f8:=k8.2.2;refine wpAnyH_ready (rs:=[13]) (by kernel_rfl) (by simp) ?_;refine AllReadyH.cons (by (simp only[List.getElem?_toArray,List.getElem?_cons_succ,List.getElem?_cons_zero];rfl)) (fun K hK=> ?_) AllReadyH.nil;go_simp;have b10:=((((Below.refl w2.heap.size x2).setCell (p:=⟨w2.heap.size,0,none⟩) (Nat.le_refl _) (.slice (some ⟨x1.heap.size,0,none⟩) ws.length ws.length)).setCell (p:=⟨w2.heap.size,1,none⟩) (Nat.le_refl _) (.int .i64 h)).setCell (p:=⟨w2.heap.size,2,none⟩) (Nat.le_refl _) (.int .i64 b')).setCell (p:=⟨w2.heap.size,3,none⟩) (Nat.le_refl _) (.int .i64 0);have K10:=Lib.hid ((((k8.set 0 (by simp) (.slice (some ⟨x1.heap.size,0,none⟩) ws.length ws.length)).set 1 (by simp) (.int .i64 h)).set 2 (by simp) (.int .i64 b')).set 3 (by simp) (.int .i64 0));have ow:=hown;rw[hxd]at ow;have O10:=Lib.hid (Al (Al ow b8 (Af ow)) b10 (fun k hk=>by have:=Af ow k hk;omega));have B10:=Lib.hid (((bxd.trans (b9.mono bxd.size)).trans (b8.mono (by have:=bxd.size;omega))).trans (b10.mono (by have:=bxd.size;omega)));have hne:=(Af ow) _ rfl;have hge:x1.heap.size≤w2.heap.size:=by omega
   generalize hww:World.setCell _ _ _=W4 at b10 K10 O10 B10 ⊢;clear hww;refine hK.out _ _ (by exact⟨(b10.cell (by dsimp only;omega)).trans hHeld.1,(b10.cell (by dsimp only;omega)).trans hHeld.2.1,(b10.cell (by dsimp only;omega)).trans hHeld.2.2⟩) (fun hHeld=> ?_);clear hK K;refine wpAnyH_done (by kernel_rfl) ?_ _;go_wp2_with fail;go_meet;exact⟨_,_,rfl,B10.out,hge,Nat.le_refl _,by omega,K10.out,O10.out⟩
  ·
   go_simp;generalize hy:xd.alloc _=x2;obtain⟨b9,k8⟩:=Bx.alloc hy;clear hy;have b9z:=b9.size;refine hK.out _ _ (by exact⟨(b9.cell (by dsimp only;omega)).trans hHeld.1,(b9.cell (by dsimp only;omega)).trans hHeld.2.1,(b9.cell (by dsimp only;omega)).trans hHeld.2.2⟩) (fun hHeld=> ?_);clear hK K
   try simp only[Act.put,List.setIfInBounds_toArray,List.set_cons_zero,List.set_cons_succ]
   refine wpAnyH_ready (rs:=[3]) (by kernel_rfl) (by simp) ?_;refine AllReadyH.cons (by (simp only[List.getElem?_toArray,List.getElem?_cons_succ,List.getElem?_cons_zero];rfl)) (fun K hK=> ?_) AllReadyH.nil;rw[if_pos (by rfl)];refine M6 _ (.tmp 34) (.tmp 34) 27 rfl x2.heap.size 3 i0 (.int .i64 0) 1 Tryz.underlying27 hi hz0 hz1 .i64 .i64 _ _ ws.length rfl rfl rfl rfl (by rw[hz2];omega) (by unfold maxLen;omega) (Nat.le_refl _) ?_;intro w2 hown hgrow;have b8:Below x2.heap.size x2 w2:=(Below.refl _ _).grown hgrow (Nat.le_refl _) (by simp);rw[show(Value.int IntKind.i64 0).cells= #[.int .i64 0]from rfl,Nat.mul_one,toList_madeCells_one]at hown;refine hK.out _ _ (by exact⟨(b8.cell (by dsimp only;omega)).trans hHeld.1,(b8.cell (by dsimp only;omega)).trans hHeld.2.1,(b8.cell (by dsimp only;omega)).trans hHeld.2.2⟩) (fun hHeld=> ?_);clear hK K
   try simp only[Act.put,List.setIfInBounds_toArray,List.set_cons_zero,List.set_cons_succ]
   refine tkH (i:=11) ?_;have hxl:=k8.1;replace k8:=k8.below b8 hxl;rw[hxd]at k8 hxl;have c8:=k8.2.1;have f8:=k8.2.2;refine wpAnyH_ready (rs:=[13]) (by kernel_rfl) (by simp) ?_;refine AllReadyH.cons (by (simp only[List.getElem?_toArray,List.getElem?_cons_succ,List.getElem?_cons_zero];rfl)) (fun K hK=> ?_) AllReadyH.nil;go_simp;have b10:=((((Below.refl x1.heap.size w2).setCell (p:=⟨x1.heap.size,0,none⟩) (Nat.le_refl _) (.slice (some ⟨x2.heap.size,0,none⟩) ws.length ws.length)).setCell (p:=⟨x1.heap.size,1,none⟩) (Nat.le_refl _) (.int .i64 h)).setCell (p:=⟨x1.heap.size,2,none⟩) (Nat.le_refl _) (.int .i64 b')).setCell (p:=⟨x1.heap.size,3,none⟩) (Nat.le_refl _) (.int .i64 0);have K10:=Lib.hid ((((k8.set 0 (by simp) (.slice (some ⟨x2.heap.size,0,none⟩) ws.length ws.length)).set 1 (by simp) (.int .i64 h)).set 2 (by simp) (.int .i64 b')).set 3 (by simp) (.int .i64 0));have O10:=Lib.hid (ownsRow_setCell_other (a:=⟨x1.heap.size,3,none⟩) (ownsRow_setCell_other (a:=⟨x1.heap.size,2,none⟩) (ownsRow_setCell_other (a:=⟨x1.heap.size,1,none⟩) (ownsRow_setCell_other (a:=⟨x1.heap.size,0,none⟩) (AR hown (show x1.heap.size≤x2.heap.size by omega)) (fun h=>absurd (Option.some.inj h) (by show ¬(x2.heap.size=x1.heap.size);omega)) (.slice (some ⟨x2.heap.size,0,none⟩) ws.length ws.length)) (fun h=>absurd (Option.some.inj h) (by show ¬(x2.heap.size=x1.heap.size);omega)) (.int .i64 h)) (fun h=>absurd (Option.some.inj h) (by show ¬(x2.heap.size=x1.heap.size);omega)) (.int .i64 b')) (fun h=>absurd (Option.some.inj h) (by show ¬(x2.heap.size=x1.heap.size);omega)) (.int .i64 0));have B10:=Lib.hid (((bxd.trans (b9.mono bxd.size)).trans (b8.mono (by have:=bxd.size;omega))).trans b10);generalize hww:World.setCell _ _ _=W4 at b10 K10 O10 B10 ⊢;clear hww;refine hK.out _ _ (by exact⟨(b10.cell (by dsimp only;omega)).trans hHeld.1,(b10.cell (by dsimp only;omega)).trans hHeld.2.1,(b10.cell (by dsimp only;omega)).trans hHeld.2.2⟩) (fun hHeld=> ?_);clear hK K;refine wpAnyH_done (by kernel_rfl) ?_ _;go_wp2_with fail;go_meet;exact⟨_,_,rfl,B10.out,Nat.le_refl _,by omega,by omega,K10.out,O10.out⟩
 case rest=>
  obtain⟨g8,gr,rfl,bc,hg8,hgr,hne,k8,ot⟩:=hcut;have hzz:List.replicate ws.length (Value.int .i64 0)= (lay b' ws.length (raw ws [])).map (Value.int .i64):=by
   rw[Ly,Qn (by have:=HNL.out;omega),List.map_replicate]
  rw[hzz]at ot;have g8n:some g8≠ (Value.slice (some ⟨gr,0,none⟩) ws.length ws.length).ownBlock:=fun h=>hne (Option.some.inj h);have lr:=(ot.lt gr rfl).2;have l8:=k8.1;have bz:=bc.size;have q8:=k8.2.1;have f8:=k8.2.2;have y8:=k8.1;have SM:Mvs (((wc.setCell ⟨g8,3,none⟩ (.int .i64 b')).alloc (Obj.cells #[] 3)).alloc (Obj.cells #[.slice (some ⟨wc.heap.size,0,none⟩) 0 0] 27)) x1.heap.size g8 gr (wc.heap.size+1) ws.length h b' b' (lay b' ws.length (raw ws [])) (.slice (some ⟨wc.heap.size,0,none⟩) 0 0) []:=by
   have hz:(wc.setCell ⟨g8,3,none⟩ (.int .i64 b')).heap.size=wc.heap.size:=by simp
   have k8a:=k8.set 3 (by simp) (.int .i64 b');have ota:=ownsRow_setCell_other (a:=⟨g8,3,none⟩) ot (fun h=>absurd (Option.some.inj h) (by show ¬(gr=g8);omega)) (.int .i64 b');generalize hwa:wc.setCell _ _=wa at hz k8a ota ⊢;obtain⟨b1,k1⟩:=Bx.alloc (w:=wa) (cur:= #[]) (e:=3) rfl;have o1:(wa.alloc (Obj.cells #[] 3)).ownsRow x1.heap.size 3 1 (.slice (some ⟨wc.heap.size,0,none⟩) 0 0) 0 []:=by
    rw[←hz];exact EO rfl (by omega)
   have hz1:(wa.alloc (Obj.cells #[] 3)).heap.size=wc.heap.size+1:=by rw[←hz];simp
   have k8b:=k8a.below b1 k8a.1;have otb:=Al ota b1 (Af ota);generalize hwb:wa.alloc _=wb at b1 o1 hz1 k8b otb ⊢;obtain⟨b2,k2⟩:=Bx.alloc (w:=wb) (cur:= #[.slice (some ⟨wc.heap.size,0,none⟩) 0 0]) (e:=27) rfl;rw[hz1]at k2;exact⟨k8b.below b2 k8b.1,Al otb b2 (Af otb),k2,Al o1 b2 (Af o1),fun k hk=>by have e:wc.heap.size=k:=Option.some.inj hk;subst e;exact⟨by omega,by omega,by omega⟩⟩
  have BM:Below x1.heap.size x1 (((wc.setCell ⟨g8,3,none⟩ (.int .i64 b')).alloc (Obj.cells #[] 3)).alloc (Obj.cells #[.slice (some ⟨wc.heap.size,0,none⟩) 0 0] 27)):=
   ((bc.setCell (p:=⟨g8,3,none⟩) hg8 _).alloc (by simp;omega) _).alloc (by simp;omega) _
  have SE:Sep x1.heap.size g8 gr (wc.heap.size+1):=⟨hg8,hgr,by omega,hne,by omega,by omega⟩;have HSM:=Lib.hid SM;have HBM:=Lib.hid BM;clear hzz bc SM BM q0 q1 q2;go_wp2;generalize hwl:World.alloc _ _=wl at HSM HBM ⊢;clear hwl;obtain⟨g9,hg9⟩:∃g9,wc.heap.size+1=g9:=⟨_,rfl⟩;rw[hg9]at SE HSM ⊢;clear hg9 k8 ot q8 f8 y8 l8 lr bz hne hg8 hgr g8n;have HSE:=Lib.hid SE;have e8:=SE.a;have er:=SE.b;have e9:=SE.c;have hlen6:ws.length≤6000:=hN2;have hbl:=fun(W:World) (p:Nat) (hp:p∈ps) (hb:Below w.heap.size w W)=>F5 _ ws h b n p W (RW.out W hb) hw (hR.at_ hp).2.2.1 (Nat.le_trans (hR.at_ hp).2.2.2.1 hN1) (by omega);have HBL:=Lib.hid hbl;have hhx:w.heap.size≤x1.heap.size:=by have:=BB.out.size;omega
  have HW:=Lib.hid hw;clear hbl hw hR SE
  go_loopw [50] (fun i wr=>∃ (k:Nat) (pv:Value),k≤o.length∧i= .int .i64 k∧Mvs wr x1.heap.size g8 gr g9 ws.length h b' ((b'+ (raw ws (o.take k)).length:Nat):Int) (lay b' ws.length (raw ws (o.take k))) pv (AX ws b' (o.take k))∧Below x1.heap.size x1 wr) (fun i _=>o.length - (intOf i).toNat)
  case atStart=>exact⟨0,_,Nat.zero_le _,rfl,HSM.out,HBM.out⟩
  case round=>
   clear HSM HBM;obtain⟨k,pv,hk,rfl,hM,hb⟩:=hrel;by_cases hlt:k < o.length
   ·have oo:=Al OO.out hb (Af OO.out);obtain⟨og,rfl,co⟩:=Hl oo k hlt;rw[List.getElem?_map,List.getElem?_eq_getElem hlt,Option.map_some]at co;have hpm:=HO.out.2 _ (List.getElem_mem hlt);obtain⟨p,hpp⟩:∃p,o[k]=p:=⟨_,rfl⟩;rw[hpp]at co hpm;unfold ofN at co;obtain⟨r1,r2,r3,r4,r5⟩:=HRi.out.at_ hpm;have k0:=K0.out.below hb K0.out.1;have q0:=k0.2.1 0;have q1:=k0.2.1 1;have q2:=k0.2.1 2;have q3:=k0.2.1 3;simp at q0 q1 q2 q3;have hki:(k:Int) < (o.length:Int):=by omega
    have bw:=BB.out.trans (hb.mono hhx);have BW:=Lib.hid bw;have M1:=Lib.hid hM;have B1:=Lib.hid hb;have HPP:=Lib.hid hpp;have R3:=Lib.hid r3;have R4:=Lib.hid r4;clear hM hb oo k0 bw hpp r3 r4 r5;go_wp2_with fail;refine(HBL.out _ p hpm BW.out).mono ?_;rintro e w5 ⟨u,rfl,ru,b5⟩;obtain⟨ua,uc,rfl⟩:=ru.form;have hM:=M1.out.below b5;have hb5:=B1.out.trans (b5.mono B1.out.size);have hq:o.take (k+1)=o.take k++ [p]:=by rw[←List.take_append_getElem hlt,HPP.out]
    have hrl2:=HRi.out.raw_le HO.out;have htl:=F8 ws o (k+1);have hkl:(Ae ws p).length=hK (ws.getD p 0):=Ix (Nat.le_trans R4.out hN1);have hbl2:(blk ws p).length=1+hK (ws.getD p 0):=by simp[blk,hkl];omega
    have hLL:(lay b' ws.length (raw ws (o.take k))).length=ws.length:=F6 (by have:=F8 ws o k;have:=HNL.out;omega);obtain⟨t1,t2,t3,t4⟩:=FJ.1 R3.out;have hk20:hK (ws.getD p 0)≤20:=by have:=FK (ws.getD p 0);omega
    have ht0:0≤Az (ws.getD p 0):=by unfold Az;omega
    have hrs:(raw ws (o.take (k+1))).length= (raw ws (o.take k)).length+ (1+hK (ws.getD p 0)):=by rw[hq,F7,List.length_append,hbl2]
    have hP:=Y1 (base:=x1.heap.size) (.slice (some ⟨gr,0,none⟩) ws.length ws.length) (.slice ua (Ae ws p).length uc) (lay b' ws.length (raw ws (o.take k))) (Ae ws p) h b' (b'+ (raw ws (o.take k)).length) (Ce (ws.getD p 0)) (Az (ws.getD p 0)) w5 hM.b8 (by rw[hLL];exact hM.tr) e8 (fun h=>HSE.out.d (Option.some.inj h)) ru hhx ht0 t3 (by omega) (by have:=HNL.out;omega) (by omega);have hov:ov (lay b' ws.length (raw ws (o.take k))) (b'+ (raw ws (o.take k)).length) (An (Ce (ws.getD p 0)) (Az (ws.getD p 0)) (Ae ws p).length::Ae ws p)=lay b' ws.length (raw ws (o.take (k+1))):=by
     rw[hkl,Qu R3.out,hq,F7];exact Qo (ks:=blk ws p) (by rw[hbl2];have:=HNL.out;omega)
    rw[hov,hLL,show(((b'+ (raw ws (o.take k)).length:Nat):Int)+ (1+ ((Ae ws p).length:Int)))= ((b'+ (raw ws (o.take (k+1))).length:Nat):Int)by rw[hrs,hkl];omega]at hP;have hns:AX ws b' (o.take (k+1))=AX ws b' (o.take k)++ [b'+ (raw ws (o.take k)).length]:=by rw[hq,YM]
    have hnl:(AX ws b' (o.take k)).length=k:=by rw[I2,List.length_take];omega
    have hN5:b'+ (raw ws (o.take k)).length≤6000:=by have:=HNL.out;omega
    obtain⟨X,hXX⟩:∃X,ws.getD p 0=X:=⟨_,rfl⟩;rw[hXX]at hP ⊢;obtain⟨at_,hat⟩:∃at_,b'+ (raw ws (o.take k)).length=at_:=⟨_,rfl⟩;rw[hat]at hP hns hN5;have HP:=Lib.hid hP;have HNS:=Lib.hid hns;have HNLk:=Lib.hid hnl;have M5:=Lib.hid hM;have B5:=Lib.hid hb5;have y5:=hM.b9.2.1;have b5z:=b5.size;clear hP hns hnl hM hb5 hq hrl2 htl hkl hbl2 hLL t1 t2 t3 t4 hk20 ht0 hrs hov hXX hat ru b5 q0 q1 q2 q3 co M1 B1;go_wp2_with fail;refine HP.out.mono ?_;rintro e w6 ⟨rfl,ot,k8,b6,kp⟩;replace kp:=kp gr rfl;have k9:=M5.out.b9.kept2 kp (fun h=>HSE.out.e h.symm) (fun h=>HSE.out.f h.symm);have pr:=Hp M5.out.pr kp (fun i hi=>⟨(M5.out.ap i hi).1,(M5.out.ap i hi).2.1⟩);rw[HNLk.out]at pr;have hap:=M5.out.ap;have hb6:=B5.out.trans b6;obtain⟨pa,pc,rfl⟩:=AC pr;have q9:=k9.2.1;have y9:=k9.1;have OT:=Lib.hid ot;have K8:=Lib.hid k8;have K9:=Lib.hid k9;have PR:=Lib.hid pr;have AP:=Lib.hid hap;have B6:=Lib.hid hb6;have z6:=hb6.size;clear ot k8 k9 pr hap hb6 b6 kp M5 B5 y5 HP;go_wp2_with (at_builtin;refine Fq rfl _ _ 27 rfl x1.heap.size 3 i0 (.int .i64 0) 1 8 Tryz.underlying27 hi hz0 hz1 hz2 rfl (by decide) _ _ _ rfl PR.out #[_] rfl ?_ w6.heap.size rfl rfl ?_ ?_ ?_ ?_)
    ·rfl
    ·unfold maxLen;omega
    ·omega
    ·omega
    ·intro v' w7 ho7 hg7 hat7;have ha7:∀i,v'.ownBlock=some i→i≠g8∧i≠gr∧i≠g9:=by
      intro i hi;rcases hat7 with h |h
      ·exact AP.out i (h▸hi)
      ·rw[h]at hi;have h1:=Option.some.inj hi;have h2:=K8.out.1;have h3:=(OT.out.lt gr rfl).2;omega
     have ot7:=OT.out.kept hg7 (.inr (fun h=>(AP.out _ h.symm).2.1 rfl));have k87:=K8.out.grown hg7 (fun h=>(AP.out _ h.symm).1 rfl);have k97:=K9.out.grown hg7 (fun h=>(AP.out _ h.symm).2.2 rfl);have b7:=B6.out.trans (Below.of_grown (B:=x1.heap.size) hg7 z6 (fun i hi=>(PR.out.lt i hi).1));have M7:Mvs (w7.setCell ⟨g9,0,none⟩ v') x1.heap.size g8 gr g9 ws.length h b' ((b'+ (raw ws (o.take (k+1))).length:Nat):Int) (lay b' ws.length (raw ws (o.take (k+1)))) v' (AX ws b' (o.take (k+1))):=by
      refine⟨k87.grown (grownBy.setCell w7 g9 0 v') (fun h=>HSE.out.e (Option.some.inj h)),ownsRow_setCell_other (a:=⟨g9,0,none⟩) ot7 (fun h=>HSE.out.f (Option.some.inj h)) v',k97.set 0 (by simp) v',?_,ha7⟩;refine ownsRow_setCell_other (a:=⟨g9,0,none⟩) ?_ (fun h=>(ha7 _ h).2.2 rfl) v';rw[HNS.out,List.length_append,HNLk.out]
      simpa [ofN] using ho7
     have B7:Below x1.heap.size x1 (w7.setCell ⟨g9,0,none⟩ v'):=b7.setCell e9 v';have q7:=k97.2.1;have f7:=k97.2.2;obtain⟨a7,c7,rfl⟩:∃a c,v'= .slice a (k+1) c:=AC ho7;have HM7:=Lib.hid M7;have HB7:=Lib.hid B7;clear M7 B7 ot7 k87 k97 b7 ha7 hat7 hg7 ho7 OT K8 K9 PR AP B6 q9;go_wp2;go_roundw
     case rel=>exact⟨k+1,_,hlt,by go_num,HM7.out,HB7.out⟩
     case measure=>simp[intOf];omega
   ·obtain rfl:k=o.length:=by omega
    rw[List.take_of_length_le (Nat.le_refl _)]at hM;obtain⟨pa,pc,rfl⟩:=AC hM.pr;have q9:=hM.b9.2.1;have y9:=hM.b9.1;have hnl:(AX ws b' o).length=o.length:=I2 _ _ _;have HNL2:=Lib.hid hnl;obtain⟨nx,hnx⟩:∃nx:Nat,b'+ (raw ws o).length=nx:=⟨_,rfl⟩;rw[hnx]at hM;have HNX:=Lib.hid hnx;have hmv:∀ (W:World) (x:Int) (ts:List Int),Below x1.heap.size x1 W→Mvs W x1.heap.size g8 gr g9 ws.length h b' (nx:Int) ts (.slice pa (AX ws b' o).length pc) (AX ws b' o)→Ai ps x=true→(x%2=0→(x/2).toNat∈o)→
      Calls Tryz.prog 143 #[.int .i64 x,.pointer (some ⟨g9,0,none⟩),.pointer (some ⟨w1.heap.size,0,none⟩)] W fun e w'=>e= .returned (.int .i64 (mv ws b' o x))∧Still W w':=by
     intro W x ts hB hM hx ho;exact YN (.slice pa (AX ws b' o).length pc) (.slice na (A7 o ws.length).length nc) ws b' o ps x ws.length W hM.b9 (K7.out.below hB K7.out.1) (Rd.of_nums hM.pr) (RN.out.below hB zx2) hx ho
      (fun p hp=>Nat.lt_of_lt_of_le (HRi.out.at_ hp).2.1 hN1) (by omega) (fun p=>Nat.le_trans (LC HRi.out HO.out p) (by omega)) hol
    have HMV:=Lib.hid hmv;clear hmv;have M1:=Lib.hid hM;have B1:=Lib.hid hb;clear hM hb hnl hnx;go_wp2
    go_loopw [73] (fun i wr=>∃k:Nat,k≤o.length∧i= .int .i64 k∧Mvs wr x1.heap.size g8 gr g9 ws.length h b' (nx:Int) (lay b' ws.length (mix ws b' o o k)) (.slice pa (AX ws b' o).length pc) (AX ws b' o)∧Below x1.heap.size x1 wr) (fun i _=>o.length - (intOf i).toNat)
    case atStart=>exact⟨0,Nat.zero_le _,rfl,by rw[Ym];exact M1.out,B1.out⟩
    case round=>
     clear M1 B1 q9 y9;obtain⟨k,hk,rfl,hM,hb⟩:=hrel;by_cases hlt:k < o.length
     ·obtain⟨pg,rfl,co⟩:=Hl hM.pr k (by rw[HNL2.out];exact hlt);rw[List.getElem?_map,O9 hlt,Option.map_some]at co;unfold ofN at co;have hki:(k:Int) < ((AX ws b' o).length:Int):=by rw[HNL2.out];omega
      obtain⟨at_,hat⟩:∃at_,b'+ (raw ws (o.take k)).length=at_:=⟨_,rfl⟩;rw[hat]at co;obtain⟨p,hpp⟩:∃p,o[k]=p:=⟨_,rfl⟩;have hpm:=HO.out.2 _ (List.getElem_mem hlt);have hpo:=List.getElem_mem hlt;rw[hpp]at hpm hpo;obtain⟨r1,r2,r3,r4,r5⟩:=HRi.out.at_ hpm;have hcl:=HCL.out p hpo;have hrl2:=HRi.out.raw_le HO.out;have hkl:(Ae ws p).length=hK (ws.getD p 0):=Ix (Nat.le_trans r4 hN1);have hbl2:(blk ws p).length=1+hK (ws.getD p 0):=by simp[blk,hkl];omega
      have hml:=OP (ws:=ws) (b:=b') (o:=o) 0 hlt hpp;have hfit:(raw ws (o.take k)).length+1+hK (ws.getD p 0)≤ (raw ws o).length:=by
       have h1:=F8 ws o (k+1);rw[←List.take_append_getElem hlt,F7,List.length_append,hpp,hbl2]at h1;omega
      rw[KA hlt hpp]at hml;have hLL:(lay b' ws.length (mix ws b' o o k)).length=ws.length:=F6 (by have:=HNL.out;omega);have hhd:(lay b' ws.length (mix ws b' o o k)).getD at_ 0=ws.getD p 0:=by rw[←hat,Qq (by rw[hml];omega)];exact Yq hlt hpp
      have hli:=Qf gr 0 ws.length (lay b' ws.length (mix ws b' o o k)) h b' nx at_ wr (by rw[hLL];exact Qm hM.tr hLL) (Jc (Yv HRi.out HO.out (by omega) HW.out o k)) (by rw[hhd];exact r3) (by rw[hhd,hLL];have:=HNL.out;omega) (by rw[hLL];omega);rw[hhd,hLL,Nat.zero_add]at hli;have q8:=hM.b8.2.1;have q8:=q8 0;have hM0:Mvs wr x1.heap.size g8 gr g9 ws.length h b' (nx:Int) (lay b' ws.length (BA ws b' o o k p 0)) (.slice (some ⟨pg,0,none⟩) (AX ws b' o).length pc) (AX ws b' o):=by rw[KA hlt hpp];exact hM
      have M1:=Lib.hid hM0;have B1:=Lib.hid hb;have HLI:=Lib.hid hli;have HCLP:=Lib.hid hcl;have HAT:=Lib.hid hat;have HPP:=Lib.hid hpp;have R5:=Lib.hid r5;have HKL:=Lib.hid hkl;have HRL:=Lib.hid hrl2;have HML:=Lib.hid hml;have hsum:at_+1+hK (ws.getD p 0)≤ws.length:=by have:=HNL.out;omega
      clear hM hM0 hb hli hcl hat hpp r5 hkl hrl2 hml hLL hhd hbl2 r3 r4;go_wp2_with fail;refine HLI.out.mono ?_;rintro e w5 ⟨u,rfl,⟨ua,m,uc,rfl,hm,hua⟩,b5⟩;rw[←HKL.out]at hm;subst hm;have M5:=Lib.hid (M1.out.below b5);have B5:=Lib.hid (B1.out.trans (b5.mono B1.out.size));clear M1 B1 HLI b5 q8 co;go_wp2
      go_loopw [86] (fun i wr=>∃j:Nat,j≤ (Ae ws p).length∧i= .int .i64 j∧Mvs wr x1.heap.size g8 gr g9 ws.length h b' (nx:Int) (lay b' ws.length (BA ws b' o o k p j)) (.slice (some ⟨pg,0,none⟩) (AX ws b' o).length pc) (AX ws b' o)∧Below x1.heap.size x1 wr) (fun i _=>(Ae ws p).length - (intOf i).toNat)
      case atStart=>exact⟨0,Nat.zero_le _,rfl,M5.out,B5.out⟩
      case round=>
       clear M5 B5;obtain⟨j,hj,rfl,hM,hb⟩:=hrel;by_cases hlj:j < (Ae ws p).length
       ·obtain rfl:ua=some ⟨gr,at_+1,none⟩:=by
         rcases hua with h |h
         ·rw[←HKL.out]at h;omega
         ·exact h
        obtain⟨x,hx⟩:∃x,(Ae ws p).getD j 0=x:=⟨_,rfl⟩;have hxm:x∈Ae ws p:=by
         rw[←hx,List.getD_eq_getElem?_getD,List.getElem?_eq_getElem hlj];exact List.getElem_mem hlj
        have hw1:=List.all_eq_true.1 R5.out x hxm;have hw2:=HCLP.out x hxm;have hjk:j < hK (ws.getD p 0):=by rw[←HKL.out];exact hlj
        have cx:=AN hM.tr (at_+1+j) (by omega);have hil:(raw ws (o.take k)).length+1+j < (BA ws b' o o k p j).length:=by
         rw[OP j hlt HPP.out];have h1:=F8 ws o (k+1);rw[←List.take_append_getElem hlt,F7,List.length_append,HPP.out]at h1;have h2:(blk ws p).length=1+hK (ws.getD p 0):=by simp[blk,HKL.out];omega
         omega
        have hie:at_+1+j=b'+ ((raw ws (o.take k)).length+1+j):=by have:=HAT.out;omega
        rw[hie,List.getElem?_map,Ql hil,Yr hlj,hx,Option.map_some,←hie]at cx;have hset:∀W,Mvs W x1.heap.size g8 gr g9 ws.length h b' (nx:Int) (lay b' ws.length (BA ws b' o o k p j)) (.slice (some ⟨pg,0,none⟩) (AX ws b' o).length pc) (AX ws b' o)→
          Mvs (W.setCell ⟨gr,at_+1+j,none⟩ (.int .i64 (mv ws b' o x))) x1.heap.size g8 gr g9 ws.length h b' (nx:Int) (lay b' ws.length (BA ws b' o o k p (j+1))) (.slice (some ⟨pg,0,none⟩) (AX ws b' o).length pc) (AX ws b' o):=by
         intro W hM;have h1:=hM.turn HSE.out (i:=at_+1+j) (by omega) (mv ws b' o x);rw[show(lay b' ws.length (BA ws b' o o k p j)).set (at_+1+j) (mv ws b' o x)=lay b' ws.length (BA ws b' o o k p (j+1))by
          rw[hie,Qp hil,←hx,Ys hlj]]at h1
         exact h1
        obtain⟨m,hm⟩:∃m,at_+1+j=m:=⟨_,rfl⟩;rw[hm]at hset;have e1:IntKind.i64.wrap (IntKind.i64.wrap ((at_:Int)+1)+ (j:Int))= (m:Int):=by
         rw[IntWalk.i64_in ((at_:Int)+1) (by omega),IntWalk.i64_in _ (by omega)];omega
        have e2:(m:Int) < (ws.length:Int):=by omega
        have HMI:=Lib.hid hm;have HSET:=Lib.hid hset;have q8:=hM.b8.2.1 0;have M1:=Lib.hid hM;have B1:=Lib.hid hb;have CX:=Lib.hid cx;clear hM hb cx hset hx hxm hie hil hm;go_wp2;refine wp_region_held_drew (S:=(fun w'=>w'.cell? ⟨g8,0,none⟩=some (.slice (some ⟨gr,0,none⟩) ws.length ws.length))) (by kernel_rfl) (by first | (dsimp only;exact q8) | (exact q8)) (fun hHeld=> ?_);have st:Still wr wr.drew:=⟨1,rfl⟩;have M2:=Lib.hid (M1.out.below (st.below _));have B2:=Lib.hid (B1.out.trans (st.below _));have cx:=((st.below (gr+1)).cell (p:=⟨gr,at_+1+j,none⟩) (Nat.lt_succ_self _)).trans CX.out;clear st M1 B1;generalize wr.drew=wd at hHeld M2 B2 cx ⊢;refine tkH (i:=0) ?_;refine tkH (i:=1) ?_;refine tkH (i:=2) ?_;refine tkH (i:=3) ?_;refine tkH (i:=4) ?_;refine tkH (i:=5) ?_;refine tkH (i:=6) ?_;refine tkH (i:=7) ?_;refine tkH (i:=8) ?_;refine tkH (i:=9) ?_;refine rdH (i:=10) (fun K hK=> ?_);go_simp;refine bkH hK (by first | (dsimp only;exact hHeld) | (exact hHeld)) (fun hHeld=> ?_);clear hK K;refine rdH (i:=11) (fun K hK=> ?_);go_simp;refine(HMV.out _ _ _ B2.out M2.out hw1 hw2).mono ?_;rintro e w7 ⟨rfl,st⟩;dsimp only;refine bkH hK (by first | (dsimp only;exact((Still.below st (g8+1)).cell (p:=⟨g8,0,none⟩) (Nat.lt_succ_self _)).trans hHeld) | (exact((Still.below st (g8+1)).cell (p:=⟨g8,0,none⟩) (Nat.lt_succ_self _)).trans hHeld)) (fun hHeld=> ?_);clear hK K;have cm:=((Still.below st (gr+1)).cell (p:=⟨gr,at_+1+j,none⟩) (Nat.lt_succ_self _)).trans cx;rw[HMI.out]at cm;have fm:=Cy (M2.out.below (Still.below st _)).tr m;have M3:=Lib.hid (HSET.out _ (M2.out.below (Still.below st _)));have B3:=Lib.hid ((B2.out.trans (Still.below st _)).setCell (p:=⟨gr,m,none⟩) er (.int .i64 (mv ws b' o x)));clear M2 B2 st cx;refine tkH (i:=12) ?_;refine rdH (i:=13) (fun K hK=> ?_);go_simp;refine bkH hK (by first | (dsimp only;(have M4:=M3.out.b8.2.1 0;exact M4)) | ((have M4:=M3.out.b8.2.1 0;exact M4))) (fun hHeld=> ?_);clear hK K;refine wpAnyH_done (by kernel_rfl) ?_ _;clear cm fm;go_wp2;go_roundw
        case rel=>exact⟨j+1,hlj,by go_num,M3.out,B3.out⟩
        case measure=>simp[intOf];omega
       ·obtain rfl:j= (Ae ws p).length:=by omega
        rw[Yo hlt HPP.out]at hM;have M2:=Lib.hid hM;have B2:=Lib.hid hb;clear hM hb;go_wp2;go_roundw
        case rel=>exact⟨k+1,hlt,by go_num,M2.out,B2.out⟩
        case measure=>simp[intOf];omega
     ·obtain rfl:k=o.length:=by omega
      obtain⟨wA,rfl⟩:∃W,W=wr:=⟨wr,rfl⟩;rw[Yn]at hM;have hki:¬((o.length:Int) < ((AX ws b' o).length:Int)):=by rw[HNL2.out];omega
      have M2:=Lib.hid hM;have B2:=Lib.hid hb;clear hM hb;go_wp2;clear hki;generalize hwz:wA.alloc _=wz;have oz:wz.ownsRow wA.heap.size 3 1 (.slice (some ⟨wA.heap.size,0,none⟩) 0 0) 0 []:=by
       rw[←hwz];exact EO rfl (Nat.le_refl _)
      have bz:Below wA.heap.size wA wz:=by rw[←hwz];exact(Below.refl _ _).alloc (Nat.le_refl _) _
      have OZ:=Lib.hid oz;have BZ:=Lib.hid bz;clear hwz oz bz
      go_loopw [23,107] (fun u i wy=>∃k:Nat,k≤rs.length∧i= .int .i64 k∧wy.ownsRow wA.heap.size 3 1 u k (((rs.take k).map (mv ws b' o)).map (Value.int .i64))∧Below wA.heap.size wA wy) (fun _ i _=>rs.length - (intOf i).toNat)
      case atStart=>exact⟨0,Nat.zero_le _,rfl,OZ.out,BZ.out⟩
      case round=>
       clear OZ BZ;obtain⟨k,hk,rfl,ou,hb⟩:=hrel;obtain⟨ua,uc,rfl⟩:=AC ou;have hb2:=B2.out.trans (hb.mono B2.out.size);have M3:=Lib.hid (M2.out.below hb);by_cases hlr:k < rs.length
       ·rcases RQ.out _ (BB.out.trans (hb2.mono hhx))with ⟨h',_⟩ |⟨bl,off,c',hv,_,hbs,_,hc⟩
        ·rw[h']at hlr;cases hlr
        ·cases hv
         have cq:=hc k hlr;obtain⟨x,hx⟩:∃x,rs.getD k 0=x:=⟨_,rfl⟩;have hw1:=KE HXR.out hlr;have hxm:x∈rs:=by rw[←hx,List.getD_eq_getElem?_getD,List.getElem?_eq_getElem hlr];exact List.getElem_mem hlr
         have hw2:=HCR.out x hxm;have htk:rs.take (k+1)=rs.take k++ [x]:=by rw[←List.take_append_getElem hlr,←hx,List.getD_eq_getElem?_getD,List.getElem?_eq_getElem hlr];rfl
         rw[hx]at cq hw1;have hkr:(k:Int) < (rs.length:Int):=by omega
         have HTK:=Lib.hid htk;have OU:=Lib.hid ou;have HB2:=Lib.hid hb2;have HBr:=Lib.hid hb;clear ou hb hb2 hc hx hxm htk hbs;go_wp2_with fail;refine(HMV.out _ _ _ HB2.out M3.out hw1 hw2).mono ?_;rintro e w7 ⟨rfl,st⟩;have ou:=Al OU.out (Still.below st _) (Af OU.out);have hb7:=HBr.out.trans (Still.below st _);have z7:=hb7.size;have OU7:=Lib.hid ou;have HB7:=Lib.hid hb7;clear OU HBr HB2 M3 st cq hw1 hw2 ou hb7;go_wp2_with (at_builtin;refine Fq rfl _ _ 27 rfl wA.heap.size 3 i0 (.int .i64 0) 1 8 Tryz.underlying27 hi hz0 hz1 hz2 rfl (by decide) _ _ _ rfl OU7.out #[_] rfl ?_ w7.heap.size rfl rfl ?_ ?_ ?_ ?_)
         ·rfl
         ·unfold maxLen;omega
         ·omega
         ·omega
         ·intro v' w8 ho8 hg8 hat8;have b8:=HB7.out.trans (Below.of_grown (B:=wA.heap.size) hg8 z7 (fun i hi=>(OU7.out.lt i hi).1));have OO8:Hid (w8.ownsRow wA.heap.size 3 1 v' (k+1) (((rs.take (k+1)).map (mv ws b' o)).map (Value.int .i64))):=Lib.hid (by
           rw[HTK.out]
           simpa using ho8)
          have BB8:=Lib.hid b8;clear ho8 hg8 hat8 b8 OU7 HB7 HTK z7;go_wp2;go_roundw
          case rel=>exact⟨k+1,hlr,by go_num,OO8.out,BB8.out⟩
          case measure=>simp[intOf];omega
       ·obtain rfl:k=rs.length:=by omega
        rw[List.take_length]at ou;have q8:=M3.out.b8.2.1;have k4:=K4.out.below hb2 K4.out.1;have q4:=k4.2.1;have f4:=k4.2.2;have OU:=Lib.hid ou;have HB2:=Lib.hid hb2;have TR:=Lib.hid M3.out.tr;have bbz:=BB.out.trans (hb2.mono hhx);have BZ:=Lib.hid bbz;have hwa:=B2.out.size;have hdf:=Diff.of M2.out.tr ou (Nat.le_refl _);clear ou hb hb2 M2 B2 k4 bbz;go_wp2;refine bodyPost_ret (v:= .tuple #[.agg #[.slice (some ⟨gr,0,none⟩) ws.length ws.length,.int .i64 h,.int .i64 b',.int .i64 nx],.slice ua rs.length uc]) ?_ rfl ⟨_,_,by rw[HNX.out],?_,?_,?_,hdf⟩
        ·simp[results,Tryz.results68,go_sem,q4]
        ·refine AR (base:=x1.heap.size) ?_ hhx
         repeat(refine ownsRow_setCell_below ?_ (by dsimp only;omega) _)
         exact TR.out
        ·refine AR (base:=wA.heap.size) ?_ (by omega)
         repeat(refine ownsRow_setCell_below ?_ (by dsimp only;omega) _)
         exact OU.out
        ·repeat(refine Below.setCell ?_ (by dsimp only;omega) _)
         exact BZ.out
theorem KJ {B:Nat}(v vr:Value) (ws rs:List Int) (h b n:Int) (w:World) (hr:Rd B .i64 w v ws) (hw:Au ws) (hlen:ws.length≤4294967296) (hq:Rd B .i64 w vr rs)
  (bh:-9223372036854775808≤h∧h≤9223372036854775807) (ib:-9223372036854775808≤b∧b≤9223372036854775807) (bn:-9223372036854775808≤n∧n≤9223372036854775807):
  Calls Tryz.prog 53 #[.agg #[v,.int .i64 h,.int .i64 b,.int .i64 n],vr] w fun e w'=>e= .returned (.bool (AW ws h b n rs))∧Below w.heap.size w w':=by
 have hO:=fun(W:World) (hb:Below w.heap.size w W)=>Ni v ws h b n W (hr.below' hb) hw hlen bh ib bn;have RQ:=Lib.hid (fun(W:World) (hb:Below w.heap.size w W)=>hq.below' hb);obtain⟨a,cap,hv⟩:=hr.form;obtain⟨qa,qc,rfl⟩:=hq.form;cases hok:heapOk ws h b n
 ·rw[hok]at hO;have HO:=Lib.hid hO;have HF:=Lib.hid (YJ (rs:=rs) hok);subst hv;clear hO hr hw bh ib bn hok hq;go_enter Tryz.func53,Tryz.ntmps53;go_wp2_with fail;generalize hx:w.alloc _=x;obtain⟨bb,k1⟩:=Bx.alloc hx;clear hx;refine(HO.out _ bb).mono ?_;rintro e w1 ⟨rfl,b1⟩;replace k1:=k1.below b1 k1.1;replace bb:=bb.trans (b1.mono bb.size);clear b1;go_wp2;go_ret;exact⟨Aq HF.out.symm,bb⟩
 ·rw[hok]at hO;have HO:=Lib.hid hO;obtain⟨h',b',n',ps,rfl,rfl,rfl,hR⟩:=Right.of hok;have hS:=fun(W:World) (hb:Below w.heap.size w W)=>KI v ws h' b' n' W (hr.below' hb) hw hR.frame;rw[hR.some]at hS;have HS:=Lib.hid hS;have HF:=Lib.hid (KF (rs:=rs) hok hR.some);have hC:=fun(g:Nat) (u:Value) (W:World) (r:Rd W.heap.size .i64 W u (Ax ps)) (hg:W.cell? ⟨g,0,none⟩=some u) (hu:Rd w.heap.size .i64 W (.slice qa rs.length qc) rs)=>
   QC g u (.slice qa rs.length qc) ps rs W r hR.sorted (by have:=hR.len;have:=hR.n_le;omega) hg hu
  have HC:=Lib.hid hC;subst hv;clear hO hr hw bh ib bn hok hq hS hR hC;go_enter Tryz.func53,Tryz.ntmps53;go_wp2_with fail;generalize hx:w.alloc _=x;obtain⟨bb,k1⟩:=Bx.alloc hx;clear hx;refine(HO.out _ bb).mono ?_;rintro e w1 ⟨rfl,b1⟩;replace k1:=k1.below b1 k1.1;replace bb:=bb.trans (b1.mono bb.size);clear b1;have ck1:=k1.2.1;have yk1:=k1.1;go_wp2_with fail;refine(HS.out _ bb).mono ?_;rintro e w2 ⟨⟨u,rfl,o2⟩,b2⟩;clear ck1 yk1;replace k1:=k1.below b2 k1.1;replace bb:=bb.trans (b2.mono bb.size);clear b2;rw[GA,←De]at o2;obtain⟨a2,c2,rfl⟩:=AC o2;go_wp2_with fail;generalize hx:w2.alloc _=x3;obtain⟨bx,k3⟩:=Bx.alloc hx;clear hx;replace o2:=Al o2 bx (Af o2);replace bb:=bb.trans (bx.mono bb.size);clear bx;refine(HC.out _ _ _ (Rd.of_own o2) (k3.2.1 0) (RQ.out _ bb)).mono ?_;rintro e w4 ⟨rfl,rfl⟩;go_wp2;go_ret;exact⟨Aq (by rw[HF.out]),bb⟩
def LD (W:World) (e:Ending) (w':World) (h:Int) (P:Coll):Prop:=
 ∃uv qv,e= .returned (.tuple #[.agg #[uv,.int .i64 h,.int .i64 P.base,.int .i64 P.next],qv])∧w'.ownsRow W.heap.size 3 1 uv P.ws.length (P.ws.map (Value.int .i64))∧w'.ownsRow W.heap.size 3 1 qv P.roots.length (P.roots.map (Value.int .i64))∧Diff uv qv
theorem Qw {B:Nat}(v vr:Value) (ws rs:List Int) (h b n:Int) (w:World) (hr:Rd B .i64 w v ws) (hw:Au ws) (hlen:ws.length≤4294967296) (hq:Rd B .i64 w vr rs) (hrl:rs.length≤4294967296)
  (bh:-9223372036854775808≤h∧h≤9223372036854775807) (ib:-9223372036854775808≤b∧b≤9223372036854775807) (bn:-9223372036854775808≤n∧n≤9223372036854775807):
  Calls Tryz.prog 22 #[.agg #[v,.int .i64 h,.int .i64 b,.int .i64 n],vr] w fun e w'=>LD w e w' h (D2 ws h b n rs)∧Below w.heap.size w w':=by
 have hO:=fun(W:World) (hb:Below w.heap.size w W)=>KJ v vr ws rs h b n W (hr.below' hb) hw hlen (hq.below' hb) bh ib bn;have hC:=fun(W:World) (hb:Below w.heap.size w W)=>Gy v ws h b n W (hr.below' hb) hlen;have hK:=fun(W:World) (hb:Below w.heap.size w W)=>Ft vr rs W (hq.below' hb) hrl;have HO:=Lib.hid hO;have HC:=Lib.hid hC;have HK:=Lib.hid hK;clear hO hC hK;by_cases hright:AW ws h b n rs=true
 ·obtain⟨h',b',n',ps,rfl,rfl,rfl,hR,hx⟩:=Right.ofR hright;have hbh:b'≤h':=by have:=hR.frame.base;omega
  rw[hright]at HO;rw[Hq hbh hright];have hM:=fun(W:World) (hb:Below w.heap.size w W)=>Lx v vr ws rs h' b' n' ps W hR (hr.below' hb) hw (hq.below' hb) hx hrl;have hL:(lay (h' - b') ws.length (mvd ws (h' - b') (Ao ws rs) (Ao ws rs))).length=ws.length:=by
   refine F6 ?_;rw[Df];have h1:=hR.raw_le (EU hR hx);have h2:=hR.frame.len;omega
  have hL2:(rs.map (mv ws (h' - b') (Ao ws rs))).length=rs.length:=by simp
  unfold LD;dsimp only;rw[hL,hL2];obtain⟨ts,hts⟩:∃ts,lay (h' - b') ws.length (mvd ws (h' - b') (Ao ws rs) (Ao ws rs))=ts:=⟨_,rfl⟩;obtain⟨qs,hqs⟩:∃qs,rs.map (mv ws (h' - b') (Ao ws rs))=qs:=⟨_,rfl⟩;obtain⟨nb,hnb⟩:∃nb,h' - b'=nb:=⟨_,rfl⟩;obtain⟨nn,hnn⟩:∃nn,h' - b'+ (raw ws (Ao ws rs)).length=nn:=⟨_,rfl⟩;simp only[hts,hqs,hnn]at hM ⊢;simp only[hnb]at hM ⊢;have HM:=Lib.hid hM;obtain⟨a,cap,rfl⟩:=hr.form;obtain⟨qa,qc,rfl⟩:=hq.form;clear hM hR hr hq hright hx hL hL2 hts hqs hnb hnn;go_enter Tryz.func22,Tryz.ntmps22;go_wp2_with fail;generalize hx:(w.alloc _).alloc _=x;obtain⟨bb,k1,k2,sx⟩:=AS hx;clear hx;have ck1:=k1.2.1;have yk1:=k1.1;go_wp2_with fail;refine(HO.out _ bb).mono ?_;rintro e w1 ⟨rfl,b1⟩;clear ck1 yk1;have hwx:=b1.size;replace k1:=k1.below b1 k1.1;replace k2:=k2.below b1 k2.1;replace bb:=bb.trans (b1.mono bb.size);clear b1;have ck1:=k1.2.1;have yk1:=k1.1;go_wp2_with fail;refine(HM.out _ bb).mono ?_;rintro e w2 ⟨uv,qv,rfl,o1,o2,b2,hdf⟩;obtain⟨ua,uc,rfl⟩:=AC o1;obtain⟨va,vc,rfl⟩:=AC o2;clear ck1 yk1;replace k1:=k1.below b2 k1.1;replace k2:=k2.below b2 k2.1;replace bb:=bb.trans (b2.mono bb.size);clear b2;have ck2:=k2.2.1;have yk2:=k2.1;have zk2:=k2.2.2;have O1:=Lib.hid o1;have O2:=Lib.hid o2;have BB:=Lib.hid bb;clear o1 o2 bb;go_wp2;refine bodyPost_ret (v:= .tuple #[.agg #[.slice ua ws.length uc,.int .i64 h',.int .i64 nb,.int .i64 nn],.slice va rs.length vc]) ?_ rfl ⟨⟨_,_,rfl,?_,?_,hdf⟩,?_⟩
  ·simp[results,Tryz.results22,go_sem,ck2]
  ·refine AR (base:=w1.heap.size) ?_ (by omega)
   repeat(refine ownsRow_setCell_below ?_ (by dsimp only;omega) _)
   exact O1.out
  ·refine AR (base:=w1.heap.size) ?_ (by omega)
   repeat(refine ownsRow_setCell_below ?_ (by dsimp only;omega) _)
   exact O2.out
  ·repeat(refine Below.setCell ?_ (by dsimp only;omega) _)
   exact BB.out
 ·rw[Bool.not_eq_true]at hright;rw[hright]at HO;rw[Qv hright];obtain⟨a,cap,rfl⟩:=hr.form;obtain⟨qa,qc,rfl⟩:=hq.form;clear hr hq hright;go_enter Tryz.func22,Tryz.ntmps22;go_wp2_with fail;generalize hx:(w.alloc _).alloc _=x;obtain⟨bb,k1,k2,sx⟩:=AS hx;clear hx;have ck1:=k1.2.1;have yk1:=k1.1;go_wp2_with fail;refine(HO.out _ bb).mono ?_;rintro e w1 ⟨rfl,b1⟩;clear ck1 yk1;have hwx:=b1.size;replace k1:=k1.below b1 k1.1;replace k2:=k2.below b1 k2.1;replace bb:=bb.trans (b1.mono bb.size);clear b1;have ck1:=k1.2.1;have yk1:=k1.1;go_wp2_with fail;refine(HC.out _ bb).mono ?_;rintro e w2 ⟨uv,rfl,o1,b2⟩;obtain⟨ua,uc,rfl⟩:=AC o1;clear ck1 yk1;have hwy:=b2.size;replace k1:=k1.below b2 k1.1;replace k2:=k2.below b2 k2.1;replace bb:=bb.trans (b2.mono bb.size);clear b2;go_wp2_with fail;refine(HK.out _ bb).mono ?_;rintro e w3 ⟨qv,rfl,o2,b3⟩;obtain⟨va,vc,rfl⟩:=AC o2;have hdf:=Diff.of o1 o2 (Nat.le_refl _);replace o1:=Al o1 b3 (Af o1);replace k1:=k1.below b3 k1.1;replace k2:=k2.below b3 k2.1;replace bb:=bb.trans (b3.mono bb.size);clear b3;have ck2:=k2.2.1;have yk2:=k2.1;have zk2:=k2.2.2;have O1:=Lib.hid o1;have O2:=Lib.hid o2;have BB:=Lib.hid bb;clear o1 o2 bb;go_wp2;refine bodyPost_ret (v:= .tuple #[.agg #[.slice ua ws.length uc,.int .i64 h,.int .i64 b,.int .i64 n],.slice va rs.length vc]) ?_ rfl ⟨⟨_,_,rfl,?_,?_,hdf⟩,?_⟩
  ·simp[results,Tryz.results22,go_sem,ck2]
  ·refine AR (base:=w1.heap.size) ?_ (by omega)
   repeat(refine ownsRow_setCell_below ?_ (by dsimp only;omega) _)
   exact O1.out
  ·refine AR (base:=w2.heap.size) ?_ (by omega)
   repeat(refine ownsRow_setCell_below ?_ (by dsimp only;omega) _)
   exact O2.out
  ·repeat(refine Below.setCell ?_ (by dsimp only;omega) _)
   exact BB.out
structure Wk (w:World) (H gW gr N:Nat) (v:Value) (h b n b' nx:Int) (ts:List Int) (wv nv:Value) (S pl:List Nat):Prop where
 bx:Bx w gW #[v,.int .i64 h,.int .i64 b,.int .i64 n,.slice (some ⟨gr,0,none⟩) N N,.int .i64 h,.int .i64 b',.int .i64 nx,wv,nv]
 tr:w.ownsRow H 3 1 (.slice (some ⟨gr,0,none⟩) N N) N (ts.map (Value.int .i64))
 so:w.ownsRow H 3 1 wv S.length (S.map ofN)
 no:w.ownsRow H 3 1 nv pl.length (pl.map ofN)
 hW:H≤gW
 d1:gW≠gr
 d2:∀k,wv.ownBlock=some k→k≠gW∧k≠gr
 d3:∀k,nv.ownBlock=some k→k≠gW∧k≠gr∧wv.ownBlock≠some k
section
variable {w:World}{H gW gr N:Nat}{v:Value}{h b n b' nx:Int}{ts:List Int}{wv nv:Value}{S pl:List Nat}
theorem Wk.below {w':World}(m:Wk w H gW gr N v h b n b' nx ts wv nv S pl) (hb:Below w.heap.size w w'):Wk w' H gW gr N v h b n b' nx ts wv nv S pl:=
 ⟨m.bx.below hb m.bx.1,Al m.tr hb (Af m.tr),Al m.so hb (Af m.so),Al m.no hb (Af m.no),m.hW,m.d1,m.d2,m.d3⟩
theorem Wk.turn (m:Wk w H gW gr N v h b n b' nx ts wv nv S pl) {i:Nat}(hi:i < N) (y:Int):Wk (w.setCell ⟨gr,i,none⟩ (.int .i64 y)) H gW gr N v h b n b' nx (ts.set i y) wv nv S pl:=by
 refine⟨m.bx.grown (grownBy.setCell w gr i _) (fun h=>m.d1 (Option.some.inj h)),?_,?_,?_,m.hW,m.d1,m.d2,m.d3⟩
 ·rw[List.map_set];exact Eh m.tr i hi _
 ·exact ownsRow_setCell_other (a:=⟨gr,i,none⟩) m.so (fun h=>(m.d2 _ h).2 rfl) _
 ·exact ownsRow_setCell_other (a:=⟨gr,i,none⟩) m.no (fun h=>(m.d3 _ h).2.1 rfl) _
theorem Wk.next (m:Wk w H gW gr N v h b n b' nx ts wv nv S pl) (y:Int):Wk (w.setCell ⟨gW,7,none⟩ (.int .i64 y)) H gW gr N v h b n b' y ts wv nv S pl:=by
 refine⟨m.bx.set 7 (by simp) _,?_,?_,?_,m.hW,m.d1,m.d2,m.d3⟩
 ·exact ownsRow_setCell_other (a:=⟨gW,7,none⟩) m.tr (fun h=>m.d1 (Option.some.inj h).symm) _
 ·exact ownsRow_setCell_other (a:=⟨gW,7,none⟩) m.so (fun h=>(m.d2 _ h).1 rfl) _
 ·exact ownsRow_setCell_other (a:=⟨gW,7,none⟩) m.no (fun h=>(m.d3 _ h).1 rfl) _
end
def KeptW (w w':World) (gW gr:Nat) (wv nv:Value):Prop:=w.heap.size≤w'.heap.size∧ ∀i,i < w.heap.size→i≠gW→i≠gr→wv.ownBlock≠some i→nv.ownBlock≠some i→w'.heap[i]?=w.heap[i]?
theorem KeptW.refl (w:World) (gW gr:Nat) (wv nv:Value):KeptW w w gW gr wv nv:=⟨Nat.le_refl _,fun i _ _ _ _ _=>rfl⟩
theorem KeptW.drew {a b:World}{gW gr:Nat}{wv nv:Value}(h:KeptW a b gW gr wv nv):KeptW a b.drew gW gr wv nv:=⟨h.1,h.2⟩
theorem KeptW.grown {a b c:World}{gW gr:Nat}{wv nv:Value}{row:Option Nat}(h:KeptW a b gW gr wv nv) (k:b.grownBy c row) (hr:row=some gW∨row=some gr∨row=wv.ownBlock∨row=nv.ownBlock):KeptW a c gW gr wv nv:=by
 refine⟨Nat.le_trans h.1 k.size,fun i hi h1 h2 h3 h4=>(k.block i (Nat.lt_of_lt_of_le hi h.1) ?_).trans (h.2 i hi h1 h2 h3 h4)⟩;rintro e;rcases hr with r |r |r |r
 ·exact h1 (Option.some.inj (e.trans r))
 ·exact h2 (Option.some.inj (e.trans r))
 ·exact h3 (e.trans r).symm
 ·exact h4 (e.trans r).symm
def FreshIn (Z:Nat) (v v':Value):Prop:=∀k,v'.ownBlock=some k→v.ownBlock=some k∨Z≤k
theorem FreshIn.refl (Z:Nat) (v:Value):FreshIn Z v v:=fun _ h=> .inl h
theorem FreshIn.of {Z Y:Nat}{v v':Value}(h:v'.ownBlock=v.ownBlock∨v'.ownBlock=some (Y+1)) (hZ:Z≤Y):FreshIn Z v v':=by
 intro k hk;rcases h with h |h
 ·exact .inl (h▸hk)
 ·have:=Option.some.inj (h.symm.trans hk);exact .inr (by omega)
def Aside (u:Value) (gW gr:Nat) (wv nv:Value):Prop:=∀j,u.ownBlock=some j→j≠gW∧j≠gr∧wv.ownBlock≠some j∧nv.ownBlock≠some j
theorem Aside.fresh {u wv nv wv' nv':Value}{gW gr Z:Nat}(h:Aside u gW gr wv nv) (hl:∀j,u.ownBlock=some j→j < Z) (h1:FreshIn Z wv wv') (h2:FreshIn Z nv nv'):Aside u gW gr wv' nv':=by
 intro j hj;obtain⟨a1,a2,a3,a4⟩:=h j hj;have hz:=hl j hj;refine⟨a1,a2,fun h'=> ?_,fun h'=> ?_⟩
 ·rcases h1 j h' with e |e
  ·exact a3 e
  ·omega
 ·rcases h2 j h' with e |e
  ·exact a4 e
  ·omega
theorem Wk.other {w w2:World}{H gW gr N:Nat}{v:Value}{h b n b' nx:Int}{ts:List Int}{wv nv u:Value}{S pl:List Nat}(m:Wk w H gW gr N v h b n b' nx ts wv nv S pl) (hg:w.grownBy w2 u.ownBlock) (hu:Aside u gW gr wv nv):Wk w2 H gW gr N v h b n b' nx ts wv nv S pl:=by
 refine⟨m.bx.grown hg (fun h=>(hu _ h.symm).1 rfl),m.tr.kept hg (.inr (fun h=>(hu _ h.symm).2.1 rfl)),m.so.kept hg ?_,m.no.kept hg ?_,m.hW,m.d1,m.d2,m.d3⟩
 ·rcases hn:wv.ownBlock with _ |k
  ·exact .inl rfl
  ·exact .inr (fun h=>(hu k h.symm).2.2.1 hn)
 ·rcases hn:nv.ownBlock with _ |k
  ·exact .inl rfl
  ·exact .inr (fun h=>(hu k h.symm).2.2.2 hn)
theorem Wk.apart {w:World}{H gW gr N Z:Nat}{v:Value}{h b n b' nx:Int}{ts:List Int}{wv nv u v':Value}{S pl:List Nat}(m:Wk w H gW gr N v h b n b' nx ts wv nv S pl) (hZ:w.heap.size=Z) (hu:Aside u gW gr wv nv) (hat:v'.ownBlock=u.ownBlock∨v'.ownBlock=some (Z+1)):Aside v' gW gr wv nv:=by
 subst hZ;have l1:=m.bx.1;have l2:=(m.tr.lt gr rfl).2;intro j hj;rcases hat with e |e
 ·exact hu j (e▸hj)
 ·have h1:=Option.some.inj (e.symm.trans hj);refine⟨by omega,by omega,fun h'=> ?_,fun h'=> ?_⟩
  ·have:=Af m.so j h';omega
  ·have:=Af m.no j h';omega
theorem Q1 {B g:Nat}(v:Value) (zs:List Int) (n:Int) (w:World) (hC:Cur w g v zs.length) (hr:Rd B .u8 w v zs) (hz:bytesIn zs) (hl:zs.length≤4294967296) (hg:B≤g) (hn:Bf n):
  Calls Tryz.prog 31 #[.pointer (some ⟨g,0,none⟩),.int .i64 n] w fun e w'=>(∃b,e= .returned (.bool b))∧Cur w' g v zs.length∧w.grownBy w' (some g):=by
 have HB:=Lib.hid (Hx v zs n w hC hr hz hl hg hn);clear hC hr;go_enter Tryz.func31,Tryz.ntmps31;go_wp2_with fail;refine HB.out.mono ?_;rintro e w1 ⟨⟨r,rfl,_,_⟩,c1,g1⟩;have C1:=Lib.hid c1;have G1:=Lib.hid g1;clear c1 g1;go_wp2;go_ret;exact⟨⟨_,rfl⟩,C1.out,G1.out⟩
structure Drwn (w0 w:World) (v:Value) (ws:List Int) (h b n:Int) (vr:Value) (rs:List Int):Prop where
 own:w.ownsRow w0.heap.size 3 1 v ws.length (ws.map (Value.int .i64))
 rown:w.ownsRow w0.heap.size 3 1 vr rs.length (rs.map (Value.int .i64))
 diff:Diff v vr
 hin:HeapIn ws h b n
 rin:Au rs
 pos:0 < rs.length
structure DSt (w0 w:World) (g g2 g4:Nat) (cv:Value) (m k:Nat) (v:Value) (ws:List Int) (h b n:Int) (vr:Value) (rs:List Int):Prop where
 d:Drwn w0 w v ws h b n vr rs
 grow:w0.grownBy w (some g)
 cur:Cur w g cv m
 bx2:Bx w g2 #[.slice none 0 0,.int .i64 0,.int .i64 0,.int .i64 0]
 bx4:Bx w g4 #[v,.int .i64 h,.int .i64 b,.int .i64 n]
 far:∀i,v.ownBlock=some i∨vr.ownBlock=some i→i≠g2∧i≠g4
 ge:w0.heap.size≤g2∧w0.heap.size≤g4∧g2≠g4
 len:rs.length≤100+k
theorem Drwn.keep {w0 w w':World}{g:Nat}{v:Value}{ws:List Int}{h b n:Int}{vr:Value}{rs:List Int}(D:Drwn w0 w v ws h b n vr rs) (hg:w.grownBy w' (some g)) (hgl:g < w0.heap.size):Drwn w0 w' v ws h b n vr rs:=
 ⟨D.own.kept hg (Jk D.own hgl),D.rown.kept hg (Jk D.rown hgl),D.diff,D.hin,D.rin,D.pos⟩
theorem DSt.keep {w0 w w':World}{g g2 g4 m k:Nat}{cv v:Value}{ws:List Int}{h b n:Int}{vr:Value}{rs:List Int}(D:DSt w0 w g g2 g4 cv m k v ws h b n vr rs) (hg:w.grownBy w' (some g)) (hc:Cur w' g cv m) (hgl:g < w0.heap.size):DSt w0 w' g g2 g4 cv m k v ws h b n vr rs:=
 ⟨D.d.keep hg hgl,Ga D.grow hg (fun i hi=> .inl (Option.some.inj hi).symm),hc,D.bx2.grown hg (fun e=>by have:=Option.some.inj e;have:=D.ge;omega),D.bx4.grown hg (fun e=>by have:=Option.some.inj e;have:=D.ge;omega),D.far,D.ge,D.len⟩
theorem DSt.below {w0 w w':World}{g g2 g4 m k:Nat}{cv v:Value}{ws:List Int}{h b n:Int}{vr:Value}{rs:List Int}(D:DSt w0 w g g2 g4 cv m k v ws h b n vr rs) (hb:Below w.heap.size w w') (hgl:g < w0.heap.size):DSt w0 w' g g2 g4 cv m k v ws h b n vr rs:=
 D.keep (Eo hb _) (D.cur.below hb) hgl
theorem DSt.step {w0 w w':World}{g g2 g4 m k:Nat}{cv v:Value}{ws:List Int}{h b n:Int}{vr:Value}{rs:List Int}(D:DSt w0 w g g2 g4 cv m k v ws h b n vr rs) {r:Option Nat}(hg:w.grownBy w' r) (hgl:g < w0.heap.size)
  (hr:∀i,r=some i→w0.heap.size≤i∧i≠g2∧i≠g4∧v.ownBlock≠some i∧vr.ownBlock≠some i):DSt w0 w' g g2 g4 cv m k v ws h b n vr rs:=by
 have key:∀u:Value,(∀i,r=some i→u.ownBlock≠some i)→u.ownBlock=none∨u.ownBlock≠r:=by
  intro u hu;rcases hv:u.ownBlock with _ |i
  ·exact .inl rfl
  ·right;intro e;exact hu i e.symm hv
 exact⟨⟨D.d.own.kept hg (key v fun i hi=>(hr i hi).2.2.2.1),D.d.rown.kept hg (key vr fun i hi=>(hr i hi).2.2.2.2),D.d.diff,D.d.hin,D.d.rin,D.d.pos⟩,Ga D.grow hg (fun i hi=> .inr (hr i hi).1),
  D.cur.kept hg (fun e=>by have:=(hr g e.symm).1;omega),D.bx2.grown hg (fun e=>(hr g2 e.symm).2.1 rfl),D.bx4.grown hg (fun e=>(hr g4 e.symm).2.2.1 rfl),D.far,D.ge,D.len⟩
theorem DSt.heap {w0 w w':World}{g g2 g4 m k:Nat}{cv v v':Value}{ws ws':List Int}{h b n h' b' n':Int}{vr:Value}{rs:List Int}(D:DSt w0 w g g2 g4 cv m k v ws h b n vr rs) (hg:w.grownBy w' (some g4)) (hgl:g < w0.heap.size)
  (bx':Bx w' g4 #[v',.int .i64 h',.int .i64 b',.int .i64 n']) (ov':w.ownsRow w0.heap.size 3 1 v' ws'.length (ws'.map (Value.int .i64))) (hin':HeapIn ws' h' b' n') (far':∀i,v'.ownBlock=some i→i≠g2∧i≠g4∧vr.ownBlock≠some i):DSt w0 w' g g2 g4 cv m k v' ws' h' b' n' vr rs:=by
 have key:∀u:Value,(∀i,u.ownBlock=some i→i≠g4)→u.ownBlock=none∨u.ownBlock≠some g4:=by
  intro u hu;rcases hv:u.ownBlock with _ |i
  ·exact .inl rfl
  ·right;intro e;exact hu i hv (Option.some.inj e)
 have hge:=D.ge;exact⟨⟨ov'.kept hg (key v' fun i hi=>(far' i hi).2.1),D.d.rown.kept hg (key vr fun i hi=>(D.far i (.inr hi)).2),fun i hi=>(far' i hi).2.2,hin',D.d.rin,D.d.pos⟩,Ga D.grow hg (fun i hi=>by have:=Option.some.inj hi;omega),
  D.cur.kept hg (fun e=>by have:=Option.some.inj e;omega),D.bx2.grown hg (fun e=>by have:=Option.some.inj e;omega),bx',fun i hi=>by
   rcases hi with hi |hi
   ·exact⟨(far' i hi).1,(far' i hi).2.1⟩
   ·exact D.far i (.inr hi),D.ge,D.len⟩
theorem DSt.roots {w0 w w':World}{g g2 g4 m k:Nat}{cv v:Value}{ws:List Int}{h b n y:Int}{vr vr':Value}{rs:List Int}(D:DSt w0 w g g2 g4 cv m k v ws h b n vr rs) (hg:w.grownBy w' vr.ownBlock) (hgl:g < w0.heap.size)
  (ro:w'.ownsRow w0.heap.size 3 1 vr' (rs++ [y]).length ((rs++ [y]).map (Value.int .i64))) (hat:vr'.ownBlock=vr.ownBlock∨vr'.ownBlock=some (w.heap.size+1)) (hy:Bf y):DSt w0 w' g g2 g4 cv m (k+1) v ws h b n vr' (rs++ [y]):=by
 have hge:=D.ge;have l2:=D.bx2.1;have l4:=D.bx4.1;refine⟨⟨D.d.own.kept hg (Yl fun i hi hi'=>D.d.diff i hi' hi),ro,fun i hi hi'=> ?_,D.d.hin,Q4 D.d.rin (LJ hy Q6),by simp⟩,Ga D.grow hg (fun i hi=> .inr (D.d.rown.lt i hi).1),
  D.cur.kept hg (fun e=>by have:=(D.d.rown.lt g e.symm).1;omega),D.bx2.grown hg (fun e=>(D.far g2 (.inr e.symm)).1 rfl),D.bx4.grown hg (fun e=>(D.far g4 (.inr e.symm)).2 rfl),fun i hi=> ?_,D.ge,by have:=D.len;simp;omega⟩
 ·rcases hat with e |e
  ·exact D.d.diff i hi (e▸hi')
  ·have:=(D.d.own.lt i hi).2;rw[e]at hi';have:=Option.some.inj hi';omega
 ·rcases hi with hi |hi
  ·exact D.far i (.inl hi)
  ·rcases hat with e |e
   ·exact D.far i (.inr (e▸hi))
   ·rw[e]at hi;have:=Option.some.inj hi;omega
theorem DSt.more {w0 w:World}{g g2 g4 m k:Nat}{cv v:Value}{ws:List Int}{h b n:Int}{vr:Value}{rs:List Int}(D:DSt w0 w g g2 g4 cv m k v ws h b n vr rs):DSt w0 w g g2 g4 cv m (k+1) v ws h b n vr rs:=
 ⟨D.d,D.grow,D.cur,D.bx2,D.bx4,D.far,D.ge,by have:=D.len;omega⟩
theorem DSt.fin {w0 w w':World}{g g2 g4 m k:Nat}{cv v:Value}{ws:List Int}{h b n:Int}{vr:Value}{rs:List Int}(D:DSt w0 w g g2 g4 cv m k v ws h b n vr rs) (hg:w.grownBy w' (some g2)) (hgl:g < w0.heap.size):Drwn w0 w' v ws h b n vr rs∧w0.grownBy w' (some g)∧Cur w' g cv m:=by
 have key:∀u:Value,(∀i,u.ownBlock=some i→i≠g2)→u.ownBlock=none∨u.ownBlock≠some g2:=by
  intro u hu;rcases hv:u.ownBlock with _ |i
  ·exact .inl rfl
  ·right;intro e;exact hu i hv (Option.some.inj e)
 have hge:=D.ge;exact⟨⟨D.d.own.kept hg (key v fun i hi=>(D.far i (.inl hi)).1),D.d.rown.kept hg (key vr fun i hi=>(D.far i (.inr hi)).1),D.d.diff,D.d.hin,D.d.rin,D.d.pos⟩,Ga D.grow hg (fun i hi=>by have:=Option.some.inj hi;omega),
  D.cur.kept hg (fun e=>by have:=Option.some.inj e;omega)⟩
structure KSt (w0 w1 w:World) (g g2 g4:Nat) (cv:Value) (m k:Nat) (v:Value) (ws:List Int) (h b n:Int) (vr:Value) (rs:List Int) (vk:Value) (ks:List Int):Prop where
 D:DSt w0 w g g2 g4 cv m k v ws h b n vr rs
 K:w.ownsRow w1.heap.size 3 1 vk ks.length (ks.map (Value.int .i64))
 z:w1.heap.size≤w.heap.size
theorem KSt.keep {w0 w1 w w':World}{g g2 g4 m k:Nat}{cv v:Value}{ws:List Int}{h b n:Int}{vr:Value}{rs:List Int}{vk:Value}{ks:List Int}(S:KSt w0 w1 w g g2 g4 cv m k v ws h b n vr rs vk ks) (hg:w.grownBy w' (some g)) (hc:Cur w' g cv m) (hgl:g < w0.heap.size) (h1:g < w1.heap.size):KSt w0 w1 w' g g2 g4 cv m k v ws h b n vr rs vk ks:=
 ⟨S.D.keep hg hc hgl,S.K.kept hg (Jk S.K h1),Nat.le_trans S.z hg.size⟩
theorem KSt.below {w0 w1 w w':World}{g g2 g4 m k:Nat}{cv v:Value}{ws:List Int}{h b n:Int}{vr:Value}{rs:List Int}{vk:Value}{ks:List Int}(S:KSt w0 w1 w g g2 g4 cv m k v ws h b n vr rs vk ks) (hb:Below w.heap.size w w') (hgl:g < w0.heap.size):KSt w0 w1 w' g g2 g4 cv m k v ws h b n vr rs vk ks:=
 ⟨S.D.below hb hgl,Al S.K hb (Af S.K),Nat.le_trans S.z hb.size⟩
end Go.Proofs.YtfmebaafpfkeiaaGreat
