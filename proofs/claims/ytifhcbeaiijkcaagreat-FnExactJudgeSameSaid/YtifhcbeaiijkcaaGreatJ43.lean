/- Parts of the proof of FnExactJudgeSame. -/
import Derived.Test.YtifhcbeaiijkcaaGreatJ32
import Derived.Test.YtifhcbeaiijkcaaGreatJ42
import Derived.Deep.QuietTactic
import Derived.BigQuiet
import Derived.Test.YtifhcbeaiijkcaaGreatJ08
import Derived.Test.YtifhcbeaiijkcaaGreatJ09
import Derived.Test.YtifhcbeaiijkcaaGreatJ03
import Derived.Test.YtifhcbeaiijkcaaGreatJ33
set_option linter.unusedVariables false
set_option linter.unusedSimpArgs false
set_option maxRecDepth 1000000
set_option maxHeartbeats 16000000
namespace Go.Proofs.YtifhcbeaiijkcaaGreat
open Go.RowKit
open _root_.Go.World renaming alloc→Wa,setCell→Ws
open _root_.Go.Proofs.Tryz renaming prog→Pq
theorem QT {B:Nat}(ds:List Dt) (x:Nd) (dv kv:Value) (L:VmL) (fv hv sv cv ov:Value) (w:World) (hsz:SzP ds x) (hd:RdDts B w dv ds) (hk:RdNs B w kv x.kids)
  (hvr:∀d∈ds, -9223372036854775808≤d.vars∧d.vars≤9223372036854775807) (hr:RdV B w fv hv sv cv ov L) (hi:D9 L) (hz:Bw L≤1048576):
  Calls Pq 7 #[pgV dv x kv,vmV fv hv sv cv ov L] w fun e w'=>e= .returned (.bool (Ft ds x L))∧Below w.heap.size w w':=by
 have HVO:=Aa (fun(W:World) (hb:Below w.heap.size w W)=>Ve fv hv sv cv ov L W (hr.below' hb) hi hz);have HEV:=Aa (fun(W:World) (hb:Below w.heap.size w W)=>Vs (4000:Int) hsz (hd.later' hb) (hk.later' hb) hvr (by omega));have HOC:=Aa (fun(W:World) (hb:Below w.heap.size w W)=>OF ds L dv fv hv sv cv ov W (hd.later' hb) hsz.1 (hr.below' hb) hi hz);have HRO:=Aa (fun(W:World) (hb:Below w.heap.size w W)=>(hr.below' hb).o);have HOK:=Aa (fun(h:Bc L=true) (u:Vl) (e:Cq ds L=some u)=>L8 hsz.1 h e);have HTD:=Aa (L7 ds x 4000);have HTK:=Aa (fun(u:Vl) (e:(AV ds x 4000).2.1=some u)=>Nz (F:=4000) ⟨hsz.1,hsz.2.1⟩ e);have HJ:=Aa (show Ft ds x L= (Bc L&& (if L.code=1∧(AV ds x 4000).1≠1 then DZ (Cq ds L) (AV ds x 4000).2.1 L.os (AV ds x 4000).2.2 else Cb L.os (AV ds x 4000).2.2))from rfl);have hos:L.os.length≤1048576:=by unfold Bw at hz;omega
 obtain⟨da,dc,rfl⟩:=hd.form;obtain⟨ka,kc,rfl⟩:=hk.form;obtain⟨fa,fc,ha,hc,sa,sc,ca,cc,oa,oc,rfl,rfl,rfl,rfl,rfl⟩:=hr.forms;generalize Ft ds x L=J at*;clear hd hk hr hi hz hsz hvr;unfold pgV vmV at*;go_enter Tryz.func7,Tryz.ntmps7;go_wp2_with fail;generalize hxx:Wa (Wa _ _) _=x0;obtain⟨bb,k2,k3,sx⟩:=BV hxx;clear hxx sx;have ck3:=k3.2.1;have yk3:=k3.1;refine(HVO.out x0 bb).mono ?_;rintro e w1 ⟨rfl,b1⟩;clear ck3 yk3;replace k2:=k2.below b1 k2.1;replace k3:=k3.below b1 k3.1;replace bb:=bb.trans (b1.mono bb.size);clear b1 HVO;cases hok:Bc L with
 |false=>
  have HF:=Aa (show J=false by rw[HJ.out,hok];rfl);go_wp2;go_ret;exact⟨Ac HF.out.symm,bb⟩
 |true=>
  have HOK:=Aa (HOK.out hok);have HJ:=Aa (show J= (if L.code=1∧(AV ds x 4000).1≠1 then DZ (Cq ds L) (AV ds x 4000).2.1 L.os (AV ds x 4000).2.2 else Cb L.os (AV ds x 4000).2.2)by rw[HJ.out,hok];rfl);clear hok;have ck2:=k2.2.1;have yk2:=k2.1;go_wp2_with fail;refine(HEV.out w1 bb).mono ?_;rintro e w2 ⟨rv,rfl,b2,hre⟩;clear ck2 yk2;have hw1:w.heap.size+1 < w1.heap.size:=k3.1;replace k2:=k2.below b2 k2.1;replace k3:=k3.below b2 k3.1;replace bb:=bb.trans (b2.mono bb.size);clear HEV;obtain⟨rk,rn,rs,ra,rl,rc,roa,roc,rfl,hro,hrv⟩:=hre.open;clear hre;obtain⟨t,ht⟩:∃t,AV ds x 4000=t:=⟨_,rfl⟩;rw[ht]at hro hrv HJ HTD HTK ⊢;clear ht;obtain⟨tc,tv,tq⟩:=t;dsimp only at hro hrv HJ HTD HTK ⊢;have hz12:=b2.size;have hrv2:=hrv.later (A':=fun b=>w.heap.size+2≤b) (w':=w2) (fun q hq hl=>⟨by omega,hl,rfl⟩);have htl:=hro.len;unfold maxLen at htl;have HRO2:=Aa hro;have HRV:=Aa hrv2;clear b2 hro hrv hrv2;obtain⟨O,hO⟩:∃o,Cq ds L=o:=⟨_,rfl⟩;rw[hO]at HOC HOK HJ;clear hO;have ck2:=k2.2.1;have yk2:=k2.1;have ck3:=k3.2.1;have yk3:=k3.1;go_wp2_with fail;clear ck2 yk2 ck3 yk3;generalize hyy:w2.alloc _=w30;obtain⟨b30,k5⟩:=Bx.alloc hyy;clear hyy;replace k2:=k2.below b30 k2.1;replace k3:=k3.below b30 k3.1;replace bb:=bb.trans (b30.mono bb.size);have RO30:=Aa (HRO2.out.below' b30);have RV30:=Aa (HRV.out.later (A':=fun b=>w.heap.size+2≤b) (w':=w30) (fun q hq hl=>⟨hq,Ah hl b30.size,b30.block q hl⟩));have hz23:=b30.size;obtain⟨R5,hR5⟩:∃R,w2.heap.size=R:=⟨_,rfl⟩;have hR5w:w.heap.size+2≤R5:=by omega
  have W30:=Aa k3.1;rw[hR5]at k5 ⊢;clear hR5 b30 HRO2 HRV hz23 hz12;have HBG:=Aa (fun(h:Cb L.os tq=true)=>QS h);have HFR:=Aa (QL _ _ L.os tq w30 (HRO.out w30 bb) RO30.out);have HNE:=Aa (fun(h:Cb L.os tq=false)=>QR O tv h);generalize Cb L.os tq=bg at*;refine HFR.out.mono ?_;rintro e w3 ⟨rfl,b4⟩;clear HFR;replace k2:=k2.below b4 k2.1;replace k3:=k3.below b4 k3.1;replace k5:=k5.below b4 k5.1;replace bb:=bb.trans (b4.mono bb.size);have hz30:=b4.size;have h30:=W30.out;have W3:=Aa (show w.heap.size+1 < w3.heap.size by omega);have RO3:=Aa (RO30.out.below' b4);have RV3:=Aa (RV30.out.later (A':=fun b=>w.heap.size+2≤b) (w':=w3) (fun q hq hl=>⟨hq,Ah hl b4.size,b4.block q hl⟩));clear b4 RO30 RV30 W30 hz30 h30;cases bg with
  |false=>
   have HF:=Aa (show J=false by
    rw[HJ.out];by_cases hh:L.code=1∧tc≠1
    ·rw[Af hh];exact HNE.out rfl
    ·rw[Ae hh])
   go_wp2;go_ret;exact⟨Ac HF.out.symm,bb⟩
  |true=>
  have HDL:=Aa (HBG.out rfl);clear HBG HNE;by_cases hh:L.code=1∧tc≠1
  ·obtain⟨hcode,htc⟩:=hh;have htc2:(tc==1)=false:=by simpa using htc
   have HJ2:=Aa (show J=DZ O tv L.os tq by rw[HJ.out,Af ⟨hcode,htc⟩]);clear HJ htc;rw[hcode]at k3 HOC;have ck2:=k2.2.1;have yk2:=k2.1;have ck3:=k3.2.1;have yk3:=k3.1;have ck5:=k5.2.1;have yk5:=k5.1;go_wp2_with fail;clear ck2 yk2 ck3 yk3 ck5 yk5;refine(HOC.out w3 bb).mono ?_;rintro e w4 hoc;obtain⟨vk,vn,vs,va,vl,vc,rfl,b4,hov⟩:=hoc.open;replace k2:=k2.below b4 k2.1;replace k3:=k3.below b4 k3.1;replace k5:=k5.below b4 k5.1;replace bb:=bb.trans (b4.mono bb.size);have hz34:=b4.size;have hz03:=bb.size;have h3w:w.heap.size+1 < w3.heap.size:=W3.out;have RO4:=RO3.out.below' b4;have RV4:=RV3.out.later (A':=fun b=>w.heap.size+2≤b) (w':=w4) (fun q hq hl=>⟨hq,Ah hl b4.size,b4.block q hl⟩);have HOV4:=hov.later (A':=fun b=>w.heap.size+2≤b) (w':=w4) (fun q hq hl=>⟨by omega,hl,rfl⟩);clear hoc b4 RO3 RV3 hov W3;go_wp2_with fail;generalize hyy:w4.alloc _=w5;obtain⟨b5,k6⟩:=Bx.alloc hyy;clear hyy;replace k2:=k2.below b5 k2.1;replace k3:=k3.below b5 k3.1;replace k5:=k5.below b5 k5.1;replace bb:=bb.trans (b5.mono bb.size);have RO5:=Aa (RO4.below' b5);have RV5:=Aa (RV4.later (A':=fun b=>w.heap.size+2≤b) (w':=w5) (fun q hq hl=>⟨hq,Ah hl b5.size,b5.block q hl⟩));have HOV:=Aa (HOV4.later (A':=fun b=>w.heap.size+2≤b) (w':=w5) (fun q hq hl=>⟨hq,Ah hl b5.size,b5.block q hl⟩));have BB:=Aa bb;obtain⟨V6,hV6⟩:∃R,w4.heap.size=R:=⟨_,rfl⟩;rw[hV6]at k6 ⊢;clear hV6 b5 RO4 RV4 HOV4 hz34 hz03 h3w k2 bb;have K3:=Aa k3;have K5:=Aa k5;have K6:=Aa k6;rcases HTD.out with ⟨h0,v,hv⟩ |⟨h0,hv⟩
   ·subst h0 hv;cases O with
    |none=>
     have HF:=Aa (show J=false by rw[HJ2.out,Js]);dsimp only[Option.isSome];have ck3:=k3.2.1;have yk3:=k3.1;have ck5:=k5.2.1;have yk5:=k5.1;have ck6:=k6.2.1;have yk6:=k6.1;go_quiet (fail);go_wp2;go_ret;exact⟨Ac HF.out.symm,by first |exact AM BB.out _ |exact BB.out.drew⟩
    |some u=>
     dsimp only[Option.isSome];obtain⟨ku,eu,ru⟩:=HOV.out;obtain⟨kw,ew,rw_⟩:=RV5.out;obtain⟨cu1,cu2,cu3⟩:=HOK.out u rfl;obtain⟨cv1,cv2,cv3⟩:=HTK.out v rfl;have HVU:=Aa (fun(W:World) (hb:Below w5.heap.size w5 W)=>(by rw[eu];exact J4 _ _ u ku W (Cp _) cu1 cu2 cu3 (ru.all hb):Calls Pq 28 #[.agg #[.int .i64 vk,.int .i64 vn,.string vs,.slice va vl vc]] W (VtR W u)));have HVV:=Aa (fun(W:World) (hb:Below w5.heap.size w5 W)=>(by rw[ew];exact J4 _ _ v kw W (Cp _) cv1 cv2 cv3 (rw_.all hb):Calls Pq 28 #[.agg #[.int .i64 rk,.int .i64 rn,.string rs,.slice ra rl rc]] W (VtR W v)));have HRO5:=Aa (fun(W:World) (hb:Below w5.heap.size w5 W)=>HRO.out W (BB.out.trans (hb.mono BB.out.size)));clear eu ru ew rw_ cu1 cu2 cu3 cv1 cv2 cv3 HOV RV5;have HS:=Aa (fun(W:World) (hb:Below w5.heap.size w5 W)=>(⟨(K5.out.below hb K5.out.1).2.1,(K6.out.below hb K6.out.1).2.1,(K3.out.below hb K3.out.1).2.1⟩:(∀j,W.cell? ⟨R5,j,none⟩= #[.int .i64 0,.int .i64 rk,.int .i64 rn,.string rs,.slice ra rl rc,.slice roa tq.length roc][j]?)∧(∀j,W.cell? ⟨V6,j,none⟩= #[.int .i64 vk,.int .i64 vn,.string vs,.slice va vl vc][j]?)∧(∀j,W.cell? ⟨w.heap.size+1,j,none⟩= #[.slice fa L.fs.length fc,.slice ha L.zs.length hc,.int .i64 L.h,.int .i64 L.b,.int .i64 L.n,.slice sa L.ss.length sc,.slice ca L.cs.length cc,.slice oa L.os.length oc,.int .i64 1,.bool L.each][j]?)));clear k3 k5 k6;by_cases hT:txV u=txV v
     ·obtain⟨T,hTv⟩:∃T,txV v=T:=⟨_,rfl⟩;have HF:=Aa (show J=decide (L.os=tq)by rw[HJ2.out,Gy,Ax hT];rfl);have HT1:=Aa (hT.trans hTv);have HT2:=Aa hTv;have hq:=Dz (a:=T) rfl;clear hT hTv;refine wp_region_held_drew (S:=(fun w'=>(∀j,w'.cell? ⟨R5,j,none⟩= #[.int .i64 0,.int .i64 rk,.int .i64 rn,.string rs,.slice ra rl rc,.slice roa tq.length roc][j]?)∧(∀j,w'.cell? ⟨V6,j,none⟩= #[.int .i64 vk,.int .i64 vn,.string vs,.slice va vl vc][j]?)∧(∀j,w'.cell? ⟨w.heap.size+1,j,none⟩= #[.slice fa L.fs.length fc,.slice ha L.zs.length hc,.int .i64 L.h,.int .i64 L.b,.int .i64 L.n,.slice sa L.ss.length sc,.slice ca L.cs.length cc,.slice oa L.os.length oc,.int .i64 1,.bool L.each][j]?))) (by kernel_rfl) (by first | (dsimp only;exact HS.out _ (Below.refl _ _).drew) | (exact HS.out _ (Below.refl _ _).drew)) (fun hHeld=> ?_);refine tkH (i:=0) ?_;refine tkH (i:=1) ?_;refine tkH (i:=2) ?_;refine tkH (i:=3) ?_;refine tkH (i:=4) ?_;refine tkH (i:=5) ?_;refine tkH (i:=6) ?_;refine tkH (i:=7) ?_;refine tkH (i:=9) ?_;refine tkH (i:=10) ?_;generalize hxd:w5.drew=x1 at hHeld;have hdx:Below w5.heap.size w5 x1:=by rw[←hxd];exact(Ab _ _).drew
      clear hxd;refine rdH (i:=8) (fun K hK=> ?_);go_simp;refine(HVU.out x1 hdx).mono ?_;rintro e w6 ⟨rfl,b6⟩;rw[HT1.out];refine bkH hK (by first | (dsimp only;exact HS.out _ (hdx.trans (b6.mono hdx.size))) | (exact HS.out _ (hdx.trans (b6.mono hdx.size)))) (fun hHeld=> ?_);clear hK K;have hd6:=hdx.trans (b6.mono hdx.size);refine rdH (i:=11) (fun K hK=> ?_);go_simp;refine(HVV.out w6 hd6).mono ?_;rintro e w7 ⟨rfl,b7⟩;rw[HT2.out];refine bkH hK (by first | (dsimp only;exact HS.out _ (hd6.trans (b7.mono hd6.size))) | (exact HS.out _ (hd6.trans (b7.mono hd6.size)))) (fun hHeld=> ?_);clear hK K;have hd7:=hd6.trans (b7.mono hd6.size);refine tkH (i:=12) ?_;refine tkH (i:=13) ?_;refine tkH (i:=14) ?_;refine tkH (i:=15) ?_;refine tkH (i:=16) ?_;refine tkH (i:=18) ?_;refine tkH (i:=19) ?_;refine tkH (i:=17) ?_;refine tkH (i:=20) ?_;refine tkH (i:=21) ?_;refine tkH (i:=22) ?_;refine tkH (i:=23) ?_;refine A2 (by kernel_rfl) ?_ _;go_wp2;go_ret;exact⟨Ac (by rw[HF.out,HDL.out]),BB.out.trans (hd7.mono BB.out.size)⟩
     ·have HF:=Aa (show J=false by rw[HJ2.out,Gy,AF hT];rfl);have hq:=Em hT;obtain⟨T1,hT1⟩:∃T,txV u=T:=⟨_,rfl⟩;obtain⟨T2,hT2⟩:∃T,txV v=T:=⟨_,rfl⟩;rw[hT1,hT2]at hq;have HT1:=Aa hT1;have HT2:=Aa hT2;clear hT hT1 hT2;refine wp_region_held_drew (S:=(fun w'=>(∀j,w'.cell? ⟨R5,j,none⟩= #[.int .i64 0,.int .i64 rk,.int .i64 rn,.string rs,.slice ra rl rc,.slice roa tq.length roc][j]?)∧(∀j,w'.cell? ⟨V6,j,none⟩= #[.int .i64 vk,.int .i64 vn,.string vs,.slice va vl vc][j]?)∧(∀j,w'.cell? ⟨w.heap.size+1,j,none⟩= #[.slice fa L.fs.length fc,.slice ha L.zs.length hc,.int .i64 L.h,.int .i64 L.b,.int .i64 L.n,.slice sa L.ss.length sc,.slice ca L.cs.length cc,.slice oa L.os.length oc,.int .i64 1,.bool L.each][j]?))) (by kernel_rfl) (by first | (dsimp only;exact HS.out _ (Below.refl _ _).drew) | (exact HS.out _ (Below.refl _ _).drew)) (fun hHeld=> ?_);refine tkH (i:=0) ?_;refine tkH (i:=1) ?_;refine tkH (i:=2) ?_;refine tkH (i:=3) ?_;refine tkH (i:=4) ?_;refine tkH (i:=5) ?_;refine tkH (i:=6) ?_;refine tkH (i:=7) ?_;refine tkH (i:=9) ?_;refine tkH (i:=10) ?_;generalize hxd:w5.drew=x1 at hHeld;have hdx:Below w5.heap.size w5 x1:=by rw[←hxd];exact(Ab _ _).drew
      clear hxd;refine rdH (i:=8) (fun K hK=> ?_);go_simp;refine(HVU.out x1 hdx).mono ?_;rintro e w6 ⟨rfl,b6⟩;rw[HT1.out];refine bkH hK (by first | (dsimp only;exact HS.out _ (hdx.trans (b6.mono hdx.size))) | (exact HS.out _ (hdx.trans (b6.mono hdx.size)))) (fun hHeld=> ?_);clear hK K;have hd6:=hdx.trans (b6.mono hdx.size);refine rdH (i:=11) (fun K hK=> ?_);go_simp;refine(HVV.out w6 hd6).mono ?_;rintro e w7 ⟨rfl,b7⟩;rw[HT2.out];refine bkH hK (by first | (dsimp only;exact HS.out _ (hd6.trans (b7.mono hd6.size))) | (exact HS.out _ (hd6.trans (b7.mono hd6.size)))) (fun hHeld=> ?_);clear hK K;have hd7:=hd6.trans (b7.mono hd6.size);refine tkH (i:=12) ?_;refine tkH (i:=13) ?_;refine tkH (i:=14) ?_;refine skH (i:=15) ?_;refine skH (i:=16) ?_;refine skH (i:=17) ?_;refine skH (i:=18) ?_;refine skH (i:=19) ?_;refine skH (i:=20) ?_;refine skH (i:=21) ?_;refine tkH (i:=22) ?_;refine tkH (i:=23) ?_;refine A2 (by kernel_rfl) ?_ _;go_wp2;go_ret;exact⟨Ac HF.out.symm,BB.out.trans (hd7.mono BB.out.size)⟩
   ·subst hv;have HF:=Aa (show J=false by rw[HJ2.out,Jt]);have h02:(tc==0)=false:=by simpa using h0
    clear h0;have ck3:=k3.2.1;have yk3:=k3.1;have ck5:=k5.2.1;have yk5:=k5.1;have ck6:=k6.2.1;have yk6:=k6.1;go_quiet (fail);go_wp2;go_ret;exact⟨Ac HF.out.symm,by first |exact AM BB.out _ |exact BB.out.drew⟩
  ·have HJ2:=Aa (show J=true by rw[HJ.out,Ae hh]);clear HJ;by_cases hcode:L.code=1
   ·have htc:tc=1:=by
     by_cases e:tc=1
     ·exact e
     ·exact absurd ⟨hcode,e⟩ hh
    subst htc;rw[hcode]at k3;clear hh hcode;have ck3:=k3.2.1;have yk3:=k3.1;have ck5:=k5.2.1;have yk5:=k5.1;go_wp2;go_ret;exact⟨Ac HJ2.out.symm,bb⟩
   ·have hne:(L.code !=1)=true:=by simpa using hcode
    clear hh hcode;have ck3:=k3.2.1;have yk3:=k3.1;have ck5:=k5.2.1;have yk5:=k5.1;go_wp2;go_ret;exact⟨Ac HJ2.out.symm,bb⟩
theorem Gn {w W:World}{a b c:Array Value}{e e2 e3:TypeId}(hW:((w.alloc (.cells a e)).alloc (.cells b e2)).alloc (.cells c e3)=W):Below w.heap.size w W∧Bx W w.heap.size a∧Bx W (w.heap.size+1) b∧Bx W (w.heap.size+2) c:=by
 obtain⟨b1,k1⟩:=Bx.alloc (w:=w) (cur:=a) (e:=e) rfl;obtain⟨b2,k2⟩:=Bx.alloc (w:=w.alloc (.cells a e)) (cur:=b) (e:=e2) rfl;obtain⟨b3,k3⟩:=Bx.alloc hW;simp only[Bo]at b2 b3 k2 k3;have b12:Below w.heap.size w ((w.alloc (.cells a e)).alloc (.cells b e2)):=b1.trans (b2.mono (by omega));exact⟨b12.trans (b3.mono (by omega)),(k1.below b2 (by first |omega |simp)).below b3 (by first |omega |simp),k2.below b3 (by first |omega |simp),k3⟩
theorem PG {n sz:Nat}{f g:Nat→Array Value}(h:∀j,j < n→f j=g j):Ci n sz f=Ci n sz g:=by
 unfold Ci;refine List.map_congr_left fun k hk=> ?_;rw[Ed]at hk;have h0:0 < sz:=by
  rcases Fy sz with h |h
  ·rw[h]at hk;omega
  ·exact h
 rw[h (k/sz) (Nat.div_lt_of_lt_mul (by rw[Iz];exact hk))]
theorem PH {n sz:Nat}{at_:Nat→Array Value}{c:Array Value}(hsz:∀j,j < n→(at_ j).size=sz) (hc:c.size=sz) (h0:0 < sz):Ci n sz at_++c.toList=Ci (n+1) sz (fun j=>if j < n then at_ j else c):=by
 have hsz2:∀j,j < n+1→((fun j=>if j < n then at_ j else c) j).size=sz:=fun j hj=>by
  dsimp only;by_cases h:j < n
  ·rw[Af h];exact hsz j h
  ·rw[Ae h];exact hc
 refine Ke fun k=> ?_;by_cases hk:k < (n+1)*sz
 ·obtain⟨j,i,hj,hi,rfl⟩:=G3 hsz2 hk;rw[Ex hsz2 hj hi];by_cases h:j < n
  ·have hlt:j*sz+i < n*sz:=by
    have:(j+1)*sz≤n*sz:=Er _ h;rw[Et]at this;omega
   rw[Ff (by rw[CG];exact hlt),Ex hsz h hi];simp only[Af h]
  ·obtain rfl:j=n:=by omega
   rw[EN (by rw[CG];omega),CG,show j*sz+i - j*sz=i by omega,Array.getElem?_toList];simp only[Ae h]
 ·have hn:(n+1)*sz=n*sz+sz:=by rw[Et,GV]
  rw[FB (by rw[Bl,CG,Array.length_toList,hc];omega),FB (by rw[CG];omega)]
theorem PI {lo sz n:Nat}{e:TypeId}{w w':World}{v:Value}{xs:List Value}(h:w.ownsRow lo e sz v n xs) (hs:∀q,v.ownBlock=some q→w'.heap[q]?=w.heap[q]?):w'.ownsRow lo e sz v n xs:=by
 refine⟨h.1,?_⟩;rcases h.2 with hn |⟨b,cap,cur,rfl,hbs,hg,rest⟩
 ·exact .inl hn
 ·exact .inr ⟨b,cap,cur,rfl,hbs,by rw[hs b rfl];exact hg,rest⟩
theorem PJ {lo sz n b cap:Nat}{e:TypeId}{w:World}{xs:List Value}(h:w.ownsRow lo e sz (.slice (some ⟨b,0,none⟩) n cap) n xs) (k:Nat) (hk:k < xs.length):w.cell? ⟨b,k,none⟩=xs[k]?:=by
 have hl:=h.1;rcases h.2 with ⟨hv,_⟩ |⟨q,cap',cu,hv,hb,hgg,hn,hm,hc,ht⟩
 ·cases hv
 ·cases hv
  rw[Fe w b _ cu _ (0,0) hgg,←ht,DU,Af (by omega),Array.getElem?_toList]
theorem PK {lo sz n b cap:Nat}{e:TypeId}{w:World}{xs:List Value}(h:w.ownsRow lo e sz (.slice (some ⟨b,0,none⟩) n cap) n xs):n≤maxLen∧n≤cap:=by
 rcases h.2 with ⟨hv,_⟩ |⟨q,cap',cu,hv,hb,hgg,hn,hm,hc,ht⟩
 ·cases hv
 ·cases hv
  exact⟨by omega,hn⟩
def ndC (x:Nd) (kv:Value):Array Value:= #[.int .i64 x.op,.int .i64 x.n,.string x.s,.string x.t,kv]
def Fj (ks:List Nd) (kv:Nat→Value):List Value:=Ci ks.length 5 (fun j=>ndC (ks[j]?.getD Nd.zero) (kv j))
theorem PL (ks:List Nd) (kv:Nat→Value):(Fj ks kv).length=ks.length*5:=CG _ _ _
theorem PM (ks:List Nd) (kv:Nat→Value) (y:Nd) (v:Value):Fj ks kv++ (ndC y v).toList=Fj (ks++ [y]) (fun j=>if j < ks.length then kv j else v):=by
 unfold Fj;have hsz:∀j,j < ks.length→((fun j=>ndC (ks[j]?.getD Nd.zero) (kv j)) j).size=5:=fun j _=>rfl;rw[PH hsz (show(ndC y v).size=5 from rfl) (by omega),Bl,List.length_singleton];refine PG fun j hj=> ?_;by_cases h:j < ks.length
 ·simp only[Af h,Ff h]
 ·obtain rfl:j=ks.length:=by omega
  simp only[Ae h,EN (Ad _),FC,List.getElem?_cons_zero,Option.getD_some]
inductive OwN (A:Nat→Prop) (w:World):Value→List Nd→Prop
 |nil:OwN A w (.slice none 0 0) []
 |row (b cap lo:Nat) (ks:List Nd) (kv:Nat→Value) (hb:A b) (ho:w.ownsRow lo 41 5 (.slice (some ⟨b,0,none⟩) ks.length cap) ks.length (Fj ks kv)) (hk:∀j (h:j < ks.length),OwN A w (kv j) ks[j].kids):OwN A w (.slice (some ⟨b,0,none⟩) ks.length cap) ks
theorem OwN.later {A A':Nat→Prop}{w w':World}{v:Value}{ks:List Nd}(h:OwN A w v ks) (t:∀b,A b→b < w.heap.size→A' b∧b < w'.heap.size∧w'.heap[b]?=w.heap[b]?):OwN A' w' v ks:=by
 induction h with
 |nil=>exact .nil
 |row b cap lo ks kv hb ho _ ih=>
  have hl:=(ho.lt b rfl).2;exact .row b cap lo ks kv (t b hb hl).1 (PI ho (fun q e=>by cases e;exact(t b hb hl).2.2)) ih
theorem OwN.form {A:Nat→Prop}{w:World}{v:Value}{ks:List Nd}(h:OwN A w v ks):∃a cap,v= .slice a ks.length cap:=by
 cases h with
 |nil=>exact⟨none,0,rfl⟩
 |row b cap lo ks kv _ _ _=>exact⟨_,cap,rfl⟩
theorem OwN.rd {A:Nat→Prop}{w:World}{v:Value}{ks:List Nd}(h:OwN A w v ks):RdNs w.heap.size w v ks:=by
 induction h with
 |nil=>exact .nil _ _
 |row b cap lo ks kv hb ho _ ih=>
  have hl:=(ho.lt b rfl).2;have hc:∀j,j < ks.length→ ∀i,i < 5→w.cell? ⟨b,0+j*5+i,none⟩= (ndC (ks[j]?.getD Nd.zero) (kv j))[i]?:=fun j hj i hi=>by
   rw[BS,PJ ho (j*5+i) (by rw[PL];have:(j+1)*5≤ks.length*5:=Er _ hj;omega)];unfold Fj;exact Ex (at_:=fun j=>ndC (ks[j]?.getD Nd.zero) (kv j)) (fun _ _=>rfl) hj hi
  obtain⟨h1,h2⟩:=PK ho;refine .row b 0 cap ks kv hl hl ⟨h1,h2⟩ (fun j hj=> ?_) ih;have h5:=fun i hi=>hc j hj i hi;rw[Ay hj]at h5;exact⟨h5 0 (by omega),h5 1 (by omega),h5 2 (by omega),h5 3 (by omega),h5 4 (by omega)⟩
structure CpN (w W:World) (x:Nd) (k:Nat) (kv:Value):Prop where
 bb:Below w.heap.size w W
 bo:Bx W w.heap.size #[.int .i64 0,.int .i64 0,.string ⟨#[]⟩,.string ⟨#[]⟩,.slice none 0 0]
 bt:Bx W (w.heap.size+1) (ndC x kv)
 row:∃kvs:Nat→Value,W.ownsRow (w.heap.size+2) 41 5 kv k (Fj (x.kids.take k) kvs)∧ ∀j (h:j < x.kids.length),j < k→OwN (fun b=>w.heap.size+2≤b∧kv.ownBlock≠some b) W (kvs j) x.kids[j].kids
section
variable {w W W':World}{x:Nd}{k:Nat}{kv:Value}
theorem CpN.same (h:CpN w W x k kv) (b:Below W.heap.size W W'):CpN w W' x k kv:=by
 obtain⟨kvs,ho,hr⟩:=h.row;exact⟨h.bb.trans (b.mono h.bb.size),h.bo.below b h.bo.1,h.bt.below b h.bt.1,kvs,Bm ho b (A5 ho),fun j hj hk=>(hr j hj hk).later fun q hq hl=>⟨hq,Ah hl b.size,b.block q hl⟩⟩
theorem CpN.form (h:CpN w W x k kv):∃a cap,kv= .slice a k cap:=by
 obtain⟨kvs,ho, -⟩:=h.row;exact AR ho
theorem CpN.app (h:CpN w W x k kv) {M:Nat}{v:Value}(hk:k < x.kids.length) (hM:∀q,kv.ownBlock=some q→q < M) (hMW:M≤W.heap.size) (hwM:w.heap.size+2≤M)
  (hc:OwN (fun b=>M≤b) W v x.kids[k].kids):∃ps,W.ownsRow (w.heap.size+2) 41 5 kv k ps∧ ∀ (v':Value) (w4:World),w4.ownsRow (w.heap.size+2) 41 5 v' (k+1) (ps++ (ndC x.kids[k] v).toList)→W.grownBy w4 kv.ownBlock→
  (v'.ownBlock=kv.ownBlock∨ ∃q,v'.ownBlock=some q∧W.heap.size≤q)→CpN w (w4.setCell ⟨w.heap.size+1,4,none⟩ v') x (k+1) v':=by
 obtain⟨kvs,hps,hr2⟩:=h.row;refine⟨_,hps,fun v' w4 ho hg hat=> ?_⟩;have hsz:w4.heap.size= (w4.setCell ⟨w.heap.size+1,4,none⟩ v').heap.size:=(AP ..).symm;have hq0:∀q,kv.ownBlock=some q→w.heap.size+2≤q:=fun q hq=>(hps.lt q hq).1;have hs:=grownBy.setCell w4 (w.heap.size+1) 4 v';have hblk:∀b,b < W.heap.size→b≠w.heap.size+1→kv.ownBlock≠some b→(w4.setCell ⟨w.heap.size+1,4,none⟩ v').heap[b]?=W.heap[b]?:=fun b hb h1 h2=>
  (hs.block b (Ah hb hg.size) (fun e=>h1 (Am e))).trans (hg.block b hb (fun e=>h2 e.symm))
 have hbW:Below w.heap.size W (w4.setCell ⟨w.heap.size+1,4,none⟩ v'):=⟨hg.os,hg.tape,hg.output,by rw[←hsz];exact hg.size,fun q hq=>hblk q (by have:=h.bb.size;omega) (by omega) (fun e=>by have:=hq0 q e;omega)⟩;have htl:(x.kids.take k).length=k:=by rw[IG];omega
 have hts:x.kids.take (k+1)=x.kids.take k++ [x.kids[k]]:=by rw[List.take_add_one,Ay hk];rfl
 refine⟨h.bb.trans hbW,?_,?_,fun j=>if j < k then kvs j else v,?_,fun j hj hjk=> ?_⟩
 ·have:=hblk w.heap.size h.bo.1 (by omega) (fun e=>by have:=hq0 _ e;omega);exact⟨by rw[←hsz];exact Ah h.bo.1 hg.size,fun j=>(CD this).trans (h.bo.2.1 j),fun j=>(F9 this).trans (h.bo.2.2 j)⟩
 ·have h4:Bx w4 (w.heap.size+1) (ndC x kv):=h.bt.grown hg (fun e=>by have:=hq0 _ e.symm;omega);have:=h4.st 4 (by simp[ndC]) v'
  simpa [ndC] using this
 ·have:=PM (x.kids.take k) kvs x.kids[k] v;rw[htl,←hts]at this;rw[←this];refine ho.kept hs ?_;cases hq:v'.ownBlock with
  |none=>exact .inl rfl
  |some q=>exact .inr (fun e=>by have:=(ho.lt q hq).1;have:=Am e;omega)
 ·dsimp only;by_cases hj2:j < k
  ·rw[Af hj2];refine(hr2 j hj hj2).later fun q hq hl2=>⟨⟨hq.1,fun e=> ?_⟩,by rw[←hsz];exact Ah hl2 hg.size,hblk q hl2 (by omega) hq.2⟩
   rcases hat with e2 |⟨q2,e2,e3⟩
   ·exact hq.2 (e2.symm.trans e)
   ·rw[e2]at e;have:=Am e;omega
  ·obtain rfl:j=k:=by omega
   rw[Ae hj2];refine hc.later fun q hq hl2=>⟨⟨by omega,fun e=> ?_⟩,by rw[←hsz];exact Ah hl2 hg.size,hblk q hl2 (by omega) (fun e=>by have:=hM q e;omega)⟩
   rcases hat with e2 |⟨q2,e2,e3⟩
   ·have:=hM q (e2.symm.trans e);omega
   ·rw[e2]at e;have:=Am e;omega
theorem CpN.done (h:CpN w W x x.kids.length kv):OwN (fun b=>w.heap.size+2≤b) W kv x.kids:=by
 obtain⟨kvs,ho,hr⟩:=h.row;rw[B8]at ho;rcases ho.2 with ⟨rfl,h0⟩ |⟨q,cap,cu,rfl,hbq,_⟩
 ·rw[List.eq_nil_of_length_eq_zero h0];exact .nil
 ·exact .row q cap _ x.kids kvs hbq ho (fun j hj=>(hr j hj hj).later fun q hq hl=>⟨hq.1,hl,rfl⟩)
end
end Go.Proofs.YtifhcbeaiijkcaaGreat
