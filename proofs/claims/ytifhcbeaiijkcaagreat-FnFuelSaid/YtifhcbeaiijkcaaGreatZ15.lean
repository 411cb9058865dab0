/- Parts of the proof of FnFuel. -/
import Derived.Test.YtifhcbeaiijkcaaGreatZ14
import Derived.Deep.DeepCutAuto
import Derived.Deep.CutRange
import Derived.Test.YtifhcbeaiijkcaaGreatZ08
import Derived.Test.YtifhcbeaiijkcaaGreatZ07
import Derived.Test.YtifhcbeaiijkcaaGreatZ05
import Derived.Test.YtifhcbeaiijkcaaGreatZ10
set_option linter.unusedVariables false
set_option linter.unusedSimpArgs false
set_option maxRecDepth 1000000
set_option maxHeartbeats 16000000
section
namespace Go.Proofs.YtifhcbeaiijkcaaGreat
open Go.RowKit
open _root_.Go.World renaming alloc→Wa,setCell→Ws
open _root_.Go.Proofs.Tryz renaming prog→Pq
theorem Nc (F:Int):(A9 F:Int)=max 0 (min F 4000):=by unfold A9;omega
theorem Nf (F:Int):A9 F≤4000:=by unfold A9;omega
theorem SF {ds:List Dt}{x:Nd}{dv kv:Value}{w2 w3:World}{f:Nat}{e:TypeId}(hz:SzP ds x) (ht:By ds x=true) (hf:f≤4000) (hd:RdDts w2.heap.size w2 dv ds) (hk:RdNs w2.heap.size w2 kv x.kids)
  (h:w2.alloc (.cells #[dv,.int .i64 f,.int .i64 0,.slice none 0 0] e)=w3):Pre w2.heap.size (fun _=>False) w2.heap.size dv ds x kv (.pointer none) [] ⟨f,[]⟩ w3 none:=by
 obtain⟨b,k⟩:=Bx.alloc h;unfold By at ht;rw[AH,AH]at ht;exact⟨ht.2.2,hz.2.1,.nil,by simpa using hf,hk.later b (Ad _),.nil,⟨⟨_,k,⟨by simp,.inl ⟨rfl,rfl⟩⟩,rfl⟩,⟨Ad _,b.size⟩,by simp⟩,hd.later b (Ad _),fun b h=>h.elim⟩
theorem Iv {w W:World}{c:Int}{o:List Int}{ov z0 z1 z2 z3 z4 z5:Value}{B:Nat}{A:Nat→Prop}(K:Bx W (w.heap.size+1) #[z0,z1,z2,z3,z4,z5]) (BB:Below w.heap.size w W) (ho:W.ownsRow B 3 1 ov o.length (o.map (Value.int .i64))) (hB:w.heap.size+2≤B)
  {W':World} (h:((((((W.setCell ⟨w.heap.size+1,0,none⟩ (.int .i64 c)).setCell ⟨w.heap.size+1,1,none⟩ (.int .i64 0)).setCell ⟨w.heap.size+1,2,none⟩ (.int .i64 0)).setCell ⟨w.heap.size+1,3,none⟩ (.string ⟨#[]⟩)).setCell ⟨w.heap.size+1,4,none⟩ (.slice none 0 0)).setCell ⟨w.heap.size+1,5,none⟩ ov)=W'):
  Below w.heap.size w W'∧RdEv A W' (c,none,o) (.agg #[.int .i64 c,.int .i64 0,.int .i64 0,.string ⟨#[]⟩,.slice none 0 0,ov])∧ ∀j,W'.cell? ⟨w.heap.size+1,j,none⟩= #[.int .i64 c,.int .i64 0,.int .i64 0,.string ⟨#[]⟩,.slice none 0 0,ov][j]?:=by
 obtain⟨k9,g9⟩:=K.set6 (.int .i64 c) (.int .i64 0) (.int .i64 0) (.string ⟨#[]⟩) (.slice none 0 0) ov;rw[h]at k9 g9;exact⟨grown_at BB g9 (by omega),⟨_,_,_,_,_,rfl,Rd.of_own (ho.kept g9 (by
  cases hq:ov.ownBlock with
  |none=>exact .inl rfl
  |some q=>exact .inr (fun e=>by have:=(ho.lt q hq).1;have:=Ah e;omega))),rfl,rfl,rfl,rfl⟩,k9.2.1⟩
theorem Ng {w W:World}{u:Vl}{kv:Value}{o:List Int}{ov z0 z1 z2 z3 z4 z5:Value}{B M:Nat}(K:Bx W (w.heap.size+1) #[z0,z1,z2,z3,z4,z5]) (BB:Below w.heap.size w W) (ho:W.ownsRow B 3 1 ov o.length (o.map (Value.int .i64))) (hB:w.heap.size+2≤B)
  (hu:RdTv (fun b=>M≤b) W u (vlC u kv)) (hM:w.heap.size+2≤M)
  {W':World} (h:((((((W.setCell ⟨w.heap.size+1,0,none⟩ (.int .i64 0)).setCell ⟨w.heap.size+1,1,none⟩ (.int .i64 (kdV u))).setCell ⟨w.heap.size+1,2,none⟩ (.int .i64 (nmV u))).setCell ⟨w.heap.size+1,3,none⟩ (.string (tgV u))).setCell ⟨w.heap.size+1,4,none⟩ kv).setCell ⟨w.heap.size+1,5,none⟩ ov)=W'):
  Below w.heap.size w W'∧RdEv (fun b=>w.heap.size≤b) W' (0,some u,o) (.agg #[.int .i64 0,.int .i64 (kdV u),.int .i64 (nmV u),.string (tgV u),kv,ov])∧ ∀j,W'.cell? ⟨w.heap.size+1,j,none⟩= #[.int .i64 0,.int .i64 (kdV u),.int .i64 (nmV u),.string (tgV u),kv,ov][j]?:=by
 obtain⟨k9,g9⟩:=K.set6 (.int .i64 0) (.int .i64 (kdV u)) (.int .i64 (nmV u)) (.string (tgV u)) kv ov;rw[h]at k9 g9;refine⟨grown_at BB g9 (by omega),⟨_,_,_,_,_,rfl,Rd.of_own (ho.kept g9 (by
  cases hq:ov.ownBlock with
  |none=>exact .inl rfl
  |some q=>exact .inr (fun e=>by have:=(ho.lt q hq).1;have:=Ah e;omega))),rfl,hu.later fun q hq hl=>⟨by omega,Aj hl g9.size,g9.block q hl (fun e=>by have:=Ah e;omega)⟩⟩,k9.2.1⟩
theorem Nh {r:Rs Vl}{v:Vl}{s:Es}(h:r= .ok v s) (hc:Au v≤4000):CU r= (0,some v,s.out):=by rw[h];exact Ab (by omega)
theorem Ni {r:Rs Vl}{v:Vl}{s:Es}(h:r= .ok v s) (hc:Au v > 4000):CU r= (1,none,s.out):=by rw[h];exact Ag hc
theorem SG {B:Nat}{ds:List Dt}{x:Nd}{dv kv:Value}{w:World}(F:Int) (hz:SzP ds x) (hr:RdDts B w dv ds) (hk:RdNs B w kv x.kids) (hv:∀d∈ds, -9223372036854775807≤d.vars∧d.vars≤9223372036854775807)
  (hF:-9223372036854775808≤F∧F≤9223372036854775807) (hs:By ds x=true∧ckP ds=0):
  Calls Pq 15 #[pgV dv x kv,.int .i64 F] w (EvR w ds x F):=by
 have HT:=Aa (fun(W:World) (b:Below w.heap.size w W)=>O6 ds x dv kv _ _ W hz (hr.later' b) (hk.later' b) hv);have HC:=Aa (fun(W:World) (b:Below w.heap.size w W)=>Lf ds dv _ W (hr.later' b) hz.1);have HE:Hid (BX ds x F=CU (Ai (arP ds) (A9 F) x [] ⟨A9 F,[]⟩)):=Aa (by unfold BX;rw[Ag hs]);have HS:=Aa hs;have HZ:=Aa hz;have HD:=Aa (fun(W:World) (b:Below w.heap.size w W)=>hr.later' b);have HK:=Aa (fun(W:World) (b:Below w.heap.size w W)=>hk.later' b);obtain⟨da,dc,rfl⟩:=hr.form;obtain⟨ka,kc,rfl⟩:=hk.form;obtain⟨ht,hc⟩:=hs;have HFU:=Aa (Nc F);have HF:=Aa hF;clear hr hk hv hz hF;unfold pgV at HT ⊢;go_enter Tryz.func15,Tryz.ntmps15;go_wp2_with fail;generalize hxx:(w.alloc _).alloc _=x0;obtain⟨bx,k1,k2,sx⟩:=Iu hxx;clear hxx;refine(HT.out x0 bx).mono ?_;rintro e w1 ⟨rfl,b1⟩;replace k1:=k1.below b1 k1.1;replace k2:=k2.below b1 k2.1;have c1:=k1.2.1;have B1:=Aa (bx.trans (b1.mono bx.size));rw[ht];clear bx b1 HT ht;go_wp2_with fail;refine(HC.out w1 B1.out).mono ?_;rintro e w2 ⟨rfl,b2⟩;rw[hc];replace k1:=k1.below b2 k1.1;have K2:=Aa (k2.below b2 k2.1);have B2:=Aa (B1.out.trans (b2.mono B1.out.size));have c1:=k1.2.1;have yk1:=k1.1;have h2:w2.heap.size≠w.heap.size:=by omega
 have c3:∀o j,(w2.alloc o).cell? ⟨w.heap.size,j,none⟩= #[.slice da ds.length dc,.int .i64 x.op,.int .i64 x.n,.string x.s,.string x.t,.slice ka x.kids.length kc][j]?:=fun o j=>(Dk (p:=⟨w.heap.size,j,none⟩) yk1).trans (c1 j);clear k2 b2 HC hc
 go_upto_region 3 with fail
 go_cut [5]from 17 to 23 (fun s W=>s= .pointer (some ⟨w2.heap.size,0,none⟩)∧w2.alloc (.cells #[.slice da ds.length dc,.int .i64 (A9 F),.int .i64 0,.slice none 0 0] 94)=W)
 case first=>
  rcases Int.lt_or_le 0 F with h0 |h0
  ·rcases Int.lt_trichotomy F 4000 with h4 |h4 |h4
   ·obtain hfe:(A9 F:Int)=F:=by have:=HFU.out;omega
    have HFE:=Aa hfe;clear hfe;go_wp2_with fail;go_meet;exact⟨rfl,by rw[HFE.out]⟩
   ·subst h4;have HFE:=Aa (show(A9 4000:Int)=4000 from rfl);go_wp2_with fail;go_meet;exact⟨rfl,by rw[HFE.out]⟩
   ·obtain hfe:(A9 F:Int)=4000:=by have:=HFU.out;omega
    have HFE:=Aa hfe;clear hfe;go_wp2_with fail;go_meet;exact⟨rfl,by rw[HFE.out]⟩
  ·obtain hfe:(A9 F:Int)=0:=by have:=HFU.out;omega
   have HFE:=Aa hfe;clear hfe;have h4:F < 4000:=by omega
   go_wp2_with fail;go_meet;exact⟨rfl,by rw[HFE.out]⟩
 case rest=>
  obtain⟨rfl,hW⟩:=hcut;obtain⟨W,hWW⟩:∃W,w2.alloc (.cells #[.slice da ds.length dc,.int .i64 (A9 F),.int .i64 0,.slice none 0 0] 94)=W:=⟨_,rfl⟩;obtain rfl:=hWW.symm.trans hW;clear hWW;obtain⟨b3,k3⟩:=Bx.alloc hW;have c4:=c3 (.cells #[.slice da ds.length dc,.int .i64 (A9 F),.int .i64 0,.slice none 0 0] 94);rw[hW]at c4;have P:=SF HZ.out HS.out.1 (Nf F) ((HD.out w2 B2.out).later' (Ac _ _)) ((HK.out w2 B2.out).later' (Ac _ _)) hW;have HN:=Aa (Oz (ar:=arP ds) rfl HZ.out.1 (A9 F) (fun _=>False) x _ (.pointer none) [] ⟨A9 F,[]⟩ W none (Ad _) P);unfold ndV at HN;have EV3:=Aa P.ev;have B3:=Aa b3;clear P b3 k3 hW c3 c1 k1 HD HK HF HFU;go_wp2_with fail;refine HN.out.mono ?_;rintro e W4 ⟨a4,r4,rfl,t4,h4⟩;clear HN;obtain⟨res,hres⟩:∃r,Ai (arP ds) (A9 F) x [] ⟨A9 F,[]⟩=r:=⟨_,rfl⟩;rw[hres]at HE h4;clear hres;have B4:Below w2.heap.size W W4:=EV3.out.tw t4;have K4:=Aa ((K2.out.below B3.out K2.out.1).below B4 K2.out.1);have BB:=Aa ((B2.out.trans (B3.out.mono B2.out.size)).trans (B4.mono B2.out.size));have hsz:w.heap.size+2≤w2.heap.size:=by have:=K2.out.1;omega
  clear t4 B4 c4;cases res with
  |bad c o=>
   obtain⟨hc,ho,f,hev⟩:=h4;have hc1:(c==0)=false:=by rcases hc with rfl |rfl <;> rfl
   have hc2:(c !=0)=true:=by rcases hc with rfl |rfl <;> rfl
   obtain⟨ov,hb,how,hrr⟩:=hev.bx;obtain⟨oa,oc,rfl⟩:=A2 how;have HB:=Aa hb;have HOW:=Aa how;have q4:=hb.2.1;clear hc ho hev hb how hrr;go_wp2_with fail;refine BP 9 (S:=(fun w'=>∀j,w'.cell? ⟨w2.heap.size,j,none⟩= #[.slice da ds.length dc,.int .i64 f,.int .i64 c,.slice oa o.length oc][j]?)) (by kernel_rfl) (by kernel_rfl) (by first | (dsimp only;exact q4) | (exact q4)) (fun hHeld=> ?_);refine tkT (i:=0) ?_;refine tkT (i:=1) ?_;refine tkT (i:=2) ?_;refine tkT (i:=3) ?_;refine tkT (i:=4) ?_;refine tkT (i:=5) ?_;refine tkT (i:=6) ?_;refine tkT (i:=7) ?_;refine tkT (i:=8) ?_;generalize hxd:World.drew _=x1 at hHeld;have hd:Below W4.heap.size W4 x1:=by rw[←hxd];exact(Ac _ _).drew
   clear hxd q4;have k5:=K4.out.below hd K4.out.1;have c5:=k5.2.1;have f5:=k5.2.2;have y5:=k5.1;have K5:=Aa k5;have BD:=Aa (BB.out.trans (hd.mono BB.out.size));have HO5:=Aa (CE HOW.out hd (Cj HOW.out));clear k5 hd;refine BO (by kernel_rfl) ?_;dsimp only[List.drop];go_wp2;generalize hz:Ws (Ws _ _ _) _ _=z;obtain⟨e1,e2,e3⟩:=Iv K5.out BD.out HO5.out hsz hz;refine AA (v:= .agg #[.int .i64 c,.int .i64 0,.int .i64 0,.string ⟨#[]⟩,.slice none 0 0,.slice oa o.length oc]) ?_ rfl ⟨_,rfl,e1,by rw[HE.out];exact e2⟩;simp[results,Tryz.results15,go_sem,e3]
  |ok v s=>
   obtain⟨hv,hev,hsl,hgd⟩:=h4;obtain⟨vb,hvb⟩:=hv.th_ptr;cases hvb
   have HCN:=Aa (Lt (Au v+1) v _ 4000 (by omega) (by omega) (by omega) hv);have HV:=Aa hv;have HEV:=Aa hev;have HNE:Hid (r4≠some (w.heap.size+1)):=Aa (fun e=>by have:=(hev.row _ e).1;omega);obtain⟨ov,hb,how,hrr⟩:=hev.bx;obtain⟨oa0,oc0,rfl⟩:=A2 how;have q0:=hb.2.1;have f0:=hb.2.2;have y0:=hb.1;have HOW0:=Aa how;clear hv hev hsl hgd hb how hrr;by_cases hbig:Au v > 4000
   ·have hq:=(Ls v).2 hbig;have HE2:=Aa (HE.out.trans (Ni rfl hbig));replace HE:=HE2;clear HE2 hbig;go_wp2_with fail;refine HCN.out.mono ?_;rintro e w5 ⟨he,hw5⟩;subst he;rw[hw5];clear hw5;generalize Cg v 4000=q at*;go_wp2_with fail;generalize hz5:Ws _ _ _=W5;obtain⟨hev5,t5⟩:=HEV.out.setC 1;rw[hz5]at hev5 t5;replace K4:=Aa (K4.out.tw t5 (by omega) HNE.out);replace BB:=Aa (BB.out.trans ((EV3.out.gB.2 |> fun _=>hev5.gB.1 |> fun _=>HEV.out.tw t5).mono (by omega)));obtain⟨ov5,hb5,how5,hrr5⟩:=hev5.bx;obtain⟨oa,oc,rfl⟩:=A2 how5;have HOW:=Aa how5;have q4:=hb5.2.1;clear hev5 t5 hz5 hb5 how5 hrr5;refine BP 9 (S:=(fun w'=>∀j,w'.cell? ⟨w2.heap.size,j,none⟩= #[.slice da ds.length dc,.int .i64 s.fuel,.int .i64 1,.slice oa s.out.length oc][j]?)) (by kernel_rfl) (by kernel_rfl) (by first | (dsimp only;exact q4) | (exact q4)) (fun hHeld=> ?_);refine tkT (i:=0) ?_;refine tkT (i:=1) ?_;refine tkT (i:=2) ?_;refine tkT (i:=3) ?_;refine tkT (i:=4) ?_;refine tkT (i:=5) ?_;refine tkT (i:=6) ?_;refine tkT (i:=7) ?_;refine tkT (i:=8) ?_;generalize hxd:World.drew _=x1 at hHeld;have hd:Below W5.heap.size W5 x1:=by rw[←hxd];exact(Ac _ _).drew
    clear hxd q4;have k5:=K4.out.below hd K4.out.1;have c5:=k5.2.1;have f5:=k5.2.2;have y5:=k5.1;have K5:=Aa k5;have BD:=Aa (BB.out.trans (hd.mono BB.out.size));have HO5:=Aa (CE HOW.out hd (Cj HOW.out));clear k5 hd;refine BO (by kernel_rfl) ?_;dsimp only[List.drop];go_wp2;generalize hz:Ws (Ws _ _ _) _ _=z;obtain⟨e1,e2,e3⟩:=Iv K5.out BD.out HO5.out hsz hz;refine AA (v:= .agg #[.int .i64 1,.int .i64 0,.int .i64 0,.string ⟨#[]⟩,.slice none 0 0,.slice oa s.out.length oc]) ?_ rfl ⟨_,rfl,e1,by rw[HE.out];exact e2⟩;simp[results,Tryz.results15,go_sem,e3]
   ·have hq:¬Cg v 4000 > 4000:=fun h=>hbig ((Ls v).1 h);have hsm:Au v≤4000:=by omega
    have HE2:=Aa (HE.out.trans (Nh rfl hsm));replace HE:=HE2;have hq2:Cg v 4000≤4000:=by omega
    have HSM:=Aa hsm;clear HE2 hbig hsm hq;go_wp2_with fail;refine HCN.out.mono ?_;rintro e w5 ⟨he,hw5⟩;subst he;rw[hw5];clear hw5;generalize Cg v 4000=q at*;go_wp2_with fail;refine BP 7 (S:=(fun w'=>∀j,w'.cell? ⟨w2.heap.size,j,none⟩= #[.slice da ds.length dc,.int .i64 s.fuel,.int .i64 0,.slice oa0 s.out.length oc0][j]?)) (by kernel_rfl) (by kernel_rfl) (by first | (dsimp only;exact q0) | (exact q0)) (fun hHeld=> ?_);refine tkT (i:=0) ?_;refine tkT (i:=2) ?_;refine tkT (i:=3) ?_;refine tkT (i:=4) ?_;refine tkT (i:=5) ?_;generalize hxd:World.drew _=x1 at hHeld;have hd:Below W4.heap.size W4 x1:=by rw[←hxd];exact(Ac _ _).drew
    clear hxd;have hws:=hd.size;have hev1:=HEV.out.same hd;have hb1:=hev1.1.gB.2;have hl1:=hev1.1.lt;have hr1:=fun k e=>(hev1.1.row k e).2;have HV1:=Aa (HV.out.lat hd HEV.out.gB.2 (fun k e=>(HEV.out.row k e).2));have HB1:=Aa hd;refine rdT (i:=1) (fun K hK=> ?_);go_simp;refine(OO w2.heap.size w2.heap.size (fun _=>False) r4 (Au v+1) v _ x1 (by omega) HSM.out hb1 hl1 hr1 HV1.out).mono ?_;rintro e w6 ⟨b6,kv6,rfl,c6⟩;obtain⟨ka6,kc6,rfl⟩:=c6.form;unfold vlC;refine bkT hK (by first | (dsimp only;exact(fun j=>(b6.cell (p:=⟨w2.heap.size,j,none⟩) hl1).trans (hHeld j))) | (exact(fun j=>(b6.cell (p:=⟨w2.heap.size,j,none⟩) hl1).trans (hHeld j)))) (fun hHeld=> ?_);clear hK K;refine tkT (i:=6) ?_;have bd:=HB1.out.trans (b6.mono hws);have k5:=K4.out.below bd K4.out.1;have c5:=k5.2.1;have f5:=k5.2.2;have y5:=k5.1;have K5:=Aa k5;have BD:=Aa (BB.out.trans (bd.mono BB.out.size));have HO5:=Aa (CE HOW0.out bd (Cj HOW0.out));have C6:=Aa c6;have hx1:w.heap.size+2≤x1.heap.size:=by omega
    clear k5 hd bd b6 c6 hev1 hb1 hl1 hr1;refine BO (by kernel_rfl) ?_;dsimp only[List.drop];go_wp2;generalize hz:Ws (Ws _ _ _) _ _=z;obtain⟨e1,e2,e3⟩:=Ng K5.out BD.out HO5.out hsz C6.out hx1 hz;refine AA (v:= .agg #[.int .i64 0,.int .i64 (kdV v),.int .i64 (nmV v),.string (tgV v),.slice ka6 (ksV v).length kc6,.slice oa0 s.out.length oc0]) ?_ rfl ⟨_,rfl,e1,by rw[HE.out];exact e2⟩;simp[results,Tryz.results15,go_sem,e3]
theorem SH {B:Nat}{ds:List Dt}{x:Nd}{dv kv:Value}{w:World}(F:Int) (hz:SzP ds x) (hr:RdDts B w dv ds) (hk:RdNs B w kv x.kids) (hv:∀d∈ds, -9223372036854775807≤d.vars∧d.vars≤9223372036854775807)
  (hF:-9223372036854775808≤F∧F≤9223372036854775807):Calls Pq 15 #[pgV dv x kv,.int .i64 F] w (EvR w ds x F):=by
 by_cases hs:By ds x=true∧ckP ds=0
 ·exact SG F hz hr hk hv hF hs
 ·exact SE F hz hr hk hv hs
def FormS (c:Array Value):Prop:=∃kd n s a1 l1 c1 x a2 l2 c2 arg self a3 l3 c3,c=svC kd n s (.slice a1 l1 c1) x (.slice a2 l2 c2) arg self (.slice a3 l3 c3)
theorem FormS.zero:FormS sv0:=⟨0,0,⟨#[]⟩,none,0,0,Nd.zero,none,0,0,⟨#[]⟩,⟨#[]⟩,none,0,0,rfl⟩
theorem RdS.formS {B g:Nat}{X:Nat→Prop}{r:Option Nat}{w:World}{c:Array Value}{v:Vl}(h:RdS B X g r w c (.th v)):FormS c:=by
 obtain⟨a1,c1,x,a2,l2,c2,arg,self,a3,l3,c3,rfl⟩:=h.th_form;exact⟨_,_,_,_,_,_,_,_,_,_,_,_,_,_,_,rfl⟩
def BdS (B:Nat) (X:Nat→Prop) (g:Nat) (r:Option Nat) (w:World) (env:Env) (name:Str) (c:Array Value) (e:Ending) (w':World):Prop:=∃a cap,e= .returned (.slice a (env.length+1) cap)∧Below w.heap.size w w'∧ ∀v,RdS B X g r w c (.th v)→RdS B X g r w' #[.slice a (env.length+1) cap] (.sc ((name,v)::env))
theorem RdS.env_row {B g:Nat}{X:Nat→Prop}{r:Option Nat}{w:World}{ev:Value}{env:Env}(h:RdS B X g r w #[ev] (.sc env)):∃cs:Nat→Array Value,RwAt X g r w ev env.length 13 (fun j=>svN (env.reverse[j]?.getD (eS,.int 0)).1 (cs j))∧ ∀j (h:j < env.reverse.length),RdS B X g r w (cs j) (.th env.reverse[j].2):=by
 obtain⟨c,hc⟩:∃c:Array Value,#[ev]=c:=⟨_,rfl⟩;rw[hc]at h;obtain⟨x,hx⟩:∃x,Xl.sc env=x:=⟨_,rfl⟩;rw[hx]at h;cases h with
 |int=>cases hx
 |con=>cases hx
 |fn=>cases hx
 |sc env2 ev2 cs hk hv=>
  cases hx
  cases hc
  exact⟨cs,hk,hv⟩
theorem Px {B g:Nat}{X:Nat→Prop}{r:Option Nat}{w w':World}{env:Env}{name:Str}{v:Vl}{ev':Value}{cs:Nat→Array Value}{cv:Array Value}{base:Nat}{e:TypeId}
  (hb:Below w.heap.size w w') (hB:B≤w.heap.size) (hg:g < w.heap.size) (hr:∀k,r=some k→k < w.heap.size) (hX:∀k,X k→k < w.heap.size) (hbase:w.heap.size≤base)
  (hcs:∀j (h:j < env.reverse.length),RdS B X g r w (cs j) (.th env.reverse[j].2)) (hcv:RdS B X g r w cv (.th v))
  (ho:w'.ownsRow base e 13 ev' (env.length+1) (BF env.length 13 (fun j=>svN (env.reverse[j]?.getD (eS,.int 0)).1 (cs j))++ (svN name cv).toList)):RdS B X g r w' #[ev'] (.sc ((name,v)::env)):=by
 have hsz:∀j,j < env.length→(svN (env.reverse[j]?.getD (eS,.int 0)).1 (cs j)).size=13:=fun j hj=>by
  have:=(hcs j (by simpa using hj)).size;unfold svN;rw[FL,this];rfl
 have hsv:(svN name cv).size=13:=by unfold svN;rw[FL,hcv.size];rfl
 have t:Tw g r r w w':=Tw.of_below hb hr;have hBB:Below B w w':=hb.mono hB;refine .sc ((name,v)::env) ev' (fun j=>if j < env.length then cs j else cv) ?_ (fun j hj=> ?_)
 ·rcases ho.2 with ⟨rfl,h0⟩ |⟨q,cap,cu,rfl,hbq,hgg,hn,hm,hc,ht⟩
  ·omega
  ·have hq:=(ho.lt q rfl);refine .inr ⟨q,0,cap,rfl,⟨by omega,fun e=>by have:=hr q e;omega,hq.2,fun e=>by have:=hX q e;omega⟩,⟨by simp only[List.length_cons];omega,hn⟩,fun j hj=> ?_⟩;simp only[List.length_cons]at hj;have hcell:∀i,i < 13→w'.cell? ⟨q,0+j*13+i,none⟩= (BF env.length 13 (fun j=>svN (env.reverse[j]?.getD (eS,.int 0)).1 (cs j))++ (svN name cv).toList)[j*13+i]?:=fun i hi=>by
    rw[BU,FM w' q _ cu _ (0,0) hgg,←ht,Ej,Ag (by omega),Array.getElem?_toList]
   by_cases hlt:j < env.length
   ·have e1:(List.reverse ((name,v)::env))[j]?=env.reverse[j]?:=by rw[List.reverse_cons,BV (by simpa using hlt)]
    dsimp only;rw[e1,Ag hlt];refine⟨hsz j hlt,fun i hi=> ?_⟩;rw[hcell i hi,BV (by rw[Cf];omega)];exact CQ hsz hlt hi
   ·obtain rfl:j=env.length:=by omega
    have e1:(List.reverse ((name,v)::env))[env.length]?=some (name,v):=by rw[List.reverse_cons,Cp (by simp)];simp
    dsimp only;rw[e1,Ab hlt];refine⟨hsv,fun i hi=> ?_⟩;rw[hcell i hi,Cp (by rw[Cf];omega),Cf,show env.length*13+i - env.length*13=i by omega,Array.getElem?_toList];rfl
 ·have hj2:=hj;simp only[KJ,List.length_cons]at hj2;by_cases hlt:j < env.length
  ·rw[Ag hlt];have e1:(List.reverse ((name,v)::env))[j]'(by simpa using hj)=env.reverse[j]'(by simpa using hlt):=by
    simp only[List.reverse_cons];rw[G9 (by simpa using hlt)]
   rw[e1];exact(hcs j (by simpa using hlt)).later t hBB
  ·obtain rfl:j=env.length:=by omega
   rw[Ab hlt];have e1:(List.reverse ((name,v)::env))[env.length]'(by simp)= (name,v):=by
    simp only[List.reverse_cons];rw[Ha (by simp)];simp
   rw[e1];exact hcv.later t hBB
theorem Py {name:Str}{c:Array Value}(h:∀u∈c.toList,u.oneCell'=true):∀u∈ (svN name c).toList,u.oneCell'=true:=by
 intro u hu;unfold svN at hu;rw[Array.toList_append,Ek]at hu;rcases hu with hu |hu
 ·simp only[List.mem_cons,List.not_mem_nil,or_false]at hu;rw[hu];rfl
 ·exact h u hu
theorem Pz {c:Array Value}(h:FormS c):∀u∈c.toList,u.oneCell'=true:=by
 obtain⟨kd,n,s,a1,l1,c1,x,a2,l2,c2,arg,self,a3,l3,c3,rfl⟩:=h;simp[svC,Value.oneCell']
theorem AI {w:World}(o o2:Obj):Below w.heap.size w ((w.alloc o).alloc o2):=((Ac _ _).alloc (Ad _) _).alloc (by simp) _
theorem Lb {w w1:World}{cur:Array Value}{e:TypeId}{o:Obj}(hg:((w.alloc (.cells cur e)).alloc o).grownBy w1 (some (w.heap.size+1))):Bx w1 w.heap.size cur:=by
 have k1:=(Bx.alloc (w:=w) (cur:=cur) (e:=e) rfl).2;exact(k1.below ((Ac _ _).alloc (Ad _) o) k1.1).grown hg (fun e=>by have:=Ah e;omega)
theorem FR {B g:Nat}{X:Nat→Prop}{r:Option Nat}{w:World}{ev:Value}{env:Env}(name:Str) {c:Array Value}(he:RdS B X g r w #[ev] (.sc env)) (hc:FormS c) (hn:env.length≤4294967296)
  (hB:B≤w.heap.size) (hg:g < w.heap.size) (hr:∀k,r=some k→k < w.heap.size) (hX:∀k,X k→k < w.heap.size):
  Calls Pq 121 #[ev,.string name,.agg c] w (BdS B X g r w env name c):=by
 obtain⟨cs,hrow,hcs⟩:=he.env_row;have H1:=Aa (Pz hc);have HEND:=Aa (fun(w':World) (e:TypeId) (ev':Value) (hb:Below w.heap.size w w') (ho:w'.ownsRow w.heap.size e 13 ev' (env.length+1) (BF env.length 13 (fun j=>svN (env.reverse[j]?.getD (eS,.int 0)).1 (cs j))++ (svN name c).toList)) (v:Vl) (hcv:RdS B X g r w c (.th v))=>Px hb hB hg hr hX (Ad _) hcs hcv ho);have hsz:∀j,j < env.length→((fun j=>svN (env.reverse[j]?.getD (eS,.int 0)).1 (cs j)) j).size=13:=fun j hj=>by
  have:=(hcs j (by simpa using hj)).size;dsimp only;unfold svN;rw[FL,this];rfl
 have ONE:=Aa (Pw hsz (fun j hj=>Py (hcs j (by simpa using hj)).one));have LEN:=Aa (Cf env.length 13 (fun j=>svN (env.reverse[j]?.getD (eS,.int 0)).1 (cs j)));have SZ:=Aa hsz;obtain⟨kd,n,s,a1,l1,c1,x,a2,l2,c2,arg,self,a3,l3,c3,rfl⟩:=hc;obtain⟨i0,hi,hz0,hz1,hz2⟩:=info_parts Tryz.infoNm;clear hcs hsz he;rcases hrow with ⟨h0,a,cap,rfl⟩ |⟨b,off,cap,rfl,hk,hm,hat⟩
 ·have hl:BF env.length 13 (fun j=>svN (env.reverse[j]?.getD (eS,.int 0)).1 (cs j))=[]:=by rw[h0];rfl
  rw[hl]at HEND;have H0:=Aa h0;rw[h0]at HEND;clear h0 ONE LEN SZ hl;unfold svC at HEND H1 ⊢;have OWN:=Aa (fun(o:Obj)=>(Ge (w:=w.alloc o) (base:=w.heap.size) (g:=w.heap.size+1) (e:=229) (by simp) (AQ _):((w.alloc o).alloc (.cells #[] 229)).ownsRow w.heap.size 229 13 (.slice (some ⟨w.heap.size+1,0,none⟩) 0 0) 0 []));go_enter Tryz.func121,Tryz.ntmps121;go_wp2_with (first | (at_builtin;refine Pv rfl _ _ 104 rfl 229 i0 Tryz.underlying104 hi (w.heap.size+1) _ _ rfl rfl ?_) | (at_builtin;refine Dj rfl _ _ 104 rfl w.heap.size 229 i0 _ 13 200 Tryz.underlying104 hi hz0 hz1 hz2 rfl (by decide) _ _ _ rfl (OWN.out _) #[_,_,_,_,_,_,_,_,_,_,_,_,_] rfl ?_ (w.heap.size+2) ?_ rfl ?_ ?_ ?_ ?_))
  ·simp[Value.oneCell']
  ·unfold maxLen;omega
  ·omega
  ·intro v' w4 ho4 hg4 hat;have hb4:Below w.heap.size w w4:=Below.grown_at (AI _ _) hg4 (by simp;omega) (AQ _);obtain⟨va,vc,rfl⟩:=A2 ho4;have HO:=Aa ho4;clear ho4 hg4 hat;go_wp2;go_ret;unfold BdS;rw[H0.out];exact⟨va,vc,rfl,hb4,fun v hv=>HEND.out _ _ _ hb4 HO.out v hv⟩
 ·have HAT:=Aa hat;have HCELL:=Aa (fun(W:World) (hb:Below w.heap.size w W) (j:Nat) (u:Value) (hj:(BF env.length 13 (fun j=>svN (env.reverse[j]?.getD (eS,.int 0)).1 (cs j)))[j]?=some u)=>(by
   have hjl:j < env.length*13:=by
    rw[←LEN.out];exact(Em.1 hj).1
   obtain⟨j1,i1,h1,h2,rfl⟩:=Hn SZ.out hjl;have h3:=CQ SZ.out h1 h2;rw[hj]at h3;have hadd:(⟨b,off,none⟩:Addr).add (j1*13+i1)=⟨b,off+ (j1*13+i1),none⟩:=by unfold Addr.add;split <;> simp_all
   rw[hadd,←Da];exact((hb.cell (p:=⟨b,off+j1*13+i1,none⟩) hk.2.2.1).trans ((HAT.out j1 h1).2 i1 h2)).trans h3.symm:W.cell? ((⟨b,off,none⟩:Addr).add j)=some u))
  have hlen:=LEN.out;have hone:=ONE.out;generalize (BF env.length 13 (fun j=>svN (env.reverse[j]?.getD (eS,.int 0)).1 (cs j)))=xs at*;clear hat hk;unfold svC at HEND H1 ⊢;have OWN:=Aa (fun(o:Obj)=>(Ge (w:=w.alloc o) (base:=w.heap.size) (g:=w.heap.size+1) (e:=229) (by simp) (AQ _):((w.alloc o).alloc (.cells #[] 229)).ownsRow w.heap.size 229 13 (.slice (some ⟨w.heap.size+1,0,none⟩) 0 0) 0 []));go_enter Tryz.func121,Tryz.ntmps121;go_wp2_with (at_builtin;refine wpList_append_own _ rfl _ _ 104 rfl w.heap.size 229 i0 _ 13 200 Tryz.underlying104 hi hz0 hz1 hz2 rfl (by decide) _ 0 [] rfl (OWN.out _) ⟨b,off,none⟩ env.length cap xs rfl hlen (HCELL.out _ (AI _ _)) hone ?_ ?_ ?_ ?_)
  ·omega
  ·omega
  ·intro v' w1 ho hg1 hat1;have hb1:Below w.heap.size w w1:=Below.grown_at (AI _ _) hg1 (by simp;omega) (AQ _);have HO1:=Aa ho;obtain⟨va,vc,rfl⟩:=A2 ho;have hsz1:=hb1.size;have kb:=(Lb hg1).2.1;have HKB:=Aa ((Lb hg1).1);clear ho hg1 hat1;go_wp2_with (at_builtin;refine Dj rfl _ _ 104 rfl w.heap.size 229 i0 _ 13 200 Tryz.underlying104 hi hz0 hz1 hz2 rfl (by decide) _ _ _ rfl HO1.out #[_,_,_,_,_,_,_,_,_,_,_,_,_] rfl ?_ w1.heap.size rfl rfl ?_ ?_ ?_ ?_)
   ·simp[Value.oneCell']
   ·unfold maxLen;omega
   ·omega
   ·exact hsz1
   ·intro v' w4 ho4 hg4 hat;have hb4:Below w.heap.size w w4:=Below.grown hb1 hg4 hsz1 (fun k hk=>(HO1.out.lt k hk).1);obtain⟨ua,uc,rfl⟩:=A2 ho4;have HO:=Aa ho4;clear ho4 hg4 hat;go_wp2;go_ret;exact⟨ua,uc,rfl,hb4,fun v hv=>HEND.out _ _ _ hb4 HO.out v hv⟩
end Go.Proofs.YtifhcbeaiijkcaaGreat
end
section
namespace Go.Proofs.YtifhcbeaiijkcaaGreat
open _root_.Go.World renaming alloc→Wa,setCell→Ws
open _root_.Go.Proofs.Tryz renaming prog→Pq
inductive Lim (N:Nat):Xl→Prop
 |int (n:Int):Lim N (.th (.int n))
 |con (s:Str) (vs:List Vl) (h:∀v∈vs,Lim N (.th v)):Lim N (.th (.con s vs))
 |fn (arg self:Str) (body:Nd) (env:Env) (h:Lim N (.sc env)):Lim N (.th (.fn arg self body env))
 |sc (env:Env) (h1:env.length≤N) (h2:∀p∈env,Lim N (.th p.2)):Lim N (.sc env)
theorem Lim.mono {N M:Nat}{x:Xl}(h:Lim N x) (hM:N≤M):Lim M x:=by
 induction h with
 |int n=>exact .int n
 |con s vs _ ih=>exact .con s vs ih
 |fn arg self body env _ ih=>exact .fn arg self body env ih
 |sc env h1 _ ih=>exact .sc env (by omega) ih
theorem Lim.inv_con {N:Nat}{s:Str}{vs:List Vl}(h:Lim N (.th (.con s vs))):∀v∈vs,Lim N (.th v):=by cases h with |con _ _ h=>exact h
theorem Lim.inv_fn {N:Nat}{a s:Str}{b:Nd}{e:Env}(h:Lim N (.th (.fn a s b e))):Lim N (.sc e):=by cases h with |fn _ _ _ _ h=>exact h
theorem Lim.inv_sc {N:Nat}{e:Env}(h:Lim N (.sc e)):e.length≤N∧ ∀p∈e,Lim N (.th p.2):=by cases h with |sc _ h1 h2=>exact⟨h1,h2⟩
theorem Lim.bind {N M:Nat}{e:Env}{s:Str}{v:Vl}(h:Lim N (.sc e)) (hv:Lim M (.th v)) (hN:N+1≤M):Lim M (.sc ((s,v)::e)):=by
 obtain⟨h1,h2⟩:=h.inv_sc;refine .sc _ (by simp only[List.length_cons];omega) fun p hp=> ?_;rcases List.mem_cons.1 hp with rfl |hp
 ·exact hv
 ·exact(h2 p hp).mono (by omega)
theorem Lim.look {N:Nat}{s:Str}{v:Vl}:∀ {e:Env},Lim N (.sc e)→Go.Proofs.YtifhcbeaiijkcaaGreat.look e s=some v→Lim N (.th v)
 | [],_,h=>by simp[Go.Proofs.YtifhcbeaiijkcaaGreat.look]at h
 | (a,u)::e,hg,h=>by
  obtain⟨h1,h2⟩:=hg.inv_sc;unfold Go.Proofs.YtifhcbeaiijkcaaGreat.look at h;split at h
  ·cases h;exact h2 _ (List.mem_cons_self ..)
  ·exact Lim.look (.sc e (by simp only[List.length_cons]at h1;omega) fun p hp=>h2 p (List.mem_cons_of_mem _ hp)) h
def IK (N:Nat) (e:Env):Prop:=∀p∈e,Lim N (.th p.2)
mutual
theorem J7 (N:Nat):∀ (p:Nd) (v:Vl) (e e':Env),Lim N (.th v)→IK N e→Br p v e=some e'→e'.length≤e.length+wgN p+1∧IK N e'
 | .mk op n s t0 ks,v,e,e',hv,he,h=>by
  unfold Br at h;split at h
  ·cases h;exact⟨by omega,he⟩
  ·split at h
   ·cases h
    refine⟨by simp only[List.length_cons];omega,fun p hp=> ?_⟩;rcases List.mem_cons.1 hp with rfl |hp
    ·exact hv
    ·exact he p hp
   ·split at h
    ·split at h
     ·split at h
      ·cases h;exact⟨by omega,he⟩
      ·cases h
     ·cases h
    ·split at h
     ·rename_i c vs;split at h
      ·have:=NE N ks vs e e' hv.inv_con he h;refine⟨?_,this.2⟩;have h2:=this.1;have:=Aw (.mk op n s t0 ks);simp only[Nd.s,Nd.t,Nd.kids]at this;omega
      ·cases h
     ·cases h
theorem NE (N:Nat):∀ (ks:List Nd) (vs:List Vl) (e e':Env),(∀v∈vs,Lim N (.th v))→IK N e→Bc ks vs e=some e'→e'.length≤e.length+wgN.wgNs ks∧IK N e'
 | [],vs,e,e',hv,he,h=>by unfold Bc at h;cases h;exact⟨by omega,he⟩
 |k::ks,[],e,e',hv,he,h=>by unfold Bc at h;cases h
 |k::ks,v::vs,e,e',hv,he,h=>by
  unfold Bc at h;split at h
  ·rename_i e1 h1;have h2:=J7 N k v e e1 (hv v (List.mem_cons_self ..)) he h1;have h3:=NE N ks vs e1 e' (fun u hu=>hv u (List.mem_cons_of_mem _ hu)) h2.2 h;refine⟨?_,h3.2⟩;have:=h3.1;have:=h2.1;unfold wgN.wgNs;omega
  ·cases h
end
def AZ (f:Nat):Nat:=(4000 - f)*1048576
theorem Tq {f g:Nat}(h:g≤f):AZ f≤AZ g:=Dq _ (by omega)
theorem E0 {f g:Nat}(h:g < f) (hf:f≤4000):AZ f+1048576≤AZ g:=by
 unfold AZ;have:(4000 - f+1)*1048576≤ (4000 - g)*1048576:=Dq _ (by omega);omega
theorem Cz (f:Nat):AZ f≤4194304000:=by unfold AZ;have:(4000 - f)*1048576≤4000*1048576:=Dq _ (by omega);omega
theorem Lim.fuel {f g:Nat}{x:Xl}(h:Lim (AZ f) x) (hg:g≤f):Lim (AZ g) x:=h.mono (Tq hg)
def LimR {α:Type}(p:Nat→α→Prop) (f0 t:Nat) (r:Rs α):Prop:=match r with
 | .ok a s=>s.fuel < f0∧s.out.length+s.fuel≤t∧p s.fuel a
 | .bad c o=>(c=1∨c=2)∧o.length≤t
theorem LimR.mono {α:Type}{p:Nat→α→Prop}{f0 t f1 t1:Nat}{r:Rs α}(h:LimR p f0 t r) (h1:f0≤f1) (h2:t≤t1):LimR p f1 t1 r:=by
 cases r with
 |ok a s=>exact⟨by have:=h.1;omega,by have:=h.2.1;omega,h.2.2⟩
 |bad c o=>exact⟨h.1,by have:=h.2;omega⟩
theorem LimR.bind {α β:Type}{p:Nat→α→Prop}{q:Nat→β→Prop}{f0 t f1 t1:Nat}{r:Rs α}{k:α→Es→Rs β}(h:LimR p f0 t r) (ht:t≤t1) (hk:∀a s,r= .ok a s→s.fuel < f0→s.out.length+s.fuel≤t→p s.fuel a→LimR q f1 t1 (k a s)):LimR q f1 t1 (r.bind k):=by
 cases r with
 |ok a s=>exact hk a s rfl h.1 h.2.1 h.2.2
 |bad c o=>exact⟨h.1,by have:=h.2;omega⟩
def pV (f:Nat) (v:Vl):Prop:=Lim (AZ f) (.th v)
def pVs (f:Nat) (vs:List Vl):Prop:=∀v∈vs,Lim (AZ f) (.th v)
theorem IL (v:Vl) (s:Es):LimR (fun _ _=>True) (s.fuel+1) (s.out.length+s.fuel) (asInt v s):=by
 cases v with
 |int n=>exact⟨by omega,Ad _,trivial⟩
 |_=>exact⟨.inr rfl,Gr _ _⟩
def IM (E:Nd→Env→Es→Rs Vl):Prop:=∀x env s,Ao x=true→wgN x≤1048576→Good (.sc env)→Lim (AZ s.fuel) (.sc env)→s.fuel≤4000→LimR pV s.fuel (s.out.length+s.fuel) (E x env s)
theorem NF {E:Nd→Env→Es→Rs Vl}(hE:IM E) {env:Env}(hg:Good (.sc env)):∀ (ks:List Nd) (s:Es),(∀k∈ks,Ao k=true∧wgN k≤1048576)→Lim (AZ s.fuel) (.sc env)→s.fuel≤4000→LimR pVs (s.fuel+1) (s.out.length+s.fuel) (Bd E env ks s)
 | [],s=>fun hk hl hf=>⟨CM _,Ad _,fun v h=>by simp at h⟩
 |k::ks,s=>fun hk hl hf=>by
  unfold Bd;have h1:=hE k env s (hk k (List.mem_cons_self ..)).1 (hk k (List.mem_cons_self ..)).2 hg hl hf;refine h1.bind (Ad _) fun v s1 _ h2 h3 h4=> ?_;have h5:=NF hE hg ks s1 (fun k hk'=>hk k (List.mem_cons_of_mem _ hk')) (hl.fuel (by omega)) (by omega);refine(h5.mono (f1:=s.fuel+1) (by omega) h3).bind (Ad _) fun vs s2 e2 h6 h7 h8=> ?_;rw[e2]at h5;refine⟨h6,h7,fun u hu=> ?_⟩;rcases List.mem_cons.1 hu with rfl |hu
  ·exact Lim.fuel h4 (by have:=h5.1;omega)
  ·exact h8 u hu
theorem NG {E:Nd→Env→Es→Rs Vl}(hE:IM E) {env:Env}{v:Vl}(hg:Good (.sc env)) (hv:Good (.th v)) {f:Nat}(hf:f < 4000) (hl:Lim (AZ (f+1)) (.sc env)):∀ (az:List Nd) (s:Es),(∀a∈az,Ca a=true∧wgN a≤1048576)→Lim (AZ s.fuel) (.th v)→s.fuel≤f→LimR pV (f+1) (s.out.length+s.fuel) (A5 E env v az s)
 | [],s=>fun hk hlv hs=>⟨.inr rfl,Gr _ _⟩
 |a::az,s=>fun hk hlv hs=>by
  unfold A5;have ha:=hk a (List.mem_cons_self ..);obtain⟨p,b,hka,hp,hb⟩:=Iw ha.1;have hwa:=Aw a;have hwp:=AT (k:=p) (ks:=a.kids) (by rw[hka];simp);have hwb:=AT (k:=b) (ks:=a.kids) (by rw[hka];simp);split
  ·rename_i e h1;rw[(CV hka).1]at h1;rw[(CV hka).2];have h2:=J7 (AZ s.fuel) p v env e hlv (hl.fuel (g:=s.fuel) (by omega)).inv_sc.2 h1;have h3:=hl.inv_sc.1;have h4:=E0 (f:=f+1) (g:=s.fuel) (by omega) (by omega);exact(hE b e s hb (by omega) (GR _ _ _ _ hv hg h1) (.sc e (by have:=h2.1;omega) h2.2) (by omega)).mono (by omega) (Ad _)
  ·exact NG hE hg hv hf hl az s (fun a ha=>hk a (List.mem_cons_of_mem _ ha)) hlv hs
theorem Tr {E:Nd→Env→Es→Rs Vl}(hE:IM E) {f x:Vl}{s:Es}{g:Nat}(gf:Good (.th f)) (gx:Good (.th x)) (hs:s.fuel < g) (hg:g≤4000) (hf:Lim (AZ g) (.th f)) (hx:Lim (AZ s.fuel) (.th x)):LimR pV (s.fuel+1) (s.out.length+s.fuel) (Cd E f x s):=by
 cases f with
 |fn arg self body env=>
  unfold Cd;have hst:=E0 hs hg;obtain⟨h1,h2⟩:=hf.inv_fn.inv_sc;cases gf with
  |fn _ _ _ _ g1 g2 g3=>
   refine(hE body _ s g1 g2 (.cons _ _ _ gx ?_) ?_ (by omega)).mono (by omega) (Ad _)
   ·by_cases hs:self=ByteArray.empty
    ·rw[Ag hs];exact g3
    ·rw[Ab hs];exact .cons _ _ _ (.fn _ _ _ _ g1 g2 g3) g3
   ·have hfs:=hf.fuel (g:=s.fuel) (by omega);by_cases hs:self=ByteArray.empty
    ·rw[Ag hs];exact hf.inv_fn.bind hx (by omega)
    ·rw[Ab hs];exact(hf.inv_fn.bind (M:=AZ g+1) (hf.mono (by omega)) (by omega)).bind hx (by omega)
 |_=>exact⟨.inr rfl,Gr _ _⟩
theorem NH (ar:Str→Option Nat):∀m,IM (Ai ar m)
 |0=>fun x env s hx hw he hl hf=>⟨.inl rfl,Gr _ _⟩
 |m+1=>fun x env s hx hw he hl hf4=>by
  unfold Ai;split
  ·exact⟨.inl rfl,Gr _ _⟩
  rename_i f hf;rw[hf]at hl;rw[hf];replace hl:Lim (AZ (f+1)) (.sc env):=hl;have ih:=NH ar m;have gd:=Iz ar m;have hwx:=Aw x;have hkid:∀k∈x.kids,wgN k≤1048576:=fun k hk=>by have:=AT hk;omega
  have hle:Lim (AZ f) (.sc env):=hl.fuel (by omega);have hst:=E0 (f:=f+1) (g:=f) (by omega) (by omega);unfold AF;by_cases h1:x.op=1
  ·rw[if_pos h1];exact⟨Nat.lt_succ_self _,by dsimp only;omega,.int _⟩
  rw[Ab h1];by_cases h2:x.op=2
  ·rw[Ag h2];cases hlk:look env x.s with
   |some v=>exact⟨Nat.lt_succ_self _,by dsimp only;omega,hle.look hlk⟩
   |none=>exact⟨.inr rfl,by dsimp only;omega⟩
  rw[Ab h2];by_cases h3:x.op=3
  ·rw[if_pos h3];exact⟨Nat.lt_succ_self _,by dsimp only;omega,.fn _ _ _ _ hle⟩
  rw[Ab h3];by_cases h4:x.op=4
  ·rw[Ag h4];obtain⟨a,b,hk,ha,hb⟩:=Cs hx (.inl h4);obtain⟨e0,e1⟩:=CV hk;rw[e0,e1];have ka:=hkid a (by rw[hk];simp);have kb:=hkid b (by rw[hk];simp);refine(ih a env ⟨f,s.out⟩ ha ka he hle (by dsimp only;omega)).bind (by dsimp only;omega) fun v s1 q1 l1 t1 p1=> ?_;refine(ih b env s1 hb kb he (hle.fuel (by dsimp only at l1;omega)) (by dsimp only at l1;omega)).bind (by dsimp only at t1;omega) fun u s2 q2 l2 t2 p2=> ?_;exact(Tr ih (gd _ _ _ ha ka he _ _ q1) (gd _ _ _ hb kb he _ _ q2) l2 (by dsimp only at l1;omega) p1 p2).mono (by dsimp only at l1;omega) (by dsimp only at t1;omega)
  rw[Ab h4];by_cases h6:x.op=6
  ·rw[Ag h6];obtain⟨a,b,hk,ha,hb⟩:=Cs hx (.inr (.inr (.inl h6)));obtain⟨e0,e1⟩:=CV hk;rw[e0,e1];have ka:=hkid a (by rw[hk];simp);have kb:=hkid b (by rw[hk];simp);exact(ih b _ ⟨f,s.out⟩ hb kb (.cons _ _ _ (.fn _ _ _ _ ha ka he) he) (hl.bind (M:=AZ f) (.fn _ _ _ _ hle) (by omega)) (by dsimp only;omega)).mono (by dsimp only;omega) (by dsimp only;omega)
  rw[Ab h6];by_cases h7:x.op=7
  ·rw[Ag h7];obtain⟨e,az,hk,hne,haz⟩:=GQ hx h7;have e0:x.kid 0=e:=by unfold Nd.kid;rw[hk];rfl
   rw[e0,hk];have ke:=hkid e (by rw[hk];simp);refine(ih e env ⟨f,s.out⟩ hne ke he hle (by dsimp only;omega)).bind (by dsimp only;omega) fun v s1 q1 l1 t1 p1=> ?_;exact(NG ih he (gd _ _ _ hne ke he _ _ q1) (by omega) hl az s1 (fun a ha=>⟨haz a ha,hkid a (by rw[hk];exact List.mem_cons_of_mem _ ha)⟩) p1 (by dsimp only at l1;omega)).mono (Nat.le_refl _) (by dsimp only at t1;omega)
  rw[Ab h7];by_cases h15:x.op=15
  ·rw[Ag h15];have hks:=(Ef hx h7).2;refine(NF ih he x.kids ⟨f,s.out⟩ (fun k hk=>⟨hks k hk,hkid k hk⟩) hle (by dsimp only;omega)).bind (by dsimp only;omega) fun vs s1 q1 l1 t1 p1=> ?_;split
   ·exact⟨l1,by dsimp only at t1;omega,.con _ _ p1⟩
   ·exact⟨.inr rfl,by dsimp only at t1;omega⟩
  rw[Ab h15];have hops:=Iy hx;by_cases h16:x.op=16
  ·obtain⟨a,hk,ha⟩:=FC hx (.inr h16);have e0:x.kid 0=a:=by unfold Nd.kid;rw[hk];rfl
   rw[e0];have ka:=hkid a (by rw[hk];simp);refine(ih a env ⟨f,s.out⟩ ha ka he hle (by dsimp only;omega)).bind (by dsimp only;omega) fun v s1 q1 l1 t1 p1=> ?_;rw[Ab (by omega)];refine(IL v s1).bind (by dsimp only at t1;omega) fun d s2 q2 l2 t2 _=> ?_;rw[Ag h16];exact⟨by dsimp only at l1 ⊢;omega,by dsimp only at t1 ⊢;simp only[List.length_append,List.length_singleton];omega,Lim.fuel p1 (by dsimp only;omega)⟩
  by_cases h9:x.op=9
  ·obtain⟨a,b,c,hk,ha,hb,hc⟩:=Ix hx h9;have e0:x.kid 0=a∧x.kid 1=b∧x.kid 2=c:=by unfold Nd.kid;rw[hk];exact⟨rfl,rfl,rfl⟩
   rw[e0.1,e0.2.1,e0.2.2];refine(ih a env ⟨f,s.out⟩ ha (hkid a (by rw[hk];simp)) he hle (by dsimp only;omega)).bind (by dsimp only;omega) fun v s1 q1 l1 t1 p1=> ?_;rw[Ab (by omega)];refine(IL v s1).bind (by dsimp only at t1;omega) fun d s2 q2 l2 t2 _=> ?_;rw[Ab h16,Ag h9];split
   ·exact(ih b env s2 hb (hkid b (by rw[hk];simp)) he (hle.fuel (by dsimp only at l1;omega)) (by dsimp only at l1;omega)).mono (by dsimp only at l1;omega) (by dsimp only at t1;omega)
   ·exact(ih c env s2 hc (hkid c (by rw[hk];simp)) he (hle.fuel (by dsimp only at l1;omega)) (by dsimp only at l1;omega)).mono (by dsimp only at l1;omega) (by dsimp only at t1;omega)
  obtain⟨a,b,hk,ha,hb⟩:=Cs hx (by omega);obtain⟨e0,e1⟩:=CV hk;rw[e0,e1];have ka:=hkid a (by rw[hk];simp);have kb:=hkid b (by rw[hk];simp);refine(ih a env ⟨f,s.out⟩ ha ka he hle (by dsimp only;omega)).bind (by dsimp only;omega) fun v s1 q1 l1 t1 p1=> ?_;by_cases h5:x.op=5
  ·rw[Ag h5];exact(ih b _ s1 hb kb (.cons _ _ _ (gd _ _ _ ha ka he _ _ q1) he) (hl.bind (M:=AZ s1.fuel) p1 (by have:=E0 (f:=f+1) (g:=s1.fuel) (by dsimp only at l1;omega) (by omega);omega)) (by dsimp only at l1;omega)).mono (by dsimp only at l1;omega) (by dsimp only at t1;omega)
  rw[Ab h5];refine(IL v s1).bind (by dsimp only at t1;omega) fun d s2 q2 l2 t2 _=> ?_;rw[Ab h16,Ab h9];refine(ih b env s2 hb kb he (hle.fuel (by dsimp only at l1;omega)) (by dsimp only at l1;omega)).bind (by dsimp only at t1;omega) fun v2 s3 q3 l3 t3 _=> ?_;refine(IL v2 s3).bind (by dsimp only at t1;omega) fun d2 s4 q4 l4 t4 _=> ?_;exact⟨by dsimp only at l1 ⊢;omega,by dsimp only at t1 ⊢;omega,.int _⟩
theorem Ts {ar:Str→Option Nat}{m:Nat}{x:Nd}{env:Env}{s s':Es}{v:Vl}(hx:Ao x=true) (hw:wgN x≤1048576) (hg:Good (.sc env)) (hl:Lim (AZ s.fuel) (.sc env)) (hf:s.out.length+s.fuel≤4000) (h:Ai ar m x env s= .ok v s'):Good (.th v)∧Lim (AZ s'.fuel) (.th v)∧s'.fuel < s.fuel∧s'.out.length+s'.fuel≤4000:=by
 have h1:=NH ar m x env s hx hw hg hl (by omega);rw[h]at h1;exact⟨Iz ar m x env s hx hw hg v s' h,h1.2.2,h1.1,by have:=h1.2.1;omega⟩
end Go.Proofs.YtifhcbeaiijkcaaGreat
end
section
namespace Go.Proofs.YtifhcbeaiijkcaaGreat
open Go.RowKit
open _root_.Go.World renaming alloc→Wa,setCell→Ws
open _root_.Go.Proofs.Tryz renaming prog→Pq
theorem RdS.th_kids {B g:Nat}{X:Nat→Prop}{r:Option Nat}{w:World}{c:Array Value}{v:Vl}(h:RdS B X g r w c (.th v)):∃a1 c1 x a2 l2 c2 arg self a3 l3 c3,c=svC (kdV v) (nmV v) (tgV v) (.slice a1 (ksV v).length c1) x (.slice a2 l2 c2) arg self (.slice a3 l3 c3)∧
  ∃cs:Nat→Array Value,RwAt X g r w (.slice a1 (ksV v).length c1) (ksV v).length 12 cs∧ ∀j (hj:j < (ksV v).length),RdS B X g r w (cs j) (.th (ksV v)[j]):=by
 have h0:=h;obtain⟨y,hy⟩:∃y,Xl.th v=y:=⟨_,rfl⟩;rw[hy]at h;cases h with
 |int n=>cases hy;exact⟨_,_,_,_,_,_,_,_,_,_,_,rfl,fun _=> #[],.inl ⟨rfl,_,_,rfl⟩,fun j hj=>absurd hj (Ay j)⟩
 |con s kv vs cs hk hv=>
  cases hy
  obtain⟨a,cap,rfl⟩:=hk.form;exact⟨_,_,_,_,_,_,_,_,_,_,_,rfl,cs,hk,hv⟩
 |fn arg self body env bv ev hx he=>
  cases hy
  obtain⟨a,cap,rfl⟩:=hx.form;obtain⟨a3,c3,rfl,_⟩:=he.env_at;exact⟨_,_,_,_,_,_,_,_,_,_,_,rfl,fun _=> #[],.inl ⟨rfl,_,_,rfl⟩,fun j hj=>absurd hj (Ay j)⟩
 |sc=>cases hy
theorem RwAt.at_ {X:Nat→Prop}{g:Nat}{r:Option Nat}{w:World}{v:Value}{n sz:Nat}{at_:Nat→Array Value}(h:RwAt X g r w v n sz at_) {j:Nat}(hj:j < n):∃b off cap,v= .slice (some ⟨b,off,none⟩) n cap∧Kp X g r w b∧n≤cap∧n≤maxLen∧ ∀i,i < sz→w.cell? ⟨b,off+j*sz+i,none⟩= (at_ j)[i]?:=by
 rcases h with ⟨h0,_⟩ |⟨b,off,cap,h1,h2,h3,h4⟩
 ·omega
 ·exact⟨b,off,cap,h1,h2,h3.2,h3.1,(h4 j hj).2⟩
theorem RwAt.len {X:Nat→Prop}{g:Nat}{r:Option Nat}{w:World}{v:Value}{n sz:Nat}{at_:Nat→Array Value}(h:RwAt X g r w v n sz at_):n≤maxLen:=by
 rcases h with ⟨rfl,_⟩ |⟨b,off,cap,h1,h2,h3,h4⟩
 ·simp
 ·exact h3.1
theorem RdS.sc_form {B g:Nat}{X:Nat→Prop}{r:Option Nat}{w:World}{ev:Value}{env:Env}(h:RdS B X g r w #[ev] (.sc env)):∃a cap,ev= .slice a env.length cap:=by
 obtain⟨a,cap,rfl,_⟩:=h.env_at;exact⟨a,cap,rfl⟩
theorem RdS.lat {B g:Nat}{X:Nat→Prop}{r:Option Nat}{w w':World}{v:Array Value}{x:Xl}(h:RdS B X g r w v x) (b:Below w.heap.size w w') (hB:B≤w.heap.size) (hr:∀k,r=some k→k < w.heap.size):RdS B X g r w' v x:=h.later (Tw.of_below b hr) (b.mono hB)
theorem RwAt.off {X Y:Nat→Prop}{g:Nat}{r:Option Nat}{w:World}{v:Value}{n sz:Nat}{at_:Nat→Array Value}(h:RwAt X g r w v n sz at_) (hY:∀b,b < w.heap.size→ ¬X b→ ¬Y b):RwAt Y g r w v n sz at_:=by
 rcases h with h |⟨b,off,cap,h1,h2,h3,h4⟩
 ·exact .inl h
 ·exact .inr ⟨b,off,cap,h1,h2.off hY,h3,h4⟩
theorem RdS.off {B g:Nat}{X Y:Nat→Prop}{r:Option Nat}{w:World}{v:Array Value}{x:Xl}(h:RdS B X g r w v x) (hY:∀b,b < w.heap.size→ ¬X b→ ¬Y b):RdS B Y g r w v x:=by
 induction h with
 |int n=>exact .int n
 |con s kv vs cs hk _ ih=>exact .con s kv vs cs (hk.off hY) ih
 |fn arg self body env bv ev hx _ ih=>exact .fn arg self body env bv ev hx ih
 |sc env ev cs hk _ ih=>exact .sc env ev cs (hk.off hY) ih
theorem RdS.wrote {B g:Nat}{X:Nat→Prop}{r:Option Nat}{w w':World}{v:Array Value}{x:Xl}(h:RdS B X g r w v x) (q:Nat) (hq:X q) (hg:w.grownBy w' (some q)) (hB:Below B w w'):RdS B X g r w' v x:=by
 have hk:∀b,Kp X g r w b→Kp X g r w' b∧ ∀o,w'.cell? ⟨b,o,none⟩=w.cell? ⟨b,o,none⟩:=fun b h=>⟨⟨h.1,h.2.1,Aj h.2.2.1 hg.size,h.2.2.2⟩,fun o=>An (hg.block b h.2.2.1 (fun e=>h.2.2.2 (by rw[Ah e];exact hq)))⟩
 have hrow:∀ {v:Value} {n sz:Nat} {at_:Nat→Array Value},RwAt X g r w v n sz at_→RwAt X g r w' v n sz at_:=fun h=>by
  rcases h with h |⟨b,off,cap,h1,h2,h3,h4⟩
  ·exact .inl h
  ·exact .inr ⟨b,off,cap,h1,(hk b h2).1,h3,fun j hj=>⟨(h4 j hj).1,fun i hi=>((hk b h2).2 _).trans ((h4 j hj).2 i hi)⟩⟩
 induction h with
 |int n=>exact .int n
 |con s kv vs cs hk _ ih=>exact .con s kv vs cs (hrow hk) ih
 |fn arg self body env bv ev hx _ ih=>exact .fn arg self body env bv ev (hx.later hB (Ad _)) ih
 |sc env ev cs hk _ ih=>exact .sc env ev cs (hrow hk) ih
def ResS (B:Nat) (X:Nat→Prop) (g:Nat) (lv:Value) (res:Rs Vl) (c:Array Value) (w:World) (r:Option Nat):Prop:=match res with
 | .ok v s=>RdS B X g r w c (.th v)∧Ev B g lv w s.fuel 0 s.out r
 | .bad cd o=>FormS c∧(cd=1∨cd=2)∧ ∃f:Int,Ev B g lv w f cd o r
theorem ResS.formS {B:Nat}{X:Nat→Prop}{g:Nat}{lv:Value}{res:Rs Vl}{c:Array Value}{w:World}{r:Option Nat}(h:ResS B X g lv res c w r):FormS c:=by
 cases res with
 |ok v s=>exact h.1.formS
 |bad cd o=>exact h.1
def BA (B:Nat) (X:Nat→Prop) (g:Nat) (lv:Value) (res:Rs Vl) (r:Option Nat) (w:World) (e:Ending) (w':World):Prop:=∃c r',e= .returned (.agg c)∧Tw g r r' w w'∧ResS B X g lv res c w' r'
def EvS (B g:Nat) (lv:Value) (σ:Rs Unit) (w:World) (r:Option Nat):Prop:=match σ with
 | .ok _ s=>Ev B g lv w s.fuel 0 s.out r
 | .bad cd o=>(cd=1∨cd=2)∧ ∃f:Int,Ev B g lv w f cd o r
def Rs.st {α:Type}:Rs α→Rs Unit
 | .ok _ s=> .ok () s
 | .bad c o=> .bad c o
theorem ResS.evS {B:Nat}{X:Nat→Prop}{g:Nat}{lv:Value}{res:Rs Vl}{c:Array Value}{w:World}{r:Option Nat}(h:ResS B X g lv res c w r):EvS B g lv res.st w r:=by
 cases res with
 |ok v s=>exact h.2
 |bad cd o=>exact h.2
theorem EvS.ev {B g:Nat}{lv:Value}{σ:Rs Unit}{w:World}{r:Option Nat}(h:EvS B g lv σ w r):∃f c o,Ev B g lv w f c o r:=by
 cases σ with
 |ok _ s=>exact⟨_,_,_,h⟩
 |bad cd o=>obtain⟨f,h⟩:=h.2;exact⟨_,_,_,h⟩
theorem EvS.lt {B g:Nat}{lv:Value}{σ:Rs Unit}{w:World}{r:Option Nat}(h:EvS B g lv σ w r):g < w.heap.size:=by obtain⟨f,c,o,h⟩:=h.ev;exact h.lt
theorem EvS.gB {B g:Nat}{lv:Value}{σ:Rs Unit}{w:World}{r:Option Nat}(h:EvS B g lv σ w r):B≤g∧B≤w.heap.size:=by obtain⟨f,c,o,h⟩:=h.ev;exact h.gB
theorem EvS.row {B g:Nat}{lv:Value}{σ:Rs Unit}{w:World}{r:Option Nat}(h:EvS B g lv σ w r):∀k,r=some k→B≤k∧k < w.heap.size:=by obtain⟨f,c,o,h⟩:=h.ev;exact h.row
theorem EvS.refl {B g:Nat}{lv:Value}{σ:Rs Unit}{w:World}{r:Option Nat}(h:EvS B g lv σ w r):Tw g r r w w:=Tw.refl (fun k e=>(h.row k e).2)
theorem EvS.tw {B g:Nat}{lv:Value}{σ:Rs Unit}{w w':World}{r r':Option Nat}(h:EvS B g lv σ w r) (t:Tw g r r' w w'):Below B w w':=t.below h.gB.2 h.gB.1 (fun k e=>(h.row k e).1)
theorem EvS.same {B g:Nat}{lv:Value}{σ:Rs Unit}{w w':World}{r:Option Nat}(h:EvS B g lv σ w r) (b:Below w.heap.size w w'):EvS B g lv σ w' r∧Tw g r r w w':=by
 cases σ with
 |ok _ s=>exact⟨(Ev.same h b).1,(Ev.same h b).2⟩
 |bad cd o=>obtain⟨hc,f,h⟩:=h;exact⟨⟨hc,f,(h.same b).1⟩,(h.same b).2⟩
theorem EvS.grown {B g b:Nat}{lv:Value}{σ:Rs Unit}{W W':World}{r:Option Nat}(h:EvS B g lv σ W r) (hg:W.grownBy W' (some b)) (h1:b≠g) (h2:r≠some b):EvS B g lv σ W' r:=by
 cases σ with
 |ok _ s=>exact Ev.grown h hg h1 h2
 |bad cd o=>obtain⟨hc,f,h⟩:=h;exact⟨hc,f,h.grown hg h1 h2⟩
structure SPre (B:Nat) (X:Nat→Prop) (g:Nat) (lv:Value) (ds:List Dt) (x:Nd) (kv ev:Value) (env:Env) (s:Es) (w:World) (r:Option Nat):Prop where
 np:Ao x=true
 wg:wgN x≤1048576
 gd:Good (.sc env)
 lm:Lim (AZ s.fuel) (.sc env)
 sz:s.out.length+s.fuel≤4000
 rk:RdNs B w kv x.kids
 re:RdS B X g r w #[ev] (.sc env)
 ev:Ev B g lv w s.fuel 0 s.out r
 dt:RdDts B w lv ds
 hx:∀b,X b→b < w.heap.size
def B8 (B g:Nat) (lv:Value) (ds:List Dt) (ar:Str→Option Nat) (m:Nat):Prop:=∀ (X:Nat→Prop) (x:Nd) (kv ev:Value) (env:Env) (s:Es) (w:World) (r:Option Nat),s.fuel≤m→SPre B X g lv ds x kv ev env s w r→
 Calls Pq 56 #[.pointer (some ⟨g,0,none⟩),ndV x kv,ev] w (BA B X g lv (Ai ar m x env s) r w)
structure Sw (B g:Nat) (lv:Value) (w:World) (r:Option Nat) (W:World) (rW:Option Nat) (σ:Rs Unit) (cur:Array Value) (q:Nat):Prop where
 ev:EvS B g lv σ W rW
 tw:Tw g r rW w W
 bx:Bx W w.heap.size cur
 rx:Bx W q sv0
 qw:w.heap.size≤q
 nb:rW≠some w.heap.size
 nq:rW≠some q
 ng:w.heap.size≠g
 nr:q≠g
theorem Sw.step {B g:Nat}{lv:Value}{w W W':World}{r rW r':Option Nat}{σ σ':Rs Unit}{cur:Array Value}{q:Nat}(h:Sw B g lv w r W rW σ cur q) (t:Tw g rW r' W W') (e:EvS B g lv σ' W' r'):Sw B g lv w r W' r' σ' cur q:=
 ⟨e,h.tw.trans t,h.bx.tw t h.ng h.nb,h.rx.tw t h.nr h.nq,h.qw,t.nb h.nb h.bx.1,t.nb h.nq h.rx.1,h.ng,h.nr⟩
theorem Sw.same {B g:Nat}{lv:Value}{w W W':World}{r rW:Option Nat}{σ:Rs Unit}{cur:Array Value}{q:Nat}(h:Sw B g lv w r W rW σ cur q) (b:Below W.heap.size W W'):Sw B g lv w r W' rW σ cur q:=
 h.step (h.ev.same b).2 (h.ev.same b).1
def Xq (X:Nat→Prop) (q:Nat):Nat→Prop:=fun b=>X b∨b=q
theorem Sw.fin {B g:Nat}{X:Nat→Prop}{lv:Value}{w W z:World}{r rW:Option Nat}{res:Rs Vl}{cur:Array Value}{q:Nat}{c:Array Value}(h:Sw B g lv w r W rW res.st cur q) (hr:ResS B (Xq X q) g lv res c W rW) (hB:B≤w.heap.size) (hg:W.grownBy z (some q)):BA B X g lv res r w (.returned (.agg c)) z:=by
 have hb:Below B W z:=⟨hg.os,hg.tape,hg.output,hg.size,fun k hk=>hg.block k (Aj hk h.ev.gB.2) (fun e=>by have:=Ah e;have:=h.qw;omega)⟩;refine⟨c,rW,rfl,h.tw.grown hg h.qw,?_⟩;have he:=h.ev.grown hg h.nr h.nq;cases res with
 |ok v s=>exact⟨(RdS.wrote hr.1 q (.inr rfl) hg hb).off (fun b _ hn hx=>hn (.inl hx)),he⟩
 |bad cd o=>exact⟨hr.1,he⟩
theorem SPre.start {B g:Nat}{X:Nat→Prop}{lv:Value}{ds:List Dt}{x:Nd}{kv ev:Value}{env:Env}{s:Es}{w:World}{r:Option Nat}(h:SPre B X g lv ds x kv ev env s w r) {f:Nat}{W1 W:World}{cur:Array Value}{e e2:TypeId}
  (h1:(w.setCell ⟨g,1,none⟩ (.int .i64 f)).alloc (.cells cur e)=W1) (h2:W1.alloc (.cells sv0 e2)=W):Sw B g lv w r W r (.ok () ⟨f,s.out⟩) cur (w.heap.size+1):=by
 obtain⟨e1,t1⟩:=h.ev.setF (f:Int);obtain⟨b2,k2⟩:=Bx.alloc h1;obtain⟨e2,t2⟩:=e1.same b2;have hlt:=h.ev.lt;rw[AS]at k2;have hs1:W1.heap.size=w.heap.size+1:=by rw[←h1];simp
 obtain⟨b3,k3⟩:=Bx.alloc h2;obtain⟨e3,t3⟩:=e2.same b3;rw[hs1]at k3;exact⟨e3,(t1.trans t2).trans t3,k2.below b3 k2.1,k3,AQ _,fun e=>by have:=(h.ev.row _ e).2;omega,fun e=>by have:=(h.ev.row _ e).2;omega,by omega,by omega⟩
theorem SPre.rkW {B g:Nat}{X:Nat→Prop}{lv:Value}{ds:List Dt}{x:Nd}{kv ev:Value}{env:Env}{s:Es}{w W:World}{r rW:Option Nat}(h:SPre B X g lv ds x kv ev env s w r) (t:Tw g r rW w W):RdNs B W kv x.kids:=h.rk.later (h.ev.tw t) (Ad _)
theorem SPre.reW {B g:Nat}{X:Nat→Prop}{lv:Value}{ds:List Dt}{x:Nd}{kv ev:Value}{env:Env}{s:Es}{w W:World}{r rW:Option Nat}(h:SPre B X g lv ds x kv ev env s w r) (t:Tw g r rW w W) {q:Nat}(hq:w.heap.size≤q):RdS B (Xq X q) g rW W #[ev] (.sc env):=
 (h.re.off (fun b hb hn hx=>hx.elim hn (fun e=>by omega))).later t (h.ev.tw t)
theorem SPre.dtW {B g:Nat}{X:Nat→Prop}{lv:Value}{ds:List Dt}{x:Nd}{kv ev:Value}{env:Env}{s:Es}{w W:World}{r rW:Option Nat}(h:SPre B X g lv ds x kv ev env s w r) (t:Tw g r rW w W):RdDts B W lv ds:=h.dt.later (h.ev.tw t) (Ad _)
theorem SPre.nb {B g:Nat}{X:Nat→Prop}{lv:Value}{ds:List Dt}{x:Nd}{kv ev:Value}{env:Env}{s:Es}{w:World}{r:Option Nat}(h:SPre B X g lv ds x kv ev env s w r) {b:Nat}(hb:b < B):b < w.heap.size∧b≠g:=⟨Aj hb h.ev.gB.2,fun e=>by have:=h.ev.gB.1;omega⟩
theorem RdS.offq {B g:Nat}{X:Nat→Prop}{w W:World}{r rW:Option Nat}{c:Array Value}{x:Xl}(h:RdS B X g r w c x) {q:Nat}(hq:w.heap.size≤q) (t:Tw g r rW w W) (hb:Below B w W):RdS B (Xq X q) g rW W c x:=
 (h.off (fun b hb hn hx=>hx.elim hn (fun e=>by omega))).later t hb
theorem RdS.fn_inv {B g:Nat}{X:Nat→Prop}{r:Option Nat}{w:World}{c:Array Value}{arg self:Str}{body:Nd}{env:Env}(h:RdS B X g r w c (.th (.fn arg self body env))):∃bv ev,c=svC 3 0 eS AB body bv arg self ev∧RdNs B w bv body.kids∧RdS B X g r w #[ev] (.sc env):=by
 cases h with
 |fn _ _ _ _ bv ev hx he=>exact⟨bv,ev,rfl,hx,he⟩
theorem Good.inv_fn {a s:Str}{b:Nd}{e:Env}(h:Good (.th (.fn a s b e))):Ao b=true∧wgN b≤1048576∧Good (.sc e):=by cases h with |fn _ _ _ _ h1 h2 h3=>exact⟨h1,h2,h3⟩
theorem Vr {s:Str}(h:s.toList=[]):s=ByteArray.empty:=by
 have:=Gg s ByteArray.empty;rw[h]at this;exact of_decide_eq_true (this.symm.trans (by rw[ByteArray.toList_eq];rfl))
theorem SPre.sub {B g:Nat}{X:Nat→Prop}{lv:Value}{ds:List Dt}{x y:Nd}{kv ev kvy:Value}{env:Env}{s s1:Es}{w W:World}{r rW:Option Nat}{q:Nat}(h:SPre B X g lv ds x kv ev env s w r) (t:Tw g r rW w W) (hn:Ao y=true) (hm:y∈x.kids) (hs:s1.out.length+s1.fuel≤4000) (hf:s1.fuel≤s.fuel) (e1:Ev B g lv W s1.fuel 0 s1.out rW) (hk:RdNs B W kvy y.kids) (hq:w.heap.size≤q) (hqW:q < W.heap.size):SPre B (Xq X q) g lv ds y kvy ev env s1 W rW:=
 ⟨hn,by have:=AT hm;have:=Aw x;have:=h.wg;omega,h.gd,h.lm.fuel hf,hs,hk,h.reW t hq,e1,h.dtW t,fun b e=>by
  rcases e with e |e
  ·exact Aj (h.hx b e) t.size
  ·omega⟩
def Rs.val:Rs Vl→Vl
 | .ok v _=>v
 | .bad _ _=> .int 0
theorem Rs.bind_val {β:Type}(r:Rs Vl) (k:Vl→Es→Rs β):(r.bind fun v s=>k v s)=r.st.bind fun _ s=>k r.val s:=by cases r <;> rfl
theorem Rs.st_ok {r:Rs Vl}{s:Es}(h:r.st= .ok () s):r= .ok r.val s:=by
 cases r with
 |ok v s1=>cases h;rfl
 |bad c o=>cases h
theorem SPre.bindK {B g:Nat}{X:Nat→Prop}{lv:Value}{ds:List Dt}{x y:Nd}{kv ev ev' kvy:Value}{env:Env}{name:Str}{v:Vl}{s s1:Es}{w W:World}{r rW:Option Nat}{q:Nat}(h:SPre B X g lv ds x kv ev env s w r) (t:Tw g r rW w W) (hn:Ao y=true) (hm:y∈x.kids) (gv:Good (.th v)) (lm:Lim (AZ s1.fuel) (.th v)) (hs:s1.out.length+s1.fuel≤4000) (hf:s1.fuel < s.fuel) (e1:Ev B g lv W s1.fuel 0 s1.out rW) (hk:RdNs B W kvy y.kids)
  (he:RdS B (Xq X q) g rW W #[ev'] (.sc ((name,v)::env))) (hq:w.heap.size≤q) (hqW:q < W.heap.size):SPre B (Xq X q) g lv ds y kvy ev' ((name,v)::env) s1 W rW:=
 ⟨hn,by have:=AT hm;have:=Aw x;have:=h.wg;omega,.cons _ _ _ gv h.gd,h.lm.bind (M:=AZ s1.fuel) lm (by have:=E0 hf (by have:=h.sz;omega);omega),hs,hk,he,e1,h.dtW t,fun b e=>by
  rcases e with e |e
  ·exact Aj (h.hx b e) t.size
  ·omega⟩
theorem SPre.kid {B g:Nat}{X:Nat→Prop}{lv:Value}{ds:List Dt}{x y:Nd}{kv ev:Value}{env:Env}{s s1 s2:Es}{w:World}{r:Option Nat}{ar:Str→Option Nat}{m:Nat}{v:Vl}(h:SPre B X g lv ds x kv ev env s w r) (hn:Ao y=true) (hm:y∈x.kids) (hs:s1.out.length+s1.fuel≤4000) (hf:s1.fuel≤s.fuel) (he:Ai ar m y env s1= .ok v s2):Good (.th v)∧Lim (AZ s2.fuel) (.th v)∧s2.fuel < s1.fuel∧s2.out.length+s2.fuel≤4000:=
 Ts hn (by have:=AT hm;have:=Aw x;have:=h.wg;omega) h.gd (h.lm.fuel hf) hs he
mutual
def CK:Vl→Int→Int
 | .int _,r=>r - 1
 | .con _ ks,r=>Ct ks (r - 1)
 | .fn _ _ _ _,r=>r - 1
def Ct:List Vl→Int→Int
 | [],r=>r
 |k::ks,r=>if 0≤r then Ct ks (CK k r)else r
end
theorem OJ (v:Vl) (r:Int):CK v r=Ct (ksV v) (r - 1):=by cases v <;> simp[CK,ksV,Ct]
theorem OK:∀ (ks:List Vl) {r:Int},r < 0→Ct ks r=r
 | [],r,h=>by rw[Ct]
 |k::ks,r,h=>by rw[Ct,Ab (by omega)]
mutual
theorem OL:∀ (v:Vl) (r:Int),0≤r→((Au v:Int)≤r→CK v r=r - Au v)∧(r < Au v→CK v r= -1)
 | .int n,r,h=>by simp only[Au,CK];omega
 | .fn _ _ _ _,r,h=>by simp only[Au,CK];omega
 | .con s ks,r,h=>by
  have:=Ko ks (r - 1) (by omega);simp only[Au,CK];omega
theorem Ko:∀ (ks:List Vl) (r:Int), -1≤r→((Au.countVs ks:Int)≤r→Ct ks r=r - Au.countVs ks)∧(r < Au.countVs ks→Ct ks r= -1)
 | [],r,h=>by
  simp only[Au.countVs,Ct];omega
 |k::ks,r,h=>by
  rw[Ct,Au.countVs];by_cases h0:0≤r
  ·rw[Ag h0];have h1:=OL k r h0;by_cases h2:(Au k:Int)≤r
   ·rw[h1.1 h2];have h3:=Ko ks (r - Au k) (by omega);omega
   ·rw[h1.2 (by omega),OK ks (by omega)];omega
  ·rw[Ab h0];omega
end
theorem UZ (ks:List Vl) (r:Int) (h:-1≤r):-1≤Ct ks r∧Ct ks r≤r:=by
 have:=Ko ks r h;omega
theorem U0 (v:Vl) (r:Int) (h:0≤r):-1≤CK v r∧CK v r≤r:=by rw[OJ];have:=UZ (ksV v) (r - 1) (by omega);omega
theorem U1 {ks:List Vl}{k:Nat}(hk:k < ks.length) {r:Int}(h:0≤r):Ct (ks.drop k) r=Ct (ks.drop (k+1)) (CK ks[k] r):=by
 rw[List.drop_eq_getElem_cons hk,Ct,Ag h]
theorem OM {v u:Vl}(h:u∈ksV v):Au u < Au v:=by
 cases v with
 |con s ks=>
  have:∀ (l:List Vl),u∈l→Au u≤Au.countVs l:=fun l=>by
   induction l with
   |nil=>intro h;simp at h
   |cons a l ih=>
    intro h;rw[Au.countVs];rcases List.mem_cons.1 h with rfl |h
    ·omega
    ·have:=ih h;omega
  have:=this ks h
  show Au u < 1+Au.countVs ks
  omega
 |_=>simp[ksV]at h
theorem U2 {v:Vl}(h:0 < (ksV v).length):kdV v=2:=by cases v <;> first |rfl | (simp[ksV]at h)
theorem ON (B:Nat) (X:Nat→Prop) (g:Nat) (r:Option Nat):∀ (N:Nat) (v:Vl) (c:Array Value) (w:World) (R:Int),Au v < N→0≤R→R≤1000000→B≤w.heap.size→(∀k,r=some k→k < w.heap.size)→RdS B X g r w c (.th v)→
  Calls Pq 57 #[.agg c,.int .i64 R] w fun e w'=>e= .returned (.int .i64 (CK v R))∧Below w.heap.size w w'
 |0,v,c,w,R,hN,h0,h1,hB,hr,ht=>by omega
 |N+1,v,c,w,R,hN,h0,h1,hB,hr,ht=>by
  have IH:=Aa (fun(j:Nat) (hj:j < (ksV v).length) (c:Array Value) (W:World) (R:Int) (hb:Below w.heap.size w W) (h0:0≤R) (h1:R≤1000000) (h2:RdS B X g r W c (.th (ksV v)[j]))=>(by
   have:=OM (As hj);exact ON B X g r N _ c W R (by omega) h0 h1 (Ar hB hb.size) (fun k e=>Aj (hr k e) hb.size) h2:Calls Pq 57 #[.agg c,.int .i64 R] W fun e w'=>e= .returned (.int .i64 (CK (ksV v)[j] R))∧Below W.heap.size W w'))
  have HE:=Aa (OJ v R);have HKD:=Aa (@U2 v);obtain⟨a1,c1,xx,a2,l2,c2,arg,self,a3,l3,c3,rfl,cs,hpv,hvs⟩:=ht.th_kids;have hvl:=hpv.len;unfold maxLen at hvl;generalize CK v R=res at*;generalize kdV v=kd at*;generalize ksV v=ks at*;clear ht hN;unfold svC;go_enter Tryz.func57,Tryz.ntmps57;go_wp2_with fail;generalize hW:Wa _ _=W1;obtain⟨b1,k1⟩:=Bx.alloc hW;clear hW
  go_loopw [5,1] (fun i ro wr=>∃ (k:Nat) (q:Int),k≤ks.length∧i= .int .i64 k∧ro= .int .i64 q∧Below w.heap.size w wr∧Bx wr w.heap.size #[.int .i64 kd,.int .i64 (nmV v),.string (tgV v),.slice a1 ks.length c1,.int .i64 xx.op,.int .i64 xx.n,.string xx.s,.string xx.t,.slice a2 l2 c2,.string arg,.string self,.slice a3 l3 c3]∧ -1≤q∧q≤1000000∧Hid (Ct (ks.drop k) q=res)) (fun i _ _=>ks.length - (intOf i).toNat)
  case atStart=>exact⟨0,R - 1,Av _,rfl,by go_num,b1,k1,by omega,by omega,Aa HE.out.symm⟩
  case round=>
   clear b1 k1;obtain⟨k,q,hk,rfl,rfl,bb,k1,hq0,hq1,hr2⟩:=hrel;have q1:=k1.2.1;have y1:=k1.1;by_cases hlt:k < ks.length
   ·have hki:(k:Int) < (ks.length:Int):=by omega
    have hk0:(0:Int)≤ (k:Int):=by omega
    have hkd:=HKD.out (by omega);clear HKD;subst hkd;by_cases hqn:0≤q
    ·obtain⟨pb,po,pcap,hpe,hpk,hpcap,hpm,hpcell⟩:=hpv.at_ hlt;cases hpe
     obtain⟨kdu,nnu,ssu,a1u,l1u,c1u,xxu,a2u,l2u,c2u,argu,selfu,a3u,l3u,c3u,hcs⟩:=(hvs k hlt).formS;have HV:=Aa ((hvs k hlt).lat bb hB hr);rw[hcs]at hpcell HV;have hpc:∀i,i < 12→wr.cell? ⟨pb,po+k*12+i,none⟩= (svC kdu nnu ssu (.slice a1u l1u c1u) xxu (.slice a2u l2u c2u) argu selfu (.slice a3u l3u c3u))[i]?:=fun i hi=>(bb.cell (p:=⟨pb,po+k*12+i,none⟩) hpk.2.2.1).trans (hpcell i hi);unfold svC at hpc HV;have e0:wr.cell? ⟨pb,po+k*12,none⟩=some (.int .i64 kdu):=hpc 0 (by omega);have e1:wr.cell? ⟨pb,po+k*12+1,none⟩=some (.int .i64 nnu):=hpc 1 (by omega);have e2:wr.cell? ⟨pb,po+k*12+2,none⟩=some (.string ssu):=hpc 2 (by omega);have e3:wr.cell? ⟨pb,po+k*12+3,none⟩=some (.slice a1u l1u c1u):=hpc 3 (by omega);have e4:wr.cell? ⟨pb,po+k*12+4,none⟩=some (.int .i64 xxu.op):=hpc 4 (by omega);have e5:wr.cell? ⟨pb,po+k*12+5,none⟩=some (.int .i64 xxu.n):=hpc 5 (by omega);have e6:wr.cell? ⟨pb,po+k*12+6,none⟩=some (.string xxu.s):=hpc 6 (by omega);have e7:wr.cell? ⟨pb,po+k*12+7,none⟩=some (.string xxu.t):=hpc 7 (by omega);have e8:wr.cell? ⟨pb,po+k*12+8,none⟩=some (.slice a2u l2u c2u):=hpc 8 (by omega);have e9:wr.cell? ⟨pb,po+k*12+9,none⟩=some (.string argu):=hpc 9 (by omega);have e10:wr.cell? ⟨pb,po+k*12+10,none⟩=some (.string selfu):=hpc 10 (by omega);have e11:wr.cell? ⟨pb,po+k*12+11,none⟩=some (.slice a3u l3u c3u):=hpc 11 (by omega);have HS:=Aa (U1 hlt hqn);have HBD:=Aa (U0 ks[k] q hqn);have IHk:=Aa (IH.out k hlt);clear hpc hpcell;generalize ks[k]=u at*;go_wp2_with fail;clear e0 e1 e2 e3 e4 e5 e6 e7 e8 e9 e10 e11 q1;refine(IHk.out _ wr q bb hqn hq1 HV.out).mono ?_;rintro e w2 ⟨rfl,b2⟩;have k2:=k1.below b2 k1.1;have bb2:=bb.trans (b2.mono bb.size);have hbd:=HBD.out;have HR2:=Aa (HS.out.symm.trans hr2.out);generalize CK u q=q2 at*;clear b2 k1 bb;go_wp2;go_roundw
     case rel=>exact⟨k+1,q2,hlt,by go_num,rfl,bb2,k2,by omega,by omega,HR2⟩
     case measure=>simp[intOf];omega
    ·have HR2:=Aa ((OK (ks.drop k) (by omega)).symm.trans hr2.out);have BB:=Aa bb;clear bb;go_wp2;go_ret;exact⟨AK HR2.out,BB.out⟩
   ·obtain rfl:k=ks.length:=by omega
    have HR2:=Aa (show q=res by have:=hr2.out;rw[Ff,Ct]at this;exact this);have BB:=Aa bb;clear bb;go_wp2;go_ret;exact⟨AK HR2.out,BB.out⟩
theorem Kx {w W:World}{a b c:Array Value}{e e2 e3:TypeId}(hW:((w.alloc (.cells a e)).alloc (.cells b e2)).alloc (.cells c e3)=W):Below w.heap.size w W∧Bx W w.heap.size a∧Bx W (w.heap.size+1) b∧Bx W (w.heap.size+2) c:=by
 obtain⟨b1,k1⟩:=Bx.alloc (w:=w) (cur:=a) (e:=e) rfl;obtain⟨b2,k2⟩:=Bx.alloc (w:=w.alloc (.cells a e)) (cur:=b) (e:=e2) rfl;obtain⟨b3,k3⟩:=Bx.alloc hW;simp only[BM]at b2 b3 k2 k3;have b12:Below w.heap.size w ((w.alloc (.cells a e)).alloc (.cells b e2)):=b1.trans (b2.mono (by omega));exact⟨b12.trans (b3.mono (by omega)),(k1.below b2 (by first |omega |simp)).below b3 (by first |omega |simp),k2.below b3 (by first |omega |simp),k3⟩
theorem O5 (B:Nat) (X:Nat→Prop) (g:Nat) (r:Option Nat):∀ (N:Nat) (u:Vl) (c:Array Value) (w:World),Au u < N→Au u≤4000→B≤w.heap.size→(∀k,r=some k→k < w.heap.size)→RdS B X g r w c (.th u)→
  Calls Pq 58 #[.agg c] w fun e w'=>Below w.heap.size w w'∧ ∃kv,e= .returned (.agg (vlC u kv))∧RdTv (fun b=>w.heap.size≤b) w' u (vlC u kv)
 |0,u,c,w,hN,h0,hB,hr,ht=>by omega
 |N+1,u,c,w,hN,h0,hB,hr,ht=>by
  cases u with
  |int n=>
   obtain⟨a1,c1,xx,a2,l2,c2,arg,self,a3,l3,c3,rfl⟩:=ht.th_form;clear ht;unfold svC kdV nmV tgV;go_enter Tryz.func58,Tryz.ntmps58;go_wp2;generalize hW:Wa (Wa (Wa _ _) _) _=W;obtain⟨bb, -,k2, -⟩:=Kx hW;have c9:=k2.2.1;refine AA (v:= .agg (vlC (.int n) (.slice none 0 0))) ?_ rfl ⟨bb,_,rfl,.mk _ _ (fun _=> #[]) (.inl ⟨rfl,_,_,rfl⟩) (fun j h=>absurd h (Ay j))⟩;simp[results,Tryz.results58,go_sem,c9,vlC,kdV,nmV,tgV]
  |fn arg0 self0 body env=>
   obtain⟨a1,c1,xx,a2,l2,c2,arg,self,a3,l3,c3,rfl⟩:=ht.th_form;clear ht;unfold svC kdV nmV tgV;go_enter Tryz.func58,Tryz.ntmps58;go_wp2;generalize hW:Wa (Wa (Wa _ _) _) _=W;obtain⟨bb, -,k2, -⟩:=Kx hW;have c9:=k2.2.1;refine AA (v:= .agg (vlC (.fn arg0 self0 body env) (.slice none 0 0))) ?_ rfl ⟨bb,_,rfl,.mk _ _ (fun _=> #[]) (.inl ⟨rfl,_,_,rfl⟩) (fun j h=>absurd h (Ay j))⟩;simp[results,Tryz.results58,go_sem,c9,vlC,kdV,nmV,tgV]
  |con sn ks=>
   have IH:=Aa (fun(j:Nat) (hj:j < ks.length) (c:Array Value) (W:World) (hb:Below w.heap.size w W) (h2:RdS B X g r W c (.th ks[j]))=>(by
    have:=OM (v:= .con sn ks) (u:=ks[j]) (As hj);exact O5 B X g r N _ c W (by omega) (by omega) (Ar hB hb.size) (fun k e=>Aj (hr k e) hb.size) h2:Calls Pq 58 #[.agg c] W fun e w'=>Below W.heap.size W w'∧ ∃kv,e= .returned (.agg (vlC ks[j] kv))∧RdTv (fun b=>W.heap.size≤b) w' ks[j] (vlC ks[j] kv)))
   obtain⟨a1,c1,xx,a2,l2,c2,arg,self,a3,l3,c3,rfl,cs,hpv,hvs⟩:=ht.th_kids;have hvl:=hpv.len;unfold maxLen at hvl;have hks:ks.length≤4000:=by
    have:∀l:List Vl,l.length≤Au.countVs l:=fun l=>by
     induction l with
     |nil=>simp
     |cons a l ih=>
      have hp:1≤Au a:=by cases a <;> (unfold Au;omega)
      rw[Au.countVs,List.length_cons];omega
    have h1:=this ks;have h2:Au (.con sn ks)=1+Au.countVs ks:=rfl;omega
   obtain⟨ti,hi,hz0,hz1,hz2⟩:=info_parts Tryz.infoVl;replace hpv:RwAt X g r w (.slice a1 ks.length c1) ks.length 12 cs:=hpv;replace hvs:∀j (hj:j < ks.length),RdS B X g r w (cs j) (.th ks[j]):=hvs;clear ht hN h0;unfold svC kdV nmV tgV ksV;go_enter Tryz.func58,Tryz.ntmps58;go_wp2_with fail;generalize hW:Wa (Wa (Wa _ _) _) _=W1;obtain⟨b1,k1,k2,k3⟩:=Kx hW;obtain⟨w1,hw1⟩:∃w1,w.alloc (.cells #[.int .i64 2,.int .i64 0,.string sn,.slice a1 ks.length c1,.int .i64 xx.op,.int .i64 xx.n,.string xx.s,.string xx.t,.slice a2 l2 c2,.string arg,.string self,.slice a3 l3 c3] 106)=w1:=⟨_,rfl⟩;have hs1:w1.heap.size=w.heap.size+1:=by rw[←hw1];simp
   have b1':Below w1.heap.size w1 W1:=by rw[←hW,hw1];exact((Ac _ _).alloc (Ad _) _).alloc (by simp) _
   have S0:Shw w1 W1 (.con sn ks) 0 (.slice none 0 0):=⟨b1',by rw[hs1];exact k2,by rw[hs1];exact k3,[],fun _=> #[],World.ownsRow_nil _ _ _ _,fun j hj=>absurd hj (Ay j),fun j _ hj=>absurd hj (Ay j)⟩;have HW1:=Aa (show Below w.heap.size w w1 by rw[←hw1];exact(Ac _ _).alloc (Ad _) _);have KB:=Aa k1;have B1:=Aa b1;clear k2 k3 hW b1' b1 k1 hw1
   go_loopw [4] (fun i wr=>∃ (k:Nat) (kv:Value),k≤ks.length∧i= .int .i64 k∧Shw w1 wr (.con sn ks) k kv∧Below W1.heap.size W1 W1∧Bx wr w.heap.size #[.int .i64 2,.int .i64 0,.string sn,.slice a1 ks.length c1,.int .i64 xx.op,.int .i64 xx.n,.string xx.s,.string xx.t,.slice a2 l2 c2,.string arg,.string self,.slice a3 l3 c3]) (fun i _=>ks.length - (intOf i).toNat)
   case atStart=>exact⟨0,_,Av _,rfl,S0,Ac _ _,KB.out⟩
   case round=>
    clear S0;obtain⟨k,kv,hk,rfl,hs, -,kb⟩:=hrel;obtain⟨va,vc,rfl⟩:=hs.form;have qb:=kb.2.1;have lb:=kb.1;have bw:=HW1.out.trans (hs.bb.mono HW1.out.size);by_cases hlt:k < ks.length
    ·obtain⟨pb,po,pcap,hpe,hpk,hpcap,hpm,hpcell⟩:=hpv.at_ hlt;cases hpe
     have hki:(k:Int) < (ks.length:Int):=by omega
     have hk0:(0:Int)≤ (k:Int):=by omega
     obtain⟨kdu,nnu,ssu,a1u,l1u,c1u,xxu,a2u,l2u,c2u,argu,selfu,a3u,l3u,c3u,hcs⟩:=(hvs k hlt).formS;have HV:=Aa (fun(W:World) (hb:Below w.heap.size w W)=>(hvs k hlt).lat hb hB hr);rw[hcs]at hpcell HV;have hpc:∀i,i < 12→wr.cell? ⟨pb,po+k*12+i,none⟩= (svC kdu nnu ssu (.slice a1u l1u c1u) xxu (.slice a2u l2u c2u) argu selfu (.slice a3u l3u c3u))[i]?:=fun i hi=>(bw.cell (p:=⟨pb,po+k*12+i,none⟩) hpk.2.2.1).trans (hpcell i hi);unfold svC at hpc HV;have HS:=Aa hs;have KB2:=Aa kb;have hpw:pb < w.heap.size:=hpk.2.2.1;have HQ:=Aa (fun(W':World) (h:Below wr.heap.size wr W')=>(by
      have j1:=(kb.below h kb.1).2.1;have j2:Bx wr (w1.heap.size+1) _:=HS.out.bt;have j3:=(j2.below h j2.1).2.1;rw[hs1]at j3;have hpw2:pb < wr.heap.size:=Aj hpw bw.size;exact⟨j3 3,j1 3,(h.cell (p:=⟨pb,po+k*12,none⟩) hpw2).trans (hpc 0 (by omega)),(h.cell (p:=⟨pb,po+k*12+1,none⟩) hpw2).trans (hpc 1 (by omega)),(h.cell (p:=⟨pb,po+k*12+2,none⟩) hpw2).trans (hpc 2 (by omega)),(h.cell (p:=⟨pb,po+k*12+3,none⟩) hpw2).trans (hpc 3 (by omega)),(h.cell (p:=⟨pb,po+k*12+4,none⟩) hpw2).trans (hpc 4 (by omega)),(h.cell (p:=⟨pb,po+k*12+5,none⟩) hpw2).trans (hpc 5 (by omega)),(h.cell (p:=⟨pb,po+k*12+6,none⟩) hpw2).trans (hpc 6 (by omega)),(h.cell (p:=⟨pb,po+k*12+7,none⟩) hpw2).trans (hpc 7 (by omega)),(h.cell (p:=⟨pb,po+k*12+8,none⟩) hpw2).trans (hpc 8 (by omega)),(h.cell (p:=⟨pb,po+k*12+9,none⟩) hpw2).trans (hpc 9 (by omega)),(h.cell (p:=⟨pb,po+k*12+10,none⟩) hpw2).trans (hpc 10 (by omega)),(h.cell (p:=⟨pb,po+k*12+11,none⟩) hpw2).trans (hpc 11 (by omega))⟩:W'.cell? ⟨w.heap.size+2,3,none⟩=some (.slice va k vc)∧W'.cell? ⟨w.heap.size,3,none⟩=some (.slice (some ⟨pb,po,none⟩) ks.length c1)∧W'.cell? ⟨pb,po+k*12,none⟩=some (.int .i64 kdu)∧W'.cell? ⟨pb,po+k*12+1,none⟩=some (.int .i64 nnu)∧W'.cell? ⟨pb,po+k*12+2,none⟩=some (.string ssu)∧W'.cell? ⟨pb,po+k*12+3,none⟩=some (.slice a1u l1u c1u)∧W'.cell? ⟨pb,po+k*12+4,none⟩=some (.int .i64 xxu.op)∧W'.cell? ⟨pb,po+k*12+5,none⟩=some (.int .i64 xxu.n)∧W'.cell? ⟨pb,po+k*12+6,none⟩=some (.string xxu.s)∧W'.cell? ⟨pb,po+k*12+7,none⟩=some (.string xxu.t)∧W'.cell? ⟨pb,po+k*12+8,none⟩=some (.slice a2u l2u c2u)∧W'.cell? ⟨pb,po+k*12+9,none⟩=some (.string argu)∧W'.cell? ⟨pb,po+k*12+10,none⟩=some (.string selfu)∧W'.cell? ⟨pb,po+k*12+11,none⟩=some (.slice a3u l3u c3u)))
     clear hs kb hpc hpcell;go_wp2_with fail;clear qb lb;refine BP 10 (S:=(fun W'=>W'.cell? ⟨w.heap.size+2,3,none⟩=some (.slice va k vc)∧W'.cell? ⟨w.heap.size,3,none⟩=some (.slice (some ⟨pb,po,none⟩) ks.length c1)∧W'.cell? ⟨pb,po+k*12,none⟩=some (.int .i64 kdu)∧W'.cell? ⟨pb,po+k*12+1,none⟩=some (.int .i64 nnu)∧W'.cell? ⟨pb,po+k*12+2,none⟩=some (.string ssu)∧W'.cell? ⟨pb,po+k*12+3,none⟩=some (.slice a1u l1u c1u)∧W'.cell? ⟨pb,po+k*12+4,none⟩=some (.int .i64 xxu.op)∧W'.cell? ⟨pb,po+k*12+5,none⟩=some (.int .i64 xxu.n)∧W'.cell? ⟨pb,po+k*12+6,none⟩=some (.string xxu.s)∧W'.cell? ⟨pb,po+k*12+7,none⟩=some (.string xxu.t)∧W'.cell? ⟨pb,po+k*12+8,none⟩=some (.slice a2u l2u c2u)∧W'.cell? ⟨pb,po+k*12+9,none⟩=some (.string argu)∧W'.cell? ⟨pb,po+k*12+10,none⟩=some (.string selfu)∧W'.cell? ⟨pb,po+k*12+11,none⟩=some (.slice a3u l3u c3u))) (by kernel_rfl) (by kernel_rfl) (by first | (dsimp only;exact HQ.out _ (Below.refl _ _).drew) | (exact HQ.out _ (Below.refl _ _).drew)) (fun hHeld=> ?_);generalize hxd:wr.drew=x1 at hHeld ⊢;have hd:Below wr.heap.size wr x1:=by rw[←hxd];exact(Ac _ _).drew
     have h1:=HS.out.same hd;clear hxd;refine tkT (i:=0) ?_;refine tkT (i:=1) ?_;refine tkT (i:=2) ?_;refine tkT (i:=3) ?_;refine tkT (i:=4) ?_;refine tkT (i:=5) ?_;refine tkT (i:=6) ?_;have hvk:∀q,(Value.slice va k vc).ownBlock=some q→q < x1.heap.size:=by
      obtain⟨ps,cs2,ho, -⟩:=h1.row;exact Cj ho
     have hw2:w1.heap.size+2≤x1.heap.size:=by have:=h1.bt.1;omega
     have HH1:=Aa h1;have bwx:=bw.trans (hd.mono bw.size);refine rdT (i:=7) (fun K hK=> ?_);go_simp;refine(IH.out k hlt _ x1 bwx (HV.out x1 bwx)).mono ?_;rintro e w2 ⟨b2,kv2,rfl,ct⟩;have h2:=HH1.out.same b2;obtain⟨ka2,kc2,rfl⟩:=ct.form;unfold vlC;refine bkT hK (by first | (dsimp only;exact HQ.out _ (hd.trans (b2.mono hd.size))) | (exact HQ.out _ (hd.trans (b2.mono hd.size)))) (fun hHeld=> ?_);clear hK K;refine rdT (i:=8) (fun K hK=> ?_);go_simp;generalize hy:w2.alloc _=w3;obtain⟨b3,k3⟩:=Bx.alloc hy;have h3:=h2.same b3;refine bkT hK (by first | (dsimp only;exact HQ.out _ (hd.trans ((b2.trans (b3.mono b2.size)).mono hd.size))) | (exact HQ.out _ (hd.trans ((b2.trans (b3.mono b2.size)).mono hd.size)))) (fun hHeld=> ?_);clear hK K;have hd3:Below wr.heap.size wr w3:=hd.trans ((b2.trans (b3.mono b2.size)).mono hd.size);have S3:=HQ.out _ hd3;refine Dn (rs:=[9]) (by kernel_rfl) (by simp) ?_;refine AllReadyT.cons (by (simp only[List.getElem?_toArray,List.getElem?_cons_succ,List.getElem?_cons_zero];rfl)) (fun K hK=> ?_) AllReadyT.nil;rw[Ag (by rfl)];obtain⟨ps,hps,hnext⟩:=h3.app (M:=x1.heap.size) hlt hvk (by have:=b2.size;have:=b3.size;omega) hw2 (ct.later fun q hq hl=>⟨hq,Aj hl b3.size,b3.block q hl⟩);refine ED _ _ 58 rfl (w1.heap.size+2) 60 ti (.agg #[.int .i64 0,.int .i64 0,.string ⟨#[]⟩,.slice none 0 0]) 4 56 Tryz.underlying58 hi hz0 hz1 hz2 rfl (by decide) _ _ _ rfl hps (vlC ks[k] (.slice ka2 (ksV ks[k]).length kc2)) rfl ?_ w2.heap.size rfl ?_ ?_ ?_ ?_ ?_
     ·simp[Value.oneCell',vlC]
     ·exact k3.2.1
     ·unfold maxLen;omega
     ·omega
     ·have:=b2.size;have:=b3.size;omega
     ·intro v4 w4 o4 g4 alt;obtain⟨a4,c4,rfl⟩:=A2 o4;have HN:=Aa (hnext _ w4 o4 g4 (by
       rcases alt with e |e
       ·exact .inl e
       ·exact .inr ⟨_,e,Ad _⟩))
      have hpl:=hps.lt;have hb3:=hd3.size;have hbw:=bw.size;have hlw:w.heap.size < wr.heap.size:=KB2.out.1;have K4:=h3.bt.grown g4 (fun e=>by have:=hpl _ e.symm;omega);have KB4:=(KB2.out.below hd3 KB2.out.1).grown g4 (fun e=>by have:=hpl _ e.symm;omega);have KB5:=Aa KB4;rw[hs1]at K4;have hcell:∀o,w4.cell? ⟨pb,o,none⟩=w3.cell? ⟨pb,o,none⟩:=fun o=>An (g4.block pb (by omega) (fun e=>by have:=hpl _ e.symm;omega));have S4:w4.cell? ⟨w.heap.size+2,3,none⟩=some (.slice va k vc)∧w4.cell? ⟨w.heap.size,3,none⟩=some (.slice (some ⟨pb,po,none⟩) ks.length c1)∧w4.cell? ⟨pb,po+k*12,none⟩=some (.int .i64 kdu)∧w4.cell? ⟨pb,po+k*12+1,none⟩=some (.int .i64 nnu)∧w4.cell? ⟨pb,po+k*12+2,none⟩=some (.string ssu)∧w4.cell? ⟨pb,po+k*12+3,none⟩=some (.slice a1u l1u c1u)∧w4.cell? ⟨pb,po+k*12+4,none⟩=some (.int .i64 xxu.op)∧w4.cell? ⟨pb,po+k*12+5,none⟩=some (.int .i64 xxu.n)∧w4.cell? ⟨pb,po+k*12+6,none⟩=some (.string xxu.s)∧w4.cell? ⟨pb,po+k*12+7,none⟩=some (.string xxu.t)∧w4.cell? ⟨pb,po+k*12+8,none⟩=some (.slice a2u l2u c2u)∧w4.cell? ⟨pb,po+k*12+9,none⟩=some (.string argu)∧w4.cell? ⟨pb,po+k*12+10,none⟩=some (.string selfu)∧w4.cell? ⟨pb,po+k*12+11,none⟩=some (.slice a3u l3u c3u):=by
       refine⟨K4.2.1 3,KB4.2.1 3,(hcell _).trans S3.2.2.1,(hcell _).trans S3.2.2.2.1,(hcell _).trans S3.2.2.2.2.1,(hcell _).trans S3.2.2.2.2.2.1,(hcell _).trans S3.2.2.2.2.2.2.1,(hcell _).trans S3.2.2.2.2.2.2.2.1,(hcell _).trans S3.2.2.2.2.2.2.2.2.1,(hcell _).trans S3.2.2.2.2.2.2.2.2.2.1,(hcell _).trans S3.2.2.2.2.2.2.2.2.2.2.1,(hcell _).trans S3.2.2.2.2.2.2.2.2.2.2.2.1,(hcell _).trans S3.2.2.2.2.2.2.2.2.2.2.2.2.1,(hcell _).trans S3.2.2.2.2.2.2.2.2.2.2.2.2.2⟩
      have q4:=K4.2.1;have f4:=K4.2.2;have y4:=K4.1;refine hK.out _ _ (by first | (dsimp only;exact S4) | (exact S4)) (fun hHeld=> ?_);clear hK K
      try simp only[Act.put,List.setIfInBounds_toArray,List.set_cons_zero,List.set_cons_succ]
      have HN2:=Aa (show Shw w1 (w4.setCell ⟨w.heap.size+2,3,none⟩ (.slice a4 (k+1) c4)) (.con sn ks) (k+1) (.slice a4 (k+1) c4)by have:=HN.out;rw[hs1]at this;exact this);have KB6:=Aa (show Bx (w4.setCell ⟨w.heap.size+2,3,none⟩ (.slice a4 (k+1) c4)) w.heap.size _ from KB5.out.grown (grownBy.setCell w4 (w.heap.size+2) 3 _) (fun e=>by have:=Ah e;omega));unfold vlC at q4;clear h1 h2 h3 HH1 K4 KB4 hnext hps alt o4 g4 b2 b3 k3 ct hd hd3 S3 S4 hcell hpl bw bwx;refine BO (by kernel_rfl) ?_;dsimp only[List.drop];go_wp2;go_roundw
      case rel=>exact⟨k+1,_,hlt,by go_num,HN2.out,Ac _ _,KB6.out⟩
      case measure=>simp[intOf];omega
    ·obtain rfl:k=ks.length:=by omega
     have hki:¬((ks.length:Int) < (ks.length:Int)):=by omega
     have k1:=hs.bo;have k2:=hs.bt;unfold vlC at k2;rw[hs1]at k1 k2;have HS:=Aa hs;have BW:=Aa bw;clear hs kb bw;have fk1:=k1.2.2;have ck1:=k1.2.1;have yk1:=k1.1;have ck2:=k2.2.1;have yk2:=k2.1;have hne:w.heap.size+1≠w.heap.size+2:=by omega
     go_wp2;generalize hz:Ws (Ws _ _ _) _ _=z;have K1:=HS.out.bo;rw[hs1]at K1;have k5:=(((K1.st 0 (by simp) (.int .i64 2)).st 1 (by simp) (.int .i64 0)).st 2 (by simp) (.string sn)).st 3 (by simp) (.slice va ks.length vc);have g5:wr.grownBy z (some (w.heap.size+1)):=by
      rw[←hz];exact(((grownBy.setCell wr (w.heap.size+1) 0 _).trans' (grownBy.setCell _ (w.heap.size+1) 1 _)).trans' (grownBy.setCell _ (w.heap.size+1) 2 _)).trans' (grownBy.setCell _ (w.heap.size+1) 3 _)
     have c9:∀j,z.cell? ⟨w.heap.size+1,j,none⟩= #[.int .i64 2,.int .i64 0,.string sn,.slice va ks.length vc][j]?:=by
      rw[←hz];exact fun j=>(k5.2.1 j).trans rfl
     refine AA (v:= .agg (vlC (.con sn ks) (.slice va ks.length vc))) ?_ rfl ⟨BW.out.trans (Below.of_grown g5 BW.out.size (fun q e=>by have:=Ah e;omega)),_,rfl,?_⟩
     ·simp[results,Tryz.results58,go_sem,c9,vlC,kdV,nmV,tgV]
     ·refine RdTv.later (Shw.done (u:= .con sn ks) HS.out) fun q hq hl=>⟨by omega,Aj hl g5.size,g5.block q hl (fun e=>by have:=Ah e;omega)⟩
theorem Kt (n:Int) (w:World):Calls Pq 118 #[.int .i64 n] w fun e w'=>e= .returned (.agg (svC 1 n eS AB Nd.zero AB eS eS AB))∧Below w.heap.size w w':=by
 go_enter Tryz.func118,Tryz.ntmps118;go_wp2_with fail;generalize hx:Wa _ _=x;obtain⟨bx,k1⟩:=Bx.alloc hx;have c9:=k1.2.1;refine AA (v:= .agg (svC 1 n eS AB Nd.zero AB eS eS AB)) ?_ rfl ⟨rfl,bx⟩;simp[results,Tryz.results118,go_sem,c9,svC,Nd.zero,Nd.op,Nd.n,Nd.s,Nd.t];rfl
theorem Ku {B g:Nat}{lv:Value}{w:World}{f c:Int}{o:List Int}{r:Option Nat}(h:Ev B g lv w f c o r) (hc:c=1∨c=2) (op n:Int) (s t:Str) (ka:Option Addr) (kl kc:Nat) (ea:Option Addr) (el ec:Nat):
  Calls Pq 56 #[.pointer (some ⟨g,0,none⟩),.agg #[.int .i64 op,.int .i64 n,.string s,.string t,.slice ka kl kc],.slice ea el ec] w fun e w'=>e= .returned (.agg sv0)∧Ev B g lv w' f c o r∧Tw g r r w w':=by
 have HH:=Aa h;have hlt:=h.lt;obtain⟨ov,h1, -, -⟩:=h.bx;have q1:∀o1 o2,((w.alloc o1).alloc o2).cell? ⟨g,2,none⟩=some (.int .i64 c):=fun o1 o2=>(Dk (p:=⟨g,2,none⟩) (by simp;omega)).trans ((Dk (p:=⟨g,2,none⟩) hlt).trans (h1.2.1 2));have hcb:(c !=0)=true:=by rcases hc with rfl |rfl <;> rfl
 clear h h1 hc;go_enter Tryz.func56,Tryz.ntmps56;go_wp2_with fail;generalize hx:Wa (Wa _ _) _=x;obtain⟨b2,k2⟩:=Bx.alloc hx;rw[BM]at k2;have c9:=k2.2.1;have bb:Below w.heap.size w x:=((Ac _ _).alloc (Ad _) _).trans (b2.mono (by simp));refine AA (v:= .agg sv0) ?_ rfl ⟨rfl,HH.out.same bb⟩;simp[results,Tryz.results56,go_sem,c9,sv0]
end Go.Proofs.YtifhcbeaiijkcaaGreat
end
