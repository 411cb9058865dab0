/- Parts of the proof of FnExactJudgeSame. -/
import Derived.Test.YtifhcbeaiijkcaaGreatJ12
import Derived.Test.YtifhcbeaiijkcaaGreatJ07
import Derived.Test.YtifhcbeaiijkcaaGreatJ05
import Derived.Test.YtifhcbeaiijkcaaGreatJ10
import Derived.Test.YtifhcbeaiijkcaaGreatJ11
import Derived.Test.YtifhcbeaiijkcaaGreatJ02
set_option linter.unusedVariables false
set_option linter.unusedSimpArgs false
set_option maxRecDepth 1000000
set_option maxHeartbeats 16000000
namespace Go.Proofs.YtifhcbeaiijkcaaGreat
open Go.RowKit
open _root_.Go.World renaming alloc→Wa,setCell→Ws
open _root_.Go.Proofs.Tryz renaming prog→Pq
theorem RN {B g:Nat}{lv:Value}{ds:List Dt}{ar:Str→Option Nat}{m:Nat}{X:Nat→Prop}{x:Nd}{kv ev:Value}{env:Env}{s:Es}{w:World}{r:Option Nat}(hm:s.fuel≤m) (P:Pre B X g lv ds x kv ev env s w r) (ho:x.op=15) (IH:CT B g lv ds ar m) (har:ar=arP ds) (hlw:AN ds≤1048576):
  Calls Pq 107 #[.pointer (some ⟨g,0,none⟩),ndV x kv,ev] w (Cj B X g lv (AI ar (Ag ar m) x env s) r w):=by
 have PP:=Aa P;have HO:=Aa ho;have IH:=Aa IH;have hnk:=(Ei P.np (by omega)).2;have HNK:=Aa (fun(j:Nat) (hj:j < x.kids.length)=>hnk _ (An hj));have HRK:=Aa (fun(W:World) (rW:Option Nat) (t:Tw g r rW w W)=>P.rkW t);have HE:=Aa (show AI ar (Ag ar m) x env s= (Bn (Ag ar m) env x.kids s).bind fun vs s1=>if ar x.s=some x.kids.length then .ok (.con x.s vs) s1 else .bad 2 s1.out from MD ho);have HM:=Aa (fun(j:Nat) (hj:j < x.kids.length)=>(An hj:x.kids[j]∈x.kids));have hlen:=AY x.kids;have hwg:=Av x;have hpw:=P.wg;have hks:x.kids.length≤1048576:=by omega
 obtain⟨ka,kc,rfl⟩:=P.rk.form;obtain⟨i0,hi0,hz0,hz1,hz2⟩:=Py Tryz.infoPt;obtain⟨lda,ldc,rfl⟩:=P.dt.form;clear hwg hpw hlen hnk;obtain⟨ea,rfl⟩:=P.re.sc_form;have hgw:=P.ev.lt;unfold ndV;clear P ho;go_enter Tryz.func107,Tryz.ntmps107;go_wp2_with fail;generalize hW:w.alloc _=W0;generalize hW1:W0.alloc _=W1;have C1:=Aa (PP.out.con hW hW1);clear hW hW1;have HBO:=Aa (fun(c:Int) (o:List Int) (tv:Value) (W:World) (r:Option Nat) (Y:Nat→Prop) (h:ResI B Y g (.slice lda ds.length ldc) (.bad c o) tv W r)=>(h:ResI B X g (.slice lda ds.length ldc) (.bad c o) tv W r))
 go_loopw [20] (fun i wr=>∃ (k:Nat) (rW:Option Nat) (fu:Nat) (o:List Int) (kv:Value) (vs:List Vl) (ps:List Value) (Y:Nat→Prop),k≤x.kids.length∧i= .int .i64 k∧Cn_ B g X (.slice lda ds.length ldc) x.s w r #[.int .i64 x.op,.int .i64 x.n,.string x.s,.string x.t,.slice ka x.kids.length kc] wr rW fu o kv vs ps Y∧Hid (vs.length=k)∧Hid (Ee vs (Bn (Ag ar m) env (x.kids.drop k) ⟨fu,o⟩)=Bn (Ag ar m) env x.kids s)∧fu≤m∧o.length+fu≤4000∧Hid (∀v∈vs,Good (.th v))) (fun i _=>x.kids.length - (intOf i).toNat)
 case atStart=>exact⟨0,r,s.fuel,s.out,AC,[],[],_,Ao _,rfl,C1.out,Aa rfl,Aa (KU _),hm,PP.out.sz,Aa (by simp)⟩
 case round=>
  clear C1;obtain⟨k,rW,fu,o,kv,vs,ps,Y,hk,rfl,hC,hvl,hkr,hfu,hof,hgd⟩:=hrel;have C:=Aa hC;clear hC;by_cases hlt:k < x.kids.length
  ·obtain⟨b',off',cap',kvy,hv',hB',hbs',hcap',⟨d0,d1,d2,d3,d4⟩,hka⟩:=(HRK.out wr rW C.out.now.tw).at_ hlt;cases hv'
   have hki:(k:Int) < (x.kids.length:Int):=by omega
   have hk0:(0:Int)≤ (k:Int):=by omega
   obtain⟨kya,kyc,rfl⟩:=hka.form;have HKA:=Aa hka;have hny:=HNK.out k hlt;have hmy:=HM.out k hlt;have HKB:=Aa (fun c o' h=>KW (E:=Ag ar m) (env:=env) (s:=⟨fu,o⟩) (c:=c) (o:=o') hlt vs h);have HKS:=Aa (fun s1 v h=>KV (E:=Ag ar m) (env:=env) (s:=⟨fu,o⟩) (s1:=s1) (v:=v) hlt vs h);clear hka;generalize x.kids[k]=y at*;go_wp2_with fail;generalize hyy:Wa _ _=wy;obtain⟨by_,k2⟩:=Bx.alloc hyy;clear hyy d0 d1 d2 d3 d4;have C2:=Aa (C.out.same by_);have hka:=HKA.out.later by_ C.out.now.ev.gB.2;refine(IH.out Y y _ _ env ⟨fu,o⟩ wy rW hfu (C2.out.pre PP.out hny hmy hof hka)).mono ?_;rintro e W4 ⟨a4,r4,rfl,t4,h4⟩;have T4:=Aa t4;clear hka t4 k2 by_;cases hE2:Ag ar m y env ⟨fu,o⟩with
   |bad c o'=>
    rw[hE2]at h4;have D4:=Aa (C2.out.now.done T4.out (HBO.out _ _ _ _ _ _ h4));obtain⟨hc,hol,f2,e4⟩:=h4;have HE2:=Aa (hkr.out.symm.trans (HKB.out c o' hE2));have q4:=e4.cells.2.2;have hcb:(c !=0)=true:=by rcases hc with rfl |rfl <;> rfl
    clear hE2 e4 hc hol;go_wp2;go_ret;rw[HE.out,HE2.out];exact D4.out
   |ok v s4=>
    rw[hE2]at h4;obtain⟨hx4,e4,hs4,hg4⟩:=h4;obtain⟨a4v,ha4⟩:=hx4.th_ptr;cases ha4
    have HE2:=Aa ((HKS.out s4 v hE2).symm.trans hkr.out);have HFU:=Aa (At ((DF ar m y env ⟨fu,o⟩).2 v s4 hE2) hfu);have HX4:=Aa hx4;have HS4:=Aa hs4;have C4:=Aa (C2.out.call T4.out e4);have HGD:=Aa (show ∀u∈vs++ [v],Good (.th u)from fun u hu=>by
     rcases IC.1 hu with hu |hu
     ·exact hgd.out u hu
     ·rw[List.mem_singleton.1 hu];exact hg4)
    have q4:=e4.cells.2.2;have qt:=C4.out.bt.2.1;obtain⟨va,vc,hvf⟩:=AR C4.out.own;have hvlk:vs.length < 1048576:=by rw[hvl.out];omega
    have C5:=Aa (fun(v':Value) (w4:World) h1 h2 h3=>C4.out.app (v':=v') (w4:=w4) HX4.out h1 h2 h3);have C5q:=Aa C4.out.qb;have hsz4:w.heap.size+2≤W4.heap.size:=by have:=C4.out.bt.1;omega
    have OWN:=Aa C4.out.own;have BT:=Aa C4.out.bt;subst hvf;unfold thC at qt;clear hE2 hx4 hs4 hg4 e4;go_wp2_with (at_builtin;refine Dw rfl _ _ 171 rfl (w.heap.size+2) 95 i0 (.pointer none) 1 8 Tryz.underlying171 hi0 hz0 hz1 hz2 rfl (by decide) _ _ _ rfl OWN.out #[_] rfl ?_ W4.heap.size rfl rfl ?_ ?_ ?_ ?_)
    ·rfl
    ·unfold maxLen;omega
    ·omega
    ·exact hsz4
    ·intro v' w5 ho5 hg5 hat;have C6:=Aa (C5.out v' w5 ho5 hg5 hat);have k5:=BT.out.grown hg5 (fun e=>by have:=C5q.out _ e.symm;omega);obtain⟨wa,wc,rfl⟩:=AR ho5;have HVL:=Aa (show(vs++ [v]).length=k+1 by rw[Bl,hvl.out];rfl);have q5:=k5.2.1;have f5:=k5.2.2;have l5:=k5.1;unfold thC at q5;clear ho5 hg5 hat k5 qt q4;go_wp2;go_roundw
     case rel=>exact⟨k+1,_,s4.fuel,s4.out,_,vs++ [v],_,_,hlt,by go_num,C6.out,HVL,Aa HE2.out,HFU.out,HS4.out,HGD⟩
     case measure=>simp[intOf];omega
  ·obtain rfl:k=x.kids.length:=by omega
   have HKD:=Aa (hkr.out.symm.trans (KX (Ag ar m) env x.kids ⟨fu,o⟩ vs));have qg:=C.out.now.ev.cells.1;have qb:=C.out.now.bx.2.1;have CN:=Aa (fun(W:World) (h:Below wr.heap.size wr W)=>C.out.same h);have CO:=Aa (fun(W:World) (h:Below wr.heap.size wr W)=>PQ ds (.slice lda ds.length ldc) x.s _ W (PP.out.dtW (CN.out W h).now.tw) hlw);have HDT:=Aa (fun(W:World) (h:Below wr.heap.size wr W)=>PP.out.dtW (CN.out W h).now.tw);have HS0:=Aa (fun(W:World) (h:Below wr.heap.size wr W)=>And.intro (CN.out W h).now.ev.cells.1 ((CN.out W h).now.bx.2.1 2));have HB2:=Aa (fun(W:World) (h:Below wr.heap.size wr W)=>(CN.out W h).now.bx.2.1);go_wp2_with fail;clear qg qb;refine wp_region_held_drew (S:=(fun W'=>W'.cell? ⟨g,0,none⟩=some (.slice lda ds.length ldc)∧W'.cell? ⟨w.heap.size,2,none⟩=some (.string x.s))) (by kernel_rfl) (by first | (dsimp only;exact HS0.out _ (Below.refl _ _).drew) | (exact HS0.out _ (Below.refl _ _).drew)) (fun hHeld=> ?_);generalize hxd:World.drew _=x1 at hHeld ⊢;have hd1:Below wr.heap.size wr x1:=by rw[←hxd];exact(Ab _ _).drew
   clear hxd;refine tkH (i:=0) ?_;refine tkH (i:=1) ?_;refine tkH (i:=2) ?_;refine tkH (i:=3) ?_;refine tkH (i:=4) ?_;refine tkH (i:=5) ?_;refine rdH (i:=6) (fun K hK=> ?_);go_simp;refine(CO.out x1 hd1).mono ?_;rintro e W6 ⟨rfl,b6⟩;replace b6:=hd1.trans (b6.mono hd1.size);refine bkH hK (by first | (dsimp only;exact HS0.out _ b6) | (exact HS0.out _ b6)) (fun hHeld=> ?_);clear hK K;refine tkH (i:=7) ?_;refine tkH (i:=8) ?_;refine tkH (i:=9) ?_;refine tkH (i:=10) ?_;refine tkH (i:=11) ?_;refine A2 (by kernel_rfl) ?_ _;have HAR:=Aa (fun(i k:Nat) (hi:i < ds.length) (hk:k < ds[i].cons.length) (h:Bp ds x.s= ((i:Int),(k:Int)))=>(by rw[har];exact Lc hi hk h:ar x.s=some ds[i].cons[k].args.length));have HAN:=Aa (fun(h:Bp ds x.s= (-1, -1))=>(by rw[har];exact Ld h:ar x.s=none));rcases Gq ds x.s with ⟨hco, -⟩ |⟨di,hdi,dk,hdk,hco, -, -, -⟩
   ·rw[hco];have HA:=Aa (HAN.out hco);have q0:=(HS0.out _ b6).1;have C7:=Aa (CN.out _ b6);clear hco hd1;go_wp2_with fail;go_quiet (fail);generalize hxy:World.drewN _ _=W7;have b7:Below wr.heap.size wr W7:=b6.trans ((Still.below ⟨_,hxy.symm⟩ W6.heap.size).mono b6.size);have C8:=Aa (CN.out _ b7);clear hxy b6 q0;go_wp2_with fail;refine(Fx C8.out.now.ev 2).mono ?_;rintro e W8 ⟨⟨a8,rfl⟩,e8,t8⟩;have D8:=Aa (C8.out.now.done (X:=X) (a:=a8) (res:= .bad 2 o) t8 (.bad (.inr rfl) (by omega) e8));clear e8 t8 b7;go_wp2;go_ret;rw[HE.out,HKD.out];dsimp only[Rs.bind];rw[HA.out,Ae (by simp)];exact D8.out
   ·rw[hco];have HA:=Aa (HAR.out di dk hdi hdk hco);obtain⟨eb,eo,ecap,ecv,hev,heB,hebs, -, -, -,e2,hcr⟩:=(HDT.out _ b6).at_ hdi;cases hev
    obtain⟨fb,fo,fcap,fav,hfv,hfB,hfbs, -, -,f1,har2⟩:=hcr.at_ hdk;cases hfv
    obtain⟨aa,ac,rfl⟩:=har2.form;have hdi1:(di:Int) < (ds.length:Int):=by omega
    have hdi0:(0:Int)≤ (di:Int):=by omega
    have hdin:¬((di:Int) < 0):=by omega
    have hdk1:(dk:Int) < (ds[di].cons.length:Int):=by omega
    have hdk0:(0:Int)≤ (dk:Int):=by omega
    have q0:=(HS0.out _ b6).1;have q4:=HB2.out _ b6;clear hco hd1 hcr har2;generalize hal:ds[di].cons[dk].args.length=al at*;clear hal;by_cases hle:al=x.kids.length
    ·have hleb:((al:Int) !=(x.kids.length:Int))=false:=by rw[hle];simp
     have HLE:=Aa hle;clear hle;go_wp2_with fail;go_quiet (fail);generalize hxy:World.drewN _ _=W7;have b7:Below wr.heap.size wr W7:=b6.trans ((Still.below ⟨_,hxy.symm⟩ W6.heap.size).mono b6.size);have C8:=Aa (CN.out _ b7);have D8:=Aa (C8.out.now.done (X:=X) (a:=some ⟨w.heap.size+1,0,none⟩) (res:= .ok (.con x.s vs) ⟨fu,o⟩) C8.out.now.ev.refl ⟨C8.out.done PP.out.hx,C8.out.now.ev,hof,.con _ _ hgd.out⟩);clear hxy b6 q0 q4 b7 e2 f1;go_wp2;go_ret;rw[HE.out,HKD.out];dsimp only[Rs.bind];rw[HA.out,HLE.out,Af rfl];exact D8.out
    ·have hleb:((al:Int) !=(x.kids.length:Int))=true:=by rw[G0];omega
     have HLE:=Aa hle;clear hle;go_wp2_with fail;go_quiet (fail);generalize hxy:World.drewN _ _=W7;have b7:Below wr.heap.size wr W7:=b6.trans ((Still.below ⟨_,hxy.symm⟩ W6.heap.size).mono b6.size);have C8:=Aa (CN.out _ b7);clear hxy b6 q0 q4 e2 f1;go_wp2_with fail;refine(Fx C8.out.now.ev 2).mono ?_;rintro e W8 ⟨⟨a8,rfl⟩,e8,t8⟩;have D8:=Aa (C8.out.now.done (X:=X) (a:=a8) (res:= .bad 2 o) t8 (.bad (.inr rfl) (by omega) e8));clear e8 t8 b7;go_wp2;go_ret;rw[HE.out,HKD.out];dsimp only[Rs.bind];rw[HA.out,Ae (fun h=>HLE.out (Am h))];exact D8.out
theorem RR {B g:Nat}{X:Nat→Prop}{lv:Value}{ds:List Dt}{ar:Str→Option Nat}{m f:Nat}{x:Nd}{kv ev:Value}{env:Env}{s:Es}{w:World}{r:Option Nat}(hf:s.fuel=f+1) (hm:f≤m) (P:Pre B X g lv ds x kv ev env s w r) (ho:x.op=4) (IH:CT B g lv ds ar m) (har:ar=arP ds) (hlw:AN ds≤1048576):
  Calls Pq 50 #[.pointer (some ⟨g,0,none⟩),ndV x kv,ev] w (Cj B X g lv (Ag ar (m+1) x env s) r w):=by
 have HE:=Aa (Bv (ar:=ar) (m:=m) (x:=x) (env:=env) hf);have IH:=Aa IH;have PP:=Aa P;have HO:=Aa ho;have SZ:Hid (s.out.length+f+1≤4000):=Aa (by have:=P.sz;omega);obtain⟨ka,kc,rfl⟩:=P.rk.form;obtain⟨ea,rfl⟩:=P.re.sc_form;have hsz:=P.sz;rw[hf]at hsz;have hfl:f≤4000:=by omega
 have hx:=P.ev;rw[hf]at hx;obtain⟨ov,hb, -, -⟩:=hx.bx;have q0:∀ (cur:Array Value) (e:TypeId) j,(w.alloc (.cells cur e)).cell? ⟨g,j,none⟩= #[lv,.int .i64 ((f+1:Nat):Int),.int .i64 0,ov][j]?:=fun cur e j=>(((Ab w.heap.size w).alloc (Ad _) (.cells cur e)).cell (p:=⟨g,j,none⟩) hb.1).trans (hb.2.1 j);have f0:∀ (cur:Array Value) (e:TypeId) j,(w.alloc (.cells cur e)).frozen? ⟨g,j,none⟩=false:=fun cur e j=>(((Ab w.heap.size w).alloc (Ad _) (.cells cur e)).frozen (p:=⟨g,j,none⟩) hb.1).trans (hb.2.2 j);have hgw:g < w.heap.size:=hb.1;unfold ndV;rw[ho];have q1:=q0 #[.int .i64 4,.int .i64 x.n,.string x.s,.string x.t,.slice ka x.kids.length kc] 41;have f1:=f0 #[.int .i64 4,.int .i64 x.n,.string x.s,.string x.t,.slice ka x.kids.length kc] 41;have hne:w.heap.size≠g:=by omega
 clear P hx hb q0 f0 hsz ho hf;go_enter Tryz.func50,Tryz.ntmps50;go_wp2_with fail;generalize hW:Wa _ _=W1;have N1:=PP.out.start hW;clear hW q1 f1;have N1':=Aa N1;have P1:Pre B X g lv ds x (.slice ka x.kids.length kc) (.pointer ea) env ⟨f,s.out⟩ W1 r:=⟨PP.out.np,PP.out.wg,PP.out.gd,by have:=SZ.out;dsimp only;omega,PP.out.rkW N1.tw,PP.out.reW N1.tw,N1.ev,PP.out.dtW N1.tw,fun b e=>Nat.lt_of_lt_of_le (PP.out.hx b e) N1.tw.size⟩;have HC:=Aa (RL (ar:=ar) (s:=⟨f,s.out⟩) hm P1 HO.out IH.out);unfold ndV at HC;rw[HO.out]at HC;clear N1 P1;refine HC.out.mono ?_;rintro e W2 ⟨a2,r2,rfl,t2,h2⟩;have D2:=Aa (N1'.out.done t2 h2);clear t2 h2 HC;go_wp2;go_ret;rw[HE.out];exact D2.out
theorem RV {B g:Nat}{X:Nat→Prop}{lv:Value}{ds:List Dt}{ar:Str→Option Nat}{m f:Nat}{x:Nd}{kv ev:Value}{env:Env}{s:Es}{w:World}{r:Option Nat}(hf:s.fuel=f+1) (hm:f≤m) (P:Pre B X g lv ds x kv ev env s w r) (ho:x.op=7) (IH:CT B g lv ds ar m) (har:ar=arP ds) (hlw:AN ds≤1048576):
  Calls Pq 50 #[.pointer (some ⟨g,0,none⟩),ndV x kv,ev] w (Cj B X g lv (Ag ar (m+1) x env s) r w):=by
 have HE:=Aa (Bv (ar:=ar) (m:=m) (x:=x) (env:=env) hf);have IH:=Aa IH;have PP:=Aa P;have HO:=Aa ho;have SZ:Hid (s.out.length+f+1≤4000):=Aa (by have:=P.sz;omega);obtain⟨ka,kc,rfl⟩:=P.rk.form;obtain⟨ea,rfl⟩:=P.re.sc_form;have hsz:=P.sz;rw[hf]at hsz;have hfl:f≤4000:=by omega
 have hx:=P.ev;rw[hf]at hx;obtain⟨ov,hb, -, -⟩:=hx.bx;have q0:∀ (cur:Array Value) (e:TypeId) j,(w.alloc (.cells cur e)).cell? ⟨g,j,none⟩= #[lv,.int .i64 ((f+1:Nat):Int),.int .i64 0,ov][j]?:=fun cur e j=>(((Ab w.heap.size w).alloc (Ad _) (.cells cur e)).cell (p:=⟨g,j,none⟩) hb.1).trans (hb.2.1 j);have f0:∀ (cur:Array Value) (e:TypeId) j,(w.alloc (.cells cur e)).frozen? ⟨g,j,none⟩=false:=fun cur e j=>(((Ab w.heap.size w).alloc (Ad _) (.cells cur e)).frozen (p:=⟨g,j,none⟩) hb.1).trans (hb.2.2 j);have hgw:g < w.heap.size:=hb.1;unfold ndV;rw[ho];have q1:=q0 #[.int .i64 7,.int .i64 x.n,.string x.s,.string x.t,.slice ka x.kids.length kc] 41;have f1:=f0 #[.int .i64 7,.int .i64 x.n,.string x.s,.string x.t,.slice ka x.kids.length kc] 41;have hne:w.heap.size≠g:=by omega
 clear P hx hb q0 f0 hsz ho hf;go_enter Tryz.func50,Tryz.ntmps50;go_wp2_with fail;generalize hW:Wa _ _=W1;have N1:=PP.out.start hW;clear hW q1 f1;have N1':=Aa N1;have P1:Pre B X g lv ds x (.slice ka x.kids.length kc) (.pointer ea) env ⟨f,s.out⟩ W1 r:=⟨PP.out.np,PP.out.wg,PP.out.gd,by have:=SZ.out;dsimp only;omega,PP.out.rkW N1.tw,PP.out.reW N1.tw,N1.ev,PP.out.dtW N1.tw,fun b e=>Nat.lt_of_lt_of_le (PP.out.hx b e) N1.tw.size⟩;have HC:=Aa (RM (ar:=ar) (s:=⟨f,s.out⟩) hm P1 HO.out IH.out);unfold ndV at HC;rw[HO.out]at HC;clear N1 P1;refine HC.out.mono ?_;rintro e W2 ⟨a2,r2,rfl,t2,h2⟩;have D2:=Aa (N1'.out.done t2 h2);clear t2 h2 HC;go_wp2;go_ret;rw[HE.out];exact D2.out
theorem RW {B g:Nat}{X:Nat→Prop}{lv:Value}{ds:List Dt}{ar:Str→Option Nat}{m f:Nat}{x:Nd}{kv ev:Value}{env:Env}{s:Es}{w:World}{r:Option Nat}(hf:s.fuel=f+1) (hm:f≤m) (P:Pre B X g lv ds x kv ev env s w r) (ho:x.op=15) (IH:CT B g lv ds ar m) (har:ar=arP ds) (hlw:AN ds≤1048576):
  Calls Pq 50 #[.pointer (some ⟨g,0,none⟩),ndV x kv,ev] w (Cj B X g lv (Ag ar (m+1) x env s) r w):=by
 have HE:=Aa (Bv (ar:=ar) (m:=m) (x:=x) (env:=env) hf);have IH:=Aa IH;have PP:=Aa P;have HO:=Aa ho;have SZ:Hid (s.out.length+f+1≤4000):=Aa (by have:=P.sz;omega);obtain⟨ka,kc,rfl⟩:=P.rk.form;obtain⟨ea,rfl⟩:=P.re.sc_form;have hsz:=P.sz;rw[hf]at hsz;have hfl:f≤4000:=by omega
 have hx:=P.ev;rw[hf]at hx;obtain⟨ov,hb, -, -⟩:=hx.bx;have q0:∀ (cur:Array Value) (e:TypeId) j,(w.alloc (.cells cur e)).cell? ⟨g,j,none⟩= #[lv,.int .i64 ((f+1:Nat):Int),.int .i64 0,ov][j]?:=fun cur e j=>(((Ab w.heap.size w).alloc (Ad _) (.cells cur e)).cell (p:=⟨g,j,none⟩) hb.1).trans (hb.2.1 j);have f0:∀ (cur:Array Value) (e:TypeId) j,(w.alloc (.cells cur e)).frozen? ⟨g,j,none⟩=false:=fun cur e j=>(((Ab w.heap.size w).alloc (Ad _) (.cells cur e)).frozen (p:=⟨g,j,none⟩) hb.1).trans (hb.2.2 j);have hgw:g < w.heap.size:=hb.1;unfold ndV;rw[ho];have q1:=q0 #[.int .i64 15,.int .i64 x.n,.string x.s,.string x.t,.slice ka x.kids.length kc] 41;have f1:=f0 #[.int .i64 15,.int .i64 x.n,.string x.s,.string x.t,.slice ka x.kids.length kc] 41;have hne:w.heap.size≠g:=by omega
 clear P hx hb q0 f0 hsz ho hf;go_enter Tryz.func50,Tryz.ntmps50;go_wp2_with fail;generalize hW:Wa _ _=W1;have N1:=PP.out.start hW;clear hW q1 f1;have N1':=Aa N1;have P1:Pre B X g lv ds x (.slice ka x.kids.length kc) (.pointer ea) env ⟨f,s.out⟩ W1 r:=⟨PP.out.np,PP.out.wg,PP.out.gd,by have:=SZ.out;dsimp only;omega,PP.out.rkW N1.tw,PP.out.reW N1.tw,N1.ev,PP.out.dtW N1.tw,fun b e=>Nat.lt_of_lt_of_le (PP.out.hx b e) N1.tw.size⟩;have HC:=Aa (RN (ar:=ar) (s:=⟨f,s.out⟩) hm P1 HO.out IH.out har hlw);unfold ndV at HC;rw[HO.out]at HC;clear N1 P1;refine HC.out.mono ?_;rintro e W2 ⟨a2,r2,rfl,t2,h2⟩;have D2:=Aa (N1'.out.done t2 h2);clear t2 h2 HC;go_wp2;go_ret;rw[HE.out];exact D2.out
theorem MH {B g:Nat}{lv:Value}{ds:List Dt}{ar:Str→Option Nat}{m:Nat}{X:Nat→Prop}{x:Nd}{kv ev:Value}{env:Env}{s:Es}{w:World}{r:Option Nat}(hf:s.fuel=0) (P:Pre B X g lv ds x kv ev env s w r):
  Calls Pq 50 #[.pointer (some ⟨g,0,none⟩),ndV x kv,ev] w (Cj B X g lv (Ag ar m x env s) r w):=by
 have HE:=Aa (Mw (ar:=ar) (m:=m) (x:=x) (env:=env) hf);have PP:=Aa P;obtain⟨ka,kc,rfl⟩:=P.rk.form;obtain⟨ea,rfl⟩:=P.re.sc_form;have hx:=P.ev;rw[hf]at hx;obtain⟨ov,hb, -, -⟩:=hx.bx;have q1:∀ (cur:Array Value) (e:TypeId),(w.alloc (.cells cur e)).cell? ⟨g,1,none⟩=some (.int .i64 0):=fun cur e=>(((Ab w.heap.size w).alloc (Ad _) (.cells cur e)).cell (p:=⟨g,1,none⟩) hb.1).trans (hb.2.1 1);have hgw:g < w.heap.size:=hb.1;unfold ndV;have q2:=q1 #[.int .i64 x.op,.int .i64 x.n,.string x.s,.string x.t,.slice ka x.kids.length kc] 41;have hne:w.heap.size≠g:=by omega
 clear P hx hb q1;go_enter Tryz.func50,Tryz.ntmps50;go_wp2_with fail;generalize hW:Wa _ _=W1;have N1:=PP.out.box hW;clear hW q2;have N1':=Aa N1;refine(Fx (N1.ev) 1).mono ?_;rintro e W2 ⟨⟨a2,rfl⟩,e2,t2⟩;have D2:=Aa (N1'.out.done (X:=X) (a:=a2) (res:= .bad 1 s.out) t2 (.bad (.inl rfl) (by have:=PP.out.sz;omega) e2));clear e2 t2 N1;go_wp2;go_ret;rw[HE.out];exact D2.out
theorem MI {B g:Nat}{lv:Value}{ds:List Dt}{ar:Str→Option Nat}(har:ar=arP ds) (hlw:AN ds≤1048576):∀m,CT B g lv ds ar m
 |0,X,x,kv,ev,env,s,w,r,hs,P=>MH (by omega) P
 |m+1,X,x,kv,ev,env,s,w,r,hs,P=>by
  have IH:=MI (B:=B) (g:=g) (lv:=lv) har hlw m;cases hf:s.fuel with
  |zero=>exact MH hf P
  |succ f=>
   have hm:f≤m:=by omega
   rcases Hx P.np with o |o |o |o |o |o |o |o |o |o |o
   ·exact Ru hf hm P o
   ·exact Rv hf hm P o
   ·exact RJ hf hm P o
   ·exact RR hf hm P o IH har hlw
   ·exact Rw hf hm P o IH
   ·exact RK hf hm P o IH
   ·exact RV hf hm P o IH har hlw
   ·exact Rz hf hm P o IH
   ·have h5:x.op=10∨x.op=11∨x.op=12∨x.op=13∨x.op=14:=by omega
    rcases h5 with o |o |o |o |o
    ·exact RD hf hm P o IH
    ·exact RE hf hm P o IH
    ·exact RG hf hm P o IH
    ·exact RH hf hm P o IH
    ·exact RI hf hm P o IH
   ·exact RW hf hm P o IH har hlw
   ·exact Ry hf hm P o IH
theorem RX (r:Bool) (x:Nd) (kv:Value) (g:Nat) (w:World) (hg:w.cell? ⟨g,0,none⟩=some (.func (.func 93) #[] #[])) (hlt:g < w.heap.size)
  (HF:∀W,Below w.heap.size w W→Calls Pq 93 #[ndV x kv] W fun e w'=>e= .returned (.bool r)∧Below W.heap.size W w'):
  Calls Pq 208 #[ndV x kv,.pointer (some ⟨g,0,none⟩)] w fun e w'=>e= .returned (.bool (!r))∧Below w.heap.size w w':=by
 unfold ndV at HF ⊢;have HF:=Aa HF;generalize x.op=xop at*;generalize x.n=xn at*;generalize x.s=xs at*;generalize x.t=xt at*;go_enter Tryz.func208,Tryz.ntmps208;go_wp2_with fail;generalize hxx:Wa _ _=x0;obtain⟨bb,k1⟩:=Bx.alloc hxx;clear hxx k1;refine(HF.out x0 bb).mono ?_;rintro e w2 ⟨rfl,b2⟩;replace bb:=bb.trans (b2.mono bb.size);go_wp2;go_ret;exact⟨rfl,bb⟩
theorem RY (q:Nd→Bool) (ks:List Nd) (v:Value) (B:Nat) (w:World) (hr:RdNs B w v ks) (hl:ks.length≤1048576)
  (HF:∀j (hj:j < ks.length) (kv:Value) (B:Nat) (W:World),RdNs B W kv ks[j].kids→Calls Pq 93 #[ndV ks[j] kv] W fun e w'=>e= .returned (.bool (q ks[j]))∧Below W.heap.size W w'):
  Calls Pq 158 #[v,.func (.func 93) #[] #[]] w fun e w'=>e= .returned (.bool (ks.all q))∧Below w.heap.size w w':=by
 have HR:=Aa (fun(W:World) (hb:Below w.heap.size w W)=>hr.later' hb);have HF:=Aa HF;have HA:=Aa (show(!ks.any fun x=>!q x)=ks.all q by rw[DV];simp);obtain⟨ka,kc,rfl⟩:=hr.form;clear hr;go_enter Tryz.func158,Tryz.ntmps158;go_wp2_with fail;generalize hxx:Wa _ _=x0;obtain⟨bb,k1⟩:=Bx.alloc hxx;clear hxx;refine(IW (.pointer (some ⟨w.heap.size,0,none⟩)) (fun x=>!q x) ks _ _ x0 (HR.out x0 bb) hl (fun j hj kv W hb hk=>RX (q ks[j]) ks[j] kv w.heap.size W ((k1.below hb k1.1).2.1 0) (k1.below hb k1.1).1 (fun W' hb'=>HF.out j hj kv _ W' (hk.later hb' hb.size)))).mono ?_;rintro e w2 ⟨rfl,b2⟩;replace bb:=bb.trans (b2.mono bb.size);go_wp2;go_ret;exact⟨Ac HA.out,bb⟩
theorem RZ (r:Bool) (x:Nd) (kv:Value) (g:Nat) (w:World) (hg:w.cell? ⟨g,0,none⟩=some (.func (.func 209) #[] #[])) (hlt:g < w.heap.size)
  (HF:∀W,Below w.heap.size w W→Calls Pq 209 #[ndV x kv] W fun e w'=>e= .returned (.bool r)∧Below W.heap.size W w'):
  Calls Pq 208 #[ndV x kv,.pointer (some ⟨g,0,none⟩)] w fun e w'=>e= .returned (.bool (!r))∧Below w.heap.size w w':=by
 unfold ndV at HF ⊢;have HF:=Aa HF;generalize x.op=xop at*;generalize x.n=xn at*;generalize x.s=xs at*;generalize x.t=xt at*;go_enter Tryz.func208,Tryz.ntmps208;go_wp2_with fail;generalize hxx:Wa _ _=x0;obtain⟨bb,k1⟩:=Bx.alloc hxx;clear hxx k1;refine(HF.out x0 bb).mono ?_;rintro e w2 ⟨rfl,b2⟩;replace bb:=bb.trans (b2.mono bb.size);go_wp2;go_ret;exact⟨rfl,bb⟩
theorem R0 (q:Nd→Bool) (ks:List Nd) (v:Value) (B:Nat) (w:World) (hr:RdNs B w v ks) (hl:ks.length≤1048576)
  (HF:∀j (hj:j < ks.length) (kv:Value) (B:Nat) (W:World),RdNs B W kv ks[j].kids→Calls Pq 209 #[ndV ks[j] kv] W fun e w'=>e= .returned (.bool (q ks[j]))∧Below W.heap.size W w'):
  Calls Pq 158 #[v,.func (.func 209) #[] #[]] w fun e w'=>e= .returned (.bool (ks.all q))∧Below w.heap.size w w':=by
 have HR:=Aa (fun(W:World) (hb:Below w.heap.size w W)=>hr.later' hb);have HF:=Aa HF;have HA:=Aa (show(!ks.any fun x=>!q x)=ks.all q by rw[DV];simp);obtain⟨ka,kc,rfl⟩:=hr.form;clear hr;go_enter Tryz.func158,Tryz.ntmps158;go_wp2_with fail;generalize hxx:Wa _ _=x0;obtain⟨bb,k1⟩:=Bx.alloc hxx;clear hxx;refine(IW (.pointer (some ⟨w.heap.size,0,none⟩)) (fun x=>!q x) ks _ _ x0 (HR.out x0 bb) hl (fun j hj kv W hb hk=>RZ (q ks[j]) ks[j] kv w.heap.size W ((k1.below hb k1.1).2.1 0) (k1.below hb k1.1).1 (fun W' hb'=>HF.out j hj kv _ W' (hk.later hb' hb.size)))).mono ?_;rintro e w2 ⟨rfl,b2⟩;replace bb:=bb.trans (b2.mono bb.size);go_wp2;go_ret;exact⟨Ac HA.out,bb⟩
theorem R1 (r:Bool) (x:Nd) (kv:Value) (g:Nat) (w:World) (hg:w.cell? ⟨g,0,none⟩=some (.func (.func 159) #[] #[])) (hlt:g < w.heap.size)
  (HF:∀W,Below w.heap.size w W→Calls Pq 159 #[ndV x kv] W fun e w'=>e= .returned (.bool r)∧Below W.heap.size W w'):
  Calls Pq 208 #[ndV x kv,.pointer (some ⟨g,0,none⟩)] w fun e w'=>e= .returned (.bool (!r))∧Below w.heap.size w w':=by
 unfold ndV at HF ⊢;have HF:=Aa HF;generalize x.op=xop at*;generalize x.n=xn at*;generalize x.s=xs at*;generalize x.t=xt at*;go_enter Tryz.func208,Tryz.ntmps208;go_wp2_with fail;generalize hxx:Wa _ _=x0;obtain⟨bb,k1⟩:=Bx.alloc hxx;clear hxx k1;refine(HF.out x0 bb).mono ?_;rintro e w2 ⟨rfl,b2⟩;replace bb:=bb.trans (b2.mono bb.size);go_wp2;go_ret;exact⟨rfl,bb⟩
theorem R2 (q:Nd→Bool) (ks:List Nd) (v:Value) (B:Nat) (w:World) (hr:RdNs B w v ks) (hl:ks.length≤1048576)
  (HF:∀j (hj:j < ks.length) (kv:Value) (B:Nat) (W:World),RdNs B W kv ks[j].kids→Calls Pq 159 #[ndV ks[j] kv] W fun e w'=>e= .returned (.bool (q ks[j]))∧Below W.heap.size W w'):
  Calls Pq 158 #[v,.func (.func 159) #[] #[]] w fun e w'=>e= .returned (.bool (ks.all q))∧Below w.heap.size w w':=by
 have HR:=Aa (fun(W:World) (hb:Below w.heap.size w W)=>hr.later' hb);have HF:=Aa HF;have HA:=Aa (show(!ks.any fun x=>!q x)=ks.all q by rw[DV];simp);obtain⟨ka,kc,rfl⟩:=hr.form;clear hr;go_enter Tryz.func158,Tryz.ntmps158;go_wp2_with fail;generalize hxx:Wa _ _=x0;obtain⟨bb,k1⟩:=Bx.alloc hxx;clear hxx;refine(IW (.pointer (some ⟨w.heap.size,0,none⟩)) (fun x=>!q x) ks _ _ x0 (HR.out x0 bb) hl (fun j hj kv W hb hk=>R1 (q ks[j]) ks[j] kv w.heap.size W ((k1.below hb k1.1).2.1 0) (k1.below hb k1.1).1 (fun W' hb'=>HF.out j hj kv _ W' (hk.later hb' hb.size)))).mono ?_;rintro e w2 ⟨rfl,b2⟩;replace bb:=bb.trans (b2.mono bb.size);go_wp2;go_ret;exact⟨Ac HA.out,bb⟩
theorem MJ:∀ (N:Nat) (x:Nd) (kv:Value) (B:Nat) (w:World),wgN x < N→wgN x≤1048576→RdNs B w kv x.kids→
  Calls Pq 209 #[ndV x kv] w fun e w'=>e= .returned (.bool (BQ x))∧Below w.heap.size w w'
 |0,x,kv,B,w,hN,hl,hr=>by omega
 |N+1,x,kv,B,w,hN,hl,hr=>by
  have hwg:=Av x;have hlen:=AY x.kids;have hks:x.kids.length≤1048576:=by omega
  have hss:x.s.size≤1048576:=by omega
  have AL:=Aa (fun(W:World) (hb:Below w.heap.size w W)=>R0 BQ x.kids kv _ W (hr.later' hb) hks (fun j hj kv B W h=>MJ N x.kids[j] kv B W (by have:=AT (An hj);omega) (by have:=AT (An hj);omega) h));rw[←FW]at AL;obtain⟨ka,kc,rfl⟩:=hr.form;unfold ndV;have HE:=Aa (FX x);clear hr hN hwg hlen hl;generalize x.op=xop at*;generalize x.n=xn at*;generalize x.s=xs at*;generalize x.t=xt at*;generalize BQ x=px at*;generalize x.kids=ks at*;go_enter Tryz.func209,Tryz.ntmps209;by_cases ht:xt.toList=[]
  ·by_cases o17:xop=17
   ·subst o17;by_cases n0:xn=0
    ·subst n0;by_cases hs:xs.toList=[]
     ·skip;by_cases k0:ks.length=0
      ·have k0b:((ks.length:Int)==0)=true:=by rw[Cc];exact Ax k0
       have hn0:DR ks=true:=by rw[List.eq_nil_of_length_eq_zero k0];rfl
       have k0':=Aa k0;clear k0;go_wp2;go_ret;exact⟨Ac (by rw[HE.out];simp[Br,Al ht,Al hs,k0'.out,hn0]),(Ab _ _).alloc (Ad _) _⟩
      ·have k0b:((ks.length:Int)==0)=false:=by rw[Cc];exact AF k0
       have k0':=Aa k0;clear k0;go_wp2;go_ret;exact⟨Ac (by rw[HE.out];simp[Br,Al ht,Al hs,k0'.out]),(Ab _ _).alloc (Ad _) _⟩
     ·have hse:(ByteArray.toList xs).isEmpty=false:=by simp[hs]
      go_wp2;go_ret;exact⟨Ac (by rw[HE.out];simp[Br,Al ht,AH hs]),(Ab _ _).alloc (Ad _) _⟩
    ·have n0b:(xn==0)=false:=by simp[n0]
     go_wp2;go_ret;exact⟨Ac (by rw[HE.out];simp[Br,Al ht,n0]),(Ab _ _).alloc (Ad _) _⟩
   by_cases o18:xop=18
   ·subst o18;by_cases n0:xn=0
    ·subst n0;go_wp2_with fail;generalize hxx:Wa _ _=x0;obtain⟨bb,k1⟩:=Bx.alloc hxx;clear hxx;refine(FS xs _ hss).mono ?_;rintro e w3 ⟨rfl,b3⟩;replace k1:=k1.below b3 k1.1;replace bb:=bb.trans (b3.mono bb.size);clear b3;cases hq:BJ xs with
     |true=>
      have hq:=Aa hq;by_cases k0:ks.length=0
      ·have k0b:((ks.length:Int)==0)=true:=by rw[Cc];exact Ax k0
       have hn0:DR ks=true:=by rw[List.eq_nil_of_length_eq_zero k0];rfl
       have k0':=Aa k0;clear k0;have q1:=k1.2.1;go_wp2;go_ret;exact⟨Ac (by rw[HE.out];simp[Br,Al ht,hq.out,k0'.out,hn0]),bb⟩
      ·have k0b:((ks.length:Int)==0)=false:=by rw[Cc];exact AF k0
       have k0':=Aa k0;clear k0;have q1:=k1.2.1;go_wp2;go_ret;exact⟨Ac (by rw[HE.out];simp[Br,Al ht,hq.out,k0'.out]),bb⟩
     |false=>
      have hq:=Aa hq;have q1:=k1.2.1;go_wp2;go_ret;exact⟨Ac (by rw[HE.out];simp[Br,Al ht,hq.out]),bb⟩
    ·have n0b:(xn==0)=false:=by simp[n0]
     go_wp2;go_ret;exact⟨Ac (by rw[HE.out];simp[Br,Al ht,n0]),(Ab _ _).alloc (Ad _) _⟩
   by_cases o19:xop=19
   ·subst o19;have hin:=fun(W:World)=>A8 xn 0 1073741823 W;cases hq:inB xn 0 1073741823 with
    |true=>
     rw[hq]at hin;have hq:=Aa (show Cl xn=true from hq);go_wp2_with fail;generalize hxx:Wa _ _=x0;obtain⟨bb,k1⟩:=Bx.alloc hxx;clear hxx;refine(hin _).mono ?_;rintro e w3 ⟨rfl,rfl⟩;clear hin;by_cases hs:xs.toList=[]
     ·skip;by_cases k0:ks.length=0
      ·have k0b:((ks.length:Int)==0)=true:=by rw[Cc];exact Ax k0
       have hn0:DR ks=true:=by rw[List.eq_nil_of_length_eq_zero k0];rfl
       have k0':=Aa k0;clear k0;have q1:=k1.2.1;go_wp2;go_ret;exact⟨Ac (by rw[HE.out];simp[Br,Al ht,Al hs,hq.out,k0'.out,hn0]),bb⟩
      ·have k0b:((ks.length:Int)==0)=false:=by rw[Cc];exact AF k0
       have k0':=Aa k0;clear k0;have q1:=k1.2.1;go_wp2;go_ret;exact⟨Ac (by rw[HE.out];simp[Br,Al ht,Al hs,hq.out,k0'.out]),bb⟩
     ·have hse:(ByteArray.toList xs).isEmpty=false:=by simp[hs]
      have q1:=k1.2.1;go_wp2;go_ret;exact⟨Ac (by rw[HE.out];simp[Br,Al ht,AH hs]),bb⟩
    |false=>
     rw[hq]at hin;have hq:=Aa (show Cl xn=false from hq);go_wp2_with fail;generalize hxx:Wa _ _=x0;obtain⟨bb,k1⟩:=Bx.alloc hxx;clear hxx;refine(hin _).mono ?_;rintro e w3 ⟨rfl,rfl⟩;clear hin;have q1:=k1.2.1;go_wp2;go_ret;exact⟨Ac (by rw[HE.out];simp[Br,Al ht,hq.out]),bb⟩
   by_cases o20:xop=20
   ·subst o20;by_cases n0:xn=0
    ·subst n0;go_wp2_with fail;generalize hxx:Wa _ _=x0;obtain⟨bb,k1⟩:=Bx.alloc hxx;clear hxx;refine(GC xs _ hss).mono ?_;rintro e w3 ⟨rfl,rfl⟩;cases hq:Bg xs with
     |true=>
      have hq:=Aa hq;have q1:=k1.2.1;go_wp2_with fail;clear q1;refine(AL.out _ bb).mono ?_;rintro e w3 ⟨rfl,b3⟩;replace k1:=k1.below b3 k1.1;replace bb:=bb.trans (b3.mono bb.size);clear b3;go_wp2;go_ret;exact⟨Ac (by rw[HE.out];simp[Br,Al ht,hq.out]),bb⟩
     |false=>
      have hq:=Aa hq;have q1:=k1.2.1;go_wp2;go_ret;exact⟨Ac (by rw[HE.out];simp[Br,Al ht,hq.out]),bb⟩
    ·have n0b:(xn==0)=false:=by simp[n0]
     go_wp2;go_ret;exact⟨Ac (by rw[HE.out];simp[Br,Al ht,n0]),(Ab _ _).alloc (Ad _) _⟩
   go_wp2;go_ret;exact⟨Ac (by rw[HE.out];simp[Br,Al ht,o17,o18,o19,o20]),(Ab _ _).alloc (Ad _) _⟩
  ·have hte:(ByteArray.toList xt).isEmpty=false:=by simp[ht]
   go_wp2;go_ret;exact⟨Ac (by rw[HE.out];simp[Br,AH ht]),(Ab _ _).alloc (Ad _) _⟩
theorem R4 (x:Nd) (kv:Value) (B:Nat) (w:World) (hl:wgN x≤1048576) (hr:RdNs B w kv x.kids)
  (ih:∀ (y:Nd) (kv:Value) (B:Nat) (W:World),wgN y < wgN x→RdNs B W kv y.kids→Calls Pq 93 #[ndV y kv] W fun e w'=>e= .returned (.bool (Aj y))∧Below W.heap.size W w'):
  Calls Pq 159 #[ndV x kv] w fun e w'=>e= .returned (.bool (Cm x))∧Below w.heap.size w w':=by
 have HR:=Aa (fun(W:World) (hb:Below w.heap.size w W)=>hr.later' hb);have hwg:=Av x;obtain⟨ka,kc,rfl⟩:=hr.form;have IP:=Aa (fun(y:Nd) (hy:y∈x.kids) (kv:Value) (B:Nat) (W:World) (h:RdNs B W kv y.kids)=>(by
  have h1:=AT hy;exact MJ 1048577 y kv B W (by omega) (by omega) h:Calls Pq 209 #[ndV y kv] W fun e w'=>e= .returned (.bool (BQ y))∧Below W.heap.size W w'))
 have IE:=Aa (fun(y:Nd) (hy:y∈x.kids) (kv:Value) (B:Nat) (W:World) (h:RdNs B W kv y.kids)=>(by
  have h1:=AT hy;exact ih y kv B W (by omega) h:Calls Pq 93 #[ndV y kv] W fun e w'=>e= .returned (.bool (Aj y))∧Below W.heap.size W w'))
 have HE:=Aa (IU x);clear ih hr hwg hl;unfold ndV at IP IE ⊢;generalize x.op=xop at*;generalize x.n=xn at*;generalize x.s=xs at*;generalize x.t=xt at*;generalize Cm x=px at*;generalize x.kids=ks at*;go_enter Tryz.func159,Tryz.ntmps159;by_cases o8:xop=8
 ·subst o8;by_cases n0:xn=0
  ·subst n0;by_cases hs:xs.toList=[]
   ·by_cases ht:xt.toList=[]
    ·by_cases h2:ks.length=2
     ·obtain⟨p,e,rfl⟩:=IV h2;clear h2;obtain⟨b,off,cap,kv0,kv1,hv,hB,hcap,⟨c0,c1,c2,c3,c4⟩,hk0, -, -⟩:=(HR.out w (Ab _ _)).two;cases hv
      have H0:=Aa hk0;clear hk0;go_wp2_with fail;generalize hxx:Wa _ _=x0;obtain⟨bb,k1⟩:=Bx.alloc hxx;clear hxx c0 c1 c2 c3 c4;refine(IP.out p (by simp) _ _ x0 (H0.out.later' bb)).mono ?_;rintro e1 w3 ⟨rfl,b3⟩;replace k1:=k1.below b3 k1.1;replace bb:=bb.trans (b3.mono bb.size);clear b3;cases hp:BQ p with
      |true=>
       have hp:=Aa hp;obtain⟨b,off,cap,kv0,kv1,hv,hB,hcap, -, -,⟨c0,c1,c2,c3,c4⟩,hk1⟩:=(HR.out _ bb).two;cases hv
       have H1:=Aa hk1;clear hk1;have q1:=k1.2.1;go_wp2_with fail;clear q1 c0 c1 c2 c3 c4;refine(IE.out e (by simp) _ _ w3 H1.out).mono ?_;rintro e1 w4 ⟨rfl,b3⟩;replace bb:=bb.trans (b3.mono bb.size);go_wp2;go_ret;exact⟨Ac (by rw[HE.out];simp[CC,Fb,hp.out,Al hs,Al ht]),bb⟩
      |false=>
       have hp:=Aa hp;go_wp2;go_ret;exact⟨Ac (by rw[HE.out];simp[CC,Fb,hp.out]),bb⟩
     ·have h2n:((ks.length:Int)==2)=false:=by rw[BF];exact AF h2
      go_wp2;go_ret;exact⟨Ac (by rw[HE.out];simp[CC,h2]),(Ab _ _).alloc (Ad _) _⟩
    ·have hte:(ByteArray.toList xt).isEmpty=false:=by simp[ht]
     go_wp2;go_ret;exact⟨Ac (by rw[HE.out];simp[CC,AH ht]),(Ab _ _).alloc (Ad _) _⟩
   ·have hse:(ByteArray.toList xs).isEmpty=false:=by simp[hs]
    go_wp2;go_ret;exact⟨Ac (by rw[HE.out];simp[CC,AH hs]),(Ab _ _).alloc (Ad _) _⟩
  ·have n0b:(xn==0)=false:=by simp[n0]
   go_wp2;go_ret;exact⟨Ac (by rw[HE.out];simp[CC,n0]),(Ab _ _).alloc (Ad _) _⟩
 ·have o8b:(xop==8)=false:=by simp[o8]
  go_wp2;go_ret;exact⟨Ac (by rw[HE.out];simp[CC,o8]),(Ab _ _).alloc (Ad _) _⟩
end Go.Proofs.YtifhcbeaiijkcaaGreat
