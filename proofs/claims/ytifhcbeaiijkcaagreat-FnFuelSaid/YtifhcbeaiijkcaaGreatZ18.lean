/- Parts of the proof of FnFuel. -/
import Derived.Test.YtifhcbeaiijkcaaGreatZ17
import Derived.Test.YtifhcbeaiijkcaaGreatZ16
set_option linter.unusedVariables false
set_option linter.unusedSimpArgs false
set_option maxRecDepth 1000000
set_option maxHeartbeats 16000000
namespace Go.Proofs.YtifhcbeaiijkcaaGreat
open Go.RowKit
open _root_.Go.World renaming alloc→Wa,setCell→Ws
open _root_.Go.Proofs.Tryz renaming prog→Pq
theorem Tryz.infoSv:(Tryz.prog.info? 106).map (fun i=>(i.zero,i.size,i.bytes))=some (some (.agg #[.int .i64 0,.int .i64 0,.string ⟨#[]⟩,.slice none 0 0,.int .i64 0,.int .i64 0,.string ⟨#[]⟩,.string ⟨#[]⟩,.slice none 0 0,.string ⟨#[]⟩,.string ⟨#[]⟩,.slice none 0 0]),12,184):=by kernel_rfl
theorem Vp {B g:Nat}{lv:Value}{ds:List Dt}{ar:Str→Option Nat}{m:Nat}{X:Nat→Prop}{x:Nd}{kv ev:Value}{env:Env}{s:Es}{w:World}{r:Option Nat}(hm:s.fuel≤m) (P:SPre B X g lv ds x kv ev env s w r) (ho:x.op=15) (IH:B8 B g lv ds ar m) (har:ar=arP ds) (hlw:AR ds≤1048576):
  Calls Pq 124 #[.pointer (some ⟨g,0,none⟩),ndV x kv,ev] w (BA B X g lv (AF ar (Ai ar m) x env s) r w):=by
 obtain⟨lda,ldc,rfl⟩:=P.dt.form;have PP:=Aa P;have IH:=Aa IH;have hX:=P.hx;have HNK:=Aa (fun(k:Nat) (hk:k < x.kids.length)=>((Ef P.np (by omega)).2 _ (As hk):Ao x.kids[k]=true));have HM:=Aa (fun(k:Nat) (hk:k < x.kids.length)=>(As hk:x.kids[k]∈x.kids));have HE:=Aa (Ou (ar:=ar) (E:=Ai ar m) (env:=env) (s:=s) ho);obtain⟨ka,kc,rfl⟩:=P.rk.form;obtain⟨ea,ec,rfl⟩:=P.re.sc_form;have hlen:=AU x.kids;have hwg:=Aw x;have hpw:=P.wg;have hks:x.kids.length≤1048576:=by omega
 have hgw:=P.ev.lt;have hBw:=P.ev.gB.2;obtain⟨i0,hi0,hz0,hz1,hz2⟩:=info_parts Tryz.infoSv;have CO:=Aa (fun(W:World) (rW:Option Nat) (t:Tw g r rW w W)=>Lk ds _ x.s _ W (PP.out.dtW t) hlw);have HAR:=Aa (fun(i k:Nat) (hi:i < ds.length) (hk:k < ds[i].cons.length) (h:Bg ds x.s= ((i:Int),(k:Int)))=>(by rw[har];exact LG hi hk h:ar x.s=some ds[i].cons[k].args.length));have HAN:=Aa (fun(h:Bg ds x.s= (-1, -1))=>(by rw[har];exact LH h:ar x.s=none));unfold ndV;clear P ho hlen hwg hpw har;go_enter Tryz.func124,Tryz.ntmps124;go_wp2_with fail;generalize hW:Wa (Wa _ _) _=W1;have N1:=Aa (PP.out.start2 hW);have hs1:W1.heap.size=w.heap.size+2:=by rw[←hW];simp
 have HS0:=Aa (fun(W:World) (h:Below W1.heap.size W1 W)=>(And.intro (Ev.cells (N1.out.same h).ev).1 ((N1.out.same h).bx.2.1 2):W.cell? ⟨g,0,none⟩=some (.slice lda ds.length ldc)∧W.cell? ⟨w.heap.size,2,none⟩=some (.string x.s)));clear hW;refine wp_region_held_drew (S:=(fun W'=>W'.cell? ⟨g,0,none⟩=some (.slice lda ds.length ldc)∧W'.cell? ⟨w.heap.size,2,none⟩=some (.string x.s))) (by kernel_rfl) (by first | (dsimp only;exact HS0.out _ (Below.refl _ _).drew) | (exact HS0.out _ (Below.refl _ _).drew)) (fun hHeld=> ?_);generalize hxd:World.drew _=x1 at hHeld ⊢;have hd1:Below W1.heap.size W1 x1:=by rw[←hxd];exact(Ac _ _).drew
 have N2:=Aa (N1.out.same hd1);clear hxd;refine tkH (i:=0) ?_;refine tkH (i:=1) ?_;refine tkH (i:=2) ?_;refine tkH (i:=3) ?_;refine tkH (i:=4) ?_;refine tkH (i:=5) ?_;refine rdH (i:=6) (fun K hK=> ?_);go_simp;refine(CO.out x1 _ N2.out.tw).mono ?_;rintro e W6 ⟨rfl,rfl⟩;refine bkH hK (by first | (dsimp only;exact HS0.out _ hd1) | (exact HS0.out _ hd1)) (fun hHeld=> ?_);clear hK K;refine tkH (i:=7) ?_;refine tkH (i:=8) ?_;refine tkH (i:=9) ?_;refine tkH (i:=10) ?_;refine tkH (i:=11) ?_;refine Bs (by kernel_rfl) ?_ _;obtain⟨ia,hia⟩:∃z,(Bg ds x.s).1=z:=⟨_,rfl⟩;obtain⟨ib,hib⟩:∃z,(Bg ds x.s).2=z:=⟨_,rfl⟩;rw[hia,hib];have HIA:=Aa hia;have HIB:=Aa hib;have qb:=N2.out.bx.2.1;have lb:=N2.out.bx.1;have hs2:=hd1.size;clear hia hib hHeld hd1;go_wp2_with fail;generalize hT:Wa _ _=W3;obtain⟨b3,k3⟩:=Bx.alloc hT;obtain⟨T,hTT⟩:∃z,W6.heap.size=z:=⟨_,rfl⟩;rw[hTT]at k3 b3 ⊢;have N3:=Aa (N2.out.same (by rw[hTT];exact b3));have hTw:w.heap.size+2≤T:=by omega
 have C0:CnS B g T X (.slice lda ds.length ldc) x.s w r #[.int .i64 x.op,.int .i64 x.n,.string x.s,.string x.t,.slice ka x.kids.length kc] W3 r (.ok () s) AB 0 (fun _=> #[]) [] (fun b=>X b∨b=T∨b=w.heap.size+1):=
  ⟨N3.out,k3,fun e=>by have:=(PP.out.ev.row _ e).2;omega,hgw,hTw,by exact World.ownsRow_nil _ _ _ _,fun j hj=>absurd hj (Ay j),fun q e=>by simp[Value.ownBlock]at e,fun b hb=> .inl hb,fun b hb hy=>by
   rcases hy with hy |hy |hy
   ·exact hy
   ·omega
   ·omega,fun b hy=>by
   have:=N3.out.rx.1;rcases hy with hy |hy |hy
   ·have:=hX b hy;omega
   ·rw[hy];exact k3.1
   ·rw[hy];exact this,.inr (.inl rfl),.inr (.inr rfl),fun t ht=>⟨rfl,fun j hj=>absurd hj (Ay j)⟩⟩
 clear qb lb hT b3 k3 hs1 hs2
 go_loopw [10] (fun i wr=>∃ (k:Nat) (rW:Option Nat) (σ:Rs Unit) (kv:Value) (cs:Nat→Array Value) (vs:List Vl) (Y:Nat→Prop),k≤x.kids.length∧i= .int .i64 k∧CnS B g T X (.slice lda ds.length ldc) x.s w r #[.int .i64 x.op,.int .i64 x.n,.string x.s,.string x.t,.slice ka x.kids.length kc] wr rW σ kv k cs vs Y∧Hid (KInv (Ai ar m) env x.kids s k σ vs)∧Hid (∀t,σ= .ok () t→t.fuel≤s.fuel∧t.out.length+t.fuel≤4000)) (fun i _=>x.kids.length - (intOf i).toNat)
 case atStart=>exact⟨0,_,_,_,_,_,_,Av _,rfl,C0,Aa (KInv.zero _ _ _ _),Aa (fun t ht=>by cases ht;exact⟨Ad _,PP.out.sz⟩)⟩
 case round=>
  clear C0;obtain⟨k,rW,σ,kv,cs,vs,Y,hk,rfl,hC,hki,hft⟩:=hrel;have C:=Aa hC;clear hC;have qb:=C.out.now.bx.2.1;have lb:=C.out.now.bx.1;by_cases hlt:k < x.kids.length
  ·obtain⟨b,off,cap',kvy,hv',hB',hbs',hcap',⟨d0,d1,d2,d3,d4⟩,hka⟩:=(PP.out.rkW C.out.now.tw).at_ hlt;cases hv'
   have hki1:(k:Int) < (x.kids.length:Int):=by omega
   have hk0:(0:Int)≤ (k:Int):=by omega
   obtain⟨kya,kyc,rfl⟩:=hka.form;have HKA:=Aa hka;have hny:=HNK.out k hlt;have hmy:=HM.out k hlt;have HKS:=Aa (hki.out.step hlt);clear hka;generalize x.kids[k]=y at*;obtain⟨va,vc,rfl⟩:=A2 C.out.own;have HQ:=Aa (fun(W':World) (r':Option Nat) (t:Tw g rW r' wr W')=>(by
    have k3:=C.out.now.bx.tw t C.out.now.ng C.out.now.nb;have k4:=C.out.bt.tw t (by have:=C.out.hT;omega) C.out.nt;have b3:=C.out.now.ev.tw t;exact⟨k4.2.1 3,k3.2.1 4,(b3.cell (p:=⟨b,off+k*5,none⟩) hB').trans d0,(b3.cell (p:=⟨b,off+k*5+1,none⟩) hB').trans d1,(b3.cell (p:=⟨b,off+k*5+2,none⟩) hB').trans d2,(b3.cell (p:=⟨b,off+k*5+3,none⟩) hB').trans d3,(b3.cell (p:=⟨b,off+k*5+4,none⟩) hB').trans d4⟩:W'.cell? ⟨T,3,none⟩=some (.slice va k vc)∧W'.cell? ⟨w.heap.size,4,none⟩=some (.slice (some ⟨b,off,none⟩) x.kids.length kc)∧W'.cell? ⟨b,off+k*5,none⟩=some (.int .i64 y.op)∧W'.cell? ⟨b,off+k*5+1,none⟩=some (.int .i64 y.n)∧W'.cell? ⟨b,off+k*5+2,none⟩=some (.string y.s)∧W'.cell? ⟨b,off+k*5+3,none⟩=some (.string y.t)∧W'.cell? ⟨b,off+k*5+4,none⟩=some (.slice kya y.kids.length kyc)))
   have TB:=Aa (fun(W':World) (h:Below wr.heap.size wr W')=>(Tw.of_below h (fun k e=>(C.out.now.ev.row k e).2):Tw g rW rW wr W'));clear d0 d1 d2 d3 d4;go_wp2_with fail;clear qb lb;refine BP 12 (S:=(fun W'=>W'.cell? ⟨T,3,none⟩=some (.slice va k vc)∧W'.cell? ⟨w.heap.size,4,none⟩=some (.slice (some ⟨b,off,none⟩) x.kids.length kc)∧W'.cell? ⟨b,off+k*5,none⟩=some (.int .i64 y.op)∧W'.cell? ⟨b,off+k*5+1,none⟩=some (.int .i64 y.n)∧W'.cell? ⟨b,off+k*5+2,none⟩=some (.string y.s)∧W'.cell? ⟨b,off+k*5+3,none⟩=some (.string y.t)∧W'.cell? ⟨b,off+k*5+4,none⟩=some (.slice kya y.kids.length kyc))) (by kernel_rfl) (by kernel_rfl) (by first | (dsimp only;exact HQ.out _ _ (TB.out _ (Below.refl _ _).drew)) | (exact HQ.out _ _ (TB.out _ (Below.refl _ _).drew))) (fun hHeld=> ?_);generalize hxd:World.drew _=x2 at hHeld ⊢;have hd1:Below wr.heap.size wr x2:=by rw[←hxd];exact(Ac _ _).drew
   clear hxd;have C2:=Aa (C.out.same hd1);have T2:=Aa (TB.out _ hd1);have PRE:=Aa (fun(t:Es) (h:σ= .ok () t)=>(And.intro (by have:=(hft.out t h).1;omega) (C2.out.pre PP.out h hny hmy (hft.out t h).2 (hft.out t h).1 (HKA.out.later (C.out.now.ev.tw T2.out) (Ad _))):t.fuel≤m∧SPre B Y g (.slice lda ds.length ldc) ds y (.slice kya y.kids.length kyc) (.slice ea env.length ec) env t x2 rW));refine tkT (i:=0) ?_;refine tkT (i:=1) ?_;refine tkT (i:=2) ?_;refine tkT (i:=3) ?_;refine tkT (i:=4) ?_;refine tkT (i:=5) ?_;refine tkT (i:=6) ?_;refine tkT (i:=7) ?_;refine tkT (i:=8) ?_;refine rdT (i:=9) (fun K hK=> ?_);go_simp;refine(G6 IH.out C2.out.now.ev PRE.out ⟨_,_,_,rfl⟩ ⟨_,_,_,rfl⟩).mono ?_;rintro e W4 ⟨c4,r4,rfl,t4,h4⟩;have H4:=Aa h4;have HF4:=Aa h4.formS;obtain⟨kd4,nn4,ss4,a14,l14,c14,xx4,a24,l24,c24,arg4,self4,a34,l34,c34,rfl⟩:=h4.formS;unfold svC;refine bkT hK (by first | (dsimp only;exact HQ.out _ _ (T2.out.trans t4)) | (exact HQ.out _ _ (T2.out.trans t4))) (fun hHeld=> ?_);clear hK K;have C4:=Aa (C2.out.call t4 h4.evS (fun t ht=>by
    cases σ with
    |ok u t0=>exact⟨t0,rfl⟩
    |bad c o=>cases ht))
   have T4:=Aa (T2.out.trans t4);refine rdT (i:=10) (fun K hK=> ?_);go_simp;generalize hy:Wa _ _=W5;obtain⟨b5,k5⟩:=Bx.alloc hy;refine bkT hK (by first | (dsimp only;exact HQ.out _ _ (T4.out.trans (C4.out.now.ev.same b5).2)) | (exact HQ.out _ _ (T4.out.trans (C4.out.now.ev.same b5).2))) (fun hHeld=> ?_);clear hK K;have C5:=Aa (C4.out.same b5);have OWN:=Aa C5.out.own;have HLT:=C4.out.hT;have T5:=Aa (T4.out.trans (C4.out.now.ev.same b5).2);have HV5:=Aa (fun(t:Es) (ht:(σ.bind fun _ s1=>Ai ar m y env s1).st= .ok () t)=>(by
    have h1:=Rs.st_ok ht;have h2:=H4.out;rw[h1]at h2;exact h2.1.later (C4.out.now.ev.same b5).2 (C4.out.now.ev.tw (C4.out.now.ev.same b5).2)))
   have hsz5:=b5.size;have hsz4:=C4.out.bt.1;refine Dn (rs:=[11]) (by kernel_rfl) (by simp) ?_;refine AllReadyT.cons (by (simp only[List.getElem?_toArray,List.getElem?_cons_succ,List.getElem?_cons_zero];rfl)) (fun K hK=> ?_) AllReadyT.nil;rw[Ag (by rfl)];refine ED _ _ 103 rfl (T+1) 106 i0 _ 12 184 Tryz.underlying103 hi0 hz0 hz1 hz2 rfl (by decide) _ _ _ rfl OWN.out #[.int .i64 kd4,.int .i64 nn4,.string ss4,.slice a14 l14 c14,.int .i64 xx4.op,.int .i64 xx4.n,.string xx4.s,.string xx4.t,.slice a24 l24 c24,.string arg4,.string self4,.slice a34 l34 c34] rfl ?_ W4.heap.size rfl ?_ ?_ ?_ ?_ ?_
   ·simp[Value.oneCell']
   ·exact k5.2.1
   ·unfold maxLen;omega
   ·omega
   ·omega
   ·intro v6 w6 o6 g6 alt;obtain⟨v6a,v6c,rfl⟩:=A2 o6;have C6:=Aa (C5.out.app (c:=svC kd4 nn4 ss4 (.slice a14 l14 c14) xx4 (.slice a24 l24 c24) arg4 self4 (.slice a34 l34 c34)) (v:=(σ.bind fun _ s1=>Ai ar m y env s1).val) rfl HV5.out o6 g6 alt);have hqb:=C5.out.qb;have hT:=C5.out.hT;have N6:=Aa (C5.out.now.grown g6 (fun q e=>by
     have h1:=hqb q e;exact⟨by omega,by omega,by omega,by omega,(C5.out.nq q e).1⟩))
    have K6:=Aa (C5.out.bt.grown g6 (fun e=>by have:=hqb _ e.symm;omega));have S6:w6.cell? ⟨T,3,none⟩=some (.slice va k vc)∧w6.cell? ⟨w.heap.size,4,none⟩=some (.slice (some ⟨b,off,none⟩) x.kids.length kc)∧w6.cell? ⟨b,off+k*5,none⟩=some (.int .i64 y.op)∧w6.cell? ⟨b,off+k*5+1,none⟩=some (.int .i64 y.n)∧w6.cell? ⟨b,off+k*5+2,none⟩=some (.string y.s)∧w6.cell? ⟨b,off+k*5+3,none⟩=some (.string y.t)∧w6.cell? ⟨b,off+k*5+4,none⟩=some (.slice kya y.kids.length kyc):=by
     have h0:=HQ.out _ _ T5.out;have hBl:Below B W5 w6:=Below.of_grown g6 C5.out.now.ev.gB.2 (fun q e=>by have:=hqb q e;omega);exact⟨K6.out.2.1 3,N6.out.bx.2.1 4,(hBl.cell (p:=⟨b,off+k*5,none⟩) hB').trans h0.2.2.1,(hBl.cell (p:=⟨b,off+k*5+1,none⟩) hB').trans h0.2.2.2.1,(hBl.cell (p:=⟨b,off+k*5+2,none⟩) hB').trans h0.2.2.2.2.1,(hBl.cell (p:=⟨b,off+k*5+3,none⟩) hB').trans h0.2.2.2.2.2.1,(hBl.cell (p:=⟨b,off+k*5+4,none⟩) hB').trans h0.2.2.2.2.2.2⟩
    refine hK.out _ _ (by first | (dsimp only;exact S6) | (exact S6)) (fun hHeld=> ?_);clear hK K
    try simp only[Act.put,List.setIfInBounds_toArray,List.set_cons_zero,List.set_cons_succ]
    have q6:=K6.out.2.1;have f6:=K6.out.2.2;have y6:=K6.out.1;have HFT:=Aa (fun(t:Es) (ht:(σ.bind fun _ s1=>Ai ar m y env s1).st= .ok () t)=>(by
     have h1:=Rs.st_ok ht;obtain⟨s1,hs1,he1⟩:∃s1,σ= .ok () s1∧Ai ar m y env s1= .ok (σ.bind fun _ s1=>Ai ar m y env s1).val t:=by
      cases σ with
      |ok u s1=>exact⟨s1,rfl,h1⟩
      |bad c o=>cases ht
     have h2:=hft.out s1 hs1;have h3:=PP.out.kid hny hmy h2.2 h2.1 he1;exact⟨by omega,h3.2.2.2⟩:t.fuel≤s.fuel∧t.out.length+t.fuel≤4000))
    clear S6 b5 hy k5 o6 g6 alt hqb hd1 t4 h4;refine BO (by kernel_rfl) ?_;dsimp only[List.drop];go_wp2;go_roundw
    case rel=>exact⟨k+1,_,_,_,_,vs++ [(σ.bind fun _ s1=>Ai ar m y env s1).val],_,hlt,by go_num,C6.out,HKS,HFT⟩
    case measure=>simp[intOf];omega
  ·obtain rfl:k=x.kids.length:=by omega
   have HKD:=Aa hki.out.done;have HDT:=Aa (PP.out.dtW C.out.now.tw);have qg:=C.out.now.ev;have q0:=EvS.cell0 C.out.now.ev;have lg:=C.out.now.ev.lt;have hki1:¬((x.kids.length:Int) < (x.kids.length:Int)):=by omega
   clear qg hlt hki;rcases Gv ds x.s with ⟨hco, -⟩ |⟨di,hdi,dk,hdk,hco, -, -, -⟩
   ·have HNO:=Aa (show ¬(ar x.s=some x.kids.length)by rw[HAN.out hco];simp);obtain rfl:ia= -1:=by rw[←HIA.out,hco]
    obtain rfl:ib= -1:=by rw[←HIB.out,hco]
    clear hco;go_wp2_with fail;go_quiet (fail);generalize hxy:World.drewN _ _=W7;have C7:=Aa (C.out.same (Still.below ⟨_,hxy.symm⟩ _));clear hxy qb lb q0 lg;go_wp2_with fail;refine(Hq C7.out.now.ev).mono ?_;rintro e W8 ⟨rfl,t8,e8⟩;have N8:=Aa (C7.out.now.step t8 e8);clear e8 t8;unfold sv0;have K9:=Aa N8.out.rx;have ck:=K9.out.2.1;have fk:=K9.out.2.2;have yk:=K9.out.1;unfold sv0 at ck;go_wp2;generalize hz:Ws (Ws _ _ _) _ _=z;obtain⟨k9,g9⟩:=Bx.set12 K9.out (.int .i64 0) (.int .i64 0) (.string ⟨#[]⟩) (.slice none 0 0) (.int .i64 0) (.int .i64 0) (.string ⟨#[]⟩) (.string ⟨#[]⟩) (.slice none 0 0) (.string ⟨#[]⟩) (.string ⟨#[]⟩) (.slice none 0 0);rw[hz]at k9 g9;have c9:=k9.2.1;refine AA (v:= .agg (sv0)) ?_ rfl ?_
    ·simp[results,Tryz.results124,go_sem,c9,sv0]
    ·rw[HE.out,HKD.out,show((σ.bind fun _ s1=>Rs.ok vs s1).bind fun vs s1=>if ar x.s=some x.kids.length then Rs.ok (Vl.con x.s vs) s1 else .bad 2 s1.out)=Ep σ from by cases σ <;> first |rfl | (dsimp only[Rs.bind,Ep];rw[if_neg HNO.out])];exact Sw.fin (res:=Ep σ) N8.out (.stuck N8.out.ev) hBw g9
   ·have HA:=Aa (HAR.out di dk hdi hdk hco);obtain rfl:ia= (di:Int):=by rw[←HIA.out,hco]
    obtain rfl:ib= (dk:Int):=by rw[←HIB.out,hco]
    obtain⟨eb,eo,ecap,ecv,hev,heB,hebs, -, -, -,e2,hcr⟩:=HDT.out.at_ hdi;cases hev
    obtain⟨fb,fo,fcap,fav,hfv,hfB,hfbs, -, -,f1,har2⟩:=hcr.at_ hdk;cases hfv
    obtain⟨aa,ac,rfl⟩:=har2.form;have hdi1:(di:Int) < (ds.length:Int):=by omega
    have hdi0:(0:Int)≤ (di:Int):=by omega
    have hdin:¬((di:Int) < 0):=by omega
    have hdk1:(dk:Int) < (ds[di].cons.length:Int):=by omega
    have hdk0:(0:Int)≤ (dk:Int):=by omega
    clear hco hcr har2;generalize hal:ds[di].cons[dk].args.length=al at*;clear hal;by_cases hle:al=x.kids.length
    ·have hleb:((al:Int) !=(x.kids.length:Int))=false:=by rw[hle];simp
     have HYES:=Aa (show ar x.s=some x.kids.length by rw[HA.out,hle]);clear hle;obtain⟨va,vc,rfl⟩:=A2 C.out.own;go_wp2_with fail;go_quiet (fail);generalize hxy:World.drewN _ _=W7;have C7:=Aa (C.out.same (Still.below ⟨_,hxy.symm⟩ _));clear hxy qb lb q0 lg e2 f1;have qt:=C7.out.bt.2.1;have lt:=C7.out.bt.1;have hRES:=Aa (show ResS B (Xq X (w.heap.size+1)) g (.slice (some ⟨eb,eo,none⟩) ds.length ldc) (σ.bind fun _ s1=> .ok (.con x.s vs) s1) (svC 2 0 x.s (.slice va x.kids.length vc) Nd.zero AB eS eS AB) W7 rW by
      have he:=C7.out.now.ev;cases σ with
      |ok u t=>exact⟨C7.out.done rfl hX,he⟩
      |bad c o=>exact⟨⟨_,_,_,_,_,_,_,_,_,_,_,_,_,_,_,rfl⟩,he⟩)
     have N8:=Aa (show Sw B g (.slice (some ⟨eb,eo,none⟩) ds.length ldc) w r W7 rW (σ.bind fun _ s1=>Rs.ok (Vl.con x.s vs) s1).st #[.int .i64 x.op,.int .i64 x.n,.string x.s,.string x.t,.slice ka x.kids.length kc] (w.heap.size+1)by
      have h8:=C7.out.now;cases σ <;> exact h8)
     unfold svC at qt;have K9:=Aa N8.out.rx;have ck:=K9.out.2.1;have fk:=K9.out.2.2;have yk:=K9.out.1;unfold sv0 at ck;go_wp2;generalize hz:Ws (Ws _ _ _) _ _=z;obtain⟨k9,g9⟩:=Bx.set12 K9.out (.int .i64 2) (.int .i64 0) (.string x.s) (.slice va x.kids.length vc) (.int .i64 Nd.zero.op) (.int .i64 Nd.zero.n) (.string Nd.zero.s) (.string Nd.zero.t) AB (.string eS) (.string eS) AB;rw[hz]at k9 g9;have c9:=k9.2.1;refine AA (v:= .agg (svC 2 0 x.s (.slice va x.kids.length vc) Nd.zero AB eS eS AB)) ?_ rfl ?_
     ·simp[results,Tryz.results124,go_sem,c9,svC]
     ·rw[HE.out,HKD.out,show((σ.bind fun _ s1=>Rs.ok vs s1).bind fun vs s1=>if ar x.s=some x.kids.length then Rs.ok (Vl.con x.s vs) s1 else .bad 2 s1.out)=σ.bind fun _ s1=>Rs.ok (Vl.con x.s vs) s1 from by cases σ <;> first |rfl | (dsimp only[Rs.bind];rw[if_pos HYES.out])];exact Sw.fin (res:=σ.bind fun _ s1=> .ok (.con x.s vs) s1) N8.out hRES.out hBw g9
    ·have hleb:((al:Int) !=(x.kids.length:Int))=true:=by rw[bne_iff_ne];omega
     have HNO:=Aa (show ¬(ar x.s=some x.kids.length)by rw[HA.out];exact fun h=>hle (Ah h));clear hle;go_wp2_with fail;go_quiet (fail);generalize hxy:World.drewN _ _=W7;have C7:=Aa (C.out.same (Still.below ⟨_,hxy.symm⟩ _));clear hxy qb lb q0 lg e2 f1;go_wp2_with fail;refine(Hq C7.out.now.ev).mono ?_;rintro e W8 ⟨rfl,t8,e8⟩;have N8:=Aa (C7.out.now.step t8 e8);clear e8 t8;unfold sv0;have K9:=Aa N8.out.rx;have ck:=K9.out.2.1;have fk:=K9.out.2.2;have yk:=K9.out.1;unfold sv0 at ck;go_wp2;generalize hz:Ws (Ws _ _ _) _ _=z;obtain⟨k9,g9⟩:=Bx.set12 K9.out (.int .i64 0) (.int .i64 0) (.string ⟨#[]⟩) (.slice none 0 0) (.int .i64 0) (.int .i64 0) (.string ⟨#[]⟩) (.string ⟨#[]⟩) (.slice none 0 0) (.string ⟨#[]⟩) (.string ⟨#[]⟩) (.slice none 0 0);rw[hz]at k9 g9;have c9:=k9.2.1;refine AA (v:= .agg (sv0)) ?_ rfl ?_
     ·simp[results,Tryz.results124,go_sem,c9,sv0]
     ·rw[HE.out,HKD.out,show((σ.bind fun _ s1=>Rs.ok vs s1).bind fun vs s1=>if ar x.s=some x.kids.length then Rs.ok (Vl.con x.s vs) s1 else .bad 2 s1.out)=Ep σ from by cases σ <;> first |rfl | (dsimp only[Rs.bind,Ep];rw[if_neg HNO.out])];exact Sw.fin (res:=Ep σ) N8.out (.stuck N8.out.ev) hBw g9
structure WnS (B g:Nat) (lv:Value) (w:World) (r:Option Nat) (cur:Array Value) (W:World) (rW:Option Nat) (σ:Rs Unit) (v:Value) (xs:List Int):Prop where
 now:Sw B g lv w r W rW σ cur (w.heap.size+1)
 own:W.ownsRow (w.heap.size+2) 3 1 v xs.length (xs.map (Value.int .i64))
 nq:∀q,v.ownBlock=some q→rW≠some q
 gt:g < w.heap.size
section
variable {B g:Nat}{lv:Value}{w:World}{r:Option Nat}{cur:Array Value}{W:World}{rW:Option Nat}{σ:Rs Unit}{v:Value}{xs:List Int}
theorem WnS.call (h:WnS B g lv w r cur W rW σ v xs) {W':World}{r':Option Nat}{σ':Rs Unit}(t:Tw g rW r' W W') (e:EvS B g lv σ' W' r'):WnS B g lv w r cur W' r' σ' v xs:=
 ⟨h.now.step t e,Lq h.own t (fun q hq=>⟨by have:=(h.own.lt q hq).1;have:=h.gt;omega,h.nq q hq⟩),fun q hq=>t.nb (h.nq q hq) (h.own.lt q hq).2,h.gt⟩
theorem WnS.same (h:WnS B g lv w r cur W rW σ v xs) {W':World}(b:Below W.heap.size W W'):WnS B g lv w r cur W' rW σ v xs:=
 h.call (h.now.ev.same b).2 (h.now.ev.same b).1
theorem WnS.app (h:WnS B g lv w r cur W rW σ v xs) {x:Int}{v':Value}{w4:World}(ho:w4.ownsRow (w.heap.size+2) 3 1 v' (xs.length+1) (xs.map (Value.int .i64)++ [.int .i64 x])) (hg:W.grownBy w4 v.ownBlock) (hat:v'.ownBlock=v.ownBlock∨ ∃k,W.heap.size≤k∧v'.ownBlock=some k):
  WnS B g lv w r cur w4 rW σ v' (xs++ [x]):=by
 have hgt:=h.gt;refine⟨h.now.grown hg (fun q e=>by
  have h1:=h.own.lt q e;exact⟨by omega,by omega,by omega,by omega,h.nq q e⟩),by simpa using ho,fun q hq e=> ?_,h.gt⟩
 rcases hat with e2 |⟨k,hk,e2⟩
 ·exact h.nq q (by rw[←e2];exact hq) e
 ·rw[e2]at hq;have:=Ah hq;have:=(h.now.ev.row q e).2;omega
end
def BE (E:Nd→Env→Es→Rs Vl) (env:Env):List Nd→Es→Rs (List Int)
 | [],s=> .ok [] s
 |k::ks,s=>(E k env s).bind fun v s1=>(asInt v s1).bind fun a s2=>(BE E env ks s2).bind fun zs s3=> .ok (a::zs) s3
def EG (xs:List Int) (r:Rs (List Int)):Rs (List Int):=r.bind fun us s=> .ok (xs++us) s
theorem Ww (r:Rs (List Int)):EG [] r=r:=by cases r <;> rfl
def IInv (E:Nd→Env→Es→Rs Vl) (env:Env) (ks:List Nd) (s:Es) (k:Nat) (σ:Rs Unit) (xs:List Int):Prop:=match σ with
 | .ok _ s1=>EG xs (BE E env (ks.drop k) s1)=BE E env ks s
 | .bad c o=>BE E env ks s= .bad c o
theorem IInv.zero (E:Nd→Env→Es→Rs Vl) (env:Env) (ks:List Nd) (s:Es):IInv E env ks s 0 (.ok () s) []:=Ww _
section
variable {E:Nd→Env→Es→Rs Vl}{env:Env}{ks:List Nd}{s:Es}{k:Nat}{σ:Rs Unit}{xs:List Int}
theorem IInv.bad (h:IInv E env ks s k σ xs) (hk:k < ks.length) {c:Int}{o:List Int}(he:(σ.bind fun _ s1=>E ks[k] env s1)= .bad c o) (ys:List Int) (k':Nat):IInv E env ks s k' (.bad c o) ys:=by
 cases σ with
 |bad c1 o1=>cases he;exact h
 |ok u s1=>
  have h:EG xs (BE E env (ks.drop k) s1)=BE E env ks s:=h;have he:E ks[k] env s1= .bad c o:=he;rw[List.drop_eq_getElem_cons hk,BE,he]at h;exact h.symm
theorem IInv.int (h:IInv E env ks s k σ xs) (hk:k < ks.length) {v:Vl}{s2:Es}(he:(σ.bind fun _ s1=>E ks[k] env s1)= .ok v s2) {a:Int}(ha:asInt v s2= .ok a s2):IInv E env ks s (k+1) (.ok () s2) (xs++ [a]):=by
 cases σ with
 |bad c1 o1=>cases he
 |ok u s1=>
  have h:EG xs (BE E env (ks.drop k) s1)=BE E env ks s:=h;have he:E ks[k] env s1= .ok v s2:=he;rw[List.drop_eq_getElem_cons hk,BE,he]at h;dsimp only[Rs.bind]at h;rw[ha]at h;dsimp only[Rs.bind]at h
  show EG (xs++ [a]) (BE E env (ks.drop (k+1)) s2)=BE E env ks s
  rw[←h];cases BE E env (ks.drop (k+1)) s2 with
  |ok zs s3=>simp[EG,Rs.bind]
  |bad c o=>rfl
theorem IInv.not (h:IInv E env ks s k σ xs) (hk:k < ks.length) {v:Vl}{s2:Es}(he:(σ.bind fun _ s1=>E ks[k] env s1)= .ok v s2) (ha:asInt v s2= .bad 2 s2.out) (ys:List Int) (k':Nat):IInv E env ks s k' (.bad 2 s2.out) ys:=by
 cases σ with
 |bad c1 o1=>cases he
 |ok u s1=>
  have h:EG xs (BE E env (ks.drop k) s1)=BE E env ks s:=h;have he:E ks[k] env s1= .ok v s2:=he;rw[List.drop_eq_getElem_cons hk,BE,he]at h;dsimp only[Rs.bind]at h;rw[ha]at h;exact h.symm
theorem IInv.done (h:IInv E env ks s ks.length σ xs):BE E env ks s=σ.bind fun _ s1=> .ok xs s1:=by
 cases σ with
 |bad c o=>exact h
 |ok u s1=>
  have h:EG xs (BE E env (ks.drop ks.length) s1)=BE E env ks s:=h;rw[Ff,BE]at h;rw[←h];simp[EG,Rs.bind]
end
theorem Wx {ar:Str→Option Nat}{E:Nd→Env→Es→Rs Vl}{x:Nd}{env:Env}{s:Es}{a:Nd}(h:x.op=16) (hk:x.kids=[a]):AF ar E x env s= (BE E env x.kids s).bind fun xs s1=> .ok (.int (xs.getD 0 0)) ⟨s1.fuel,s1.out++ [xs.getD 0 0]⟩:=by
 rw[Ow h,show x.kid 0=a by unfold Nd.kid;rw[hk];rfl,hk];unfold BE BE;cases E a env s with
 |bad c o=>rfl
 |ok v s1=>
  cases v with
  |int n=>rfl
  |_=>rfl
theorem Wy {ar:Str→Option Nat}{E:Nd→Env→Es→Rs Vl}{x:Nd}{env:Env}{s:Es}{a b:Nd}(h:10≤x.op∧x.op≤14) (hk:x.kids=[a,b]):AF ar E x env s= (BE E env x.kids s).bind fun xs s1=> .ok (.int (Df x.op (xs.getD 0 0) (xs.getD 1 0))) s1:=by
 rw[Gj h,show x.kid 0=a by unfold Nd.kid;rw[hk];rfl,show x.kid 1=b by unfold Nd.kid;rw[hk];rfl,hk];unfold BE BE BE;cases E a env s with
 |bad c o=>rfl
 |ok v s1=>
  cases v with
  |int n=>
   dsimp only[Rs.bind,asInt];cases E b env s1 with
   |bad c o=>rfl
   |ok v2 s2=>
    cases v2 with
    |int n2=>rfl
    |_=>rfl
  |_=>rfl
theorem Ev.app' {B g:Nat}{lv:Value}{W w4:World}{f:Int}{o:List Int}{r:Option Nat}{ov v':Value}{x:Int}(h:Ev B g lv W f 0 o r) (hb:Bx W g #[lv,.int .i64 f,.int .i64 0,ov]) (hr:ov.ownBlock=r)
  (ho:w4.ownsRow B 3 1 v' (o.length+1) (o.map (Value.int .i64)++ [.int .i64 x])) (hg:W.grownBy w4 ov.ownBlock) (hat:v'.ownBlock=ov.ownBlock∨ ∃k,W.heap.size≤k∧v'.ownBlock=some k):
  Ev B g lv (w4.setCell ⟨g,3,none⟩ v') f 0 (o++ [x]) v'.ownBlock∧Tw g r v'.ownBlock W (w4.setCell ⟨g,3,none⟩ v'):=by
 have hne:v'.ownBlock≠some g:=by
  rcases hat with e |⟨k,hk,e⟩
  ·rw[e,hr];exact h.ne
  ·rw[e];intro e2;have:=Ah e2;have:=h.lt;omega
 have hne2:some g≠ov.ownBlock:=by rw[hr];exact fun e=>h.ne e.symm
 have k4:=hb.grown hg hne2;have hlt:∀k,v'.ownBlock=some k→B≤k∧k < w4.heap.size:=fun k e=>ho.lt k e;refine⟨⟨⟨v',by simpa using k4.st 3 (by simp) v',?_,rfl⟩,⟨h.gB.1,by rw[AS];exact Ar h.gB.2 hg.size⟩,hne⟩,⟨hg.os,hg.tape,hg.output,by rw[AS];exact hg.size,fun k hk hkg hkr=> ?_,fun k e=>⟨?_,by rw[AS];exact(hlt k e).2⟩,fun _=>hne⟩⟩
 ·have:=ho.kept (grownBy.setCell w4 g 3 v') (.inr hne)
  simpa using this
 ·exact((grownBy.setCell w4 g 3 v').block k (Aj hk hg.size) (fun e=>hkg (Ah e))).trans (hg.block k hk (fun e=>hkr (by rw[←hr];exact e.symm)))
 ·rcases hat with e2 |⟨j,hj,e2⟩
  ·rw[e2,hr]at e;exact .inl e
  ·rw[e2]at e;have:=Ah e;right;omega
theorem Tryz.infoIw:(Tryz.prog.info? 3).map (fun i=>(i.zero,i.size,i.bytes))=some (some (.int .i64 0),1,8):=by kernel_rfl
theorem SPre.start_w {B g:Nat}{X:Nat→Prop}{lv:Value}{ds:List Dt}{x:Nd}{kv ev:Value}{env:Env}{s:Es}{w W:World}{r:Option Nat}(h:SPre B X g lv ds x kv ev env s w r) {cur:Array Value}{e e2:TypeId}(hW:((w.alloc (.cells cur e)).alloc (.cells sv0 e2)).alloc (.cells #[] 3)=W):Sw B g lv w r W r (.ok () s) cur (w.heap.size+1)∧W.ownsRow (w.heap.size+2) 3 1 (.slice (some ⟨w.heap.size+2,0,none⟩) 0 0) 0 []:=by
 have N:=h.start2 (cur:=cur) (e:=e) (e2:=e2) rfl;rw[←hW];exact⟨N.same ((Ac _ _).alloc (Ad _) _),Ge (by simp) (Ad _)⟩
theorem OP {E1:Es→Rs Vl}{σ:Rs Unit}{v:Vl}{s2:Es}(h:(σ.bind fun _ s=>E1 s)= .ok v s2):∃s1,σ= .ok () s1∧E1 s1= .ok v s2:=by
 cases σ with
 |bad c o=>cases h
 |ok u s=>exact⟨s,rfl,h⟩
theorem Vq {B g:Nat}{lv:Value}{ds:List Dt}{ar:Str→Option Nat}{m:Nat}{X:Nat→Prop}{x:Nd}{kv ev:Value}{env:Env}{s:Es}{w:World}{r:Option Nat}(hm:s.fuel≤m) (hs1:s.out.length+s.fuel+1≤4000) (P:SPre B X g lv ds x kv ev env s w r) (ho:x.op=16) (IH:B8 B g lv ds ar m):
  Calls Pq 125 #[.pointer (some ⟨g,0,none⟩),ndV x kv,ev] w (BA B X g lv (AF ar (Ai ar m) x env s) r w):=by
 have PP:=Aa P;have IH:=Aa IH;have hX:=P.hx;obtain⟨ya,hkk,hna⟩:=FC P.np (.inr ho);have HE:=Aa (Wx (ar:=ar) (E:=Ai ar m) (env:=env) (s:=s) ho hkk);have HNK:=Aa (fun(k:Nat) (hk:k < x.kids.length)=>(by
  have h1:=As hk;generalize x.kids[k]=y at h1;rw[hkk]at h1;simp only[List.mem_cons,List.not_mem_nil,or_false]at h1;rw[h1];exact hna:Ao x.kids[k]=true))
 have HM:=Aa (fun(k:Nat) (hk:k < x.kids.length)=>(As hk:x.kids[k]∈x.kids));have HL:=Aa (show x.kids.length=1 by rw[hkk];rfl);obtain⟨ka,kc,rfl⟩:=P.rk.form;obtain⟨ea,ec,rfl⟩:=P.re.sc_form;have hks:x.kids.length≤2:=by rw[HL.out];decide
 have hgw:=P.ev.lt;have hBw:=P.ev.gB.2;have hob:(x.op==16)=true:=by simp;omega
 have HO:=Aa ho;obtain⟨i0,hi0,hz0,hz1,hz2⟩:=info_parts Tryz.infoIw;unfold ndV;clear P ho hkk;go_enter Tryz.func125,Tryz.ntmps125;go_wp2_with fail;generalize hW:Wa (Wa (Wa _ _) _) _=W1;obtain⟨N1,O1⟩:=PP.out.start_w hW;have C0:WnS B g lv w r #[.int .i64 x.op,.int .i64 x.n,.string x.s,.string x.t,.slice ka x.kids.length kc] W1 r (.ok () s) (.slice (some ⟨w.heap.size+2,0,none⟩) 0 0) []:=⟨N1,O1,fun q e=>by have:=(PP.out.ev.row q);simp[Value.ownBlock]at e;intro h;have:=(this h).2;omega,hgw⟩;clear hW N1 O1
 go_loopw [7,8] (fun l i wr=>∃ (k:Nat) (rW:Option Nat) (σ:Rs Unit) (va:Option Addr) (vc:Nat) (xs:List Int),k≤x.kids.length∧i= .int .i64 k∧l= .slice va xs.length vc∧WnS B g lv w r #[.int .i64 x.op,.int .i64 x.n,.string x.s,.string x.t,.slice ka x.kids.length kc] wr rW σ (.slice va xs.length vc) xs∧Hid (xs.length=k)∧Hid (IInv (Ai ar m) env x.kids s k σ xs)∧Hid (∀t,σ= .ok () t→t.fuel≤s.fuel∧t.out.length+t.fuel+1≤4000∧ ∀a∈xs, -1073741824≤a∧a≤1073741823)) (fun _ i _=>x.kids.length - (intOf i).toNat)
 case atStart=>exact⟨0,_,_,_,_,[],Av _,rfl,rfl,C0,Aa rfl,Aa (IInv.zero _ _ _ _),Aa (fun t ht=>by cases ht;exact⟨Ad _,hs1,by simp⟩)⟩
 case round=>
  clear C0;obtain⟨k,rW,σ,va,vc,xs,hk,rfl,rfl,hC,hkl,hki,hft⟩:=hrel;have C:=Aa hC;clear hC;have qb:=C.out.now.bx.2.1;have lb:=C.out.now.bx.1;have lg:=C.out.now.ev.lt;have hxl:xs.length≤2:=by rw[hkl.out];omega
  by_cases hlt:k < x.kids.length
  ·obtain⟨b,off,cap',kvy,hv',hB',hbs',hcap',⟨d0,d1,d2,d3,d4⟩,hka⟩:=(PP.out.rkW C.out.now.tw).at_ hlt;cases hv'
   have hki1:(k:Int) < (x.kids.length:Int):=by omega
   have hk0:(0:Int)≤ (k:Int):=by omega
   obtain⟨kya,kyc,rfl⟩:=hka.form;have HKA:=Aa hka;have hny:=HNK.out k hlt;have hmy:=HM.out k hlt;have HIB:=Aa (fun(c:Int) (o:List Int) (he:(σ.bind fun _ s1=>Ai ar m x.kids[k] env s1)= .bad c o) (ys:List Int)=>hki.out.bad hlt he ys (k+1));have HII:=Aa (fun(v:Vl) (s2:Es) (he:(σ.bind fun _ s1=>Ai ar m x.kids[k] env s1)= .ok v s2) (a:Int) (ha:asInt v s2= .ok a s2)=>hki.out.int hlt he ha);have HIN:=Aa (fun(v:Vl) (s2:Es) (he:(σ.bind fun _ s1=>Ai ar m x.kids[k] env s1)= .ok v s2) (ha:asInt v s2= .bad 2 s2.out) (ys:List Int)=>hki.out.not hlt he ha ys (k+1));clear hka;generalize x.kids[k]=y at*;go_wp2_with fail;clear d0 d1 d2 d3 d4 qb lb lg;have PRE:=Aa (fun(t:Es) (h:σ= .ok () t)=>(by
    have h1:=hft.out t h;have he:=C.out.now.ev;rw[h]at he;exact⟨by omega,PP.out.sub C.out.now.tw hny hmy (by omega) h1.1 he HKA.out (AQ _) C.out.now.rx.1⟩:t.fuel≤m∧SPre B (Xq X (w.heap.size+1)) g lv ds y (.slice kya y.kids.length kyc) (.slice ea env.length ec) env t wr rW))
   refine(G6 IH.out C.out.now.ev PRE.out ⟨_,_,_,rfl⟩ ⟨_,_,_,rfl⟩).mono ?_;rintro e W4 ⟨c4,r4,rfl,t4,h4⟩;have C4:=Aa (C.out.call t4 h4.evS);have H4:=Aa h4;have HBO:=Aa (fun v s2 h=>OP (E1:=fun s=>Ai ar m y env s) (σ:=σ) (v:=v) (s2:=s2) h);obtain⟨res,hres⟩:∃R,(σ.bind fun _ s1=>Ai ar m y env s1)=R:=⟨_,rfl⟩;rw[hres]at C4 H4;have HR:=Aa hres;obtain⟨kd4,nn4,ss4,a14,l14,c14,xx4,a24,l24,c24,arg4,self4,a34,l34,c34,rfl⟩:=h4.formS;clear h4 t4 hres;unfold svC;have lg:=C4.out.now.ev.lt;have hsz4:=C4.out.now.bx.1;have hrx4:=C4.out.now.rx.1;cases res with
   |bad cd o=>
    have HC:=Aa (show cd=1∨cd=2 from C4.out.now.ev.1);have hcb:(cd==0)=false:=by rcases HC.out with rfl |rfl <;> rfl
    have q2:W4.cell? ⟨g,2,none⟩=some (.int .i64 cd):=by
     obtain⟨f2,e2⟩:=C4.out.now.ev.2;exact e2.cells.2.2
    have OWN:=Aa (fun(cur:Array Value) (e:TypeId)=>(C4.out.same ((Ac _ _).alloc (Ad _) (.cells cur e))).own);have HI:=Aa (HIB.out cd o HR.out);go_wp2_with (at_builtin;refine Dj rfl _ _ 29 rfl (w.heap.size+2) 3 i0 (.int .i64 0) 1 8 Tryz.underlying29 hi0 hz0 hz1 hz2 rfl (by decide) _ _ _ rfl (OWN.out _ _) #[_] rfl ?_ (W4.heap.size+1) ?_ rfl ?_ ?_ ?_ ?_)
    ·rfl
    ·simp
    ·unfold maxLen;omega
    ·omega
    ·first |omega | (simp;done) | (simp;omega)
    ·intro v6 w6 o6 g6 alt;have C6:=Aa (WnS.app (C4.out.same ((Ac _ _).alloc (Ad _) _)) o6 g6 (by
      rcases alt with e |e
      ·exact .inl e
      ·exact .inr ⟨_,by first |exact AQ _ | (simp;done) | (simp;omega),e⟩))
     obtain⟨v6a,v6c,rfl⟩:=A2 o6;clear o6 g6 alt;go_wp2;go_roundw
     case rel=>exact⟨k+1,_,_,v6a,v6c,xs++ [nn4],hlt,by go_num,by simp only[AV,List.length_singleton],by have h:=C6.out;simp only[AV,List.length_singleton];exact h,Aa (by rw[AV,hkl.out];rfl),Aa (HI.out _),Aa (fun t ht=>by cases ht)⟩
     case measure=>simp[intOf];omega
   |ok v s4=>
    obtain⟨s1,hs1',he1⟩:=HBO.out v s4 HR.out;have HK:=Aa (PP.out.kid hny hmy (by have:=(hft.out s1 hs1').2.1;omega) (hft.out s1 hs1').1 he1);have HSM:=Aa (EF he1);have HFS:=Aa (hft.out s1 hs1');have HKN:=Aa (RdS.kn H4.out.1);have q2:W4.cell? ⟨g,2,none⟩=some (.int .i64 0):=Ev.cells C4.out.now.ev |>.2.2
    by_cases hkd:kd4=1
    ·have HA:=Aa (CX s4 (HKN.out.1.symm.trans hkd));rw[←HKN.out.2.1]at HA;have HW:=Aa (Dd HK.out.1);rw[←HKN.out.2.1]at HW;subst hkd;have OWN:=Aa (fun(cur:Array Value) (e:TypeId)=>(C4.out.same ((Ac _ _).alloc (Ad _) (.cells cur e))).own);have HI:=Aa (HII.out v s4 HR.out nn4 HA.out);go_wp2_with (at_builtin;refine Dj rfl _ _ 29 rfl (w.heap.size+2) 3 i0 (.int .i64 0) 1 8 Tryz.underlying29 hi0 hz0 hz1 hz2 rfl (by decide) _ _ _ rfl (OWN.out _ _) #[_] rfl ?_ (W4.heap.size+1) ?_ rfl ?_ ?_ ?_ ?_)
     ·rfl
     ·simp
     ·unfold maxLen;omega
     ·omega
     ·first |omega | (simp;done) | (simp;omega)
     ·intro v6 w6 o6 g6 alt;have C6:=Aa (WnS.app (C4.out.same ((Ac _ _).alloc (Ad _) _)) o6 g6 (by
       rcases alt with e |e
       ·exact .inl e
       ·exact .inr ⟨_,by first |exact AQ _ | (simp;done) | (simp;omega),e⟩))
      obtain⟨v6a,v6c,rfl⟩:=A2 o6;clear o6 g6 alt;go_wp2;go_roundw
      case rel=>exact⟨k+1,_,_,v6a,v6c,xs++ [nn4],hlt,by go_num,by simp only[AV,List.length_singleton],by have h:=C6.out;simp only[AV,List.length_singleton];exact h,Aa (by rw[AV,hkl.out];rfl),HI,Aa (fun t ht=>by cases ht;exact⟨by have:=HK.out.2.2.1;have:=HFS.out.1;omega,by have:=HSM.out;have:=HFS.out.2.1;omega,fun a ha=>(Ek.1 ha).elim (HFS.out.2.2 a) (fun e=>by rw[List.mem_singleton.1 e];exact HW.out)⟩)⟩
      case measure=>simp[intOf];omega
    ·have HA:=Aa (CY s4 (fun h=>hkd (HKN.out.1.trans h)));have hkb:(kd4 !=1)=true:=by simpa using hkd
     clear hkd;go_wp2_with fail;generalize hW5:Wa _ _=W5;obtain⟨b5,k5⟩:=Bx.alloc hW5;have C5:=Aa (C4.out.same b5);have hb5:=b5.size;have hn1:W4.heap.size≠g:=by have:=C4.out.now.ev.lt;omega
     have hn2:r4≠some W4.heap.size:=fun e=>by have:=(C4.out.now.ev.row _ e).2;omega
     clear q2 hW5 b5;refine(Hq C5.out.now.ev).mono ?_;rintro e W6 ⟨rfl,t6,e6⟩;have C6':=Aa (C5.out.call t6 e6);have K6:=k5.tw t6 hn1 hn2;have qk:=K6.2.1;have lk:=K6.1;have OWN:=Aa C6'.out.own;have hsz6:=t6.size;have HI:=Aa (HIN.out v s4 HR.out HA.out);clear t6 e6 k5 K6;go_wp2_with (at_builtin;refine Dj rfl _ _ 29 rfl (w.heap.size+2) 3 i0 (.int .i64 0) 1 8 Tryz.underlying29 hi0 hz0 hz1 hz2 rfl (by decide) _ _ _ rfl (OWN.out) #[_] rfl ?_ (W6.heap.size) rfl rfl ?_ ?_ ?_ ?_)
     ·rfl
     ·unfold maxLen;omega
     ·omega
     ·first |omega | (simp;done) | (simp;omega)
     ·intro v6 w6 o6 g6 alt;have C6:=Aa (WnS.app (C6'.out) o6 g6 (by
       rcases alt with e |e
       ·exact .inl e
       ·exact .inr ⟨_,by first |exact AQ _ | (simp;done) | (simp;omega),e⟩))
      obtain⟨v6a,v6c,rfl⟩:=A2 o6;clear o6 g6 alt;go_wp2;go_roundw
      case rel=>exact⟨k+1,_,_,v6a,v6c,xs++ [nn4],hlt,by go_num,by simp only[AV,List.length_singleton],by have h:=C6.out;simp only[AV,List.length_singleton];exact h,Aa (by rw[AV,hkl.out];rfl),Aa (HI.out _),Aa (fun t ht=>by cases ht)⟩
      case measure=>simp[intOf];omega
  ·obtain rfl:k=x.kids.length:=by omega
   have HKD:=Aa hki.out.done;have hki1:¬((x.kids.length:Int) < (x.kids.length:Int)):=by omega
   clear hki hlt;cases σ with
   |bad cd o=>
    have HC:=Aa (show cd=1∨cd=2 from C.out.now.ev.1);have hcb:(cd !=0)=true:=by rcases HC.out with rfl |rfl <;> rfl
    have q2:wr.cell? ⟨g,2,none⟩=some (.int .i64 cd):=by
     obtain⟨f2,e2⟩:=C.out.now.ev.2;exact e2.cells.2.2
    have N8:=Aa C.out.now;have K9:=Aa N8.out.rx;have ck:=K9.out.2.1;have fk:=K9.out.2.2;have yk:=K9.out.1;unfold sv0 at ck;go_wp2;generalize hz:Ws (Ws _ _ _) _ _=z;obtain⟨k9,g9⟩:=Bx.set12 K9.out (.int .i64 0) (.int .i64 0) (.string ⟨#[]⟩) (.slice none 0 0) (.int .i64 0) (.int .i64 0) (.string ⟨#[]⟩) (.string ⟨#[]⟩) (.slice none 0 0) (.string ⟨#[]⟩) (.string ⟨#[]⟩) (.slice none 0 0);rw[hz]at k9 g9;have c9:=k9.2.1;refine AA (v:= .agg (sv0)) ?_ rfl ?_
    ·simp[results,Tryz.results125,go_sem,c9,sv0]
    ·rw[HE.out,HKD.out];exact Sw.fin (res:= .bad cd o) N8.out ⟨FormS.zero,N8.out.ev⟩ hBw g9
   |ok u s1=>
    have q2:wr.cell? ⟨g,2,none⟩=some (.int .i64 0):=Ev.cells C.out.now.ev |>.2.2
    obtain⟨zi,rfl⟩:∃zi,xs=[zi]:=by
     have h1:=hkl.out;rw[HL.out]at h1
     match xs,h1 with
     | [zi],_=>exact⟨zi,rfl⟩
    obtain⟨q,hq,hc⟩:=I6 C.out.own 0 (by simp);have hqb:=C.out.own.lt q (by rw[hq];rfl);have hqr:=C.out.nq q (by rw[hq];rfl);subst hq;have hc:wr.cell? ⟨q,0,none⟩=some (.int .i64 zi):=hc;have hqg:q≠g:=by omega
    have hE:Ev B g lv wr s1.fuel 0 s1.out rW:=C.out.now.ev;obtain⟨ov,hb,how,hrv⟩:=hE.bx;obtain⟨oa,oc,rfl⟩:=A2 how;have HB:=Aa hb;have HOW:=Aa how;have HRV:=Aa hrv;have HQ:=Aa (fun(W':World) (h:Below wr.heap.size wr W')=>(And.intro ((hb.below h hb.1).2.1 3) ((h.cell (p:=⟨q,0,none⟩) hqb.2).trans hc):W'.cell? ⟨g,3,none⟩=some (.slice oa s1.out.length oc)∧W'.cell? ⟨q,0,none⟩=some (.int .i64 zi)));have hsz1:=(hft.out s1 rfl).2.1;clear how hrv hb hE;go_wp2_with fail;clear qb lb lg q2 hc;refine BP 10 (S:=(fun W'=>W'.cell? ⟨g,3,none⟩=some (.slice oa s1.out.length oc)∧W'.cell? ⟨q,0,none⟩=some (.int .i64 zi))) (by kernel_rfl) (by kernel_rfl) (by first | (dsimp only;exact HQ.out _ (Below.refl _ _).drew) | (exact HQ.out _ (Below.refl _ _).drew)) (fun hHeld=> ?_);generalize hxd:World.drew _=x2 at hHeld ⊢;have hd1:Below wr.heap.size wr x2:=by rw[←hxd];exact(Ac _ _).drew
    clear hxd;refine tkT (i:=0) ?_;refine tkT (i:=1) ?_;refine tkT (i:=2) ?_;refine tkT (i:=3) ?_;refine tkT (i:=4) ?_;refine tkT (i:=5) ?_;refine tkT (i:=6) ?_;refine tkT (i:=7) ?_;refine rdT (i:=8) (fun K hK=> ?_);go_simp;generalize hy:Wa _ _=W5;obtain⟨b5,k5⟩:=Bx.alloc hy;have hd5:=hd1.trans (b5.mono hd1.size);refine bkT hK (by first | (dsimp only;exact HQ.out _ hd5) | (exact HQ.out _ hd5)) (fun hHeld=> ?_);clear hK K;have C5:=Aa (C.out.same hd5);have HB5:=Aa (HB.out.below hd5 HB.out.1);have HOW5:=Aa (CE HOW.out hd5 (Cj HOW.out));have hgB:=C.out.now.ev.gB;have hsz5:=hd5.size;have hS5:=HQ.out _ hd5;refine Dn (rs:=[9]) (by kernel_rfl) (by simp) ?_;refine AllReadyT.cons (by (simp only[List.getElem?_toArray,List.getElem?_cons_succ,List.getElem?_cons_zero];rfl)) (fun K hK=> ?_) AllReadyT.nil;rw[Ag (by rfl)];refine ED _ _ 29 rfl B 3 i0 (.int .i64 0) 1 8 Tryz.underlying29 hi0 hz0 hz1 hz2 rfl (by decide) _ _ _ rfl HOW5.out #[.int .i64 zi] rfl ?_ x2.heap.size rfl ?_ ?_ ?_ ?_ ?_
    ·simp[Value.oneCell']
    ·exact k5.2.1
    ·unfold maxLen;omega
    ·omega
    ·omega
    ·intro v6 w6 o6 g6 alt;obtain⟨v6a,v6c,rfl⟩:=A2 o6;have hrv2:=HRV.out;replace g6:W5.grownBy w6 (Value.slice oa s1.out.length oc).ownBlock:=g6;have A6:=Aa (Ev.app' (v':= .slice v6a (s1.out.length+1) v6c) (w4:=w6) (x:=zi) (show Ev B g lv W5 s1.fuel 0 s1.out rW from C5.out.now.ev) HB5.out HRV.out (by simpa using o6) g6 (by
      rcases alt with e |e
      ·exact .inl e
      ·exact .inr ⟨_,Ad _,e⟩))
     have K6:=Aa (HB5.out.grown g6 (by rw[hrv2];exact fun e=>C5.out.now.ev.ne e.symm));have hc6:w6.cell? ⟨q,0,none⟩=some (.int .i64 zi):=(An (g6.block q (by omega) (fun e=>hqr (by rw[←hrv2];exact e.symm)))).trans hS5.2;have S6:w6.cell? ⟨g,3,none⟩=some (.slice oa s1.out.length oc)∧w6.cell? ⟨q,0,none⟩=some (.int .i64 zi):=⟨K6.out.2.1 3,hc6⟩;refine hK.out _ _ (by first | (dsimp only;exact S6) | (exact S6)) (fun hHeld=> ?_);clear hK K
     try simp only[Act.put,List.setIfInBounds_toArray,List.set_cons_zero,List.set_cons_succ]
     have q6:=K6.out.2.1;have f6:=K6.out.2.2;have y6:=K6.out.1;clear S6 b5 hy k5 o6 g6 alt hd1 hd5 hrv2 hS5 hHeld;refine BO (by kernel_rfl) ?_;dsimp only[List.drop];go_wp2_with fail;generalize hW7:Ws _ _ _=W7;have A7:=A6.out;rw[hW7]at A7;have C7:=Aa (C5.out.call (σ':= .ok () ⟨s1.fuel,s1.out++ [zi]⟩) A7.2 A7.1);clear hW7 A7 q6 f6 y6 hc6;refine(Kt zi W7).mono ?_;rintro e W8 ⟨rfl,b8⟩;have N8:=Aa (C7.out.now.same b8);clear b8;unfold svC;have K9:=Aa N8.out.rx;have ck:=K9.out.2.1;have fk:=K9.out.2.2;have yk:=K9.out.1;unfold sv0 at ck;go_wp2;generalize hz:Ws (Ws _ _ _) _ _=z;obtain⟨k9,g9⟩:=Bx.set12 K9.out (.int .i64 1) (.int .i64 zi) (.string eS) AB (.int .i64 Nd.zero.op) (.int .i64 Nd.zero.n) (.string Nd.zero.s) (.string Nd.zero.t) AB (.string eS) (.string eS) AB;rw[hz]at k9 g9;have c9:=k9.2.1;refine AA (v:= .agg (svC 1 zi eS AB Nd.zero AB eS eS AB)) ?_ rfl ?_
     ·simp[results,Tryz.results125,go_sem,c9,svC]
     ·rw[HE.out,HKD.out];exact Sw.fin (res:= .ok (.int zi) ⟨s1.fuel,s1.out++ [zi]⟩) N8.out ⟨.int _,N8.out.ev⟩ hBw g9
theorem G7 {B g:Nat}{lv:Value}{ds:List Dt}{ar:Str→Option Nat}{m:Nat}{X:Nat→Prop}{x:Nd}{kv ev:Value}{env:Env}{s:Es}{w:World}{r:Option Nat}(hm:s.fuel≤m) (hs1:s.out.length+s.fuel+1≤4000) (P:SPre B X g lv ds x kv ev env s w r) (ho:10≤x.op∧x.op≤14) (IH:B8 B g lv ds ar m):
  Calls Pq 125 #[.pointer (some ⟨g,0,none⟩),ndV x kv,ev] w (BA B X g lv (AF ar (Ai ar m) x env s) r w):=by
 have PP:=Aa P;have IH:=Aa IH;have hX:=P.hx;obtain⟨ya,yb,hkk,hna,hnb⟩:=Cs P.np (.inr (.inr (.inr (by omega))));have HE:=Aa (Wy (ar:=ar) (E:=Ai ar m) (env:=env) (s:=s) ho hkk);have HNK:=Aa (fun(k:Nat) (hk:k < x.kids.length)=>(by
  have h1:=As hk;generalize x.kids[k]=y at h1;rw[hkk]at h1;simp only[List.mem_cons,List.not_mem_nil,or_false]at h1;rcases h1 with h1 |h1 <;> rw[h1] <;> assumption:Ao x.kids[k]=true))
 have HM:=Aa (fun(k:Nat) (hk:k < x.kids.length)=>(As hk:x.kids[k]∈x.kids));have HL:=Aa (show x.kids.length=2 by rw[hkk];rfl);obtain⟨ka,kc,rfl⟩:=P.rk.form;obtain⟨ea,ec,rfl⟩:=P.re.sc_form;have hks:x.kids.length≤2:=by rw[HL.out];decide
 have hgw:=P.ev.lt;have hBw:=P.ev.gB.2;have hob:(x.op==16)=false:=by simp;omega
 have HO:=Aa ho;obtain⟨i0,hi0,hz0,hz1,hz2⟩:=info_parts Tryz.infoIw;unfold ndV;clear P ho hkk;go_enter Tryz.func125,Tryz.ntmps125;go_wp2_with fail;generalize hW:Wa (Wa (Wa _ _) _) _=W1;obtain⟨N1,O1⟩:=PP.out.start_w hW;have C0:WnS B g lv w r #[.int .i64 x.op,.int .i64 x.n,.string x.s,.string x.t,.slice ka x.kids.length kc] W1 r (.ok () s) (.slice (some ⟨w.heap.size+2,0,none⟩) 0 0) []:=⟨N1,O1,fun q e=>by have:=(PP.out.ev.row q);simp[Value.ownBlock]at e;intro h;have:=(this h).2;omega,hgw⟩;clear hW N1 O1
 go_loopw [7,8] (fun l i wr=>∃ (k:Nat) (rW:Option Nat) (σ:Rs Unit) (va:Option Addr) (vc:Nat) (xs:List Int),k≤x.kids.length∧i= .int .i64 k∧l= .slice va xs.length vc∧WnS B g lv w r #[.int .i64 x.op,.int .i64 x.n,.string x.s,.string x.t,.slice ka x.kids.length kc] wr rW σ (.slice va xs.length vc) xs∧Hid (xs.length=k)∧Hid (IInv (Ai ar m) env x.kids s k σ xs)∧Hid (∀t,σ= .ok () t→t.fuel≤s.fuel∧t.out.length+t.fuel+1≤4000∧ ∀a∈xs, -1073741824≤a∧a≤1073741823)) (fun _ i _=>x.kids.length - (intOf i).toNat)
 case atStart=>exact⟨0,_,_,_,_,[],Av _,rfl,rfl,C0,Aa rfl,Aa (IInv.zero _ _ _ _),Aa (fun t ht=>by cases ht;exact⟨Ad _,hs1,by simp⟩)⟩
 case round=>
  clear C0;obtain⟨k,rW,σ,va,vc,xs,hk,rfl,rfl,hC,hkl,hki,hft⟩:=hrel;have C:=Aa hC;clear hC;have qb:=C.out.now.bx.2.1;have lb:=C.out.now.bx.1;have lg:=C.out.now.ev.lt;have hxl:xs.length≤2:=by rw[hkl.out];omega
  by_cases hlt:k < x.kids.length
  ·obtain⟨b,off,cap',kvy,hv',hB',hbs',hcap',⟨d0,d1,d2,d3,d4⟩,hka⟩:=(PP.out.rkW C.out.now.tw).at_ hlt;cases hv'
   have hki1:(k:Int) < (x.kids.length:Int):=by omega
   have hk0:(0:Int)≤ (k:Int):=by omega
   obtain⟨kya,kyc,rfl⟩:=hka.form;have HKA:=Aa hka;have hny:=HNK.out k hlt;have hmy:=HM.out k hlt;have HIB:=Aa (fun(c:Int) (o:List Int) (he:(σ.bind fun _ s1=>Ai ar m x.kids[k] env s1)= .bad c o) (ys:List Int)=>hki.out.bad hlt he ys (k+1));have HII:=Aa (fun(v:Vl) (s2:Es) (he:(σ.bind fun _ s1=>Ai ar m x.kids[k] env s1)= .ok v s2) (a:Int) (ha:asInt v s2= .ok a s2)=>hki.out.int hlt he ha);have HIN:=Aa (fun(v:Vl) (s2:Es) (he:(σ.bind fun _ s1=>Ai ar m x.kids[k] env s1)= .ok v s2) (ha:asInt v s2= .bad 2 s2.out) (ys:List Int)=>hki.out.not hlt he ha ys (k+1));clear hka;generalize x.kids[k]=y at*;go_wp2_with fail;clear d0 d1 d2 d3 d4 qb lb lg;have PRE:=Aa (fun(t:Es) (h:σ= .ok () t)=>(by
    have h1:=hft.out t h;have he:=C.out.now.ev;rw[h]at he;exact⟨by omega,PP.out.sub C.out.now.tw hny hmy (by omega) h1.1 he HKA.out (AQ _) C.out.now.rx.1⟩:t.fuel≤m∧SPre B (Xq X (w.heap.size+1)) g lv ds y (.slice kya y.kids.length kyc) (.slice ea env.length ec) env t wr rW))
   refine(G6 IH.out C.out.now.ev PRE.out ⟨_,_,_,rfl⟩ ⟨_,_,_,rfl⟩).mono ?_;rintro e W4 ⟨c4,r4,rfl,t4,h4⟩;have C4:=Aa (C.out.call t4 h4.evS);have H4:=Aa h4;have HBO:=Aa (fun v s2 h=>OP (E1:=fun s=>Ai ar m y env s) (σ:=σ) (v:=v) (s2:=s2) h);obtain⟨res,hres⟩:∃R,(σ.bind fun _ s1=>Ai ar m y env s1)=R:=⟨_,rfl⟩;rw[hres]at C4 H4;have HR:=Aa hres;obtain⟨kd4,nn4,ss4,a14,l14,c14,xx4,a24,l24,c24,arg4,self4,a34,l34,c34,rfl⟩:=h4.formS;clear h4 t4 hres;unfold svC;have lg:=C4.out.now.ev.lt;have hsz4:=C4.out.now.bx.1;have hrx4:=C4.out.now.rx.1;cases res with
   |bad cd o=>
    have HC:=Aa (show cd=1∨cd=2 from C4.out.now.ev.1);have hcb:(cd==0)=false:=by rcases HC.out with rfl |rfl <;> rfl
    have q2:W4.cell? ⟨g,2,none⟩=some (.int .i64 cd):=by
     obtain⟨f2,e2⟩:=C4.out.now.ev.2;exact e2.cells.2.2
    have OWN:=Aa (fun(cur:Array Value) (e:TypeId)=>(C4.out.same ((Ac _ _).alloc (Ad _) (.cells cur e))).own);have HI:=Aa (HIB.out cd o HR.out);go_wp2_with (at_builtin;refine Dj rfl _ _ 29 rfl (w.heap.size+2) 3 i0 (.int .i64 0) 1 8 Tryz.underlying29 hi0 hz0 hz1 hz2 rfl (by decide) _ _ _ rfl (OWN.out _ _) #[_] rfl ?_ (W4.heap.size+1) ?_ rfl ?_ ?_ ?_ ?_)
    ·rfl
    ·simp
    ·unfold maxLen;omega
    ·omega
    ·first |omega | (simp;done) | (simp;omega)
    ·intro v6 w6 o6 g6 alt;have C6:=Aa (WnS.app (C4.out.same ((Ac _ _).alloc (Ad _) _)) o6 g6 (by
      rcases alt with e |e
      ·exact .inl e
      ·exact .inr ⟨_,by first |exact AQ _ | (simp;done) | (simp;omega),e⟩))
     obtain⟨v6a,v6c,rfl⟩:=A2 o6;clear o6 g6 alt;go_wp2;go_roundw
     case rel=>exact⟨k+1,_,_,v6a,v6c,xs++ [nn4],hlt,by go_num,by simp only[AV,List.length_singleton],by have h:=C6.out;simp only[AV,List.length_singleton];exact h,Aa (by rw[AV,hkl.out];rfl),Aa (HI.out _),Aa (fun t ht=>by cases ht)⟩
     case measure=>simp[intOf];omega
   |ok v s4=>
    obtain⟨s1,hs1',he1⟩:=HBO.out v s4 HR.out;have HK:=Aa (PP.out.kid hny hmy (by have:=(hft.out s1 hs1').2.1;omega) (hft.out s1 hs1').1 he1);have HSM:=Aa (EF he1);have HFS:=Aa (hft.out s1 hs1');have HKN:=Aa (RdS.kn H4.out.1);have q2:W4.cell? ⟨g,2,none⟩=some (.int .i64 0):=Ev.cells C4.out.now.ev |>.2.2
    by_cases hkd:kd4=1
    ·have HA:=Aa (CX s4 (HKN.out.1.symm.trans hkd));rw[←HKN.out.2.1]at HA;have HW:=Aa (Dd HK.out.1);rw[←HKN.out.2.1]at HW;subst hkd;have OWN:=Aa (fun(cur:Array Value) (e:TypeId)=>(C4.out.same ((Ac _ _).alloc (Ad _) (.cells cur e))).own);have HI:=Aa (HII.out v s4 HR.out nn4 HA.out);go_wp2_with (at_builtin;refine Dj rfl _ _ 29 rfl (w.heap.size+2) 3 i0 (.int .i64 0) 1 8 Tryz.underlying29 hi0 hz0 hz1 hz2 rfl (by decide) _ _ _ rfl (OWN.out _ _) #[_] rfl ?_ (W4.heap.size+1) ?_ rfl ?_ ?_ ?_ ?_)
     ·rfl
     ·simp
     ·unfold maxLen;omega
     ·omega
     ·first |omega | (simp;done) | (simp;omega)
     ·intro v6 w6 o6 g6 alt;have C6:=Aa (WnS.app (C4.out.same ((Ac _ _).alloc (Ad _) _)) o6 g6 (by
       rcases alt with e |e
       ·exact .inl e
       ·exact .inr ⟨_,by first |exact AQ _ | (simp;done) | (simp;omega),e⟩))
      obtain⟨v6a,v6c,rfl⟩:=A2 o6;clear o6 g6 alt;go_wp2;go_roundw
      case rel=>exact⟨k+1,_,_,v6a,v6c,xs++ [nn4],hlt,by go_num,by simp only[AV,List.length_singleton],by have h:=C6.out;simp only[AV,List.length_singleton];exact h,Aa (by rw[AV,hkl.out];rfl),HI,Aa (fun t ht=>by cases ht;exact⟨by have:=HK.out.2.2.1;have:=HFS.out.1;omega,by have:=HSM.out;have:=HFS.out.2.1;omega,fun a ha=>(Ek.1 ha).elim (HFS.out.2.2 a) (fun e=>by rw[List.mem_singleton.1 e];exact HW.out)⟩)⟩
      case measure=>simp[intOf];omega
    ·have HA:=Aa (CY s4 (fun h=>hkd (HKN.out.1.trans h)));have hkb:(kd4 !=1)=true:=by simpa using hkd
     clear hkd;go_wp2_with fail;generalize hW5:Wa _ _=W5;obtain⟨b5,k5⟩:=Bx.alloc hW5;have C5:=Aa (C4.out.same b5);have hb5:=b5.size;have hn1:W4.heap.size≠g:=by have:=C4.out.now.ev.lt;omega
     have hn2:r4≠some W4.heap.size:=fun e=>by have:=(C4.out.now.ev.row _ e).2;omega
     clear q2 hW5 b5;refine(Hq C5.out.now.ev).mono ?_;rintro e W6 ⟨rfl,t6,e6⟩;have C6':=Aa (C5.out.call t6 e6);have K6:=k5.tw t6 hn1 hn2;have qk:=K6.2.1;have lk:=K6.1;have OWN:=Aa C6'.out.own;have hsz6:=t6.size;have HI:=Aa (HIN.out v s4 HR.out HA.out);clear t6 e6 k5 K6;go_wp2_with (at_builtin;refine Dj rfl _ _ 29 rfl (w.heap.size+2) 3 i0 (.int .i64 0) 1 8 Tryz.underlying29 hi0 hz0 hz1 hz2 rfl (by decide) _ _ _ rfl (OWN.out) #[_] rfl ?_ (W6.heap.size) rfl rfl ?_ ?_ ?_ ?_)
     ·rfl
     ·unfold maxLen;omega
     ·omega
     ·first |omega | (simp;done) | (simp;omega)
     ·intro v6 w6 o6 g6 alt;have C6:=Aa (WnS.app (C6'.out) o6 g6 (by
       rcases alt with e |e
       ·exact .inl e
       ·exact .inr ⟨_,by first |exact AQ _ | (simp;done) | (simp;omega),e⟩))
      obtain⟨v6a,v6c,rfl⟩:=A2 o6;clear o6 g6 alt;go_wp2;go_roundw
      case rel=>exact⟨k+1,_,_,v6a,v6c,xs++ [nn4],hlt,by go_num,by simp only[AV,List.length_singleton],by have h:=C6.out;simp only[AV,List.length_singleton];exact h,Aa (by rw[AV,hkl.out];rfl),Aa (HI.out _),Aa (fun t ht=>by cases ht)⟩
      case measure=>simp[intOf];omega
  ·obtain rfl:k=x.kids.length:=by omega
   have HKD:=Aa hki.out.done;have hki1:¬((x.kids.length:Int) < (x.kids.length:Int)):=by omega
   clear hki hlt;cases σ with
   |bad cd o=>
    have HC:=Aa (show cd=1∨cd=2 from C.out.now.ev.1);have hcb:(cd !=0)=true:=by rcases HC.out with rfl |rfl <;> rfl
    have q2:wr.cell? ⟨g,2,none⟩=some (.int .i64 cd):=by
     obtain⟨f2,e2⟩:=C.out.now.ev.2;exact e2.cells.2.2
    have N8:=Aa C.out.now;have K9:=Aa N8.out.rx;have ck:=K9.out.2.1;have fk:=K9.out.2.2;have yk:=K9.out.1;unfold sv0 at ck;go_wp2;generalize hz:Ws (Ws _ _ _) _ _=z;obtain⟨k9,g9⟩:=Bx.set12 K9.out (.int .i64 0) (.int .i64 0) (.string ⟨#[]⟩) (.slice none 0 0) (.int .i64 0) (.int .i64 0) (.string ⟨#[]⟩) (.string ⟨#[]⟩) (.slice none 0 0) (.string ⟨#[]⟩) (.string ⟨#[]⟩) (.slice none 0 0);rw[hz]at k9 g9;have c9:=k9.2.1;refine AA (v:= .agg (sv0)) ?_ rfl ?_
    ·simp[results,Tryz.results125,go_sem,c9,sv0]
    ·rw[HE.out,HKD.out];exact Sw.fin (res:= .bad cd o) N8.out ⟨FormS.zero,N8.out.ev⟩ hBw g9
   |ok u s1=>
    have q2:wr.cell? ⟨g,2,none⟩=some (.int .i64 0):=Ev.cells C.out.now.ev |>.2.2
    obtain⟨zi,zj,rfl⟩:∃zi zj,xs=[zi,zj]:=by
     have h1:=hkl.out;rw[HL.out]at h1
     match xs,h1 with
     | [zi,zj],_=>exact⟨zi,zj,rfl⟩
    obtain⟨q,hq,hc⟩:=I6 C.out.own 0 (by simp);obtain⟨q',hq',hc'⟩:=I6 C.out.own 1 (by simp);have hqb:=C.out.own.lt q (by rw[hq];rfl);subst hq;cases hq'
    have hc:wr.cell? ⟨q,0,none⟩=some (.int .i64 zi):=hc;have hc':wr.cell? ⟨q,1,none⟩=some (.int .i64 zj):=hc';have HQ:=Aa (fun(W':World) (h:Below wr.heap.size wr W')=>(⟨(C.out.now.bx.below h C.out.now.bx.1).2.1 0,(h.cell (p:=⟨q,0,none⟩) hqb.2).trans hc,(h.cell (p:=⟨q,1,none⟩) hqb.2).trans hc'⟩:W'.cell? ⟨w.heap.size,0,none⟩=some (.int .i64 x.op)∧W'.cell? ⟨q,0,none⟩=some (.int .i64 zi)∧W'.cell? ⟨q,1,none⟩=some (.int .i64 zj)));have hw2:=(hft.out s1 rfl).2.2;have hwz:=hw2 zi (by simp);have hwz2:=hw2 zj (by simp);clear hw2;go_wp2_with fail;clear qb lb lg q2 hc hc';refine BP 10 (S:=(fun W'=>W'.cell? ⟨w.heap.size,0,none⟩=some (.int .i64 x.op)∧W'.cell? ⟨q,0,none⟩=some (.int .i64 zi)∧W'.cell? ⟨q,1,none⟩=some (.int .i64 zj))) (by kernel_rfl) (by kernel_rfl) (by first | (dsimp only;exact HQ.out _ (Below.refl _ _).drew) | (exact HQ.out _ (Below.refl _ _).drew)) (fun hHeld=> ?_);generalize hxd:World.drew _=x2 at hHeld ⊢;have hd1:Below wr.heap.size wr x2:=by rw[←hxd];exact(Ac _ _).drew
    clear hxd;refine tkT (i:=0) ?_;refine tkT (i:=1) ?_;refine tkT (i:=2) ?_;refine tkT (i:=3) ?_;refine tkT (i:=4) ?_;refine tkT (i:=5) ?_;refine tkT (i:=6) ?_;refine tkT (i:=7) ?_;refine rdT (i:=8) (fun K hK=> ?_);go_simp;refine(UY x.op zi zj HO.out hwz hwz2 x2).mono ?_;rintro e W6 ⟨rfl,rfl⟩;refine bkT hK (by first | (dsimp only;exact HQ.out _ hd1) | (exact HQ.out _ hd1)) (fun hHeld=> ?_);clear hK K;refine rdT (i:=9) (fun K hK=> ?_);go_simp;refine(Kt _ _).mono ?_;rintro e W7 ⟨rfl,b7⟩;unfold svC;refine bkT hK (by first | (dsimp only;exact HQ.out _ (hd1.trans (b7.mono hd1.size))) | (exact HQ.out _ (hd1.trans (b7.mono hd1.size)))) (fun hHeld=> ?_);clear hK K;have N8:=Aa (C.out.now.same (hd1.trans (b7.mono hd1.size)));clear hd1 b7 hHeld;refine BO (by kernel_rfl) ?_;dsimp only[List.drop];have K9:=Aa N8.out.rx;have ck:=K9.out.2.1;have fk:=K9.out.2.2;have yk:=K9.out.1;unfold sv0 at ck;go_wp2;generalize hz:Ws (Ws _ _ _) _ _=z;obtain⟨k9,g9⟩:=Bx.set12 K9.out (.int .i64 1) (.int .i64 (Df x.op zi zj)) (.string eS) AB (.int .i64 Nd.zero.op) (.int .i64 Nd.zero.n) (.string Nd.zero.s) (.string Nd.zero.t) AB (.string eS) (.string eS) AB;rw[hz]at k9 g9;have c9:=k9.2.1;refine AA (v:= .agg (svC 1 (Df x.op zi zj) eS AB Nd.zero AB eS eS AB)) ?_ rfl ?_
    ·simp[results,Tryz.results125,go_sem,c9,svC]
    ·rw[HE.out,HKD.out];exact Sw.fin (res:= .ok (.int (Df x.op zi zj)) s1) N8.out ⟨.int _,N8.out.ev⟩ hBw g9
theorem Va {B g:Nat}{X:Nat→Prop}{lv:Value}{ds:List Dt}{ar:Str→Option Nat}{m f:Nat}{x:Nd}{kv ev:Value}{env:Env}{s:Es}{w:World}{r:Option Nat}(hf:s.fuel=f+1) (hm:f≤m) (P:SPre B X g lv ds x kv ev env s w r) (ho:x.op=6) (IH:B8 B g lv ds ar m):
  Calls Pq 56 #[.pointer (some ⟨g,0,none⟩),ndV x kv,ev] w (BA B X g lv (Ai ar (m+1) x env s) r w):=by
 have HE:=Aa ((Bp hf).trans (Oq (ar:=ar) (E:=Ai ar m) (env:=env) (s:=⟨f,s.out⟩) ho));have PP:=Aa P;have HO:=Aa ho;have IH:=Aa IH;obtain⟨ya,yb,hkk,hna,hnb⟩:=Cs P.np (.inr (.inr (.inl ho)));have RK0:=P.rk;rw[hkk]at RK0;obtain⟨b,off,cap,kv0,kv1,hv,hbB,hcap,⟨c0,c1,c2,c3,c4⟩,hk0, -,hk1⟩:=RK0.two';subst hv;obtain⟨hbw,hbg⟩:=P.nb hbB;have HKK:=Aa hkk;have HM:=Aa (show ya∈x.kids∧yb∈x.kids from by rw[hkk];simp);have HK0:=Aa (show x.kid 0=ya by unfold Nd.kid;rw[hkk];rfl);have HK1:=Aa (show x.kid 1=yb by unfold Nd.kid;rw[hkk];rfl);have HF:=Aa hf;have SZ:Hid (s.out.length+f+1≤4000):=Aa (by have:=P.sz;omega);obtain⟨k0a,k0c,rfl⟩:=hk0.form;have HKA:=Aa hk0;have hkl:x.kids.length=2:=by rw[hkk];rfl
 clear hkk RK0 hk0 hk1;obtain⟨ea,ec,rfl⟩:=P.re.sc_form;have hsz:=P.sz;rw[hf]at hsz;have hfl:f≤4000:=by omega
 have hx:=P.ev;have hBw:=P.ev.gB.2;have hel:env.length≤4194304000:=Ar P.lm.inv_sc.1 (Cz _);rw[hf]at hx;obtain⟨ov,hb, -, -⟩:=hx.bx;have q1:∀ (o1 o2:Obj),((w.alloc o1).alloc o2).cell? ⟨g,1,none⟩=some (.int .i64 ((f+1:Nat):Int)):=fun o1 o2=>((AI o1 o2).cell (p:=⟨g,1,none⟩) hb.1).trans (hb.2.1 1);have q2:∀ (o1 o2:Obj),((w.alloc o1).alloc o2).cell? ⟨g,2,none⟩=some (.int .i64 0):=fun o1 o2=>((AI o1 o2).cell (p:=⟨g,2,none⟩) hb.1).trans (hb.2.1 2);have f1:∀ (o1 o2:Obj),((w.alloc o1).alloc o2).frozen? ⟨g,1,none⟩=false:=fun o1 o2=>((AI o1 o2).frozen (p:=⟨g,1,none⟩) hb.1).trans (hb.2.2 1);have hgw:g < w.heap.size:=hb.1;have hwg:w.heap.size≠g:=by omega
 have hwg1:w.heap.size+1≠g:=by omega
 unfold ndV;rw[ho];clear P hx hb ho hf c0 c1 c2 c3 c4;go_enter Tryz.func56,Tryz.ntmps56;go_wp2_with fail;generalize hW:Wa (Wa _ _) _=W1;have N1:=Aa (PP.out.start (f:=f) rfl hW);clear hW q1 q2 f1;have RK2:=PP.out.rkW N1.out.tw;rw[HKK.out]at RK2;obtain⟨b_,off_,cap_,kv0_,kv1_,hv_,hbB_, -,⟨d0,d1,d2,d3,d4⟩,hkb,⟨e0,e1,e2,e3,e4⟩,hkc⟩:=RK2.two';cases hv_
 obtain⟨kba,kbc,rfl⟩:=hkb.form;obtain⟨kca,kcc,rfl⟩:=hkc.form;have HKB:=Aa hkb;have HKC:=Aa hkc;have HQ:=Aa (fun(W':World) (r':Option Nat) (t:Tw g r r' W1 W')=>(by
  have k3:=N1.out.bx.tw t N1.out.ng N1.out.nb;have b3:=N1.out.ev.tw t;exact⟨k3.2.1 2,k3.2.1 3,k3.2.1 4,(b3.cell (p:=⟨b,off,none⟩) hbB).trans d0,(b3.cell (p:=⟨b,off+1,none⟩) hbB).trans d1,(b3.cell (p:=⟨b,off+2,none⟩) hbB).trans d2,(b3.cell (p:=⟨b,off+3,none⟩) hbB).trans d3,(b3.cell (p:=⟨b,off+4,none⟩) hbB).trans d4⟩:W'.cell? ⟨w.heap.size,2,none⟩=some (.string x.s)∧W'.cell? ⟨w.heap.size,3,none⟩=some (.string x.t)∧W'.cell? ⟨w.heap.size,4,none⟩=some (.slice (some ⟨b,off,none⟩) 2 cap)∧W'.cell? ⟨b,off,none⟩=some (.int .i64 ya.op)∧W'.cell? ⟨b,off+1,none⟩=some (.int .i64 ya.n)∧W'.cell? ⟨b,off+2,none⟩=some (.string ya.s)∧W'.cell? ⟨b,off+3,none⟩=some (.string ya.t)∧W'.cell? ⟨b,off+4,none⟩=some (.slice kba ya.kids.length kbc)))
 have TB:=Aa (fun(W':World) (h:Below W1.heap.size W1 W')=>(Tw.of_below h (fun k e=>(N1.out.ev.row k e).2):Tw g r r W1 W'));have HQ2:=Aa (fun(W':World) (r':Option Nat) (t:Tw g r r' W1 W')=>(by
  have k3:=N1.out.bx.tw t N1.out.ng N1.out.nb;have b3:=N1.out.ev.tw t;exact⟨k3.2.1 2,k3.2.1 4,(b3.cell (p:=⟨b,off+5,none⟩) hbB).trans e0,(b3.cell (p:=⟨b,off+5+1,none⟩) hbB).trans e1,(b3.cell (p:=⟨b,off+5+2,none⟩) hbB).trans e2,(b3.cell (p:=⟨b,off+5+3,none⟩) hbB).trans e3,(b3.cell (p:=⟨b,off+5+4,none⟩) hbB).trans e4⟩:W'.cell? ⟨w.heap.size,2,none⟩=some (.string x.s)∧W'.cell? ⟨w.heap.size,4,none⟩=some (.slice (some ⟨b,off,none⟩) 2 cap)∧W'.cell? ⟨b,off+5,none⟩=some (.int .i64 yb.op)∧W'.cell? ⟨b,off+5+1,none⟩=some (.int .i64 yb.n)∧W'.cell? ⟨b,off+5+2,none⟩=some (.string yb.s)∧W'.cell? ⟨b,off+5+3,none⟩=some (.string yb.t)∧W'.cell? ⟨b,off+5+4,none⟩=some (.slice kca yb.kids.length kcc)))
 clear hkb hkc d0 d1 d2 d3 d4 e0 e1 e2 e3 e4;refine BP 11 (S:=(fun W'=>W'.cell? ⟨w.heap.size,2,none⟩=some (.string x.s)∧W'.cell? ⟨w.heap.size,3,none⟩=some (.string x.t)∧W'.cell? ⟨w.heap.size,4,none⟩=some (.slice (some ⟨b,off,none⟩) 2 cap)∧W'.cell? ⟨b,off,none⟩=some (.int .i64 ya.op)∧W'.cell? ⟨b,off+1,none⟩=some (.int .i64 ya.n)∧W'.cell? ⟨b,off+2,none⟩=some (.string ya.s)∧W'.cell? ⟨b,off+3,none⟩=some (.string ya.t)∧W'.cell? ⟨b,off+4,none⟩=some (.slice kba ya.kids.length kbc))) (by kernel_rfl) (by kernel_rfl) (by first | (dsimp only;exact HQ.out _ _ (TB.out _ (Below.refl _ _).drew)) | (exact HQ.out _ _ (TB.out _ (Below.refl _ _).drew))) (fun hHeld=> ?_);generalize hxd:World.drew _=x1 at hHeld ⊢;have hd1:Below W1.heap.size W1 x1:=by rw[←hxd];exact(Ac _ _).drew
 clear hxd;refine tkT (i:=0) ?_;refine tkT (i:=1) ?_;refine tkT (i:=2) ?_;refine tkT (i:=3) ?_;refine tkT (i:=4) ?_;refine tkT (i:=5) ?_;refine tkT (i:=6) ?_;refine tkT (i:=7) ?_;refine tkT (i:=8) ?_;refine tkT (i:=9) ?_;refine rdT (i:=10) (fun K hK=> ?_);go_simp;generalize hy0:Wa _ _=x2;obtain⟨b2,k2⟩:=Bx.alloc hy0;have hd2:=hd1.trans (b2.mono hd1.size);clear hy0;refine bkT hK (by first | (dsimp only;exact HQ.out _ _ (TB.out _ hd2)) | (exact HQ.out _ _ (TB.out _ hd2))) (fun hHeld=> ?_);clear hK K;refine BO (by kernel_rfl) ?_;dsimp only[List.drop];have KZ:=Aa k2;have qt:=k2.2.1;have ft:=k2.2.2;have lt:=k2.1;clear hHeld;go_wp2_with fail;generalize hz:Ws (Ws _ _ _) _ _=x3;obtain⟨k3,g3⟩:=Bx.set12 KZ.out (.int .i64 3) (.int .i64 0) (.string ⟨#[]⟩) (.slice none 0 0) (.int .i64 ya.op) (.int .i64 ya.n) (.string ya.s) (.string ya.t) (.slice kba ya.kids.length kbc) (.string x.t) (.string x.s) (.slice ea env.length ec);rw[hz]at k3 g3;have b3:Below x1.heap.size x1 x3:=Below.grown_at b2 g3 (by have:=KZ.out.1;omega) (Ad _);have hd3:Below W1.heap.size W1 x3:=hd1.trans (b3.mono hd1.size);have N3:=Aa (N1.out.same hd3);have K3:=Aa k3;have h12:=hd1.size;have hn1:x1.heap.size≠g:=by have:=N1.out.ev.lt;omega
 have hn2:r≠some x1.heap.size:=fun e=>by have:=(N1.out.ev.row _ e).2;omega
 have T3:=Aa (TB.out _ hd3);have HR:=Aa (RdS.fn (B:=B) (X:=Xq X (w.heap.size+1)) (g:=g) (r:=r) (w:=x3) x.t x.s ya env (.slice kba ya.kids.length kbc) (.slice ea env.length ec) (HKB.out.later (N1.out.ev.tw T3.out) (Ad _)) (PP.out.reW N3.out.tw (AQ _)));have HQ3:=Aa (fun(W':World) (r':Option Nat) (t:Tw g r r' x3 W')=>(by
  have h1:=HQ2.out W' r' (T3.out.trans t);have k4:=(K3.out.tw t hn1 hn2).2.1;exact⟨h1.1,h1.2.1,h1.2.2.1,h1.2.2.2.1,h1.2.2.2.2.1,h1.2.2.2.2.2.1,h1.2.2.2.2.2.2,k4 0,k4 1,k4 2,k4 3,k4 4,k4 5,k4 6,k4 7,k4 8,k4 9,k4 10,k4 11⟩:W'.cell? ⟨w.heap.size,2,none⟩=some (.string x.s)∧W'.cell? ⟨w.heap.size,4,none⟩=some (.slice (some ⟨b,off,none⟩) 2 cap)∧W'.cell? ⟨b,off+5,none⟩=some (.int .i64 yb.op)∧W'.cell? ⟨b,off+5+1,none⟩=some (.int .i64 yb.n)∧W'.cell? ⟨b,off+5+2,none⟩=some (.string yb.s)∧W'.cell? ⟨b,off+5+3,none⟩=some (.string yb.t)∧W'.cell? ⟨b,off+5+4,none⟩=some (.slice kca yb.kids.length kcc)∧W'.cell? ⟨x1.heap.size,0,none⟩=some (.int .i64 3)∧W'.cell? ⟨x1.heap.size,1,none⟩=some (.int .i64 0)∧W'.cell? ⟨x1.heap.size,2,none⟩=some (.string ⟨#[]⟩)∧W'.cell? ⟨x1.heap.size,3,none⟩=some (.slice none 0 0)∧W'.cell? ⟨x1.heap.size,4,none⟩=some (.int .i64 ya.op)∧W'.cell? ⟨x1.heap.size,5,none⟩=some (.int .i64 ya.n)∧W'.cell? ⟨x1.heap.size,6,none⟩=some (.string ya.s)∧W'.cell? ⟨x1.heap.size,7,none⟩=some (.string ya.t)∧W'.cell? ⟨x1.heap.size,8,none⟩=some (.slice kba ya.kids.length kbc)∧W'.cell? ⟨x1.heap.size,9,none⟩=some (.string x.t)∧W'.cell? ⟨x1.heap.size,10,none⟩=some (.string x.s)∧W'.cell? ⟨x1.heap.size,11,none⟩=some (.slice ea env.length ec)))
 have TB3:=Aa (fun(W':World) (h:Below x3.heap.size x3 W')=>(Tw.of_below h (fun k e=>(N3.out.ev.row k e).2):Tw g r r x3 W'));clear qt ft lt hz k2 b2 hd2 hd1 k3 g3 b3 hd3;refine BP 11 (S:=(fun W'=>W'.cell? ⟨w.heap.size,2,none⟩=some (.string x.s)∧W'.cell? ⟨w.heap.size,4,none⟩=some (.slice (some ⟨b,off,none⟩) 2 cap)∧W'.cell? ⟨b,off+5,none⟩=some (.int .i64 yb.op)∧W'.cell? ⟨b,off+5+1,none⟩=some (.int .i64 yb.n)∧W'.cell? ⟨b,off+5+2,none⟩=some (.string yb.s)∧W'.cell? ⟨b,off+5+3,none⟩=some (.string yb.t)∧W'.cell? ⟨b,off+5+4,none⟩=some (.slice kca yb.kids.length kcc)∧W'.cell? ⟨x1.heap.size,0,none⟩=some (.int .i64 3)∧W'.cell? ⟨x1.heap.size,1,none⟩=some (.int .i64 0)∧W'.cell? ⟨x1.heap.size,2,none⟩=some (.string ⟨#[]⟩)∧W'.cell? ⟨x1.heap.size,3,none⟩=some (.slice none 0 0)∧W'.cell? ⟨x1.heap.size,4,none⟩=some (.int .i64 ya.op)∧W'.cell? ⟨x1.heap.size,5,none⟩=some (.int .i64 ya.n)∧W'.cell? ⟨x1.heap.size,6,none⟩=some (.string ya.s)∧W'.cell? ⟨x1.heap.size,7,none⟩=some (.string ya.t)∧W'.cell? ⟨x1.heap.size,8,none⟩=some (.slice kba ya.kids.length kbc)∧W'.cell? ⟨x1.heap.size,9,none⟩=some (.string x.t)∧W'.cell? ⟨x1.heap.size,10,none⟩=some (.string x.s)∧W'.cell? ⟨x1.heap.size,11,none⟩=some (.slice ea env.length ec))) (by kernel_rfl) (by kernel_rfl) (by first | (dsimp only;exact HQ3.out _ _ (TB3.out _ (Below.refl _ _).drew)) | (exact HQ3.out _ _ (TB3.out _ (Below.refl _ _).drew))) (fun hHeld=> ?_);generalize hxd:World.drew _=y1 at hHeld ⊢;have hd1:Below x3.heap.size x3 y1:=by rw[←hxd];exact(Ac _ _).drew
 clear hxd;have N4:=Aa (N3.out.same hd1);have T4:=Aa (TB3.out _ hd1);refine tkT (i:=0) ?_;refine tkT (i:=1) ?_;refine tkT (i:=2) ?_;refine tkT (i:=3) ?_;refine tkT (i:=4) ?_;refine tkT (i:=5) ?_;refine tkT (i:=6) ?_;refine tkT (i:=7) ?_;refine tkT (i:=8) ?_;refine rdT (i:=9) (fun K hK=> ?_);go_simp;refine(FR x.s (PP.out.reW N4.out.tw (AQ _)) HR.out.formS (by omega) N4.out.ev.gB.2 N4.out.ev.lt (fun k e=>(N4.out.ev.row k e).2) (fun k e=>e.elim (fun e=>Aj (PP.out.hx k e) N4.out.tw.size) (fun e=>by have:=N4.out.rx.1;omega))).mono ?_;rintro e y2 ⟨ba,bcap,rfl,bx2,hbd⟩;refine bkT hK (by first | (dsimp only;exact HQ3.out _ _ (TB3.out _ (hd1.trans (bx2.mono hd1.size)))) | (exact HQ3.out _ _ (TB3.out _ (hd1.trans (bx2.mono hd1.size))))) (fun hHeld=> ?_);clear hK K;have N5:=Aa (N4.out.same bx2);have T5:=Aa (TB3.out _ (hd1.trans (bx2.mono hd1.size)));have PRE:SPre B (Xq X (w.heap.size+1)) g lv ds yb (.slice kca yb.kids.length kcc) (.slice ba (env.length+1) bcap) ((x.s,.fn x.t x.s ya env)::env) ⟨f,s.out⟩ y2 r:=
  PP.out.bindK N5.out.tw hnb HM.out.2 (.fn _ _ _ _ hna (by have:=AT HM.out.1;have:=Aw x;have:=PP.out.wg;omega) PP.out.gd) (.fn _ _ _ _ (PP.out.lm.fuel (by have:=HF.out;dsimp only;omega))) (by have:=SZ.out;dsimp only;omega) (by have:=HF.out;dsimp only;omega) N5.out.ev (HKC.out.later (N1.out.ev.tw (T3.out.trans T5.out)) (Nat.le_refl _)) (hbd _ (HR.out.later T4.out (N3.out.ev.tw T4.out))) (Nat.le_succ _) N5.out.rx.1
 have PRE:=Aa PRE;clear bx2 hd1 hbd;refine rdT (i:=10) (fun K hK=> ?_);go_simp;refine(IH.out _ _ _ _ _ _ _ _ hm PRE.out).mono ?_;rintro e y3 ⟨c3,r3,rfl,t6,h6⟩;have H6:=Aa h6;obtain⟨kd6,nn6,ss6,a16,l16,c16,xx6,a26,l26,c26,arg6,self6,a36,l36,c36,rfl⟩:=h6.formS;unfold svC;refine bkT hK (by first | (dsimp only;exact HQ3.out _ _ (T5.out.trans t6)) | (exact HQ3.out _ _ (T5.out.trans t6))) (fun hHeld=> ?_);clear hK K;refine BO (by kernel_rfl) ?_;dsimp only[List.drop];have N6:=Aa (N5.out.step t6 h6.evS);clear h6 t6 hHeld;have K9:=Aa N6.out.rx;have ck:=K9.out.2.1;have fk:=K9.out.2.2;have yk:=K9.out.1;unfold sv0 at ck;go_wp2;generalize hz:Ws (Ws _ _ _) _ _=z;obtain⟨k9,g9⟩:=Bx.set12 K9.out (.int .i64 kd6) (.int .i64 nn6) (.string ss6) (.slice a16 l16 c16) (.int .i64 xx6.op) (.int .i64 xx6.n) (.string xx6.s) (.string xx6.t) (.slice a26 l26 c26) (.string arg6) (.string self6) (.slice a36 l36 c36);rw[hz]at k9 g9;have c9:=k9.2.1;refine AA (v:= .agg (svC kd6 nn6 ss6 (.slice a16 l16 c16) xx6 (.slice a26 l26 c26) arg6 self6 (.slice a36 l36 c36))) ?_ rfl ?_
 ·simp[results,Tryz.results56,go_sem,c9,svC]
 ·rw[HE.out,HK0.out,HK1.out];exact Sw.fin (res:=Ai ar m yb ((x.s,.fn x.t x.s ya env)::env) ⟨f,s.out⟩) N6.out H6.out hBw g9
theorem Vs {B g:Nat}{X:Nat→Prop}{lv:Value}{ds:List Dt}{ar:Str→Option Nat}{m f:Nat}{x:Nd}{kv ev:Value}{env:Env}{s:Es}{w:World}{r:Option Nat}(hf:s.fuel=f+1) (hm:f≤m) (P:SPre B X g lv ds x kv ev env s w r) (ho:x.op=7) (IH:B8 B g lv ds ar m):
  Calls Pq 56 #[.pointer (some ⟨g,0,none⟩),ndV x kv,ev] w (BA B X g lv (Ai ar (m+1) x env s) r w):=by
 have HE:=Aa (Bp (ar:=ar) (m:=m) (x:=x) (env:=env) hf);have IH:=Aa IH;have HF:=Aa hf;have PP:=Aa P;have HO:=Aa ho;have SZ:Hid (s.out.length+f+1≤4000):=Aa (by have:=P.sz;omega);obtain⟨ka,kc,rfl⟩:=P.rk.form;obtain⟨ea,ec,rfl⟩:=P.re.sc_form;have hsz:=P.sz;rw[hf]at hsz;have hfl:f≤4000:=by omega
 have hx:=P.ev;have hBw:=P.ev.gB.2;have hel:env.length≤4194304000:=Ar P.lm.inv_sc.1 (Cz _);rw[hf]at hx;obtain⟨ov,hb, -, -⟩:=hx.bx;have q1:∀ (o1 o2:Obj),((w.alloc o1).alloc o2).cell? ⟨g,1,none⟩=some (.int .i64 ((f+1:Nat):Int)):=fun o1 o2=>((AI o1 o2).cell (p:=⟨g,1,none⟩) hb.1).trans (hb.2.1 1);have q2:∀ (o1 o2:Obj),((w.alloc o1).alloc o2).cell? ⟨g,2,none⟩=some (.int .i64 0):=fun o1 o2=>((AI o1 o2).cell (p:=⟨g,2,none⟩) hb.1).trans (hb.2.1 2);have f1:∀ (o1 o2:Obj),((w.alloc o1).alloc o2).frozen? ⟨g,1,none⟩=false:=fun o1 o2=>((AI o1 o2).frozen (p:=⟨g,1,none⟩) hb.1).trans (hb.2.2 1);have hgw:g < w.heap.size:=hb.1;have hwg:w.heap.size≠g:=by omega
 have hwg1:w.heap.size+1≠g:=by omega
 unfold ndV;rw[ho];clear P hx hb ho hf;go_enter Tryz.func56,Tryz.ntmps56;go_wp2_with fail;generalize hW:Wa (Wa _ _) _=W1;have N1:=Aa (PP.out.start (f:=f) rfl hW);clear hW q1 q2 f1;have P1:SPre B (Xq X (w.heap.size+1)) g lv ds x (.slice ka x.kids.length kc) (.slice ea env.length ec) env ⟨f,s.out⟩ W1 r:=
  ⟨PP.out.np,PP.out.wg,PP.out.gd,PP.out.lm.fuel (by have:=HF.out;dsimp only;omega),by have:=SZ.out;dsimp only;omega,PP.out.rkW N1.out.tw,PP.out.reW N1.out.tw (Nat.le_succ _),N1.out.ev,PP.out.dtW N1.out.tw,fun k e=>e.elim (fun e=>Nat.lt_of_lt_of_le (PP.out.hx k e) N1.out.tw.size) (fun e=>by have:=N1.out.rx.1;omega)⟩
 have HC:=Aa (Vo (ar:=ar) (s:=⟨f,s.out⟩) hm P1 HO.out IH.out);unfold ndV at HC;rw[HO.out]at HC;clear P1;refine HC.out.mono ?_;rintro e W2 ⟨c2,r2,rfl,t2,h2⟩;have N2:=Aa (N1.out.step t2 h2.evS);have H2:=Aa h2;obtain⟨kd2,nn2,ss2,a12,l12,c12,xx2,a22,l22,c22,arg2,self2,a32,l32,c32,rfl⟩:=h2.formS;clear t2 h2 HC;unfold svC;have K9:=Aa N2.out.rx;have ck:=K9.out.2.1;have fk:=K9.out.2.2;have yk:=K9.out.1;unfold sv0 at ck;go_wp2;generalize hz:Ws (Ws _ _ _) _ _=z;obtain⟨k9,g9⟩:=Bx.set12 K9.out (.int .i64 kd2) (.int .i64 nn2) (.string ss2) (.slice a12 l12 c12) (.int .i64 xx2.op) (.int .i64 xx2.n) (.string xx2.s) (.string xx2.t) (.slice a22 l22 c22) (.string arg2) (.string self2) (.slice a32 l32 c32);rw[hz]at k9 g9;have c9:=k9.2.1;refine AA (v:= .agg (svC kd2 nn2 ss2 (.slice a12 l12 c12) xx2 (.slice a22 l22 c22) arg2 self2 (.slice a32 l32 c32))) ?_ rfl ?_
 ·simp[results,Tryz.results56,go_sem,c9,svC]
 ·rw[HE.out];exact Sw.fin (res:=AF ar (Ai ar m) x env ⟨f,s.out⟩) N2.out H2.out hBw g9
theorem Vt {B g:Nat}{X:Nat→Prop}{lv:Value}{ds:List Dt}{ar:Str→Option Nat}{m f:Nat}{x:Nd}{kv ev:Value}{env:Env}{s:Es}{w:World}{r:Option Nat}(hf:s.fuel=f+1) (hm:f≤m) (P:SPre B X g lv ds x kv ev env s w r) (ho:x.op=15) (IH:B8 B g lv ds ar m) (har:ar=arP ds) (hlw:AR ds≤1048576):
  Calls Pq 56 #[.pointer (some ⟨g,0,none⟩),ndV x kv,ev] w (BA B X g lv (Ai ar (m+1) x env s) r w):=by
 have HE:=Aa (Bp (ar:=ar) (m:=m) (x:=x) (env:=env) hf);have IH:=Aa IH;have HF:=Aa hf;have PP:=Aa P;have HO:=Aa ho;have SZ:Hid (s.out.length+f+1≤4000):=Aa (by have:=P.sz;omega);obtain⟨ka,kc,rfl⟩:=P.rk.form;obtain⟨ea,ec,rfl⟩:=P.re.sc_form;have hsz:=P.sz;rw[hf]at hsz;have hfl:f≤4000:=by omega
 have hx:=P.ev;have hBw:=P.ev.gB.2;have hel:env.length≤4194304000:=Ar P.lm.inv_sc.1 (Cz _);rw[hf]at hx;obtain⟨ov,hb, -, -⟩:=hx.bx;have q1:∀ (o1 o2:Obj),((w.alloc o1).alloc o2).cell? ⟨g,1,none⟩=some (.int .i64 ((f+1:Nat):Int)):=fun o1 o2=>((AI o1 o2).cell (p:=⟨g,1,none⟩) hb.1).trans (hb.2.1 1);have q2:∀ (o1 o2:Obj),((w.alloc o1).alloc o2).cell? ⟨g,2,none⟩=some (.int .i64 0):=fun o1 o2=>((AI o1 o2).cell (p:=⟨g,2,none⟩) hb.1).trans (hb.2.1 2);have f1:∀ (o1 o2:Obj),((w.alloc o1).alloc o2).frozen? ⟨g,1,none⟩=false:=fun o1 o2=>((AI o1 o2).frozen (p:=⟨g,1,none⟩) hb.1).trans (hb.2.2 1);have hgw:g < w.heap.size:=hb.1;have hwg:w.heap.size≠g:=by omega
 have hwg1:w.heap.size+1≠g:=by omega
 unfold ndV;rw[ho];clear P hx hb ho hf;go_enter Tryz.func56,Tryz.ntmps56;go_wp2_with fail;generalize hW:Wa (Wa _ _) _=W1;have N1:=Aa (PP.out.start (f:=f) rfl hW);clear hW q1 q2 f1;have P1:SPre B (Xq X (w.heap.size+1)) g lv ds x (.slice ka x.kids.length kc) (.slice ea env.length ec) env ⟨f,s.out⟩ W1 r:=
  ⟨PP.out.np,PP.out.wg,PP.out.gd,PP.out.lm.fuel (by have:=HF.out;dsimp only;omega),by have:=SZ.out;dsimp only;omega,PP.out.rkW N1.out.tw,PP.out.reW N1.out.tw (Nat.le_succ _),N1.out.ev,PP.out.dtW N1.out.tw,fun k e=>e.elim (fun e=>Nat.lt_of_lt_of_le (PP.out.hx k e) N1.out.tw.size) (fun e=>by have:=N1.out.rx.1;omega)⟩
 have HC:=Aa (Vp (ar:=ar) (s:=⟨f,s.out⟩) hm P1 HO.out IH.out har hlw);unfold ndV at HC;rw[HO.out]at HC;clear P1;refine HC.out.mono ?_;rintro e W2 ⟨c2,r2,rfl,t2,h2⟩;have N2:=Aa (N1.out.step t2 h2.evS);have H2:=Aa h2;obtain⟨kd2,nn2,ss2,a12,l12,c12,xx2,a22,l22,c22,arg2,self2,a32,l32,c32,rfl⟩:=h2.formS;clear t2 h2 HC;unfold svC;have K9:=Aa N2.out.rx;have ck:=K9.out.2.1;have fk:=K9.out.2.2;have yk:=K9.out.1;unfold sv0 at ck;go_wp2;generalize hz:Ws (Ws _ _ _) _ _=z;obtain⟨k9,g9⟩:=Bx.set12 K9.out (.int .i64 kd2) (.int .i64 nn2) (.string ss2) (.slice a12 l12 c12) (.int .i64 xx2.op) (.int .i64 xx2.n) (.string xx2.s) (.string xx2.t) (.slice a22 l22 c22) (.string arg2) (.string self2) (.slice a32 l32 c32);rw[hz]at k9 g9;have c9:=k9.2.1;refine AA (v:= .agg (svC kd2 nn2 ss2 (.slice a12 l12 c12) xx2 (.slice a22 l22 c22) arg2 self2 (.slice a32 l32 c32))) ?_ rfl ?_
 ·simp[results,Tryz.results56,go_sem,c9,svC]
 ·rw[HE.out];exact Sw.fin (res:=AF ar (Ai ar m) x env ⟨f,s.out⟩) N2.out H2.out hBw g9
theorem Vu {B g:Nat}{X:Nat→Prop}{lv:Value}{ds:List Dt}{ar:Str→Option Nat}{m f:Nat}{x:Nd}{kv ev:Value}{env:Env}{s:Es}{w:World}{r:Option Nat}(hf:s.fuel=f+1) (hm:f≤m) (P:SPre B X g lv ds x kv ev env s w r) (ho:x.op=16) (IH:B8 B g lv ds ar m):
  Calls Pq 56 #[.pointer (some ⟨g,0,none⟩),ndV x kv,ev] w (BA B X g lv (Ai ar (m+1) x env s) r w):=by
 have HE:=Aa (Bp (ar:=ar) (m:=m) (x:=x) (env:=env) hf);have IH:=Aa IH;have HF:=Aa hf;have PP:=Aa P;have HO:=Aa ho;have SZ:Hid (s.out.length+f+1≤4000):=Aa (by have:=P.sz;omega);obtain⟨ka,kc,rfl⟩:=P.rk.form;obtain⟨ea,ec,rfl⟩:=P.re.sc_form;have hsz:=P.sz;rw[hf]at hsz;have hfl:f≤4000:=by omega
 have hx:=P.ev;have hBw:=P.ev.gB.2;have hel:env.length≤4194304000:=Ar P.lm.inv_sc.1 (Cz _);rw[hf]at hx;obtain⟨ov,hb, -, -⟩:=hx.bx;have q1:∀ (o1 o2:Obj),((w.alloc o1).alloc o2).cell? ⟨g,1,none⟩=some (.int .i64 ((f+1:Nat):Int)):=fun o1 o2=>((AI o1 o2).cell (p:=⟨g,1,none⟩) hb.1).trans (hb.2.1 1);have q2:∀ (o1 o2:Obj),((w.alloc o1).alloc o2).cell? ⟨g,2,none⟩=some (.int .i64 0):=fun o1 o2=>((AI o1 o2).cell (p:=⟨g,2,none⟩) hb.1).trans (hb.2.1 2);have f1:∀ (o1 o2:Obj),((w.alloc o1).alloc o2).frozen? ⟨g,1,none⟩=false:=fun o1 o2=>((AI o1 o2).frozen (p:=⟨g,1,none⟩) hb.1).trans (hb.2.2 1);have hgw:g < w.heap.size:=hb.1;have hwg:w.heap.size≠g:=by omega
 have hwg1:w.heap.size+1≠g:=by omega
 unfold ndV;rw[ho];clear P hx hb ho hf;go_enter Tryz.func56,Tryz.ntmps56;go_wp2_with fail;generalize hW:Wa (Wa _ _) _=W1;have N1:=Aa (PP.out.start (f:=f) rfl hW);clear hW q1 q2 f1;have P1:SPre B (Xq X (w.heap.size+1)) g lv ds x (.slice ka x.kids.length kc) (.slice ea env.length ec) env ⟨f,s.out⟩ W1 r:=
  ⟨PP.out.np,PP.out.wg,PP.out.gd,PP.out.lm.fuel (by have:=HF.out;dsimp only;omega),by have:=SZ.out;dsimp only;omega,PP.out.rkW N1.out.tw,PP.out.reW N1.out.tw (Nat.le_succ _),N1.out.ev,PP.out.dtW N1.out.tw,fun k e=>e.elim (fun e=>Nat.lt_of_lt_of_le (PP.out.hx k e) N1.out.tw.size) (fun e=>by have:=N1.out.rx.1;omega)⟩
 have HC:=Lib.hid (Vq (ar:=ar) (s:=⟨f,s.out⟩) hm (by have:=SZ.out;dsimp only;omega) P1 HO.out IH.out);unfold ndV at HC;rw[HO.out]at HC;clear P1;refine HC.out.mono ?_;rintro e W2 ⟨c2,r2,rfl,t2,h2⟩;have N2:=Aa (N1.out.step t2 h2.evS);have H2:=Aa h2;obtain⟨kd2,nn2,ss2,a12,l12,c12,xx2,a22,l22,c22,arg2,self2,a32,l32,c32,rfl⟩:=h2.formS;clear t2 h2 HC;unfold svC;have K9:=Aa N2.out.rx;have ck:=K9.out.2.1;have fk:=K9.out.2.2;have yk:=K9.out.1;unfold sv0 at ck;go_wp2;generalize hz:Ws (Ws _ _ _) _ _=z;obtain⟨k9,g9⟩:=Bx.set12 K9.out (.int .i64 kd2) (.int .i64 nn2) (.string ss2) (.slice a12 l12 c12) (.int .i64 xx2.op) (.int .i64 xx2.n) (.string xx2.s) (.string xx2.t) (.slice a22 l22 c22) (.string arg2) (.string self2) (.slice a32 l32 c32);rw[hz]at k9 g9;have c9:=k9.2.1;refine AA (v:= .agg (svC kd2 nn2 ss2 (.slice a12 l12 c12) xx2 (.slice a22 l22 c22) arg2 self2 (.slice a32 l32 c32))) ?_ rfl ?_
 ·simp[results,Tryz.results56,go_sem,c9,svC]
 ·rw[HE.out];exact Sw.fin (res:=AF ar (Ai ar m) x env ⟨f,s.out⟩) N2.out H2.out hBw g9
end Go.Proofs.YtifhcbeaiijkcaaGreat
