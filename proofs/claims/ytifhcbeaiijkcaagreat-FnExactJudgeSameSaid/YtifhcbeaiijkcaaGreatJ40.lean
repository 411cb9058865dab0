/- Parts of the proof of FnExactJudgeSame. -/
import Derived.Test.YtifhcbeaiijkcaaGreatJ39
set_option linter.unusedVariables false
set_option linter.unusedSimpArgs false
set_option maxRecDepth 1000000
set_option maxHeartbeats 16000000
namespace Go.Proofs.YtifhcbeaiijkcaaGreat
open Go.RowKit
open _root_.Go.World renaming alloc→Wa,setCell→Ws
open _root_.Go.Proofs.Tryz renaming prog→Pq
theorem Tryz.infoIw:(Tryz.prog.info? 3).map (fun i=>(i.zero,i.size,i.bytes))=some (some (.int .i64 0),1,8):=by kernel_rfl
theorem SPre.start_w {B g:Nat}{X:Nat→Prop}{lv:Value}{ds:List Dt}{x:Nd}{kv ev:Value}{env:Env}{s:Es}{w W:World}{r:Option Nat}(h:SPre B X g lv ds x kv ev env s w r) {cur:Array Value}{e e2:TypeId}(hW:((w.alloc (.cells cur e)).alloc (.cells sv0 e2)).alloc (.cells #[] 3)=W):Sw B g lv w r W r (.ok () s) cur (w.heap.size+1)∧W.ownsRow (w.heap.size+2) 3 1 (.slice (some ⟨w.heap.size+2,0,none⟩) 0 0) 0 []:=by
 have N:=h.start2 (cur:=cur) (e:=e) (e2:=e2) rfl;rw[←hW];exact⟨N.same ((Ab _ _).alloc (Ad _) _),FR (by simp) (Ad _)⟩
theorem Nl {E1:Es→Rs Vl}{σ:Rs Unit}{v:Vl}{s2:Es}(h:(σ.bind fun _ s=>E1 s)= .ok v s2):∃s1,σ= .ok () s1∧E1 s1= .ok v s2:=by
 cases σ with
 |bad c o=>cases h
 |ok u s=>exact⟨s,rfl,h⟩
theorem Uj {B g:Nat}{lv:Value}{ds:List Dt}{ar:Str→Option Nat}{m:Nat}{X:Nat→Prop}{x:Nd}{kv ev:Value}{env:Env}{s:Es}{w:World}{r:Option Nat}(hm:s.fuel≤m) (hs1:s.out.length+s.fuel+1≤4000) (P:SPre B X g lv ds x kv ev env s w r) (ho:x.op=16) (IH:Ck B g lv ds ar m):
  Calls Pq 125 #[.pointer (some ⟨g,0,none⟩),ndV x kv,ev] w (BH B X g lv (AI ar (Ag ar m) x env s) r w):=by
 have PP:=Aa P;have IH:=Aa IH;have hX:=P.hx;obtain⟨ya,hkk,hna⟩:=Fp P.np (.inr ho);have HE:=Aa (Vv (ar:=ar) (E:=Ag ar m) (env:=env) (s:=s) ho hkk);have HNK:=Aa (fun(k:Nat) (hk:k < x.kids.length)=>(by
  have h1:=An hk;generalize x.kids[k]=y at h1;rw[hkk]at h1;simp only[List.mem_cons,List.not_mem_nil,or_false]at h1;rw[h1];exact hna:Aj x.kids[k]=true))
 have HM:=Aa (fun(k:Nat) (hk:k < x.kids.length)=>(An hk:x.kids[k]∈x.kids));have HL:=Aa (show x.kids.length=1 by rw[hkk];rfl);obtain⟨ka,kc,rfl⟩:=P.rk.form;obtain⟨ea,ec,rfl⟩:=P.re.sc_form;have hks:x.kids.length≤2:=by rw[HL.out];decide
 have hgw:=P.ev.lt;have hBw:=P.ev.gB.2;have hob:(x.op==16)=true:=by simp;omega
 have HO:=Aa ho;obtain⟨i0,hi0,hz0,hz1,hz2⟩:=info_parts Tryz.infoIw;unfold ndV;clear P ho hkk;go_enter Tryz.func125,Tryz.ntmps125;go_wp2_with fail;generalize hW:Wa (Wa (Wa _ _) _) _=W1;obtain⟨N1,O1⟩:=PP.out.start_w hW;have C0:WnS B g lv w r #[.int .i64 x.op,.int .i64 x.n,.string x.s,.string x.t,.slice ka x.kids.length kc] W1 r (.ok () s) (.slice (some ⟨w.heap.size+2,0,none⟩) 0 0) []:=⟨N1,O1,fun q e=>by have:=(PP.out.ev.row q);simp[Value.ownBlock]at e;intro h;have:=(this h).2;omega,hgw⟩;clear hW N1 O1
 go_loopw [7,8] (fun l i wr=>∃ (k:Nat) (rW:Option Nat) (σ:Rs Unit) (va:Option Addr) (vc:Nat) (xs:List Int),k≤x.kids.length∧i= .int .i64 k∧l= .slice va xs.length vc∧WnS B g lv w r #[.int .i64 x.op,.int .i64 x.n,.string x.s,.string x.t,.slice ka x.kids.length kc] wr rW σ (.slice va xs.length vc) xs∧Hid (xs.length=k)∧Hid (IInv (Ag ar m) env x.kids s k σ xs)∧Hid (∀t,σ= .ok () t→t.fuel≤s.fuel∧t.out.length+t.fuel+1≤4000∧ ∀a∈xs, -1073741824≤a∧a≤1073741823)) (fun _ i _=>x.kids.length - (intOf i).toNat)
 case atStart=>exact⟨0,_,_,_,_,[],Ao _,rfl,rfl,C0,Aa rfl,Aa (IInv.zero _ _ _ _),Aa (fun t ht=>by cases ht;exact⟨Ad _,hs1,by simp⟩)⟩
 case round=>
  clear C0;obtain⟨k,rW,σ,va,vc,xs,hk,rfl,rfl,hC,hkl,hki,hft⟩:=hrel;have C:=Aa hC;clear hC;have qb:=C.out.now.bx.2.1;have lb:=C.out.now.bx.1;have lg:=C.out.now.ev.lt;have hxl:xs.length≤2:=by rw[hkl.out];omega
  by_cases hlt:k < x.kids.length
  ·obtain⟨b,off,cap',kvy,hv',hB',hbs',hcap',⟨d0,d1,d2,d3,d4⟩,hka⟩:=(PP.out.rkW C.out.now.tw).at_ hlt;cases hv'
   have hki1:(k:Int) < (x.kids.length:Int):=by omega
   have hk0:(0:Int)≤ (k:Int):=by omega
   obtain⟨kya,kyc,rfl⟩:=hka.form;have HKA:=Aa hka;have hny:=HNK.out k hlt;have hmy:=HM.out k hlt;have HIB:=Aa (fun(c:Int) (o:List Int) (he:(σ.bind fun _ s1=>Ag ar m x.kids[k] env s1)= .bad c o) (ys:List Int)=>hki.out.bad hlt he ys (k+1));have HII:=Aa (fun(v:Vl) (s2:Es) (he:(σ.bind fun _ s1=>Ag ar m x.kids[k] env s1)= .ok v s2) (a:Int) (ha:Co v s2= .ok a s2)=>hki.out.int hlt he ha);have HIN:=Aa (fun(v:Vl) (s2:Es) (he:(σ.bind fun _ s1=>Ag ar m x.kids[k] env s1)= .ok v s2) (ha:Co v s2= .bad 2 s2.out) (ys:List Int)=>hki.out.not hlt he ha ys (k+1));clear hka;generalize x.kids[k]=y at*;go_wp2_with fail;clear d0 d1 d2 d3 d4 qb lb lg;have PRE:=Aa (fun(t:Es) (h:σ= .ok () t)=>(by
    have h1:=hft.out t h;have he:=C.out.now.ev;rw[h]at he;exact⟨by omega,PP.out.sub C.out.now.tw hny hmy (by omega) h1.1 he HKA.out (AJ _) C.out.now.rx.1⟩:t.fuel≤m∧SPre B (Xq X (w.heap.size+1)) g lv ds y (.slice kya y.kids.length kyc) (.slice ea env.length ec) env t wr rW))
   refine(GM IH.out C.out.now.ev PRE.out ⟨_,_,_,rfl⟩ ⟨_,_,_,rfl⟩).mono ?_;rintro e W4 ⟨c4,r4,rfl,t4,h4⟩;have C4:=Aa (C.out.call t4 h4.evS);have H4:=Aa h4;have HBO:=Aa (fun v s2 h=>Nl (E1:=fun s=>Ag ar m y env s) (σ:=σ) (v:=v) (s2:=s2) h);obtain⟨res,hres⟩:∃R,(σ.bind fun _ s1=>Ag ar m y env s1)=R:=⟨_,rfl⟩;rw[hres]at C4 H4;have HR:=Aa hres;obtain⟨kd4,nn4,ss4,a14,l14,c14,xx4,a24,l24,c24,arg4,self4,a34,l34,c34,rfl⟩:=h4.formS;clear h4 t4 hres;unfold svC;have lg:=C4.out.now.ev.lt;have hsz4:=C4.out.now.bx.1;have hrx4:=C4.out.now.rx.1;cases res with
   |bad cd o=>
    have HC:=Aa (show cd=1∨cd=2 from C4.out.now.ev.1);have hcb:(cd==0)=false:=by rcases HC.out with rfl |rfl <;> rfl
    have q2:W4.cell? ⟨g,2,none⟩=some (.int .i64 cd):=by
     obtain⟨f2,e2⟩:=C4.out.now.ev.2;exact e2.cells.2.2
    have OWN:=Aa (fun(cur:Array Value) (e:TypeId)=>(C4.out.same ((Ab _ _).alloc (Ad _) (.cells cur e))).own);have HI:=Aa (HIB.out cd o HR.out);go_wp2_with (at_builtin;refine Dw rfl _ _ 29 rfl (w.heap.size+2) 3 i0 (.int .i64 0) 1 8 Tryz.underlying29 hi0 hz0 hz1 hz2 rfl (by decide) _ _ _ rfl (OWN.out _ _) #[_] rfl ?_ (W4.heap.size+1) ?_ rfl ?_ ?_ ?_ ?_)
    ·rfl
    ·simp
    ·unfold maxLen;omega
    ·omega
    ·first |omega | (simp;done) | (simp;omega)
    ·intro v6 w6 o6 g6 alt;have C6:=Aa (WnS.app (C4.out.same ((Ab _ _).alloc (Ad _) _)) o6 g6 (by
      rcases alt with e |e
      ·exact .inl e
      ·exact .inr ⟨_,by first |exact AJ _ | (simp;done) | (simp;omega),e⟩))
     obtain⟨v6a,v6c,rfl⟩:=AR o6;clear o6 g6 alt;go_wp2;go_roundw
     case rel=>exact⟨k+1,_,_,v6a,v6c,xs++ [nn4],hlt,by go_num,by simp only[Bl,List.length_singleton],by have h:=C6.out;simp only[Bl,List.length_singleton];exact h,Aa (by rw[Bl,hkl.out];rfl),Aa (HI.out _),Aa (fun t ht=>by cases ht)⟩
     case measure=>simp[intOf];omega
   |ok v s4=>
    obtain⟨s1,hs1',he1⟩:=HBO.out v s4 HR.out;have HK:=Aa (PP.out.kid hny hmy (by have:=(hft.out s1 hs1').2.1;omega) (hft.out s1 hs1').1 he1);have HSM:=Aa (EK he1);have HFS:=Aa (hft.out s1 hs1');have HKN:=Aa (RdS.kn H4.out.1);have q2:W4.cell? ⟨g,2,none⟩=some (.int .i64 0):=Ev.cells C4.out.now.ev |>.2.2
    by_cases hkd:kd4=1
    ·have HA:=Aa (C9 s4 (HKN.out.1.symm.trans hkd));rw[←HKN.out.2.1]at HA;have HW:=Aa (Dk HK.out.1);rw[←HKN.out.2.1]at HW;subst hkd;have OWN:=Aa (fun(cur:Array Value) (e:TypeId)=>(C4.out.same ((Ab _ _).alloc (Ad _) (.cells cur e))).own);have HI:=Aa (HII.out v s4 HR.out nn4 HA.out);go_wp2_with (at_builtin;refine Dw rfl _ _ 29 rfl (w.heap.size+2) 3 i0 (.int .i64 0) 1 8 Tryz.underlying29 hi0 hz0 hz1 hz2 rfl (by decide) _ _ _ rfl (OWN.out _ _) #[_] rfl ?_ (W4.heap.size+1) ?_ rfl ?_ ?_ ?_ ?_)
     ·rfl
     ·simp
     ·unfold maxLen;omega
     ·omega
     ·first |omega | (simp;done) | (simp;omega)
     ·intro v6 w6 o6 g6 alt;have C6:=Aa (WnS.app (C4.out.same ((Ab _ _).alloc (Ad _) _)) o6 g6 (by
       rcases alt with e |e
       ·exact .inl e
       ·exact .inr ⟨_,by first |exact AJ _ | (simp;done) | (simp;omega),e⟩))
      obtain⟨v6a,v6c,rfl⟩:=AR o6;clear o6 g6 alt;go_wp2;go_roundw
      case rel=>exact⟨k+1,_,_,v6a,v6c,xs++ [nn4],hlt,by go_num,by simp only[Bl,List.length_singleton],by have h:=C6.out;simp only[Bl,List.length_singleton];exact h,Aa (by rw[Bl,hkl.out];rfl),HI,Aa (fun t ht=>by cases ht;exact⟨by have:=HK.out.2.2.1;have:=HFS.out.1;omega,by have:=HSM.out;have:=HFS.out.2.1;omega,fun a ha=>(IC.1 ha).elim (HFS.out.2.2 a) (fun e=>by rw[List.mem_singleton.1 e];exact HW.out)⟩)⟩
      case measure=>simp[intOf];omega
    ·have HA:=Aa (Da s4 (fun h=>hkd (HKN.out.1.trans h)));have hkb:(kd4 !=1)=true:=by simpa using hkd
     clear hkd;go_wp2_with fail;generalize hW5:Wa _ _=W5;obtain⟨b5,k5⟩:=Bx.alloc hW5;have C5:=Aa (C4.out.same b5);have hb5:=b5.size;have hn1:W4.heap.size≠g:=by have:=C4.out.now.ev.lt;omega
     have hn2:r4≠some W4.heap.size:=fun e=>by have:=(C4.out.now.ev.row _ e).2;omega
     clear q2 hW5 b5;refine(Hg C5.out.now.ev).mono ?_;rintro e W6 ⟨rfl,t6,e6⟩;have C6':=Aa (C5.out.call t6 e6);have K6:=k5.tw t6 hn1 hn2;have qk:=K6.2.1;have lk:=K6.1;have OWN:=Aa C6'.out.own;have hsz6:=t6.size;have HI:=Aa (HIN.out v s4 HR.out HA.out);clear t6 e6 k5 K6;go_wp2_with (at_builtin;refine Dw rfl _ _ 29 rfl (w.heap.size+2) 3 i0 (.int .i64 0) 1 8 Tryz.underlying29 hi0 hz0 hz1 hz2 rfl (by decide) _ _ _ rfl (OWN.out) #[_] rfl ?_ (W6.heap.size) rfl rfl ?_ ?_ ?_ ?_)
     ·rfl
     ·unfold maxLen;omega
     ·omega
     ·first |omega | (simp;done) | (simp;omega)
     ·intro v6 w6 o6 g6 alt;have C6:=Aa (WnS.app (C6'.out) o6 g6 (by
       rcases alt with e |e
       ·exact .inl e
       ·exact .inr ⟨_,by first |exact AJ _ | (simp;done) | (simp;omega),e⟩))
      obtain⟨v6a,v6c,rfl⟩:=AR o6;clear o6 g6 alt;go_wp2;go_roundw
      case rel=>exact⟨k+1,_,_,v6a,v6c,xs++ [nn4],hlt,by go_num,by simp only[Bl,List.length_singleton],by have h:=C6.out;simp only[Bl,List.length_singleton];exact h,Aa (by rw[Bl,hkl.out];rfl),Aa (HI.out _),Aa (fun t ht=>by cases ht)⟩
      case measure=>simp[intOf];omega
  ·obtain rfl:k=x.kids.length:=by omega
   have HKD:=Aa hki.out.done;have hki1:¬((x.kids.length:Int) < (x.kids.length:Int)):=by omega
   clear hki hlt;cases σ with
   |bad cd o=>
    have HC:=Aa (show cd=1∨cd=2 from C.out.now.ev.1);have hcb:(cd !=0)=true:=by rcases HC.out with rfl |rfl <;> rfl
    have q2:wr.cell? ⟨g,2,none⟩=some (.int .i64 cd):=by
     obtain⟨f2,e2⟩:=C.out.now.ev.2;exact e2.cells.2.2
    have N8:=Aa C.out.now;have K9:=Aa N8.out.rx;have ck:=K9.out.2.1;have fk:=K9.out.2.2;have yk:=K9.out.1;unfold sv0 at ck;go_wp2;generalize hz:Ws (Ws _ _ _) _ _=z;obtain⟨k9,g9⟩:=Bx.set12 K9.out (.int .i64 0) (.int .i64 0) (.string ⟨#[]⟩) (.slice none 0 0) (.int .i64 0) (.int .i64 0) (.string ⟨#[]⟩) (.string ⟨#[]⟩) (.slice none 0 0) (.string ⟨#[]⟩) (.string ⟨#[]⟩) (.slice none 0 0);rw[hz]at k9 g9;have c9:=k9.2.1;refine Aq (v:= .agg (sv0)) ?_ rfl ?_
    ·simp[results,Tryz.results125,go_sem,c9,sv0]
    ·rw[HE.out,HKD.out];exact Sw.fin (res:= .bad cd o) N8.out ⟨FormS.zero,N8.out.ev⟩ hBw g9
   |ok u s1=>
    have q2:wr.cell? ⟨g,2,none⟩=some (.int .i64 0):=Ev.cells C.out.now.ev |>.2.2
    obtain⟨zi,rfl⟩:∃zi,xs=[zi]:=by
     have h1:=hkl.out;rw[HL.out]at h1
     match xs,h1 with
     | [zi],_=>exact⟨zi,rfl⟩
    obtain⟨q,hq,hc⟩:=IJ C.out.own 0 (by simp);have hqb:=C.out.own.lt q (by rw[hq];rfl);have hqr:=C.out.nq q (by rw[hq];rfl);subst hq;have hc:wr.cell? ⟨q,0,none⟩=some (.int .i64 zi):=hc;have hqg:q≠g:=by omega
    have hE:Ev B g lv wr s1.fuel 0 s1.out rW:=C.out.now.ev;obtain⟨ov,hb,how,hrv⟩:=hE.bx;obtain⟨oa,oc,rfl⟩:=AR how;have HB:=Aa hb;have HOW:=Aa how;have HRV:=Aa hrv;have HQ:=Aa (fun(W':World) (h:Below wr.heap.size wr W')=>(And.intro ((hb.below h hb.1).2.1 3) ((h.cell (p:=⟨q,0,none⟩) hqb.2).trans hc):W'.cell? ⟨g,3,none⟩=some (.slice oa s1.out.length oc)∧W'.cell? ⟨q,0,none⟩=some (.int .i64 zi)));have hsz1:=(hft.out s1 rfl).2.1;clear how hrv hb hE;go_wp2_with fail;clear qb lb lg q2 hc;refine CQ 10 (S:=(fun W'=>W'.cell? ⟨g,3,none⟩=some (.slice oa s1.out.length oc)∧W'.cell? ⟨q,0,none⟩=some (.int .i64 zi))) (by kernel_rfl) (by kernel_rfl) (by first | (dsimp only;exact HQ.out _ (Below.refl _ _).drew) | (exact HQ.out _ (Below.refl _ _).drew)) (fun hHeld=> ?_);generalize hxd:World.drew _=x2 at hHeld ⊢;have hd1:Below wr.heap.size wr x2:=by rw[←hxd];exact(Ab _ _).drew
    clear hxd;refine tkT (i:=0) ?_;refine tkT (i:=1) ?_;refine tkT (i:=2) ?_;refine tkT (i:=3) ?_;refine tkT (i:=4) ?_;refine tkT (i:=5) ?_;refine tkT (i:=6) ?_;refine tkT (i:=7) ?_;refine rdT (i:=8) (fun K hK=> ?_);go_simp;generalize hy:Wa _ _=W5;obtain⟨b5,k5⟩:=Bx.alloc hy;have hd5:=hd1.trans (b5.mono hd1.size);refine bkT hK (by first | (dsimp only;exact HQ.out _ hd5) | (exact HQ.out _ hd5)) (fun hHeld=> ?_);clear hK K;have C5:=Aa (C.out.same hd5);have HB5:=Aa (HB.out.below hd5 HB.out.1);have HOW5:=Aa (Bm HOW.out hd5 (A5 HOW.out));have hgB:=C.out.now.ev.gB;have hsz5:=hd5.size;have hS5:=HQ.out _ hd5;refine Gv (rs:=[9]) (by kernel_rfl) (by simp) ?_;refine AllReadyT.cons (by (simp only[List.getElem?_toArray,List.getElem?_cons_succ,List.getElem?_cons_zero];rfl)) (fun K hK=> ?_) AllReadyT.nil;rw[Af (by rfl)];refine It _ _ 29 rfl B 3 i0 (.int .i64 0) 1 8 Tryz.underlying29 hi0 hz0 hz1 hz2 rfl (by decide) _ _ _ rfl HOW5.out #[.int .i64 zi] rfl ?_ x2.heap.size rfl ?_ ?_ ?_ ?_ ?_
    ·simp[Value.oneCell']
    ·exact k5.2.1
    ·unfold maxLen;omega
    ·omega
    ·omega
    ·intro v6 w6 o6 g6 alt;obtain⟨v6a,v6c,rfl⟩:=AR o6;have hrv2:=HRV.out;replace g6:W5.grownBy w6 (Value.slice oa s1.out.length oc).ownBlock:=g6;have A6:=Aa (Ev.app' (v':= .slice v6a (s1.out.length+1) v6c) (w4:=w6) (x:=zi) (show Ev B g lv W5 s1.fuel 0 s1.out rW from C5.out.now.ev) HB5.out HRV.out (by simpa using o6) g6 (by
      rcases alt with e |e
      ·exact .inl e
      ·exact .inr ⟨_,Ad _,e⟩))
     have K6:=Aa (HB5.out.grown g6 (by rw[hrv2];exact fun e=>C5.out.now.ev.ne e.symm));have hc6:w6.cell? ⟨q,0,none⟩=some (.int .i64 zi):=(CD (g6.block q (by omega) (fun e=>hqr (by rw[←hrv2];exact e.symm)))).trans hS5.2;have S6:w6.cell? ⟨g,3,none⟩=some (.slice oa s1.out.length oc)∧w6.cell? ⟨q,0,none⟩=some (.int .i64 zi):=⟨K6.out.2.1 3,hc6⟩;refine hK.out _ _ (by first | (dsimp only;exact S6) | (exact S6)) (fun hHeld=> ?_);clear hK K
     try simp only[Act.put,List.setIfInBounds_toArray,List.set_cons_zero,List.set_cons_succ]
     have q6:=K6.out.2.1;have f6:=K6.out.2.2;have y6:=K6.out.1;clear S6 b5 hy k5 o6 g6 alt hd1 hd5 hrv2 hS5 hHeld;refine CM (by kernel_rfl) ?_;dsimp only[List.drop];go_wp2_with fail;generalize hW7:Ws _ _ _=W7;have A7:=A6.out;rw[hW7]at A7;have C7:=Aa (C5.out.call (σ':= .ok () ⟨s1.fuel,s1.out++ [zi]⟩) A7.2 A7.1);clear hW7 A7 q6 f6 y6 hc6;refine(JQ zi W7).mono ?_;rintro e W8 ⟨rfl,b8⟩;have N8:=Aa (C7.out.now.same b8);clear b8;unfold svC;have K9:=Aa N8.out.rx;have ck:=K9.out.2.1;have fk:=K9.out.2.2;have yk:=K9.out.1;unfold sv0 at ck;go_wp2;generalize hz:Ws (Ws _ _ _) _ _=z;obtain⟨k9,g9⟩:=Bx.set12 K9.out (.int .i64 1) (.int .i64 zi) (.string eS) AC (.int .i64 Nd.zero.op) (.int .i64 Nd.zero.n) (.string Nd.zero.s) (.string Nd.zero.t) AC (.string eS) (.string eS) AC;rw[hz]at k9 g9;have c9:=k9.2.1;refine Aq (v:= .agg (svC 1 zi eS AC Nd.zero AC eS eS AC)) ?_ rfl ?_
     ·simp[results,Tryz.results125,go_sem,c9,svC]
     ·rw[HE.out,HKD.out];exact Sw.fin (res:= .ok (.int zi) ⟨s1.fuel,s1.out++ [zi]⟩) N8.out ⟨.int _,N8.out.ev⟩ hBw g9
theorem GN {B g:Nat}{lv:Value}{ds:List Dt}{ar:Str→Option Nat}{m:Nat}{X:Nat→Prop}{x:Nd}{kv ev:Value}{env:Env}{s:Es}{w:World}{r:Option Nat}(hm:s.fuel≤m) (hs1:s.out.length+s.fuel+1≤4000) (P:SPre B X g lv ds x kv ev env s w r) (ho:10≤x.op∧x.op≤14) (IH:Ck B g lv ds ar m):
  Calls Pq 125 #[.pointer (some ⟨g,0,none⟩),ndV x kv,ev] w (BH B X g lv (AI ar (Ag ar m) x env s) r w):=by
 have PP:=Aa P;have IH:=Aa IH;have hX:=P.hx;obtain⟨ya,yb,hkk,hna,hnb⟩:=Cy P.np (.inr (.inr (.inr (by omega))));have HE:=Aa (Vw (ar:=ar) (E:=Ag ar m) (env:=env) (s:=s) ho hkk);have HNK:=Aa (fun(k:Nat) (hk:k < x.kids.length)=>(by
  have h1:=An hk;generalize x.kids[k]=y at h1;rw[hkk]at h1;simp only[List.mem_cons,List.not_mem_nil,or_false]at h1;rcases h1 with h1 |h1 <;> rw[h1] <;> assumption:Aj x.kids[k]=true))
 have HM:=Aa (fun(k:Nat) (hk:k < x.kids.length)=>(An hk:x.kids[k]∈x.kids));have HL:=Aa (show x.kids.length=2 by rw[hkk];rfl);obtain⟨ka,kc,rfl⟩:=P.rk.form;obtain⟨ea,ec,rfl⟩:=P.re.sc_form;have hks:x.kids.length≤2:=by rw[HL.out];decide
 have hgw:=P.ev.lt;have hBw:=P.ev.gB.2;have hob:(x.op==16)=false:=by simp;omega
 have HO:=Aa ho;obtain⟨i0,hi0,hz0,hz1,hz2⟩:=info_parts Tryz.infoIw;unfold ndV;clear P ho hkk;go_enter Tryz.func125,Tryz.ntmps125;go_wp2_with fail;generalize hW:Wa (Wa (Wa _ _) _) _=W1;obtain⟨N1,O1⟩:=PP.out.start_w hW;have C0:WnS B g lv w r #[.int .i64 x.op,.int .i64 x.n,.string x.s,.string x.t,.slice ka x.kids.length kc] W1 r (.ok () s) (.slice (some ⟨w.heap.size+2,0,none⟩) 0 0) []:=⟨N1,O1,fun q e=>by have:=(PP.out.ev.row q);simp[Value.ownBlock]at e;intro h;have:=(this h).2;omega,hgw⟩;clear hW N1 O1
 go_loopw [7,8] (fun l i wr=>∃ (k:Nat) (rW:Option Nat) (σ:Rs Unit) (va:Option Addr) (vc:Nat) (xs:List Int),k≤x.kids.length∧i= .int .i64 k∧l= .slice va xs.length vc∧WnS B g lv w r #[.int .i64 x.op,.int .i64 x.n,.string x.s,.string x.t,.slice ka x.kids.length kc] wr rW σ (.slice va xs.length vc) xs∧Hid (xs.length=k)∧Hid (IInv (Ag ar m) env x.kids s k σ xs)∧Hid (∀t,σ= .ok () t→t.fuel≤s.fuel∧t.out.length+t.fuel+1≤4000∧ ∀a∈xs, -1073741824≤a∧a≤1073741823)) (fun _ i _=>x.kids.length - (intOf i).toNat)
 case atStart=>exact⟨0,_,_,_,_,[],Ao _,rfl,rfl,C0,Aa rfl,Aa (IInv.zero _ _ _ _),Aa (fun t ht=>by cases ht;exact⟨Ad _,hs1,by simp⟩)⟩
 case round=>
  clear C0;obtain⟨k,rW,σ,va,vc,xs,hk,rfl,rfl,hC,hkl,hki,hft⟩:=hrel;have C:=Aa hC;clear hC;have qb:=C.out.now.bx.2.1;have lb:=C.out.now.bx.1;have lg:=C.out.now.ev.lt;have hxl:xs.length≤2:=by rw[hkl.out];omega
  by_cases hlt:k < x.kids.length
  ·obtain⟨b,off,cap',kvy,hv',hB',hbs',hcap',⟨d0,d1,d2,d3,d4⟩,hka⟩:=(PP.out.rkW C.out.now.tw).at_ hlt;cases hv'
   have hki1:(k:Int) < (x.kids.length:Int):=by omega
   have hk0:(0:Int)≤ (k:Int):=by omega
   obtain⟨kya,kyc,rfl⟩:=hka.form;have HKA:=Aa hka;have hny:=HNK.out k hlt;have hmy:=HM.out k hlt;have HIB:=Aa (fun(c:Int) (o:List Int) (he:(σ.bind fun _ s1=>Ag ar m x.kids[k] env s1)= .bad c o) (ys:List Int)=>hki.out.bad hlt he ys (k+1));have HII:=Aa (fun(v:Vl) (s2:Es) (he:(σ.bind fun _ s1=>Ag ar m x.kids[k] env s1)= .ok v s2) (a:Int) (ha:Co v s2= .ok a s2)=>hki.out.int hlt he ha);have HIN:=Aa (fun(v:Vl) (s2:Es) (he:(σ.bind fun _ s1=>Ag ar m x.kids[k] env s1)= .ok v s2) (ha:Co v s2= .bad 2 s2.out) (ys:List Int)=>hki.out.not hlt he ha ys (k+1));clear hka;generalize x.kids[k]=y at*;go_wp2_with fail;clear d0 d1 d2 d3 d4 qb lb lg;have PRE:=Aa (fun(t:Es) (h:σ= .ok () t)=>(by
    have h1:=hft.out t h;have he:=C.out.now.ev;rw[h]at he;exact⟨by omega,PP.out.sub C.out.now.tw hny hmy (by omega) h1.1 he HKA.out (AJ _) C.out.now.rx.1⟩:t.fuel≤m∧SPre B (Xq X (w.heap.size+1)) g lv ds y (.slice kya y.kids.length kyc) (.slice ea env.length ec) env t wr rW))
   refine(GM IH.out C.out.now.ev PRE.out ⟨_,_,_,rfl⟩ ⟨_,_,_,rfl⟩).mono ?_;rintro e W4 ⟨c4,r4,rfl,t4,h4⟩;have C4:=Aa (C.out.call t4 h4.evS);have H4:=Aa h4;have HBO:=Aa (fun v s2 h=>Nl (E1:=fun s=>Ag ar m y env s) (σ:=σ) (v:=v) (s2:=s2) h);obtain⟨res,hres⟩:∃R,(σ.bind fun _ s1=>Ag ar m y env s1)=R:=⟨_,rfl⟩;rw[hres]at C4 H4;have HR:=Aa hres;obtain⟨kd4,nn4,ss4,a14,l14,c14,xx4,a24,l24,c24,arg4,self4,a34,l34,c34,rfl⟩:=h4.formS;clear h4 t4 hres;unfold svC;have lg:=C4.out.now.ev.lt;have hsz4:=C4.out.now.bx.1;have hrx4:=C4.out.now.rx.1;cases res with
   |bad cd o=>
    have HC:=Aa (show cd=1∨cd=2 from C4.out.now.ev.1);have hcb:(cd==0)=false:=by rcases HC.out with rfl |rfl <;> rfl
    have q2:W4.cell? ⟨g,2,none⟩=some (.int .i64 cd):=by
     obtain⟨f2,e2⟩:=C4.out.now.ev.2;exact e2.cells.2.2
    have OWN:=Aa (fun(cur:Array Value) (e:TypeId)=>(C4.out.same ((Ab _ _).alloc (Ad _) (.cells cur e))).own);have HI:=Aa (HIB.out cd o HR.out);go_wp2_with (at_builtin;refine Dw rfl _ _ 29 rfl (w.heap.size+2) 3 i0 (.int .i64 0) 1 8 Tryz.underlying29 hi0 hz0 hz1 hz2 rfl (by decide) _ _ _ rfl (OWN.out _ _) #[_] rfl ?_ (W4.heap.size+1) ?_ rfl ?_ ?_ ?_ ?_)
    ·rfl
    ·simp
    ·unfold maxLen;omega
    ·omega
    ·first |omega | (simp;done) | (simp;omega)
    ·intro v6 w6 o6 g6 alt;have C6:=Aa (WnS.app (C4.out.same ((Ab _ _).alloc (Ad _) _)) o6 g6 (by
      rcases alt with e |e
      ·exact .inl e
      ·exact .inr ⟨_,by first |exact AJ _ | (simp;done) | (simp;omega),e⟩))
     obtain⟨v6a,v6c,rfl⟩:=AR o6;clear o6 g6 alt;go_wp2;go_roundw
     case rel=>exact⟨k+1,_,_,v6a,v6c,xs++ [nn4],hlt,by go_num,by simp only[Bl,List.length_singleton],by have h:=C6.out;simp only[Bl,List.length_singleton];exact h,Aa (by rw[Bl,hkl.out];rfl),Aa (HI.out _),Aa (fun t ht=>by cases ht)⟩
     case measure=>simp[intOf];omega
   |ok v s4=>
    obtain⟨s1,hs1',he1⟩:=HBO.out v s4 HR.out;have HK:=Aa (PP.out.kid hny hmy (by have:=(hft.out s1 hs1').2.1;omega) (hft.out s1 hs1').1 he1);have HSM:=Aa (EK he1);have HFS:=Aa (hft.out s1 hs1');have HKN:=Aa (RdS.kn H4.out.1);have q2:W4.cell? ⟨g,2,none⟩=some (.int .i64 0):=Ev.cells C4.out.now.ev |>.2.2
    by_cases hkd:kd4=1
    ·have HA:=Aa (C9 s4 (HKN.out.1.symm.trans hkd));rw[←HKN.out.2.1]at HA;have HW:=Aa (Dk HK.out.1);rw[←HKN.out.2.1]at HW;subst hkd;have OWN:=Aa (fun(cur:Array Value) (e:TypeId)=>(C4.out.same ((Ab _ _).alloc (Ad _) (.cells cur e))).own);have HI:=Aa (HII.out v s4 HR.out nn4 HA.out);go_wp2_with (at_builtin;refine Dw rfl _ _ 29 rfl (w.heap.size+2) 3 i0 (.int .i64 0) 1 8 Tryz.underlying29 hi0 hz0 hz1 hz2 rfl (by decide) _ _ _ rfl (OWN.out _ _) #[_] rfl ?_ (W4.heap.size+1) ?_ rfl ?_ ?_ ?_ ?_)
     ·rfl
     ·simp
     ·unfold maxLen;omega
     ·omega
     ·first |omega | (simp;done) | (simp;omega)
     ·intro v6 w6 o6 g6 alt;have C6:=Aa (WnS.app (C4.out.same ((Ab _ _).alloc (Ad _) _)) o6 g6 (by
       rcases alt with e |e
       ·exact .inl e
       ·exact .inr ⟨_,by first |exact AJ _ | (simp;done) | (simp;omega),e⟩))
      obtain⟨v6a,v6c,rfl⟩:=AR o6;clear o6 g6 alt;go_wp2;go_roundw
      case rel=>exact⟨k+1,_,_,v6a,v6c,xs++ [nn4],hlt,by go_num,by simp only[Bl,List.length_singleton],by have h:=C6.out;simp only[Bl,List.length_singleton];exact h,Aa (by rw[Bl,hkl.out];rfl),HI,Aa (fun t ht=>by cases ht;exact⟨by have:=HK.out.2.2.1;have:=HFS.out.1;omega,by have:=HSM.out;have:=HFS.out.2.1;omega,fun a ha=>(IC.1 ha).elim (HFS.out.2.2 a) (fun e=>by rw[List.mem_singleton.1 e];exact HW.out)⟩)⟩
      case measure=>simp[intOf];omega
    ·have HA:=Aa (Da s4 (fun h=>hkd (HKN.out.1.trans h)));have hkb:(kd4 !=1)=true:=by simpa using hkd
     clear hkd;go_wp2_with fail;generalize hW5:Wa _ _=W5;obtain⟨b5,k5⟩:=Bx.alloc hW5;have C5:=Aa (C4.out.same b5);have hb5:=b5.size;have hn1:W4.heap.size≠g:=by have:=C4.out.now.ev.lt;omega
     have hn2:r4≠some W4.heap.size:=fun e=>by have:=(C4.out.now.ev.row _ e).2;omega
     clear q2 hW5 b5;refine(Hg C5.out.now.ev).mono ?_;rintro e W6 ⟨rfl,t6,e6⟩;have C6':=Aa (C5.out.call t6 e6);have K6:=k5.tw t6 hn1 hn2;have qk:=K6.2.1;have lk:=K6.1;have OWN:=Aa C6'.out.own;have hsz6:=t6.size;have HI:=Aa (HIN.out v s4 HR.out HA.out);clear t6 e6 k5 K6;go_wp2_with (at_builtin;refine Dw rfl _ _ 29 rfl (w.heap.size+2) 3 i0 (.int .i64 0) 1 8 Tryz.underlying29 hi0 hz0 hz1 hz2 rfl (by decide) _ _ _ rfl (OWN.out) #[_] rfl ?_ (W6.heap.size) rfl rfl ?_ ?_ ?_ ?_)
     ·rfl
     ·unfold maxLen;omega
     ·omega
     ·first |omega | (simp;done) | (simp;omega)
     ·intro v6 w6 o6 g6 alt;have C6:=Aa (WnS.app (C6'.out) o6 g6 (by
       rcases alt with e |e
       ·exact .inl e
       ·exact .inr ⟨_,by first |exact AJ _ | (simp;done) | (simp;omega),e⟩))
      obtain⟨v6a,v6c,rfl⟩:=AR o6;clear o6 g6 alt;go_wp2;go_roundw
      case rel=>exact⟨k+1,_,_,v6a,v6c,xs++ [nn4],hlt,by go_num,by simp only[Bl,List.length_singleton],by have h:=C6.out;simp only[Bl,List.length_singleton];exact h,Aa (by rw[Bl,hkl.out];rfl),Aa (HI.out _),Aa (fun t ht=>by cases ht)⟩
      case measure=>simp[intOf];omega
  ·obtain rfl:k=x.kids.length:=by omega
   have HKD:=Aa hki.out.done;have hki1:¬((x.kids.length:Int) < (x.kids.length:Int)):=by omega
   clear hki hlt;cases σ with
   |bad cd o=>
    have HC:=Aa (show cd=1∨cd=2 from C.out.now.ev.1);have hcb:(cd !=0)=true:=by rcases HC.out with rfl |rfl <;> rfl
    have q2:wr.cell? ⟨g,2,none⟩=some (.int .i64 cd):=by
     obtain⟨f2,e2⟩:=C.out.now.ev.2;exact e2.cells.2.2
    have N8:=Aa C.out.now;have K9:=Aa N8.out.rx;have ck:=K9.out.2.1;have fk:=K9.out.2.2;have yk:=K9.out.1;unfold sv0 at ck;go_wp2;generalize hz:Ws (Ws _ _ _) _ _=z;obtain⟨k9,g9⟩:=Bx.set12 K9.out (.int .i64 0) (.int .i64 0) (.string ⟨#[]⟩) (.slice none 0 0) (.int .i64 0) (.int .i64 0) (.string ⟨#[]⟩) (.string ⟨#[]⟩) (.slice none 0 0) (.string ⟨#[]⟩) (.string ⟨#[]⟩) (.slice none 0 0);rw[hz]at k9 g9;have c9:=k9.2.1;refine Aq (v:= .agg (sv0)) ?_ rfl ?_
    ·simp[results,Tryz.results125,go_sem,c9,sv0]
    ·rw[HE.out,HKD.out];exact Sw.fin (res:= .bad cd o) N8.out ⟨FormS.zero,N8.out.ev⟩ hBw g9
   |ok u s1=>
    have q2:wr.cell? ⟨g,2,none⟩=some (.int .i64 0):=Ev.cells C.out.now.ev |>.2.2
    obtain⟨zi,zj,rfl⟩:∃zi zj,xs=[zi,zj]:=by
     have h1:=hkl.out;rw[HL.out]at h1
     match xs,h1 with
     | [zi,zj],_=>exact⟨zi,zj,rfl⟩
    obtain⟨q,hq,hc⟩:=IJ C.out.own 0 (by simp);obtain⟨q',hq',hc'⟩:=IJ C.out.own 1 (by simp);have hqb:=C.out.own.lt q (by rw[hq];rfl);subst hq;cases hq'
    have hc:wr.cell? ⟨q,0,none⟩=some (.int .i64 zi):=hc;have hc':wr.cell? ⟨q,1,none⟩=some (.int .i64 zj):=hc';have HQ:=Aa (fun(W':World) (h:Below wr.heap.size wr W')=>(⟨(C.out.now.bx.below h C.out.now.bx.1).2.1 0,(h.cell (p:=⟨q,0,none⟩) hqb.2).trans hc,(h.cell (p:=⟨q,1,none⟩) hqb.2).trans hc'⟩:W'.cell? ⟨w.heap.size,0,none⟩=some (.int .i64 x.op)∧W'.cell? ⟨q,0,none⟩=some (.int .i64 zi)∧W'.cell? ⟨q,1,none⟩=some (.int .i64 zj)));have hw2:=(hft.out s1 rfl).2.2;have hwz:=hw2 zi (by simp);have hwz2:=hw2 zj (by simp);clear hw2;go_wp2_with fail;clear qb lb lg q2 hc hc';refine CQ 10 (S:=(fun W'=>W'.cell? ⟨w.heap.size,0,none⟩=some (.int .i64 x.op)∧W'.cell? ⟨q,0,none⟩=some (.int .i64 zi)∧W'.cell? ⟨q,1,none⟩=some (.int .i64 zj))) (by kernel_rfl) (by kernel_rfl) (by first | (dsimp only;exact HQ.out _ (Below.refl _ _).drew) | (exact HQ.out _ (Below.refl _ _).drew)) (fun hHeld=> ?_);generalize hxd:World.drew _=x2 at hHeld ⊢;have hd1:Below wr.heap.size wr x2:=by rw[←hxd];exact(Ab _ _).drew
    clear hxd;refine tkT (i:=0) ?_;refine tkT (i:=1) ?_;refine tkT (i:=2) ?_;refine tkT (i:=3) ?_;refine tkT (i:=4) ?_;refine tkT (i:=5) ?_;refine tkT (i:=6) ?_;refine tkT (i:=7) ?_;refine rdT (i:=8) (fun K hK=> ?_);go_simp;refine(TJ x.op zi zj HO.out hwz hwz2 x2).mono ?_;rintro e W6 ⟨rfl,rfl⟩;refine bkT hK (by first | (dsimp only;exact HQ.out _ hd1) | (exact HQ.out _ hd1)) (fun hHeld=> ?_);clear hK K;refine rdT (i:=9) (fun K hK=> ?_);go_simp;refine(JQ _ _).mono ?_;rintro e W7 ⟨rfl,b7⟩;unfold svC;refine bkT hK (by first | (dsimp only;exact HQ.out _ (hd1.trans (b7.mono hd1.size))) | (exact HQ.out _ (hd1.trans (b7.mono hd1.size)))) (fun hHeld=> ?_);clear hK K;have N8:=Aa (C.out.now.same (hd1.trans (b7.mono hd1.size)));clear hd1 b7 hHeld;refine CM (by kernel_rfl) ?_;dsimp only[List.drop];have K9:=Aa N8.out.rx;have ck:=K9.out.2.1;have fk:=K9.out.2.2;have yk:=K9.out.1;unfold sv0 at ck;go_wp2;generalize hz:Ws (Ws _ _ _) _ _=z;obtain⟨k9,g9⟩:=Bx.set12 K9.out (.int .i64 1) (.int .i64 (Do x.op zi zj)) (.string eS) AC (.int .i64 Nd.zero.op) (.int .i64 Nd.zero.n) (.string Nd.zero.s) (.string Nd.zero.t) AC (.string eS) (.string eS) AC;rw[hz]at k9 g9;have c9:=k9.2.1;refine Aq (v:= .agg (svC 1 (Do x.op zi zj) eS AC Nd.zero AC eS eS AC)) ?_ rfl ?_
    ·simp[results,Tryz.results125,go_sem,c9,svC]
    ·rw[HE.out,HKD.out];exact Sw.fin (res:= .ok (.int (Do x.op zi zj)) s1) N8.out ⟨.int _,N8.out.ev⟩ hBw g9
end Go.Proofs.YtifhcbeaiijkcaaGreat
