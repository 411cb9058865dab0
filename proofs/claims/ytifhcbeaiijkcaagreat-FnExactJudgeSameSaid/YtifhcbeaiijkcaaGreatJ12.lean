/- Parts of the proof of FnExactJudgeSame. -/
import Derived.Test.YtifhcbeaiijkcaaGreatJ08
set_option linter.unusedVariables false
set_option linter.unusedSimpArgs false
set_option maxRecDepth 1000000
set_option maxHeartbeats 16000000
namespace Go.Proofs.YtifhcbeaiijkcaaGreat
open Go.RowKit
open _root_.Go.World renaming alloc→Wa,setCell→Ws
open _root_.Go.Proofs.Tryz renaming prog→Pq
theorem RK {B g:Nat}{X:Nat→Prop}{lv:Value}{ds:List Dt}{ar:Str→Option Nat}{m f:Nat}{x:Nd}{kv ev:Value}{env:Env}{s:Es}{w:World}{r:Option Nat}(hf:s.fuel=f+1) (hm:f≤m) (P:Pre B X g lv ds x kv ev env s w r) (ho:x.op=6) (IH:CT B g lv ds ar m):
  Calls Pq 50 #[.pointer (some ⟨g,0,none⟩),ndV x kv,ev] w (Cj B X g lv (Ag ar (m+1) x env s) r w):=by
 have HE:=Aa ((Bv hf).trans (MB (ar:=ar) (E:=Ag ar m) (env:=env) (s:=⟨f,s.out⟩) ho));have PP:=Aa P;have HO:=Aa ho;have IH:=Aa IH;obtain⟨ya,yb,hkk,hna,hnb⟩:=Cy P.np (.inr (.inr (.inl ho)));have RK0:=P.rk;rw[hkk]at RK0;obtain⟨b,off,cap,kv0,kv1,hv,hbB,hcap,⟨c0,c1,c2,c3,c4⟩,hk0, -,hk1⟩:=RK0.two';subst hv;obtain⟨hbw,hbg⟩:=P.nb hbB;have HKK:=Aa hkk;have HM:=Aa (show ya∈x.kids∧yb∈x.kids from by rw[hkk];simp);have HK0:=Aa (show x.kid 0=ya by unfold Nd.kid;rw[hkk];rfl);have HK1:=Aa (show x.kid 1=yb by unfold Nd.kid;rw[hkk];rfl);have HNS:=Aa (Qx P.np ho);have SZ:Hid (s.out.length+f+1≤4000):=Aa (by have:=P.sz;omega);obtain⟨k0a,k0c,rfl⟩:=hk0.form;have HKA:=Aa hk0;have hkl:x.kids.length=2:=by rw[hkk];rfl
 clear hkk RK0 hk0;obtain⟨ea,rfl⟩:=P.re.sc_form;have hsz:=P.sz;rw[hf]at hsz;have hfl:f≤4000:=by omega
 have hx:=P.ev;rw[hf]at hx;obtain⟨ov,hb, -, -⟩:=hx.bx;have q0:∀ (cur:Array Value) (e:TypeId) j,(w.alloc (.cells cur e)).cell? ⟨g,j,none⟩= #[lv,.int .i64 ((f+1:Nat):Int),.int .i64 0,ov][j]?:=fun cur e j=>(((Ab w.heap.size w).alloc (Ad _) (.cells cur e)).cell (p:=⟨g,j,none⟩) hb.1).trans (hb.2.1 j);have f0:∀ (cur:Array Value) (e:TypeId) j,(w.alloc (.cells cur e)).frozen? ⟨g,j,none⟩=false:=fun cur e j=>(((Ab w.heap.size w).alloc (Ad _) (.cells cur e)).frozen (p:=⟨g,j,none⟩) hb.1).trans (hb.2.2 j);have hgw:g < w.heap.size:=hb.1;unfold ndV;rw[ho];have q1:=q0 #[.int .i64 6,.int .i64 x.n,.string x.s,.string x.t,.slice (some ⟨b,off,none⟩) 2 cap] 41;have f1:=f0 #[.int .i64 6,.int .i64 x.n,.string x.s,.string x.t,.slice (some ⟨b,off,none⟩) 2 cap] 41;have hne:w.heap.size≠g:=by omega
 clear P hx hb q0 f0 hsz ho hf;clear hk1;go_enter Tryz.func50,Tryz.ntmps50;go_wp2_with fail;generalize hW:Wa _ _=W1;have N1:=PP.out.start hW;clear hW q1 f1;have N1':=Aa N1;have RK2:=PP.out.rkW N1.tw;clear c0 c1 c2 c3 c4 N1;rw[HKK.out]at RK2;obtain⟨b_,off_,cap_,kv0_,kv1_,hv_,hbB_, -,⟨d0,d1,d2,d3,d4⟩,hkb,⟨e0,e1,e2,e3,e4⟩,hkc⟩:=RK2.two';cases hv_
 obtain⟨kba,kbc,rfl⟩:=hkb.form;obtain⟨kca,kcc,rfl⟩:=hkc.form;have HKB:=Aa hkb;have HKC:=Aa hkc;have HQ:=Aa (fun(W':World) (r':Option Nat) (t:Tw g r r' W1 W')=>(by
  have k3:=N1'.out.bx.tw t N1'.out.ng N1'.out.nb;have b3:=N1'.out.ev.tw t;exact⟨k3.2.1 3,k3.2.1 4,(b3.cell (p:=⟨b,off,none⟩) hbB).trans d0,(b3.cell (p:=⟨b,off+1,none⟩) hbB).trans d1,(b3.cell (p:=⟨b,off+2,none⟩) hbB).trans d2,(b3.cell (p:=⟨b,off+3,none⟩) hbB).trans d3,(b3.cell (p:=⟨b,off+4,none⟩) hbB).trans d4⟩:W'.cell? ⟨w.heap.size,3,none⟩=some (.string x.t)∧W'.cell? ⟨w.heap.size,4,none⟩=some (.slice (some ⟨b,off,none⟩) 2 cap)∧W'.cell? ⟨b,off,none⟩=some (.int .i64 ya.op)∧W'.cell? ⟨b,off+1,none⟩=some (.int .i64 ya.n)∧W'.cell? ⟨b,off+2,none⟩=some (.string ya.s)∧W'.cell? ⟨b,off+3,none⟩=some (.string ya.t)∧W'.cell? ⟨b,off+4,none⟩=some (.slice kba ya.kids.length kbc)))
 have TB:=Aa (fun(W':World) (h:Below W1.heap.size W1 W')=>(Tw.of_below h (fun k e=>(N1'.out.ev.row k e).2):Tw g r r W1 W'));have HQ2:=Aa (fun(W':World) (r':Option Nat) (t:Tw g r r' W1 W')=>(by
  have k3:=N1'.out.bx.tw t N1'.out.ng N1'.out.nb;have b3:=N1'.out.ev.tw t;exact⟨k3.2.1 4,(b3.cell (p:=⟨b,off+5,none⟩) hbB).trans e0,(b3.cell (p:=⟨b,off+5+1,none⟩) hbB).trans e1,(b3.cell (p:=⟨b,off+5+2,none⟩) hbB).trans e2,(b3.cell (p:=⟨b,off+5+3,none⟩) hbB).trans e3,(b3.cell (p:=⟨b,off+5+4,none⟩) hbB).trans e4⟩:W'.cell? ⟨w.heap.size,4,none⟩=some (.slice (some ⟨b,off,none⟩) 2 cap)∧W'.cell? ⟨b,off+5,none⟩=some (.int .i64 yb.op)∧W'.cell? ⟨b,off+5+1,none⟩=some (.int .i64 yb.n)∧W'.cell? ⟨b,off+5+2,none⟩=some (.string yb.s)∧W'.cell? ⟨b,off+5+3,none⟩=some (.string yb.t)∧W'.cell? ⟨b,off+5+4,none⟩=some (.slice kca yb.kids.length kcc)))
 have HN2:=Aa (fun(W':World) (h:Below W1.heap.size W1 W')=>N1'.out.same h);clear hkb hkc d0 d1 d2 d3 d4 e0 e1 e2 e3 e4;refine wp_region_held_drew (S:=(fun W'=>W'.cell? ⟨w.heap.size,3,none⟩=some (.string x.t)∧W'.cell? ⟨w.heap.size,4,none⟩=some (.slice (some ⟨b,off,none⟩) 2 cap)∧W'.cell? ⟨b,off,none⟩=some (.int .i64 ya.op)∧W'.cell? ⟨b,off+1,none⟩=some (.int .i64 ya.n)∧W'.cell? ⟨b,off+2,none⟩=some (.string ya.s)∧W'.cell? ⟨b,off+3,none⟩=some (.string ya.t)∧W'.cell? ⟨b,off+4,none⟩=some (.slice kba ya.kids.length kbc))) (by kernel_rfl) (by first | (dsimp only;exact HQ.out _ _ (TB.out _ (Below.refl _ _).drew)) | (exact HQ.out _ _ (TB.out _ (Below.refl _ _).drew))) (fun hHeld=> ?_);generalize hxd:World.drew _=x1 at hHeld ⊢;have hd1:Below W1.heap.size W1 x1:=by rw[←hxd];exact(Ab _ _).drew
 clear hxd;refine tkH (i:=0) ?_;refine tkH (i:=1) ?_;refine tkH (i:=2) ?_;refine tkH (i:=3) ?_;refine tkH (i:=4) ?_;refine tkH (i:=5) ?_;refine tkH (i:=6) ?_;refine rdH (i:=7) (fun K hK=> ?_);go_simp;generalize hy0:Wa _ _=x2;obtain⟨b2,k2⟩:=Bx.alloc hy0;have hd2:=hd1.trans (b2.mono hd1.size);clear hy0;refine bkH hK (by first | (dsimp only;exact HQ.out _ _ (TB.out _ hd2)) | (exact HQ.out _ _ (TB.out _ hd2))) (fun hHeld=> ?_);clear hK K;refine tkH (i:=8) ?_;refine A2 (by kernel_rfl) ?_ _;have qb:=(HN2.out x2 hd2).bx.2.1;have lb:=(HN2.out x2 hd2).bx.1;have qt:=k2.2.1;have ft:=k2.2.2;have lt:=k2.1;have h12:=hd1.size;have htn:w.heap.size≠x1.heap.size:=by have:=N1'.out.bx.1;omega
 have S4:=Aa (fun(x4:World) (e:TypeId) (hx4:(x2.setCell ⟨x1.heap.size,10,none⟩ (.pointer (some ⟨x2.heap.size,0,none⟩))).alloc (.cells (scC x.s (.pointer (some ⟨x1.heap.size,0,none⟩)) (.pointer ea)) e)=x4)=>(by
  obtain⟨b5,k5⟩:=Bx.alloc hx4;have k6:=(k2.st 10 (by simp) (.pointer (some ⟨x2.heap.size,0,none⟩))).below b5 (by rw[AP];exact k2.1);rw[AP]at b5 k5;have b6:Below W1.heap.size W1 x4:=hd2.trans (((Below.refl W1.heap.size x2).setCell (p:=⟨x1.heap.size,10,none⟩) (by dsimp only;omega) (.pointer (some ⟨x2.heap.size,0,none⟩))).trans (b5.mono (by have:=hd2.size;omega)));exact⟨b6,by have k8:=k6;simp at k8;exact k8,k5⟩:Below W1.heap.size W1 x4∧Bx x4 x1.heap.size (thC 3 0 eS AC x.t ya (.slice kba ya.kids.length kbc) (.pointer (some ⟨x2.heap.size,0,none⟩)))∧Bx x4 x2.heap.size (scC x.s (.pointer (some ⟨x1.heap.size,0,none⟩)) (.pointer ea))))
 have hX1:=Aa hd1;have hX2:=Aa hd2;clear k2 b2 hd2 hd1;go_wp2_with fail;generalize hx4:Wa _ _=x4;obtain⟨b6,k6,k7⟩:=S4.out x4 _ hx4;clear hx4 qb qt ft lt lb;have N4:=Aa (HN2.out x4 b6);have K6:=Aa k6;have htg:x1.heap.size≠g:=by have:=N1'.out.ev.lt;omega
 have htr:r≠some x1.heap.size:=fun e=>by have:=(N1'.out.ev.row _ e).2;omega
 have HQ3:=Aa (fun(W':World) (r':Option Nat) (t:Tw g r r' x4 W')=>And.intro ((K6.out.tw t htg htr).2.1 10) (HQ2.out W' r' ((TB.out x4 b6).trans t)));have TB4:=Aa (fun(W':World) (h:Below x4.heap.size x4 W')=>(Tw.of_below h (fun k e=>(N4.out.ev.row k e).2):Tw g r r x4 W'));have P4:Pre B X g lv ds yb (.slice kca yb.kids.length kcc) (.pointer (some ⟨x2.heap.size,0,none⟩)) ((x.s,.fn x.t x.s ya env)::env) ⟨f,s.out⟩ x4 r:=by
  have hX:=PP.out.hx;have hl1:=N1'.out.tw.size;have hl2:=hX1.out.size;have hl3:=hX2.out.size;have hlt:=N1'.out.ev.lt;have tx:=TB.out x4 b6;have re4:=PP.out.reW (N1'.out.tw.trans tx);have kp1:Kp X g r x4 x1.heap.size:=⟨htg,htr,k6.1,fun e=>by have:=hX _ e;omega⟩;have kp2:Kp X g r x4 x2.heap.size:=⟨fun e=>by omega,fun e=>by have:=(N1'.out.ev.row _ e).2;omega,k7.1,fun e=>by have:=hX _ e;omega⟩;exact⟨hnb,by have:=AT HM.out.2;have:=Av x;have:=PP.out.wg;omega,.cons _ _ _ (.fn _ _ _ _ hna (by have:=AT HM.out.1;have:=Av x;have:=PP.out.wg;omega) PP.out.gd) PP.out.gd,by have:=SZ.out;dsimp only;omega,HKC.out.later (N1'.out.ev.tw tx) (Nat.le_refl _),
   .cons _ _ _ _ _ _ kp2 k7.2.1 (.rec_ _ _ _ _ _ _ _ _ HNS.out kp1 k6.2.1 kp2 k7.2.1 (HKB.out.later (N1'.out.ev.tw tx) (Ad _)) re4) re4,N4.out.ev,PP.out.dtW N4.out.tw,fun b e=>Ah (hX b e) (At hl1 b6.size)⟩
 have P4:=Aa P4;clear k6 k7 b6;refine wp_region_held_drew (S:=(fun W'=>W'.cell? ⟨x1.heap.size,10,none⟩=some (.pointer (some ⟨x2.heap.size,0,none⟩))∧W'.cell? ⟨w.heap.size,4,none⟩=some (.slice (some ⟨b,off,none⟩) 2 cap)∧W'.cell? ⟨b,off+5,none⟩=some (.int .i64 yb.op)∧W'.cell? ⟨b,off+5+1,none⟩=some (.int .i64 yb.n)∧W'.cell? ⟨b,off+5+2,none⟩=some (.string yb.s)∧W'.cell? ⟨b,off+5+3,none⟩=some (.string yb.t)∧W'.cell? ⟨b,off+5+4,none⟩=some (.slice kca yb.kids.length kcc))) (by kernel_rfl) (by first | (dsimp only;exact HQ3.out _ _ (TB4.out _ (Below.refl _ _).drew)) | (exact HQ3.out _ _ (TB4.out _ (Below.refl _ _).drew))) (fun hHeld=> ?_);generalize hxd:World.drew _=x5 at hHeld ⊢;have hd5:Below x4.heap.size x4 x5:=by rw[←hxd];exact(Ab _ _).drew
 clear hxd;have N5:=Aa (N4.out.same hd5);have P5:Pre B X g lv ds yb (.slice kca yb.kids.length kcc) (.pointer (some ⟨x2.heap.size,0,none⟩)) ((x.s,.fn x.t x.s ya env)::env) ⟨f,s.out⟩ x5 r:=
  ⟨P4.out.np,P4.out.wg,P4.out.gd,P4.out.sz,P4.out.rkW (TB4.out _ hd5),P4.out.reW (TB4.out _ hd5),N5.out.ev,P4.out.dtW (TB4.out _ hd5),fun b e=>Ah (P4.out.hx b e) hd5.size⟩
 have P5:=Aa P5;have T5:=Aa (TB4.out _ hd5);clear hd5;refine tkH (i:=0) ?_;refine tkH (i:=1) ?_;refine tkH (i:=2) ?_;refine tkH (i:=3) ?_;refine tkH (i:=4) ?_;refine tkH (i:=5) ?_;refine tkH (i:=6) ?_;refine tkH (i:=7) ?_;refine tkH (i:=8) ?_;refine rdH (i:=9) (fun K hK=> ?_);go_simp;refine(IH.out X yb _ _ _ ⟨f,s.out⟩ x5 r hm P5.out).mono ?_;rintro e W5 ⟨a5,r5,rfl,t5,h5⟩;refine bkH hK (by first | (dsimp only;exact HQ3.out _ _ (T5.out.trans t5)) | (exact HQ3.out _ _ (T5.out.trans t5))) (fun hHeld=> ?_);clear hK K;have D5:=Aa (N5.out.done t5 h5);clear t5 h5;refine tkH (i:=10) ?_;refine A2 (by kernel_rfl) ?_ _;go_wp2;go_ret;rw[HE.out,HK0.out,HK1.out];exact D5.out
theorem RL {B g:Nat}{lv:Value}{ds:List Dt}{ar:Str→Option Nat}{m:Nat}{X:Nat→Prop}{x:Nd}{kv ev:Value}{env:Env}{s:Es}{w:World}{r:Option Nat}(hm:s.fuel≤m) (P:Pre B X g lv ds x kv ev env s w r) (ho:x.op=4) (IH:CT B g lv ds ar m):
  Calls Pq 105 #[.pointer (some ⟨g,0,none⟩),ndV x kv,ev] w (Cj B X g lv (AI ar (Ag ar m) x env s) r w):=by
 have PP:=Aa P;have HO:=Aa ho;have IH:=Aa IH;obtain⟨ya,yb,hkk,hna,hnb⟩:=Cy P.np (.inl ho);have RK0:=P.rk;rw[hkk]at RK0;obtain⟨b,off,cap,kv0,kv1,hv,hbB,hcap,⟨c0,c1,c2,c3,c4⟩,hk0, -, -⟩:=RK0.two';subst hv;obtain⟨hbw,hbg⟩:=P.nb hbB;have HKK:=Aa hkk;have HM:=Aa (show ya∈x.kids∧yb∈x.kids from by rw[hkk];simp);have HE:=Aa (show AI ar (Ag ar m) x env s= (Ag ar m ya env s).bind fun f s1=>(Ag ar m yb env s1).bind fun a s2=>Cw (Ag ar m) f a s2 from by rw[MA ho,(CZ hkk).1,(CZ hkk).2]);obtain⟨k0a,k0c,rfl⟩:=hk0.form;have HKA:=Aa hk0;clear hkk RK0 hk0;obtain⟨ea,rfl⟩:=P.re.sc_form;have hgw:=P.ev.lt;unfold ndV;clear P ho;go_enter Tryz.func105,Tryz.ntmps105;go_wp2_with fail;generalize hW:Wa _ _=W1;have N1:=PP.out.box hW;clear hW;have N1':=Aa N1;have hka:=HKA.out.later (PP.out.ev.tw N1.tw) (Ad _);clear c0 c1 c2 c3 c4;refine(IH.out X ya _ _ env s W1 r hm (PP.out.sub N1.tw hna HM.out.1 PP.out.sz N1.ev hka)).mono ?_;rintro e W2 ⟨a2,r2,rfl,t2,h2⟩;have T2:=Aa t2;clear N1 hka t2;cases hE1:Ag ar m ya env s with
 |bad c o=>
  rw[hE1]at h2;have D2:=Aa (N1'.out.done T2.out h2);obtain⟨hc,hol,f2,e2⟩:=h2;have HE1:=Aa hE1;have q2:=e2.cells.2.2;have hcb:(c !=0)=true:=by rcases hc with rfl |rfl <;> rfl
  clear hE1 e2 hc hol;go_wp2;go_ret;rw[HE.out,HE1.out];exact D2.out
 |ok v s2=>
  rw[hE1]at h2;obtain⟨hx2,e2,hs2,hg2⟩:=h2;obtain⟨a2v,ha2⟩:=hx2.th_ptr;cases ha2
  have HE1:=Aa hE1;have HX2:=Aa hx2;have HS2:=Aa hs2;have HG2:=Aa hg2;have N2:=Aa (N1'.out.step T2.out e2);have q2:=e2.cells.2.2;have qb:=N2.out.bx.2.1;have HLE:s2.fuel≤m:=At ((DF ar m ya env s).2 v s2 HE1.out) hm;clear hE1 hx2 hs2 hg2 e2;have RK2:=PP.out.rkW N2.out.tw;rw[HKK.out]at RK2;obtain⟨b_,off_,cap_,kv0_,kv1_,hv_,hbB_, -, -, -,⟨d0,d1,d2,d3,d4⟩,hkb⟩:=RK2.two';cases hv_
  obtain⟨kba,kbc,rfl⟩:=hkb.form;have HKB:=Aa hkb;clear hkb RK2;go_wp2_with fail;clear d0 d1 d2 d3 d4 q2 qb;refine(IH.out X yb _ _ env s2 W2 r2 HLE (PP.out.sub N2.out.tw hnb HM.out.2 HS2.out N2.out.ev HKB.out)).mono ?_;rintro e W4 ⟨a4,r4,rfl,t4,h4⟩;have T4:=Aa t4;clear t4;cases hE2:Ag ar m yb env s2 with
  |bad c o=>
   rw[hE2]at h4;have D4:=Aa (N2.out.done T4.out h4);obtain⟨hc,hol,f2,e4⟩:=h4;have HE2:=Aa hE2;have q4:=e4.cells.2.2;have hcb:(c !=0)=true:=by rcases hc with rfl |rfl <;> rfl
   clear hE2 e4 hc hol;go_wp2;go_ret;rw[HE.out,HE1.out];dsimp only[Rs.bind];rw[HE2.out];exact D4.out
  |ok v4 s4=>
   rw[hE2]at h4;obtain⟨hx4,e4,hs4,hg4⟩:=h4;obtain⟨a4v,ha4⟩:=hx4.th_ptr;cases ha4
   have HE2:=Aa hE2;have HX4:=Aa hx4;have HS4:=Aa hs4;have HG4:=Aa hg4;have N4:=Aa (N2.out.step T4.out e4);have q4:=e4.cells.2.2;have HF:=Aa (HX2.out.later T4.out (N2.out.ev.tw T4.out));have hfail:=Fx e4 2;clear hE2 hx4 hs4 hg4 e4;by_cases hk3:kdV v=3
   ·obtain⟨arg,self,body,fenv,rfl⟩:=Nr hk3;obtain⟨fb,fbv,fev,hfe,fk,fc,frk,fre⟩:=HF.out.fn_form;cases hfe
    obtain⟨fa,fcp,rfl⟩:=frk.form;obtain⟨fea,rfl⟩:=fre.sc_form;have FRK:=Aa frk;have FRE:=Aa fre;have FK:=Aa fk;unfold thC at fc;have HQ:=Aa (fun(W':World) (r':Option Nat) (t:Tw g r4 r' W4 W')=>(⟨(fk.cell t).trans (fc 4),(fk.cell t).trans (fc 5),(fk.cell t).trans (fc 6),(fk.cell t).trans (fc 7),(fk.cell t).trans (fc 8),(fk.cell t).trans (fc 9),(fk.cell t).trans (fc 10)⟩:W'.cell? ⟨a2v,4,none⟩=some (.string arg)∧W'.cell? ⟨a2v,5,none⟩=some (.int .i64 body.op)∧W'.cell? ⟨a2v,6,none⟩=some (.int .i64 body.n)∧W'.cell? ⟨a2v,7,none⟩=some (.string body.s)∧W'.cell? ⟨a2v,8,none⟩=some (.string body.t)∧W'.cell? ⟨a2v,9,none⟩=some (.slice fa body.kids.length fcp)∧W'.cell? ⟨a2v,10,none⟩=some (.pointer fea)));have TB:=Aa (fun(W':World) (h:Below W4.heap.size W4 W')=>(Tw.of_below h (fun k e=>(N4.out.ev.row k e).2):Tw g r4 r4 W4 W'));clear frk fre hfail;go_wp2_with fail;clear q4 fc;refine wp_region_held_drew (S:=(fun W'=>W'.cell? ⟨a2v,4,none⟩=some (.string arg)∧W'.cell? ⟨a2v,5,none⟩=some (.int .i64 body.op)∧W'.cell? ⟨a2v,6,none⟩=some (.int .i64 body.n)∧W'.cell? ⟨a2v,7,none⟩=some (.string body.s)∧W'.cell? ⟨a2v,8,none⟩=some (.string body.t)∧W'.cell? ⟨a2v,9,none⟩=some (.slice fa body.kids.length fcp)∧W'.cell? ⟨a2v,10,none⟩=some (.pointer fea))) (by kernel_rfl) (by first | (dsimp only;exact HQ.out _ _ (TB.out _ (Below.refl _ _).drew)) | (exact HQ.out _ _ (TB.out _ (Below.refl _ _).drew))) (fun hHeld=> ?_);generalize hxd:World.drew _=x1 at hHeld ⊢;have hd1:Below W4.heap.size W4 x1:=by rw[←hxd];exact(Ab _ _).drew
    clear hxd;refine tkH (i:=0) ?_;refine tkH (i:=1) ?_;refine tkH (i:=2) ?_;refine tkH (i:=3) ?_;refine tkH (i:=4) ?_;refine tkH (i:=5) ?_;refine tkH (i:=6) ?_;refine tkH (i:=7) ?_;refine tkH (i:=8) ?_;refine tkH (i:=9) ?_;refine tkH (i:=10) ?_;refine tkH (i:=11) ?_;refine tkH (i:=12) ?_;refine tkH (i:=13) ?_;refine tkH (i:=14) ?_;refine rdH (i:=15) (fun K hK=> ?_);go_simp;generalize hy0:Wa _ _=x2;obtain⟨b2,k2⟩:=Bx.alloc hy0;have hd2:=hd1.trans (b2.mono hd1.size);clear hy0;refine bkH hK (by first | (dsimp only;exact HQ.out _ _ (TB.out _ hd2)) | (exact HQ.out _ _ (TB.out _ hd2))) (fun hHeld=> ?_);clear hK K;have N5:=Aa (N4.out.same hd2);have HLE4:s4.fuel≤m:=At ((DF ar m yb env s2).2 v4 s4 HE2.out) HLE;have P5:Pre B X g lv ds body (.slice fa body.kids.length fcp) (.pointer (some ⟨x1.heap.size,0,none⟩)) ((arg,v4)::(if self=eS then fenv else(self,.fn arg self body fenv)::fenv)) s4 x2 r4:=by
     have t5:=TB.out _ hd2;have b5:=N4.out.ev.tw t5;have hX:=PP.out.hx;have hl1:=N4.out.tw.size;have hl2:=hd1.size;have hlt:=N4.out.ev.lt;cases HG2.out with
     |fn _ _ _ _ g1 g2 g3=>
      refine⟨g1,g2,.cons _ _ _ HG4.out ?_,HS4.out,FRK.out.later b5 (Ad _),.cons _ _ _ _ _ _ ⟨fun e=>by omega,fun e=>by have:=(N4.out.ev.row _ e).2;omega,k2.1,fun e=>by have:=hX _ e;omega⟩ k2.2.1 (HX4.out.later t5 b5) (FRE.out.later t5 b5),N5.out.ev,PP.out.dtW N5.out.tw,fun b e=>by have:=hX b e;have:=hd2.size;omega⟩;by_cases hs:self=eS
      ·rw[Af hs];exact g3
      ·rw[Ae hs];exact .cons _ _ _ (.fn _ _ _ _ g1 g2 g3) g3
    have P5:=Aa P5;have T5:=Aa (TB.out _ hd2);clear k2 b2 hd2 hd1;refine rdH (i:=16) (fun K hK=> ?_);go_simp;refine(IH.out X body _ _ _ s4 x2 r4 HLE4 P5.out).mono ?_;rintro e W5 ⟨a5,r5,rfl,t5,h5⟩;refine bkH hK (by first | (dsimp only;exact HQ.out _ _ (T5.out.trans t5)) | (exact HQ.out _ _ (T5.out.trans t5))) (fun hHeld=> ?_);clear hK K;have D5:=Aa (N5.out.done t5 h5);clear t5 h5;refine tkH (i:=17) ?_;refine A2 (by kernel_rfl) ?_ _;go_wp2;go_ret;rw[HE.out,HE1.out];dsimp only[Rs.bind];rw[HE2.out];exact D5.out
   ·obtain⟨fb,fkv,fnm,fx,fbv,fev,hfe,fk,fc, -⟩:=HF.out.th_form;cases hfe
    have hk3b:(kdV v !=3)=true:=by simpa using hk3
    have HC:=Aa (@Ux (Ag ar m) v v4 s4 hk3);unfold thC at fc;clear hk3;generalize kdV v=kd at*;go_wp2_with fail;clear fc q4;refine hfail.mono ?_;rintro e W6 ⟨⟨a6,rfl⟩,e6,t6⟩;have D6:=Aa (N4.out.done (X:=X) (a:=a6) (res:= .bad 2 s4.out) t6 (.bad (.inr rfl) (by have:=HS4.out;omega) e6));clear e6 t6;go_wp2;go_ret;rw[HE.out,HE1.out];dsimp only[Rs.bind];rw[HE2.out];dsimp only;rw[HC.out];exact D6.out
theorem RM {B g:Nat}{lv:Value}{ds:List Dt}{ar:Str→Option Nat}{m:Nat}{X:Nat→Prop}{x:Nd}{kv ev:Value}{env:Env}{s:Es}{w:World}{r:Option Nat}(hm:s.fuel≤m) (P:Pre B X g lv ds x kv ev env s w r) (ho:x.op=7) (IH:CT B g lv ds ar m):
  Calls Pq 106 #[.pointer (some ⟨g,0,none⟩),ndV x kv,ev] w (Cj B X g lv (AI ar (Ag ar m) x env s) r w):=by
 have PP:=Aa P;have HO:=Aa ho;have IH:=Aa IH;have hl2:=Uy P.np ho;have CA:=Aa (fun(k:Nat) (hk:k < (x.kids.drop 1).length)=>Uz P.np ho hk);obtain⟨ya,hya,hna⟩:∃ya,(∃h:0 < x.kids.length,x.kids[0]=ya)∧Aj ya=true:=by
  obtain⟨e,az,hkk,he, -⟩:=Gt P.np ho;exact⟨e,⟨by omega,by simp[hkk]⟩,he⟩
 obtain⟨h0l,hya⟩:=hya;obtain⟨b,off,cap,kv0,hv,hbB, -,hcap,hc5,hk0⟩:=P.rk.at_ (j:=0) h0l;rw[hya,Nat.zero_mul,Nat.add_zero]at hc5;rw[hya]at hk0;obtain⟨c0,c1,c2,c3,c4⟩:=hc5;subst hv;obtain⟨hbw,hbg⟩:=P.nb hbB;have HM:=Aa (show ya∈x.kids from by rw[←hya];exact An _);have HE:=Aa (show AI ar (Ag ar m) x env s= (Ag ar m ya env s).bind fun v s1=>Bi (Ag ar m) env v (x.kids.drop 1) s1 from by rw[MC ho];unfold Nd.kid;rw[List.getD_eq_getElem?_getD,Ay h0l,Option.getD_some,hya]);obtain⟨k0a,k0c,rfl⟩:=hk0.form;have HKA:=Aa hk0;have HRST:=Aa (fun(W:World) (rW:Option Nat) (t:Tw g r rW w W)=>(P.rkW t).rest hl2);have hlen:=AY x.kids;have hwg:=Av x;have hpw:=P.wg;have hks:x.kids.length≤1048576:=by omega
 have hk0i:(0:Int) < (x.kids.length:Int):=by omega
 have hcp1:¬(cap=1):=by omega
 have HDL:=Aa (show(x.kids.drop 1).length=x.kids.length - 1 by rw[Kg]);clear hk0 hya hwg hpw hlen;obtain⟨ea,rfl⟩:=P.re.sc_form;have hgw:=P.ev.lt;unfold ndV;clear P ho;go_enter Tryz.func106,Tryz.ntmps106;go_wp2_with fail;generalize hW:Wa _ _=W1;have N1:=PP.out.box hW;clear hW;have N1':=Aa N1;have hka:=HKA.out.later (PP.out.ev.tw N1.tw) (Ad _);clear c0 c1 c2 c3 c4;refine(IH.out X ya _ _ env s W1 r hm (PP.out.sub N1.tw hna HM.out PP.out.sz N1.ev hka)).mono ?_;rintro e W2 ⟨a2,r2,rfl,t2,h2⟩;have T2:=Aa t2;clear N1 hka t2;cases hE1:Ag ar m ya env s with
 |bad c o=>
  rw[hE1]at h2;have D2:=Aa (N1'.out.done T2.out h2);obtain⟨hc,hol,f2,e2⟩:=h2;have HE1:=Aa hE1;have q2:=e2.cells.2.2;have hcb:(c !=0)=true:=by rcases hc with rfl |rfl <;> rfl
  clear hE1 e2 hc hol;go_wp2;go_ret;rw[HE.out,HE1.out];exact D2.out
 |ok v s2=>
  rw[hE1]at h2;obtain⟨hx2,e2,hs2,hg2⟩:=h2;obtain⟨a2v,ha2⟩:=hx2.th_ptr;cases ha2
  have HE1:=Aa hE1;have HX2:=Aa hx2;have HS2:=Aa hs2;have HG2:=Aa hg2;have N2:=Aa (N1'.out.step T2.out e2);have q2:=e2.cells.2.2;have qb:=N2.out.bx.2.1;have HLE:s2.fuel≤m:=At ((DF ar m ya env s).2 v s2 HE1.out) hm;clear hE1 hx2 hs2 hg2 e2;have HX2':=HX2;go_wp2_with fail;clear q2 qb;generalize hkn:x.kids.length - 1=kn at*;have HKN:=HDL;have hknl:kn≤1048576:=by omega
  have h2k:x.kids.length=kn+1:=by omega
  have H2K:=Aa h2k;clear hkn h2k
  go_loopw [29] (fun i wr=>∃k:Nat,k≤kn∧i= .int .i64 k∧Below W2.heap.size W2 wr∧Hid (Bi (Ag ar m) env v ((x.kids.drop 1).drop k) s2=Bi (Ag ar m) env v (x.kids.drop 1) s2)) (fun i _=>kn - (intOf i).toNat)
  case atStart=>exact⟨0,Ao _,rfl,Ab _ _,Aa rfl⟩
  case round=>
   obtain⟨k,hk,rfl,bz,hev⟩:=hrel;have N3:=Aa (N2.out.same bz);by_cases hlt:k < kn
   ·have hlk:k < (x.kids.drop 1).length:=by rw[HKN.out];exact hlt
    obtain⟨b',off',cap',av,hv',hB',hbs',hcap',⟨d0,d1,d2,d3,d4⟩,hka⟩:=(HRST.out wr r2 N3.out.tw).at_ hlk;rw[HKN.out]at hv';cases hv'
    have hki:(k:Int) < (kn:Int):=by omega
    have hk0:(0:Int)≤ (k:Int):=by omega
    obtain⟨p,ye,hpe,hpp,hye⟩:=CA.out k hlk;have HST:=Aa (UA (Ag ar m) env v hlk s2);have hmem:(x.kids.drop 1)[k]∈x.kids:=List.mem_of_mem_drop (An hlk);have HWG:=Aa (show wgN p < 1048577∧wgN ye≤1048576 from by
     have h1:=AT hmem;have h2:=Av x;have h3:=PP.out.wg;have h4:=Av (x.kids.drop 1)[k];have h5:=AT (k:=p) (ks:=(x.kids.drop 1)[k].kids) (by rw[hpe];simp);have h6:=AT (k:=ye) (ks:=(x.kids.drop 1)[k].kids) (by rw[hpe];simp);omega)
    have HKD:=Aa (CZ hpe);rw[hpe]at hka;obtain⟨pb,po,pcap,pv0,pv1,hpv,hpB,hpc,⟨e0,e1,e2,e3,e4⟩,hp0,⟨g0,g1,g2,g3,g4⟩,hp1⟩:=hka.two';subst hpv;obtain⟨pa,pac,rfl⟩:=hp0.form;obtain⟨qa,qac,rfl⟩:=hp1.form;have HP0:=Aa hp0;have HP1:=Aa hp1;have hpbw:=Ah hpB N3.out.ev.gB.2;have HG1:=Aa (fun(W':World) (h:Below wr.heap.size wr W')=>(⟨(h.cell (p:=⟨pb,po+5,none⟩) hpbw).trans g0,(h.cell (p:=⟨pb,po+5+1,none⟩) hpbw).trans g1,(h.cell (p:=⟨pb,po+5+2,none⟩) hpbw).trans g2,(h.cell (p:=⟨pb,po+5+3,none⟩) hpbw).trans g3,(h.cell (p:=⟨pb,po+5+4,none⟩) hpbw).trans g4⟩:W'.cell? ⟨pb,po+5,none⟩=some (.int .i64 ye.op)∧W'.cell? ⟨pb,po+5+1,none⟩=some (.int .i64 ye.n)∧W'.cell? ⟨pb,po+5+2,none⟩=some (.string ye.s)∧W'.cell? ⟨pb,po+5+3,none⟩=some (.string ye.t)∧W'.cell? ⟨pb,po+5+4,none⟩=some (.slice qa ye.kids.length qac)));clear hka hp0 hp1 g0 g1 g2 g3 g4 hmem hpe;have hkl2:(x.kids.drop 1)[k].kids.length=2∨True:= .inr trivial;clear hkl2;generalize (x.kids.drop 1)[k]=ay at*;go_wp2_with fail;generalize hyy:Wa _ _=wy;obtain⟨by_,k2⟩:=Bx.alloc hyy;clear hyy d0 d1 d2 d3 d4 e0 e1 e2 e3 e4;have byz:=bz.trans (by_.mono bz.size);have N4:=Aa (N2.out.same byz);refine(Ml B X g r2 1048577 p _ _ _ v env wy HWG.out.1 (by have:=HWG.out.1;omega) hpp N4.out.ev.gB.2 N4.out.ev.lt (fun k e=>(N4.out.ev.row k e).2) (fun b e=>Ah (PP.out.hx b e) N4.out.tw.size) (HP0.out.later by_ N3.out.ev.gB.2) (HX2.out.lat byz N2.out.ev.gB.2 (fun k e=>(N2.out.ev.row k e).2)) (PP.out.reW N4.out.tw)).mono ?_;rintro e W5 ⟨b5,ev5,h5⟩;replace k2:=k2.below b5 k2.1;replace byz:=byz.trans (b5.mono byz.size);replace by_:=by_.trans (b5.mono by_.size);cases hfp:BL p v env with
    |none=>
     rw[hfp]at h5;obtain rfl:=h5;have hev2:=Aa (HST.out.symm.trans hev.out);rw[HKD.out.1,hfp]at hev2;have hev3:=Aa (show Bi (Ag ar m) env v ((x.kids.drop 1).drop (k+1)) s2=Bi (Ag ar m) env v (x.kids.drop 1) s2 from hev2.out);clear hev2 b5;go_wp2;go_roundw
     case rel=>exact⟨k+1,hlt,by go_num,byz,hev3⟩
     case measure=>simp[intOf];omega
    |some envf=>
     rw[hfp]at h5;obtain⟨rfl,hx5⟩:=h5;obtain⟨ea5,rfl⟩:=hx5.sc_form;have HX5:=Aa hx5;have hev2:=Aa (HST.out.symm.trans hev.out);rw[HKD.out.1,HKD.out.2,hfp]at hev2;have hev3:=Aa (show Ag ar m ye envf s2=Bi (Ag ar m) env v (x.kids.drop 1) s2 from hev2.out);have HFP:=Aa hfp;obtain⟨g0,g1,g2,g3,g4⟩:=HG1.out W5 by_;have N6:=Aa (N2.out.same byz);have q2:=k2.2.1;clear hev2 hx5 hfp b5;go_wp2_with fail;clear q2 g0 g1 g2 g3 g4;refine(IH.out X ye _ _ envf s2 W5 r2 HLE ⟨hye,HWG.out.2,Gu _ _ _ _ HG2.out PP.out.gd HFP.out,HS2.out,HP1.out.later by_ N3.out.ev.gB.2,HX5.out,N6.out.ev,PP.out.dtW N6.out.tw,fun b e=>Ah (PP.out.hx b e) N6.out.tw.size⟩).mono ?_;rintro e W7 ⟨a7,r7,rfl,t7,h7⟩;have D7:=Aa (N6.out.done t7 h7);clear t7 h7 k2 by_ byz;go_wp2;go_ret;rw[HE.out,HE1.out];dsimp only[Rs.bind];rw[←hev3.out];exact D7.out
   ·obtain rfl:k=kn:=by omega
    have hev2:=Aa (hev.out.symm.trans (show Bi (Ag ar m) env v ((x.kids.drop 1).drop k) s2= .bad 2 s2.out by rw[List.drop_of_length_le (by rw[HKN.out];exact Ad _)];rfl));go_wp2_with fail;refine(Fx N3.out.ev 2).mono ?_;rintro e W6 ⟨⟨a6,rfl⟩,e6,t6⟩;have D6:=Aa (N3.out.done (X:=X) (a:=a6) (res:= .bad 2 s2.out) t6 (.bad (.inr rfl) (by have:=HS2.out;omega) e6));clear e6 t6;go_wp2;go_ret;rw[HE.out,HE1.out];dsimp only[Rs.bind];rw[hev2.out];exact D6.out
theorem Tryz.infoPt:(Tryz.prog.info? 95).map (fun i=>(i.zero,i.size,i.bytes))=some (some (.pointer none),1,8):=by kernel_rfl
theorem Py {x:Option TypeInfo}{z:Value}{n m:Nat}(h:x.map (fun i=>(i.zero,i.size,i.bytes))=some (some z,n,m)):∃i,x=some i∧i.zero=some z∧i.size=n∧i.bytes=m:=by
 cases x with
 |none=>cases h
 |some i=>
  have:=Am h;exact⟨i,rfl,Bk (fun t=>t.1) this,Bk (fun t=>t.2.1) this,Bk (fun t=>t.2.2) this⟩
structure Cn_ (B g:Nat) (X:Nat→Prop) (lv:Value) (s:Str) (w:World) (r:Option Nat) (cur:Array Value) (W:World) (rW:Option Nat) (fu:Nat) (o:List Int) (kv:Value) (vs:List Vl) (ps:List Value) (Y:Nat→Prop):Prop where
 now:Now B g lv w r W rW fu 0 o cur
 bt:Bx W (w.heap.size+1) (thC 2 0 s kv eS Nd.zero AC noP)
 nt:rW≠some (w.heap.size+1)
 gt:g < w.heap.size
 own:W.ownsRow (w.heap.size+2) 95 1 kv vs.length ps
 nq:∀q,kv.ownBlock=some q→rW≠some q∧Y q
 xy:∀b,X b→Y b
 yx:∀b,b < w.heap.size→Y b→X b
 yl:∀b,Y b→b < W.heap.size
 yt:Y (w.heap.size+1)
 rd:∀j (h:j < vs.length),RdX B Y g rW W (ps.getD j noP) (.th vs[j])
theorem Pz {g base:Nat}{r r':Option Nat}{w w':World}{e:TypeId}{v:Value}{n:Nat}{xs:List Value}(h:w.ownsRow base e 1 v n xs) (t:Tw g r r' w w') (hg:∀q,v.ownBlock=some q→q≠g∧r≠some q):w'.ownsRow base e 1 v n xs:=by
 refine⟨h.1,?_⟩;rcases h.2 with hn |⟨q,cap,cur,rfl,hb,hgg,rest⟩
 ·exact .inl hn
 ·obtain⟨h1,h2⟩:=hg q rfl;exact .inr ⟨q,cap,cur,rfl,hb,by rw[t.block q (h.lt q rfl).2 h1 h2];exact hgg,rest⟩
section
variable {B g:Nat}{X Y:Nat→Prop}{lv:Value}{s:Str}{w:World}{r:Option Nat}{cur:Array Value}{W:World}{rW:Option Nat}{fu:Nat}{o:List Int}{kv:Value}{vs:List Vl}{ps:List Value}
theorem Cn_.qb (h:Cn_ B g X lv s w r cur W rW fu o kv vs ps Y):∀q,kv.ownBlock=some q→w.heap.size+2≤q∧q < W.heap.size:=fun q e=>h.own.lt q e
theorem Cn_.call (h:Cn_ B g X lv s w r cur W rW fu o kv vs ps Y) {W':World}{r':Option Nat}{fu':Nat}{o':List Int}(t:Tw g rW r' W W') (e:Ev B g lv W' fu' 0 o' r'):Cn_ B g X lv s w r cur W' r' fu' o' kv vs ps Y:=by
 have hb:=h.now.ev.tw t;have hgt:=h.gt;refine⟨h.now.step t e,h.bt.tw t (by omega) h.nt,t.nb h.nt h.bt.1,h.gt,Pz h.own t (fun q hq=>⟨by have:=h.qb q hq;omega,(h.nq q hq).1⟩),fun q hq=>⟨t.nb (h.nq q hq).1 (h.qb q hq).2,(h.nq q hq).2⟩,h.xy,h.yx,fun b hb=>Ah (h.yl b hb) t.size,h.yt,fun j hj=>(h.rd j hj).later t hb⟩
theorem Cn_.same (h:Cn_ B g X lv s w r cur W rW fu o kv vs ps Y) {W':World}(b:Below W.heap.size W W'):Cn_ B g X lv s w r cur W' rW fu o kv vs ps Y:=
 h.call (h.now.ev.same b).2 (h.now.ev.same b).1
theorem Cn_.pre (h:Cn_ B g X lv s w r cur W rW fu o kv vs ps Y) {ds:List Dt}{x y:Nd}{kvx ev kvy:Value}{env:Env}{s0:Es}(P:Pre B X g lv ds x kvx ev env s0 w r) (hn:Aj y=true) (hm:y∈x.kids) (hs:o.length+fu≤4000) (hk:RdNs B W kvy y.kids):Pre B Y g lv ds y kvy ev env ⟨fu,o⟩ W rW:=
 ⟨hn,by have:=AT hm;have:=Av x;have:=P.wg;omega,P.gd,hs,hk,(P.re.off (fun b hb hx hy=>hx (h.yx b hb hy))).later h.now.tw (P.ev.tw h.now.tw),h.now.ev,P.dtW h.now.tw,h.yl⟩
theorem Cn_.app (h:Cn_ B g X lv s w r cur W rW fu o kv vs ps Y) {a:Option Addr}{v:Vl}(hv:RdX B Y g rW W (.pointer a) (.th v)) {v':Value}{w4:World}(ho:w4.ownsRow (w.heap.size+2) 95 1 v' (vs.length+1) (ps++ [.pointer a])) (hg:W.grownBy w4 kv.ownBlock)
  (hat:v'.ownBlock=kv.ownBlock∨v'.ownBlock=some (W.heap.size+1)):
  Cn_ B g X lv s w r cur (w4.setCell ⟨w.heap.size+1,3,none⟩ v') rW fu o v' (vs++ [v]) (ps++ [.pointer a]) (fun b=>Y b∨v'.ownBlock=some b):=by
 have hgt:=h.gt;have hgB:=h.now.ev.gB;have hws:=h.now.tw.size;have hpl:ps.length=vs.length:=by have:=h.own.1;omega
 have hqlt:∀q,kv.ownBlock=some q→w.heap.size+2≤q∧q < W.heap.size:=h.qb;have hblk:∀b,b < W.heap.size→kv.ownBlock≠some b→b≠w.heap.size+1→(w4.setCell ⟨w.heap.size+1,3,none⟩ v').heap[b]?=W.heap[b]?:=fun b hb h1 h2=>
  ((grownBy.setCell w4 (w.heap.size+1) 3 v').block b (Ah hb hg.size) (fun e=>h2 (Am e))).trans (hg.block b hb (fun e=>h1 e.symm))
 have hsz:W.heap.size≤ (w4.setCell ⟨w.heap.size+1,3,none⟩ v').heap.size:=by rw[AP];exact hg.size
 have hB:Below B W (w4.setCell ⟨w.heap.size+1,3,none⟩ v'):=⟨hg.os,hg.tape,hg.output,hsz,fun k hk=>hblk k (by omega) (fun e=>by have:=hqlt k e;omega) (by omega)⟩;have hW:Below w.heap.size W (w4.setCell ⟨w.heap.size+1,3,none⟩ v'):=⟨hg.os,hg.tape,hg.output,hsz,fun k hk=>hblk k (by omega) (fun e=>by have:=hqlt k e;omega) (by omega)⟩;obtain⟨ov,hb,how,hr⟩:=h.now.ev.bx;have hrow:∀k,rW=some k→k < W.heap.size∧kv.ownBlock≠some k∧k≠w.heap.size+1:=fun k e=>⟨(h.now.ev.row k e).2,fun e2=>(h.nq k e2).1 e,fun e2=>h.nt (by rw[e,e2])⟩
 have hev:Ev B g lv (w4.setCell ⟨w.heap.size+1,3,none⟩ v') fu 0 o rW:=by
  have hgb:=hblk g h.now.ev.lt (fun e=>by have:=hqlt g e;omega) (by omega);refine⟨⟨ov,⟨Ah hb.1 hsz,fun j=>(CD hgb).trans (hb.2.1 j),fun j=>(F9 hgb).trans (hb.2.2 j)⟩,⟨how.1,?_⟩,hr⟩,⟨hgB.1,At hgB.2 hsz⟩,h.now.ev.ne⟩;rcases how.2 with hn |⟨q,cap,cu,rfl,hb1,hgg,rest⟩
  ·exact .inl hn
  ·obtain⟨h1,h2,h3⟩:=hrow q hr.symm;exact .inr ⟨q,cap,cu,rfl,hb1,by rw[hblk q h1 h2 h3];exact hgg,rest⟩
 have hbx:Bx (w4.setCell ⟨w.heap.size+1,3,none⟩ v') w.heap.size cur:=by
  have hgb:=hblk w.heap.size h.now.bx.1 (fun e=>by have:=hqlt _ e;omega) (by omega);exact⟨Ah h.now.bx.1 hsz,fun j=>(CD hgb).trans (h.now.bx.2.1 j),fun j=>(F9 hgb).trans (h.now.bx.2.2 j)⟩
 have htw:Tw g r rW w (w4.setCell ⟨w.heap.size+1,3,none⟩ v'):=⟨hW.os.trans h.now.tw.os,hW.tape.trans h.now.tw.tape,hW.output.trans h.now.tw.output,At hws hsz,fun k hk h1 h2=>(hW.block k hk).trans (h.now.tw.block k hk h1 h2),fun k e=>⟨(h.now.tw.row k e).1,Ah (h.now.tw.row k e).2 hsz⟩,h.now.tw.own⟩;have hbt4:Bx w4 (w.heap.size+1) (thC 2 0 s kv eS Nd.zero AC noP):=h.bt.grown hg (fun e=>by have:=hqlt _ e.symm;omega);have hbt:=hbt4.st 3 (by simp[thC]) v';have hown:(w4.setCell ⟨w.heap.size+1,3,none⟩ v').ownsRow (w.heap.size+2) 95 1 v' (vs.length+1) (ps++ [.pointer a]):=ho.kept (grownBy.setCell w4 (w.heap.size+1) 3 v') (by
  cases hq:v'.ownBlock with
  |none=>exact .inl rfl
  |some q=>exact .inr (fun e=>by have:=(ho.lt q hq).1;have:=Am e;omega))
 have hY':∀b,b < W.heap.size→ ¬Y b→ ¬(Y b∨v'.ownBlock=some b):=fun b hb hy h2=>by
  rcases h2 with h2 |h2
  ·exact hy h2
  ·rcases hat with e |e
   ·exact hy (h.nq b (by rw[←e];exact h2)).2
   ·rw[e]at h2;have:=Am h2;omega
 have hread:∀ {tv:Value} {u:Vl},RdX B Y g rW W tv (.th u)→RdX B (fun b=>Y b∨v'.ownBlock=some b) g rW (w4.setCell ⟨w.heap.size+1,3,none⟩ v') tv (.th u):=fun {tv u} hr0=>by
  have h1:=hr0.off hY';have h2:RdX B (fun b=>Y b∨v'.ownBlock=some b) g rW w4 tv (.th u):=by
   have hB4:Below B W w4:=⟨hg.os,hg.tape,hg.output,hg.size,fun k hk=>hg.block k (by omega) (fun e=>by have:=hqlt k e.symm;omega)⟩;cases hq:kv.ownBlock with
   |none=>
    rw[hq]at hg;exact h1.wrote (w.heap.size+1) (.inl h.yt) hg.size (fun b hb _ _=>hg.block b hb (by simp)) hB4
   |some q=>
    rw[hq]at hg;exact h1.wrote q (.inl (h.nq q hq).2) hg.size (fun b hb hb2 _=>hg.block b hb (fun e=>hb2 (Am e))) hB4
  exact h2.wrote (w.heap.size+1) (.inl h.yt) (by rw[World.size_setCell];exact Nat.le_refl _) (fun b hb hb2 _=>(grownBy.setCell w4 (w.heap.size+1) 3 v').block b hb (fun e=>hb2 (Option.some.inj e))) ((Below.refl B w4).setCell (p:=⟨w.heap.size+1,3,none⟩) (by dsimp only;omega) v')
 refine⟨⟨hev,htw,hbx,h.now.nb,h.now.ng⟩,?_,h.nt,h.gt,by rw[Bl];exact hown,fun q hq=>⟨?_,.inr hq⟩,fun b hb=> .inl (h.xy b hb),fun b hb hy=> ?_,fun b hy=> ?_,.inl h.yt,fun j hj=> ?_⟩
 ·have:=hbt;simp[thC]at this;exact this
 ·intro e;rcases hat with e2 |e2
  ·exact(h.nq q (by rw[←e2];exact hq)).1 e
  ·rw[e2]at hq;have:=Am hq;have:=(h.now.ev.row q e).2;omega
 ·rcases hy with hy |hy
  ·exact h.yx b hb hy
  ·have:=(ho.lt b hy).1;omega
 ·rcases hy with hy |hy
  ·exact Ah (h.yl b hy) hsz
  ·rw[AP];exact(ho.lt b hy).2
 ·rw[Bl,List.length_singleton]at hj;by_cases hlt:j < vs.length
  ·rw[IB hlt,List.getD_eq_getElem?_getD,Ff (by omega),←List.getD_eq_getElem?_getD];exact hread (h.rd j hlt)
  ·have hj2:j=vs.length:=by omega
   subst hj2;rw[Ka (Ad _),List.getD_eq_getElem?_getD,EN (by omega)];simp only[hpl,FC,List.getElem?_cons_zero,Option.getD_some,List.getElem_cons_zero];exact hread hv
theorem Cn_.done (h:Cn_ B g X lv s w r cur W rW fu o kv vs ps Y) (hX:∀b,X b→b < w.heap.size):RdX B X g rW W (.pointer (some ⟨w.heap.size+1,0,none⟩)) (.th (.con s vs)):=by
 have hgt:=h.gt;have hpl:ps.length=vs.length:=by have:=h.own.1;omega
 refine .con _ s kv vs (fun j=>ps.getD j noP) ⟨by omega,h.nt,h.bt.1,fun e=>by have:=hX _ e;omega⟩ h.bt.2.1 ?_ (fun j hj=>(h.rd j hj).off (fun b _ hy hx=>hy (h.xy b hx)));rcases h.own.2 with ⟨rfl,h0⟩ |⟨q,cap,cu,rfl,hb,hgg,hn,hm,hc,ht⟩
 ·exact .inl ⟨by omega,_,_,rfl⟩
 ·obtain⟨hq1,hq2⟩:=h.nq q rfl;have hqb:=h.qb q rfl;refine .inr ⟨q,0,cap,rfl,⟨by omega,hq1,hqb.2,fun e=>by have:=hX _ e;omega⟩,⟨by omega,hn⟩,fun j hj=> ?_⟩;rw[BS,Ig h.own j hj]
  show ps[j]?=some (ps.getD j noP)
  rw[List.getD_eq_getElem?_getD,Ay (by omega)];rfl
end
theorem Pre.con {B g:Nat}{X:Nat→Prop}{lv:Value}{ds:List Dt}{x:Nd}{kv ev:Value}{env:Env}{s:Es}{w:World}{r:Option Nat}(P:Pre B X g lv ds x kv ev env s w r) {W0 W1:World}{cur:Array Value}{e e2:TypeId}{nm:Str}
  (hW:w.alloc (.cells cur e)=W0) (hW1:W0.alloc (.cells (thC 2 0 nm AC eS Nd.zero AC noP) e2)=W1):Cn_ B g X lv nm w r cur W1 r s.fuel s.out AC [] [] (fun b=>X b∨b=w.heap.size+1):=by
 have N0:=P.box hW;have s0:W0.heap.size=w.heap.size+1:=by rw[←hW,Bo]
 obtain⟨b1,k1⟩:=Bx.alloc hW1;rw[s0]at k1;have N1:=N0.same b1;have hs:=N1.tw.size;refine⟨N1,k1,fun e=> ?_,P.ev.lt,⟨by simp,.inl ⟨rfl,rfl⟩⟩,fun q hq=> ?_,fun b hb=> .inl hb,fun b hb h2=> ?_,fun b h2=> ?_,.inr rfl,fun j hj=>absurd hj (Aw j)⟩
 ·have:=(P.ev.row _ e).2;omega
 ·simp[Value.ownBlock]at hq
 ·rcases h2 with h2 |h2
  ·exact h2
  ·omega
 ·rcases h2 with h2 |h2
  ·have:=P.hx b h2;omega
  ·rw[h2];exact k1.1
theorem KT (E:Nd→Env→Es→Rs Vl) (env:Env) {ks:List Nd}{k:Nat}(hk:k < ks.length) (s:Es):Bn E env (ks.drop k) s= (E ks[k] env s).bind fun v s1=>(Bn E env (ks.drop (k+1)) s1).bind fun vs s2=> .ok (v::vs) s2:=by
 rw[List.drop_eq_getElem_cons hk];rfl
def Ee (vs:List Vl) (r:Rs (List Vl)):Rs (List Vl):=r.bind fun us s=> .ok (vs++us) s
theorem KU (r:Rs (List Vl)):Ee [] r=r:=by cases r <;> rfl
theorem KV {E:Nd→Env→Es→Rs Vl}{env:Env}{ks:List Nd}{k:Nat}(hk:k < ks.length) {s s1:Es}{v:Vl}(vs:List Vl) (h:E ks[k] env s= .ok v s1):Ee vs (Bn E env (ks.drop k) s)=Ee (vs++ [v]) (Bn E env (ks.drop (k+1)) s1):=by
 rw[KT E env hk,h];dsimp only[Rs.bind];cases Bn E env (ks.drop (k+1)) s1 with
 |ok us s2=>simp[Ee,Rs.bind]
 |bad c o=>rfl
theorem KW {E:Nd→Env→Es→Rs Vl}{env:Env}{ks:List Nd}{k:Nat}(hk:k < ks.length) {s:Es}{c:Int}{o:List Int}(vs:List Vl) (h:E ks[k] env s= .bad c o):Ee vs (Bn E env (ks.drop k) s)= .bad c o:=by
 rw[KT E env hk,h];rfl
theorem KX (E:Nd→Env→Es→Rs Vl) (env:Env) (ks:List Nd) (s:Es) (vs:List Vl):Ee vs (Bn E env (ks.drop ks.length) s)= .ok vs s:=by
 rw[EO];simp[Bn,Ee,Rs.bind]
end Go.Proofs.YtifhcbeaiijkcaaGreat
