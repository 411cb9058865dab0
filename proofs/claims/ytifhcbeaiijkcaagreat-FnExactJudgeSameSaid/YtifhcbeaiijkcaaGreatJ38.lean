/- Parts of the proof of FnExactJudgeSame. -/
import Derived.Test.YtifhcbeaiijkcaaGreatJ36
import Derived.Test.YtifhcbeaiijkcaaGreatJ37
import Derived.Test.YtifhcbeaiijkcaaGreatJ16
import Derived.Test.YtifhcbeaiijkcaaGreatJ07
import Derived.Test.YtifhcbeaiijkcaaGreatJ18
import Derived.Test.YtifhcbeaiijkcaaGreatJ02
import Derived.Test.YtifhcbeaiijkcaaGreatJ17
set_option linter.unusedVariables false
set_option linter.unusedSimpArgs false
set_option maxRecDepth 1000000
set_option maxHeartbeats 16000000
namespace Go.Proofs.YtifhcbeaiijkcaaGreat
open Go.RowKit
open _root_.Go.World renaming alloc→Wa,setCell→Ws
open _root_.Go.Proofs.Tryz renaming prog→Pq
theorem SPre.start2 {B g:Nat}{X:Nat→Prop}{lv:Value}{ds:List Dt}{x:Nd}{kv ev:Value}{env:Env}{s:Es}{w W:World}{r:Option Nat}(h:SPre B X g lv ds x kv ev env s w r) {cur:Array Value}{e e2:TypeId}(hW:(w.alloc (.cells cur e)).alloc (.cells sv0 e2)=W):Sw B g lv w r W r (.ok () s) cur (w.heap.size+1):=by
 obtain⟨bb,k1,k2⟩:=Mo hW;have hlt:=h.ev.lt;exact⟨(h.ev.same bb).1,(h.ev.same bb).2,k1,k2,AJ _,fun e=>by have:=(h.ev.row _ e).2;omega,fun e=>by have:=(h.ev.row _ e).2;omega,by omega,by omega⟩
theorem Ud {w w1 z:World}{q:Nat}{o:Obj}(h:w.grownBy w1 (some q)) (hz:w1.alloc o=z):w.grownBy z (some q):=by
 rw[←hz];exact h.trans' (De w1 o (some q))
theorem Ue {E:Nd→Env→Es→Rs Vl}{env e:Env}{v:Vl}{ks:List Nd}{k:Nat}(hk:k < ks.length) (s:Es) {p y:Nd}(hp:ks[k].kids=[p,y]) (h:BL p v env=some e):Bi E env v (ks.drop k) s=E y e s:=by
 rw[List.drop_eq_getElem_cons hk];unfold Bi;rw[(CZ hp).1,(CZ hp).2,h]
theorem Uf {E:Nd→Env→Es→Rs Vl}{env:Env}{v:Vl}{ks:List Nd}{k:Nat}(hk:k < ks.length) (s:Es) {p y:Nd}(hp:ks[k].kids=[p,y]) (h:BL p v env=none):Bi E env v (ks.drop k) s=Bi E env v (ks.drop (k+1)) s:=by
 rw[List.drop_eq_getElem_cons hk]
 conv=>lhs;unfold Bi
 rw[(CZ hp).1,h]
theorem Ug {E:Nd→Env→Es→Rs Vl}{env:Env}{v:Vl}{ks:List Nd}(s:Es):Bi E env v (ks.drop ks.length) s= .bad 2 s.out:=by
 rw[EO];rfl
theorem Uh {B g:Nat}{lv:Value}{ds:List Dt}{ar:Str→Option Nat}{m:Nat}{X:Nat→Prop}{x:Nd}{kv ev:Value}{env:Env}{s:Es}{w:World}{r:Option Nat}(hm:s.fuel≤m) (P:SPre B X g lv ds x kv ev env s w r) (ho:x.op=7) (IH:Ck B g lv ds ar m):
  Calls Pq 123 #[.pointer (some ⟨g,0,none⟩),ndV x kv,ev] w (BH B X g lv (AI ar (Ag ar m) x env s) r w):=by
 have PP:=Aa P;have IH:=Aa IH;obtain⟨ya,az,hkk,hna,haz⟩:=Gt P.np ho;have hl0:0 < x.kids.length:=by rw[hkk];simp
 have hy0:x.kids[0]=ya:=by simp[hkk]
 obtain⟨b,off,cap,kv0,hv,hbB, -,hcap,hc5,hk0⟩:=P.rk.at_ (j:=0) hl0;rw[hy0,Nat.zero_mul,Nat.add_zero]at hc5;rw[hy0]at hk0;obtain⟨c0,c1,c2,c3,c4⟩:=hc5;subst hv;obtain⟨hbw,hbg⟩:=P.nb hbB;have HM:=Aa (show ya∈x.kids from by rw[hkk];simp);have HE:=Aa (show AI ar (Ag ar m) x env s= (Ag ar m ya env s).bind fun v s1=>Bi (Ag ar m) env v (x.kids.drop 1) s1 from by rw[MC ho,show x.kid 0=ya by unfold Nd.kid;rw[hkk];rfl]);have ALT:=Aa (fun(k:Nat) (hk:k < x.kids.length) (h1:1≤k)=>(by
  refine Hv (haz _ ?_);have:x.kids[k]=az[k - 1]'(by have:=Bk List.length hkk;simp at this;omega):=by
   have h2:∀ (l:List Nd) (h:x.kids=l) (h3:k < l.length),x.kids[k]=l[k]:=fun l h h3=>by subst h;rfl
   rw[h2 _ hkk (by rw[←hkk];exact hk)];rw[List.getElem_cons];simp[show ¬k=0 by omega]
  rw[this];exact An _:∃p e,x.kids[k].kids=[p,e]∧BQ p=true∧Aj e=true))
 obtain⟨k0a,k0c,rfl⟩:=hk0.form;have HKA:=Aa hk0;have hlen:=AY x.kids;have hwg:=Av x;have hpw:=P.wg;have hks:x.kids.length≤1048576:=by omega
 have WG:=Aa (fun(k:Nat) (hk:k < x.kids.length)=>(by have:=AT (An hk);omega:wgN x.kids[k]+1≤1048576));have hk0i:(0:Int) < (x.kids.length:Int):=by omega
 obtain⟨ea,ec,rfl⟩:=P.re.sc_form;have hgw:=P.ev.lt;have hBw:=P.ev.gB.2;have hel:env.length≤4194304000:=At P.lm.inv_sc.1 (CI _);unfold ndV;clear P ho hkk haz hk0 hy0 hlen hwg hpw;go_enter Tryz.func123,Tryz.ntmps123;go_wp2_with fail;generalize hW:Wa (Wa _ _) _=W1;have N1:=Aa (PP.out.start2 hW);have hka:=HKA.out.later (PP.out.ev.tw N1.out.tw) (Ad _);clear c0 c1 c2 c3 c4 hW;refine(IH.out (Xq X (w.heap.size+1)) ya _ _ env s W1 r hm (PP.out.sub N1.out.tw hna HM.out PP.out.sz (Ad _) N1.out.ev hka (AJ _) N1.out.rx.1)).mono ?_;rintro e W2 ⟨c2,r2,rfl,t2,h2⟩;have N2:=Aa (N1.out.step t2 h2.evS);have H2:=Aa h2;have HF2:=Aa h2.formS;have HKD:=Aa (fun v s2 h=>PP.out.kid (s1:=s) (ar:=ar) (m:=m) (v:=v) (s2:=s2) hna HM.out PP.out.sz (Ad _) h);obtain⟨res1,hr1⟩:∃R,Ag ar m ya env s=R:=⟨_,rfl⟩;rw[hr1]at N2 H2;have HR1:=Aa hr1;obtain⟨kd2,nn2,ss2,a12,l12,c12,xx2,a22,l22,c22,arg2,self2,a32,l32,c32,rfl⟩:=h2.formS;clear h2 t2 hka hr1;unfold svC;cases res1 with
 |bad cd o=>
  have HC:=Aa (show cd=1∨cd=2 from N2.out.ev.1);have hcb:(cd !=0)=true:=by rcases HC.out with rfl |rfl <;> rfl
  have lg:=N2.out.ev.lt;have q2:W2.cell? ⟨g,2,none⟩=some (.int .i64 cd):=by
   obtain⟨f2,e2⟩:=N2.out.ev.2;exact e2.cells.2.2
  have lb:=N2.out.bx.1;have K9:=Aa N2.out.rx;have ck:=K9.out.2.1;have fk:=K9.out.2.2;have yk:=K9.out.1;unfold sv0 at ck;go_wp2;generalize hz:Wa _ _=z;obtain⟨k9,g9⟩:=Bx.set12 K9.out (.int .i64 0) (.int .i64 0) (.string ⟨#[]⟩) (.slice none 0 0) (.int .i64 0) (.int .i64 0) (.string ⟨#[]⟩) (.string ⟨#[]⟩) (.slice none 0 0) (.string ⟨#[]⟩) (.string ⟨#[]⟩) (.slice none 0 0);obtain⟨bz, -⟩:=Bx.alloc hz;have g10:=Ud g9 hz;have c9:=(k9.below bz k9.1).2.1;refine Aq (v:= .agg sv0) ?_ rfl ?_
  ·simp[results,Tryz.results123,go_sem,c9,sv0]
  ·rw[HE.out,HR1.out];exact Sw.fin (res:= .bad cd o) N2.out ⟨FormS.zero,N2.out.ev⟩ hBw g10
 |ok v s2=>
  have HK:=Aa (HKD.out v s2 HR1.out);have q2:W2.cell? ⟨g,2,none⟩=some (.int .i64 0):=Ev.cells N2.out.ev |>.2.2
  have lg:=N2.out.ev.lt;have lb:=N2.out.bx.1;have qb:=N2.out.bx.2.1;have hn1:W2.heap.size≠g:=by have:=N2.out.ev.lt;omega
  have hn2:r2≠some W2.heap.size:=fun e=>by have:=(N2.out.ev.row _ e).2;omega
  go_wp2_with fail;generalize hW3:Wa _ _=W3;obtain⟨b3,k3⟩:=Bx.alloc hW3;have N3:=Aa (N2.out.same b3);have T3:=Aa (N2.out.ev.same b3).2;have K3:=Aa k3;have R3:=Aa (H2.out.1.later T3.out (N2.out.ev.tw T3.out));clear q2 lg lb qb hW3 b3 k3
  go_loopw [8] (fun i wr=>∃k:Nat,1≤k∧k≤x.kids.length∧i= .int .i64 k∧Below W3.heap.size W3 wr∧Hid (Bi (Ag ar m) env v (x.kids.drop k) s2=Bi (Ag ar m) env v (x.kids.drop 1) s2)) (fun i _=>x.kids.length - (intOf i).toNat)
  case atStart=>exact⟨1,Ad _,by omega,rfl,Ab _ _,Aa rfl⟩
  case round=>
   obtain⟨k,hk1,hk,rfl,bb,hal⟩:=hrel;have N:=Aa (N3.out.same bb);have TW:=Aa (N3.out.ev.same bb).2;have qb:=N.out.bx.2.1;have lb:=N.out.bx.1;by_cases hlt:k < x.kids.length
   ·obtain⟨p,y,hpy,hpp,hny⟩:=ALT.out k hlt hk1;obtain⟨b',off',cap',kv',hv',hB',hbs, -,⟨-, -, -, -,d4⟩,hkr⟩:=(PP.out.rkW N.out.tw).at_ hlt;cases hv'
    rw[hpy]at hkr;obtain⟨pb,po,pcap,kvp,kve,hpv,hpB,hpcap,⟨p0,p1,p2,p3,p4⟩,hkp,⟨e0,e1,e2,e3,e4⟩,hke⟩:=hkr.two';rw[hpv]at d4;obtain⟨pka,pkc,rfl⟩:=hkp.form;obtain⟨eka,ekc,rfl⟩:=hke.form;have HPY:=Aa hpy;have HKP:=Aa hkp;have HKE:=Aa hke;have hki:(k:Int) < (x.kids.length:Int):=by omega
    have hk0:(0:Int)≤ (k:Int):=by omega
    have hpw:=Ah hpB N.out.ev.gB.2;have HWP:=Aa (show wgN p+1≤1048576∧wgN y≤1048576 by
     have h1:=WG.out k hlt;have h2:=Av x.kids[k];have h3:=AT (k:=p) (ks:=x.kids[k].kids) (by rw[hpy];simp);have h4:=AT (k:=y) (ks:=x.kids[k].kids) (by rw[hpy];simp);omega)
    have BB:=Aa bb;clear hkr hkp hke hpy bb;have HQ:=Aa (fun(W':World) (r':Option Nat) (t:Tw g r2 r' wr W')=>(by
     have k3:=N.out.bx.tw t N.out.ng N.out.nb;have k4:=K3.out.tw (TW.out.trans t) hn1 hn2;have b3:=N.out.ev.tw t;exact⟨k3.2.1 4,(b3.cell (p:=⟨b,off+k*5+4,none⟩) hB').trans d4,(b3.cell (p:=⟨pb,po,none⟩) hpB).trans p0,(b3.cell (p:=⟨pb,po+1,none⟩) hpB).trans p1,(b3.cell (p:=⟨pb,po+2,none⟩) hpB).trans p2,(b3.cell (p:=⟨pb,po+3,none⟩) hpB).trans p3,(b3.cell (p:=⟨pb,po+4,none⟩) hpB).trans p4,k4.2.1 0,k4.2.1 1,k4.2.1 2,k4.2.1 3,k4.2.1 4,k4.2.1 5,k4.2.1 6,k4.2.1 7,k4.2.1 8,k4.2.1 9,k4.2.1 10,k4.2.1 11⟩:W'.cell? ⟨w.heap.size,4,none⟩=some (.slice (some ⟨b,off,none⟩) x.kids.length cap)∧W'.cell? ⟨b,off+k*5+4,none⟩=some (.slice (some ⟨pb,po,none⟩) 2 pcap)∧W'.cell? ⟨pb,po,none⟩=some (.int .i64 p.op)∧W'.cell? ⟨pb,po+1,none⟩=some (.int .i64 p.n)∧W'.cell? ⟨pb,po+2,none⟩=some (.string p.s)∧W'.cell? ⟨pb,po+3,none⟩=some (.string p.t)∧W'.cell? ⟨pb,po+4,none⟩=some (.slice pka p.kids.length pkc)∧W'.cell? ⟨W2.heap.size,0,none⟩=some (.int .i64 kd2)∧W'.cell? ⟨W2.heap.size,1,none⟩=some (.int .i64 nn2)∧W'.cell? ⟨W2.heap.size,2,none⟩=some (.string ss2)∧W'.cell? ⟨W2.heap.size,3,none⟩=some (.slice a12 l12 c12)∧W'.cell? ⟨W2.heap.size,4,none⟩=some (.int .i64 xx2.op)∧W'.cell? ⟨W2.heap.size,5,none⟩=some (.int .i64 xx2.n)∧W'.cell? ⟨W2.heap.size,6,none⟩=some (.string xx2.s)∧W'.cell? ⟨W2.heap.size,7,none⟩=some (.string xx2.t)∧W'.cell? ⟨W2.heap.size,8,none⟩=some (.slice a22 l22 c22)∧W'.cell? ⟨W2.heap.size,9,none⟩=some (.string arg2)∧W'.cell? ⟨W2.heap.size,10,none⟩=some (.string self2)∧W'.cell? ⟨W2.heap.size,11,none⟩=some (.slice a32 l32 c32)))
    have HQE:=Aa (fun(W':World) (r':Option Nat) (t:Tw g r2 r' wr W')=>(by
     have k3:=N.out.bx.tw t N.out.ng N.out.nb;have b3:=N.out.ev.tw t;exact⟨k3.2.1 4,(b3.cell (p:=⟨b,off+k*5+4,none⟩) hB').trans d4,(b3.cell (p:=⟨pb,po+5,none⟩) hpB).trans e0,(b3.cell (p:=⟨pb,po+5+1,none⟩) hpB).trans e1,(b3.cell (p:=⟨pb,po+5+2,none⟩) hpB).trans e2,(b3.cell (p:=⟨pb,po+5+3,none⟩) hpB).trans e3,(b3.cell (p:=⟨pb,po+5+4,none⟩) hpB).trans e4,Ah hB' (At N.out.ev.gB.2 t.size)⟩:W'.cell? ⟨w.heap.size,4,none⟩=some (.slice (some ⟨b,off,none⟩) x.kids.length cap)∧W'.cell? ⟨b,off+k*5+4,none⟩=some (.slice (some ⟨pb,po,none⟩) 2 pcap)∧W'.cell? ⟨pb,po+5,none⟩=some (.int .i64 y.op)∧W'.cell? ⟨pb,po+5+1,none⟩=some (.int .i64 y.n)∧W'.cell? ⟨pb,po+5+2,none⟩=some (.string y.s)∧W'.cell? ⟨pb,po+5+3,none⟩=some (.string y.t)∧W'.cell? ⟨pb,po+5+4,none⟩=some (.slice eka y.kids.length ekc)∧b < W'.heap.size))
    have TB:=Aa (fun(W':World) (h:Below wr.heap.size wr W')=>(Tw.of_below h (fun k e=>(N.out.ev.row k e).2):Tw g r2 r2 wr W'));clear d4 p0 p1 p2 p3 p4 e0 e1 e2 e3 e4;go_wp2_with fail;clear qb lb;cases hfo:BL p v env with
    |none=>
     refine wp_region_held_drew (S:=(fun W'=>W'.cell? ⟨w.heap.size,4,none⟩=some (.slice (some ⟨b,off,none⟩) x.kids.length cap)∧W'.cell? ⟨b,off+k*5+4,none⟩=some (.slice (some ⟨pb,po,none⟩) 2 pcap)∧W'.cell? ⟨pb,po,none⟩=some (.int .i64 p.op)∧W'.cell? ⟨pb,po+1,none⟩=some (.int .i64 p.n)∧W'.cell? ⟨pb,po+2,none⟩=some (.string p.s)∧W'.cell? ⟨pb,po+3,none⟩=some (.string p.t)∧W'.cell? ⟨pb,po+4,none⟩=some (.slice pka p.kids.length pkc)∧W'.cell? ⟨W2.heap.size,0,none⟩=some (.int .i64 kd2)∧W'.cell? ⟨W2.heap.size,1,none⟩=some (.int .i64 nn2)∧W'.cell? ⟨W2.heap.size,2,none⟩=some (.string ss2)∧W'.cell? ⟨W2.heap.size,3,none⟩=some (.slice a12 l12 c12)∧W'.cell? ⟨W2.heap.size,4,none⟩=some (.int .i64 xx2.op)∧W'.cell? ⟨W2.heap.size,5,none⟩=some (.int .i64 xx2.n)∧W'.cell? ⟨W2.heap.size,6,none⟩=some (.string xx2.s)∧W'.cell? ⟨W2.heap.size,7,none⟩=some (.string xx2.t)∧W'.cell? ⟨W2.heap.size,8,none⟩=some (.slice a22 l22 c22)∧W'.cell? ⟨W2.heap.size,9,none⟩=some (.string arg2)∧W'.cell? ⟨W2.heap.size,10,none⟩=some (.string self2)∧W'.cell? ⟨W2.heap.size,11,none⟩=some (.slice a32 l32 c32))) (by kernel_rfl) (by first | (dsimp only;exact HQ.out _ _ (TB.out _ (Below.refl _ _).drew)) | (exact HQ.out _ _ (TB.out _ (Below.refl _ _).drew))) (fun hHeld=> ?_);generalize hxd:World.drew _=x1 at hHeld ⊢;have hd1:Below wr.heap.size wr x1:=by rw[←hxd];exact(Ab _ _).drew
     clear hxd;have N5:=Aa (N.out.same hd1);have T5:=Aa (TB.out _ hd1);refine tkH (i:=0) ?_;refine tkH (i:=1) ?_;refine tkH (i:=2) ?_;refine tkH (i:=3) ?_;refine tkH (i:=4) ?_;refine tkH (i:=5) ?_;refine tkH (i:=6) ?_;refine tkH (i:=7) ?_;refine tkH (i:=8) ?_;refine tkH (i:=9) ?_;refine rdH (i:=10) (fun K hK=> ?_);go_simp;refine(Jx B (Xq X (w.heap.size+1)) g r2 (wgN p+1) p _ _ _ v env x1 (Cp _) (by have:=HWP.out.1;omega) (by have:=HWP.out.1;omega) hpp N5.out.ev.gB.2 N5.out.ev.lt (fun k e=>(N5.out.ev.row k e).2) (fun k e=>e.elim (fun e=>Ah (PP.out.hx k e) N5.out.tw.size) (fun e=>by have:=N5.out.rx.1;omega)) (HKP.out.later (N.out.ev.tw T5.out) (Ad _)) (R3.out.later (TW.out.trans T5.out) (N3.out.ev.tw (TW.out.trans T5.out))) (PP.out.reW N5.out.tw (AJ _))).mono ?_;rintro e w6 ⟨b6,a6,n6,cc6,h6⟩;rw[hfo]at h6;obtain rfl:=h6;replace b6:=hd1.trans (b6.mono hd1.size);refine bkH hK (by first | (dsimp only;exact HQ.out _ _ (TB.out _ b6)) | (exact HQ.out _ _ (TB.out _ b6))) (fun hHeld=> ?_);clear hK K;refine tkH (i:=11) ?_;refine tkH (i:=12) ?_;refine tkH (i:=13) ?_;refine tkH (i:=14) ?_;refine tkH (i:=15) ?_;refine A2 (by kernel_rfl) ?_ _;have bt:=BB.out.trans (b6.mono BB.out.size);have HA:=Aa ((Uf (E:=Ag ar m) hlt s2 HPY.out hfo).symm.trans hal.out);clear b6 hd1 hHeld hal;go_wp2;go_roundw
     case rel=>exact⟨k+1,by omega,hlt,by go_num,bt,HA⟩
     case measure=>simp[intOf];omega
    |some env'=>
     refine wp_region_held_drew (S:=(fun W'=>W'.cell? ⟨w.heap.size,4,none⟩=some (.slice (some ⟨b,off,none⟩) x.kids.length cap)∧W'.cell? ⟨b,off+k*5+4,none⟩=some (.slice (some ⟨pb,po,none⟩) 2 pcap)∧W'.cell? ⟨pb,po,none⟩=some (.int .i64 p.op)∧W'.cell? ⟨pb,po+1,none⟩=some (.int .i64 p.n)∧W'.cell? ⟨pb,po+2,none⟩=some (.string p.s)∧W'.cell? ⟨pb,po+3,none⟩=some (.string p.t)∧W'.cell? ⟨pb,po+4,none⟩=some (.slice pka p.kids.length pkc)∧W'.cell? ⟨W2.heap.size,0,none⟩=some (.int .i64 kd2)∧W'.cell? ⟨W2.heap.size,1,none⟩=some (.int .i64 nn2)∧W'.cell? ⟨W2.heap.size,2,none⟩=some (.string ss2)∧W'.cell? ⟨W2.heap.size,3,none⟩=some (.slice a12 l12 c12)∧W'.cell? ⟨W2.heap.size,4,none⟩=some (.int .i64 xx2.op)∧W'.cell? ⟨W2.heap.size,5,none⟩=some (.int .i64 xx2.n)∧W'.cell? ⟨W2.heap.size,6,none⟩=some (.string xx2.s)∧W'.cell? ⟨W2.heap.size,7,none⟩=some (.string xx2.t)∧W'.cell? ⟨W2.heap.size,8,none⟩=some (.slice a22 l22 c22)∧W'.cell? ⟨W2.heap.size,9,none⟩=some (.string arg2)∧W'.cell? ⟨W2.heap.size,10,none⟩=some (.string self2)∧W'.cell? ⟨W2.heap.size,11,none⟩=some (.slice a32 l32 c32))) (by kernel_rfl) (by first | (dsimp only;exact HQ.out _ _ (TB.out _ (Below.refl _ _).drew)) | (exact HQ.out _ _ (TB.out _ (Below.refl _ _).drew))) (fun hHeld=> ?_);generalize hxd:World.drew _=x1 at hHeld ⊢;have hd1:Below wr.heap.size wr x1:=by rw[←hxd];exact(Ab _ _).drew
     clear hxd;have N5:=Aa (N.out.same hd1);have T5:=Aa (TB.out _ hd1);refine tkH (i:=0) ?_;refine tkH (i:=1) ?_;refine tkH (i:=2) ?_;refine tkH (i:=3) ?_;refine tkH (i:=4) ?_;refine tkH (i:=5) ?_;refine tkH (i:=6) ?_;refine tkH (i:=7) ?_;refine tkH (i:=8) ?_;refine tkH (i:=9) ?_;refine rdH (i:=10) (fun K hK=> ?_);go_simp;refine(Jx B (Xq X (w.heap.size+1)) g r2 (wgN p+1) p _ _ _ v env x1 (Cp _) (by have:=HWP.out.1;omega) (by have:=HWP.out.1;omega) hpp N5.out.ev.gB.2 N5.out.ev.lt (fun k e=>(N5.out.ev.row k e).2) (fun k e=>e.elim (fun e=>Ah (PP.out.hx k e) N5.out.tw.size) (fun e=>by have:=N5.out.rx.1;omega)) (HKP.out.later (N.out.ev.tw T5.out) (Ad _)) (R3.out.later (TW.out.trans T5.out) (N3.out.ev.tw (TW.out.trans T5.out))) (PP.out.reW N5.out.tw (AJ _))).mono ?_;rintro e w6 ⟨b6,a6,n6,cc6,h6⟩;rw[hfo]at h6;obtain⟨rfl,h7⟩:=h6;have H7:=Aa h7;clear h7;replace b6:=hd1.trans (b6.mono hd1.size);refine bkH hK (by first | (dsimp only;exact HQ.out _ _ (TB.out _ b6)) | (exact HQ.out _ _ (TB.out _ b6))) (fun hHeld=> ?_);clear hK K;refine tkH (i:=11) ?_;refine tkH (i:=12) ?_;refine tkH (i:=13) ?_;refine tkH (i:=14) ?_;refine tkH (i:=15) ?_;refine A2 (by kernel_rfl) ?_ _;have T6:=Aa (TB.out _ b6);have N6:=Aa (N.out.same b6);obtain⟨g1,g2,g3,g4,g5,g6,g7,g8⟩:=HQE.out _ _ T6.out;have lb6:=N6.out.bx.1;have hpw6:=Ah hpB N6.out.ev.gB.2;have HA:=Aa (hal.out.symm.trans (Ue (E:=Ag ar m) hlt s2 HPY.out hfo));have HFL:=Aa (Jv (A3 s2.fuel) p v env env' HK.out.2.1 (PP.out.lm.fuel (by have:=HK.out.2.2.1;omega)).inv_sc.2 hfo);have HFG:=Aa (Gu p v env env' HK.out.1 PP.out.gd hfo);obtain⟨fa,fc,hf7⟩:=H7.out.sc_form;cases hf7
     clear b6 hd1 hHeld hal;go_wp2_with fail;clear g1 g2 g3 g4 g5 g6 g7 g8;have PRE:SPre B (Xq X (w.heap.size+1)) g lv ds y (.slice eka y.kids.length ekc) (.slice a6 env'.length cc6) env' s2 w6 r2:=
      ⟨hny,HWP.out.2,HFG.out,.sc _ (by have h1:=HFL.out.1;have h2:=PP.out.lm.inv_sc.1;have h3:=E0 HK.out.2.2.1 (by have:=PP.out.sz;omega);have:=HWP.out.1;omega) HFL.out.2,HK.out.2.2.2,HKE.out.later (N.out.ev.tw T6.out) (Ad _),H7.out,N6.out.ev,PP.out.dtW N6.out.tw,fun k e=>e.elim (fun e=>Ah (PP.out.hx k e) N6.out.tw.size) (fun e=>by have:=N6.out.rx.1;omega)⟩
     refine(IH.out _ _ _ _ _ _ _ _ (by have:=HK.out.2.2.1;omega) PRE).mono ?_;rintro e W7 ⟨c7,r7,rfl,t7,h7⟩;have N7:=Aa (N6.out.step t7 h7.evS);have H8:=Aa h7;obtain⟨kd7,nn7,ss7,a17,l17,c17,xx7,a27,l27,c27,arg7,self7,a37,l37,c37,rfl⟩:=h7.formS;clear h7 t7 PRE;unfold svC;have K9:=Aa N7.out.rx;have ck:=K9.out.2.1;have fk:=K9.out.2.2;have yk:=K9.out.1;unfold sv0 at ck;go_wp2;generalize hz:Ws (Ws _ _ _) _ _=z;obtain⟨k9,g9⟩:=Bx.set12 K9.out (.int .i64 kd7) (.int .i64 nn7) (.string ss7) (.slice a17 l17 c17) (.int .i64 xx7.op) (.int .i64 xx7.n) (.string xx7.s) (.string xx7.t) (.slice a27 l27 c27) (.string arg7) (.string self7) (.slice a37 l37 c37);rw[hz]at k9 g9;have c9:=k9.2.1;refine Aq (v:= .agg (svC kd7 nn7 ss7 (.slice a17 l17 c17) xx7 (.slice a27 l27 c27) arg7 self7 (.slice a37 l37 c37))) ?_ rfl ?_
     ·simp[results,Tryz.results123,go_sem,c9,svC]
     ·rw[HE.out,HR1.out];dsimp only[Rs.bind];rw[HA.out];exact Sw.fin (res:=Ag ar m y env' s2) N7.out H8.out hBw g9
   ·obtain rfl:k=x.kids.length:=by omega
    have HA:=Aa (hal.out.symm.trans (Ug s2));clear bb hal;go_wp2_with fail;refine(F7 N.out.ev).mono ?_;rintro e W4 ⟨rfl,e4,t4⟩;rw[Af rfl]at e4;have N4:=Aa (N.out.step (σ':= .bad 2 s2.out) t4 ⟨.inr rfl,_,e4⟩);clear e4 t4 qb lb;unfold sv0;have K9:=Aa N4.out.rx;have ck:=K9.out.2.1;have fk:=K9.out.2.2;have yk:=K9.out.1;unfold sv0 at ck;go_wp2;generalize hz:Ws (Ws _ _ _) _ _=z;obtain⟨k9,g9⟩:=Bx.set12 K9.out (.int .i64 0) (.int .i64 0) (.string ⟨#[]⟩) (.slice none 0 0) (.int .i64 0) (.int .i64 0) (.string ⟨#[]⟩) (.string ⟨#[]⟩) (.slice none 0 0) (.string ⟨#[]⟩) (.string ⟨#[]⟩) (.slice none 0 0);rw[hz]at k9 g9;have c9:=k9.2.1;refine Aq (v:= .agg (sv0)) ?_ rfl ?_
    ·simp[results,Tryz.results123,go_sem,c9,sv0]
    ·rw[HE.out,HR1.out];dsimp only[Rs.bind];rw[HA.out];exact Sw.fin (res:= .bad 2 s2.out) N4.out ⟨FormS.zero,N4.out.ev⟩ hBw g9
theorem KE (ds:List Dt) (dv:Value) (s:Str) (B:Nat) (w:World) (hr:RdDts B w dv ds) (hds:ds.length≤1048576):
  Calls Pq 115 #[dv,.string s] w fun e w'=>e= .returned (.int .i64 (dIx ds s))∧w'=w:=by
 have HR:=Aa hr;have HH:=Aa (fun(k:Nat) (hk:k < ds.length) (h:ds[k].name=s) (hj:∀j (h:j < ds.length),j < k→ds[j].name≠s)=>PR hk h hj);have HN:=Aa (fun(hj:∀j (h:j < ds.length),ds[j].name≠s)=>PS hj);generalize dIx ds s=dx at*;obtain⟨ka,kc,rfl⟩:=hr.form;clear hr;go_enter Tryz.func115,Tryz.ntmps115;go_wp2
 go_loop [5] (fun i=>∃k:Nat,k≤ds.length∧i= .int .i64 k∧Hid (∀j (h:j < ds.length),j < k→ds[j].name≠s)) (fun i=>ds.length - (intOf i).toNat)
 case atStart=>exact⟨0,Ao _,rfl,Aa (fun j h hk=>absurd hk (Aw j))⟩
 case round=>
  obtain⟨k,hk,rfl,hd⟩:=hrel;by_cases hlt:k < ds.length
  ·obtain⟨b,off,cap,cv,hv,hB,hbs,hcap,c0,c1,c2, -⟩:=HR.out.at_ hlt;cases hv
   have hki:(k:Int) < (ds.length:Int):=by omega
   by_cases he:ds[k].name=s
   ·have he':=Aa (HH.out k hlt he hd.out);have hq:=Dz he;clear he;go_wp2;go_ret;exact⟨Ap he'.out.symm,rfl⟩
   ·have he':=Aa he;have hq:=Em he;clear he;go_wp2
    go_round
    case rel=>exact⟨k+1,hlt,by go_num,Aa (fun j h hj=>by
     by_cases e:j=k
     ·subst e;exact he'.out
     ·exact hd.out j h (by omega))⟩
    case measure=>simp[intOf];omega
  ·obtain rfl:k=ds.length:=by omega
   have he':=Aa (HN.out fun j h=>hd.out j h h);go_wp2;go_ret;exact⟨Ap he'.out.symm,rfl⟩
theorem KF (ds:List Dt) (dv:Value) (s:Str) (B:Nat) (w:World) (hr:RdDts B w dv ds) (hl:AN ds≤1048576):
  Calls Pq 116 #[dv,.string s] w fun e w'=>e= .returned (.tuple #[.int .i64 (Bp ds s).1,.int .i64 (Bp ds s).2])∧w'=w:=by
 have HR:=Aa hr;have hln:=Dn ds;have hds:ds.length≤1048576:=by omega
 have SZ:=Aa (EP hl);have HH:=Aa (fun(i:Nat) (hi:i < ds.length) (k:Nat) (hk:k < ds[i].cons.length) (h:ds[i].cons[k].name=s) (h1:∀j (h:j < ds[i].cons.length),j < k→ds[i].cons[j].name≠s) (h2:∀j (h:j < ds.length),j < i→ ∀l (hl:l < ds[j].cons.length),ds[j].cons[l].name≠s)=>(by
  rcases Gq ds s with ⟨_,h5⟩ |⟨i',hi',k',hk',h5,h6,h7,h8⟩
  ·exact absurd h (h5 i hi k hk)
  ·have e1:i'=i:=by
    rcases Kd i' i with h9 |h9 |h9
    ·exact absurd h6 (h2 i' hi' h9 k' hk')
    ·exact h9
    ·exact absurd h (h8 i hi h9 k hk)
   subst e1;have e2:k'=k:=by
    rcases Kd k' k with h9 |h9 |h9
    ·exact absurd h6 (h1 k' hk' h9)
    ·exact h9
    ·exact absurd h (h7 k hk h9)
   subst e2;exact h5:Bp ds s= ((i:Int),(k:Int))))
 have HN:=Aa (fun(h:∀i (hi:i < ds.length) l (hl:l < ds[i].cons.length),ds[i].cons[l].name≠s)=>(by
  rcases Gq ds s with ⟨h5,_⟩ |⟨i',hi',k',hk',h5,h6,h7,h8⟩
  ·exact h5
  ·exact absurd h6 (h i' hi' k' hk'):Bp ds s= (-1, -1)))
 generalize Bp ds s=co at*;obtain⟨ka,kc,rfl⟩:=hr.form;clear hr hln hl;go_enter Tryz.func116,Tryz.ntmps116;go_wp2
 go_loop [6] (fun i=>∃k:Nat,k≤ds.length∧i= .int .i64 k∧Hid (∀j (h:j < ds.length),j < k→ ∀l (hl:l < ds[j].cons.length),ds[j].cons[l].name≠s)) (fun i=>ds.length - (intOf i).toNat)
 case atStart=>exact⟨0,Ao _,rfl,Aa (fun j h hk=>absurd hk (Aw j))⟩
 case round=>
  obtain⟨i,hi,rfl,hd⟩:=hrel;by_cases hlt:i < ds.length
  ·obtain⟨b,off,cap,cv,hv,hB,hbs,hcap,c0,c1,c2,hkr⟩:=HR.out.at_ hlt;cases hv
   have hki:(i:Int) < (ds.length:Int):=by omega
   have HC:=Aa hkr;have HHi:=Aa (HH.out i hlt);have hsz:=SZ.out i hlt;obtain⟨ca,cc,rfl⟩:=hkr.form;clear hkr;go_wp2
   go_loop [7] (fun v=>∃k:Nat,k≤ds[i].cons.length∧v= .int .i64 k∧Hid (∀l (hl:l < ds[i].cons.length),l < k→ds[i].cons[l].name≠s)) (fun v=>ds[i].cons.length - (intOf v).toNat)
   case atStart=>exact⟨0,Ao _,rfl,Aa (fun j h hk=>absurd hk (Aw j))⟩
   case round=>
    obtain⟨k,hk,rfl,hdk⟩:=hrel;by_cases hlk:k < ds[i].cons.length
    ·obtain⟨b',off',cap',av,hv',hB',hbs',hcap',d0,d1, -⟩:=HC.out.at_ hlk;cases hv'
     have hkk:(k:Int) < (ds[i].cons.length:Int):=by omega
     by_cases he:ds[i].cons[k].name=s
     ·have he':=Aa (HHi.out k hlk he hdk.out hd.out);have hq:=Dz he;clear he;go_wp2;go_ret2;rw[he'.out];exact⟨rfl,rfl⟩
     ·have he':=Aa he;have hq:=Em he;clear he;go_wp2
      go_round
      case rel=>exact⟨k+1,hlk,by go_num,Aa (fun j h hj=>by
       by_cases e:j=k
       ·subst e;exact he'.out
       ·exact hdk.out j h (by omega))⟩
      case measure=>simp[intOf];omega
    ·obtain rfl:k=ds[i].cons.length:=by omega
     go_wp2
     go_round
     case rel=>exact⟨i+1,hlt,by go_num,Aa (fun j h hj=>by
      by_cases e:j=i
      ·subst e;exact fun l hl=>hdk.out l hl hl
      ·exact hd.out j h (by omega))⟩
     case measure=>simp[intOf];omega
  ·obtain rfl:i=ds.length:=by omega
   have he':=Aa (HN.out fun j h=>hd.out j h h);go_wp2;go_ret2;rw[he'.out];exact⟨rfl,rfl⟩
def BC (ds:List Dt) (b:Bool) (t:Tp):Bool:=Cs ds t&& (!b || Di ds t)
theorem Pm {ds:List Dt}{b:Bool}{t:Tp}(h:t.op≠4):BC ds b t=true:=by unfold BC Cs Di;simp[h]
theorem Pn {ds:List Dt}{b:Bool}{t:Tp}(h:t.op=4):BC ds b t= (decide (0≤dIx ds t.s)&& (!b || decide ((t.kids.length:Int)=ET ds t.s))):=by unfold BC Cs Di;simp[h]
theorem KG (m:Bool) (ds:List Dt) (dv:Value) (hds:ds.length≤1048576):∀ (N:Nat) (x:Tp) (kv:Value) (B B':Nat) (w:World),wgT x < N→wgT x≤1048576→RdDts B' w dv ds→RdTps B w kv x.kids→
  Calls Pq 176 #[dv,tpV x kv,.bool m] w fun e w'=>e= .returned (.bool (As (BC ds m) x))∧Below w.heap.size w w'
 |0,x,kv,B,B',w,hN,hl,hd,hr=>by omega
 |N+1,x,kv,B,B',w,hN,hl,hd,hr=>by
  have HR:=Aa (fun(W:World) (hb:Below w.heap.size w W)=>hr.later' hb);have HD:=Aa (fun(W:World) (hb:Below w.heap.size w W)=>hd.later' hb);have DA:=Aa (fun(W:World) (hb:Below w.heap.size w W)=>KE ds dv x.s _ W (hd.later' hb) hds);have hwg:=DM x;have hlen:=EJ x.kids;have hks:x.kids.length≤1048576:=by omega
  have IH:=Aa (fun(j:Nat) (hj:j < x.kids.length) (kv:Value) (B:Nat) (W:World) (hb:Below w.heap.size w W) (h:RdTps B W kv x.kids[j].kids)=>(by
   have:=CJ (An hj);exact KG m ds dv hds N x.kids[j] kv B _ W (by omega) (by omega) (hd.later' hb) h:Calls Pq 176 #[dv,tpV x.kids[j] kv,.bool m] W fun e w'=>e= .returned (.bool (As (BC ds m) x.kids[j]))∧Below W.heap.size W w'))
  have HE:=Aa (EB (BC ds m) x);have H4:=Aa (@Pn ds m x);have HN4:=Aa (@Pm ds m x);have HP:=Aa (show 0≤dIx ds x.s→ ∃k,∃hk:k < ds.length,dIx ds x.s=k∧ET ds x.s=ds[k].vars from fun h=>by
   rcases Lb ds x.s with ⟨h1,_⟩ |⟨k,hk,h1, -⟩
   ·omega
   ·refine⟨k,hk,h1,?_⟩;unfold ET;rw[h1];simp[List.getD,Ay hk])
  obtain⟨ka,kc,rfl⟩:=hr.form;obtain⟨da,dc,rfl⟩:=hd.form;clear hr hd hN hwg hlen hl;unfold tpV at IH ⊢;generalize x.op=xop at*;generalize x.n=xn at*;generalize x.s=xs at*;generalize As (BC ds m) x=ax at*;generalize BC ds m x=nx at*;generalize x.kids=ks at*;go_enter Tryz.func176,Tryz.ntmps176;go_wp2_with fail;generalize hxx:Wa _ _=x0;obtain⟨bb,k1⟩:=Bx.alloc hxx;clear hxx
  go_loopw [7] (fun i wr=>∃k:Nat,k≤ks.length∧i= .int .i64 k∧Below w.heap.size w wr∧Bx wr w.heap.size #[.int .i64 xop,.int .i64 xn,.string xs,.slice ka ks.length kc]∧Hid (∀j (h:j < ks.length),j < k→As (BC ds m) ks[j]=true)) (fun i _=>ks.length - (intOf i).toNat)
  case atStart=>exact⟨0,Ao _,rfl,bb,k1,Aa (fun j h hk=>absurd hk (Aw j))⟩
  case round=>
   clear bb k1;obtain⟨k,hk,rfl,bb,k1,hd⟩:=hrel;by_cases hlt:k < ks.length
   ·obtain⟨b,off,cap,kv,hv,hB,hbs,hcap,⟨c0,c1,c2,c3⟩,hkr⟩:=(HR.out wr bb).at_ hlt;cases hv
    have hki:(k:Int) < (ks.length:Int):=by omega
    obtain⟨kva,kvc,rfl⟩:=hkr.form;have HK:=Aa hkr;have q1:=k1.2.1;clear hkr;go_wp2_with fail;clear q1 c0 c1 c2 c3;refine(IH.out k hlt _ _ wr bb HK.out).mono ?_;rintro e w2 ⟨rfl,b2⟩;replace k1:=k1.below b2 k1.1;replace bb:=bb.trans (b2.mono bb.size);clear b2 HK;cases hp:As (BC ds m) ks[k]with
    |true=>
     have hp':=Aa hp;clear hp;go_wp2;go_roundw
     case rel=>exact⟨k+1,hlt,by go_num,bb,k1,Aa (fun j h hj=>by
      by_cases e:j=k
      ·subst e;exact hp'.out
      ·exact hd.out j h (by omega))⟩
     case measure=>simp[intOf];omega
    |false=>
     have hp':=Aa ((DW (BC ds m) ks).trans (DN hlt hp));clear hp;go_wp2;go_ret;exact⟨Ac (by rw[HE.out,hp'.out];simp),bb⟩
   ·obtain rfl:k=ks.length:=by omega
    have hy:=(DW (BC ds m) ks).trans (Ea (fun j hj=>hd.out j hj hj));have HE2:Hid (ax=nx):=Aa (by rw[HE.out,hy];simp);clear hy HE;have q1:=k1.2.1;by_cases o4:xop=4
    ·subst o4;have H4b:=Aa (H4.out rfl);clear H4;go_wp2_with fail;clear q1;refine(DA.out wr bb).mono ?_;rintro e w2 ⟨rfl,rfl⟩;have q1:=k1.2.1;by_cases hd0:0≤dIx ds xs
     ·obtain⟨k,hk,hdx,hva⟩:=HP.out hd0;rw[hdx];have HDX:=Aa hdx;have HVA:=Aa hva;have hd0':=Aa hd0;obtain⟨b,off,cap,cv,hv,hB,hbs,hcap,c0,c1,c2, -⟩:=(HD.out _ bb).at_ hk;cases hv
      have hki:(k:Int) < (ds.length:Int):=by omega
      have hk0:(0:Int)≤ (k:Int):=by omega
      clear hdx hva hd0 c0 c2;cases m with
      |false=>
       go_wp2_with fail;go_quiet (fail);go_wp2;go_ret;exact⟨Ac (by rw[HE2.out,H4b.out,Ax hd0'.out];rfl),bb.trans (Still.below ⟨_,rfl⟩ _)⟩
      |true=>
       go_wp2_with fail;go_quiet (fail);go_wp2
       all_goals go_ret
       all_goals exact⟨Ac (by rw[HE2.out,H4b.out,HVA.out,Ax hd0'.out];simp only[Bool.not_true,Bool.false_or,DH];rw[Ds,beq_iff_eq,Du];exact eq_comm),bb.trans (Still.below ⟨_,rfl⟩ _)⟩
     ·have hd1:¬(dIx ds xs≥0):=hd0;have hd0':=Aa hd0;have hd2:decide (dIx ds xs≥0)=false:=AF hd0;generalize dIx ds xs=dx at*;go_wp2_with fail;go_quiet (fail);go_wp2;go_ret;exact⟨Ac (by rw[HE2.out,H4b.out,AF (p:=0≤dx) (by have:=hd0'.out;omega)];rfl),bb.trans (Still.below ⟨_,rfl⟩ _)⟩
    ·have o4b:(xop !=4)=true:=by simp[o4]
     have hn:=Aa (HN4.out o4);go_wp2;go_ret;exact⟨Ac (by rw[HE2.out,hn.out]),bb⟩
theorem Gi {α:Type}(p q:α→Bool):∀l:List α,l.all (fun x=>p x&& q x)= (l.all p&& l.all q)
 | []=>rfl
 |x::xs=>by simp only[List.all_cons];rw[Gi p q xs];cases p x <;> cases q x <;> simp
theorem Po (p q:Tp→Bool) (x:Tp):As (fun t=>p t&& q t) x= (As p x&& As q x):=by
 have h:∀N (x:Tp),wgT x < N→As (fun t=>p t&& q t) x= (As p x&& As q x):=by
  intro N;induction N with
  |zero=>intro x h;omega
  |succ N ih=>
   intro x h;rw[EB,EB,EB,DW,DW,DW];have:x.kids.all (As fun t=>p t&& q t)=x.kids.all (fun t=>As p t&& As q t):=by
    rw[Ds,BA,BA];refine forall_congr' fun y=>forall_congr' fun hy=> ?_;have:=CJ hy;have:=DM x;rw[ih y (by omega)]
   rw[this,Gi];cases p x <;> cases q x <;> cases x.kids.all (As p) <;> cases x.kids.all (As q) <;> rfl
 exact h _ x (Cp _)
theorem Pp (p q:Tp→Bool) (ds:List Dt):Bu (fun t=>p t&& q t) ds= (Bu p ds&& Bu q ds):=by
 unfold Bu;have h1:∀c:Cn,c.args.all (As fun t=>p t&& q t)= (c.args.all (As p)&& c.args.all (As q)):=fun c=>by
  rw[show(As fun t=>p t&& q t)= (fun t=>As p t&& As q t)from funext (Po p q),Gi]
 have h2:∀d:Dt,(d.cons.all fun c=>c.args.all (As fun t=>p t&& q t))= ((d.cons.all fun c=>c.args.all (As p))&& (d.cons.all fun c=>c.args.all (As q))):=fun d=>by
  rw[show(fun c:Cn=>c.args.all (As fun t=>p t&& q t))= (fun c=>c.args.all (As p)&& c.args.all (As q))from funext h1,Gi]
 rw[show(fun d:Dt=>d.cons.all fun c=>c.args.all (As fun t=>p t&& q t))= (fun d=>(d.cons.all fun c=>c.args.all (As p))&& (d.cons.all fun c=>c.args.all (As q)))from funext h2,Gi]
theorem Pr (ds:List Dt):BC ds false=Cs ds:=funext fun t=>by unfold BC;simp
theorem Ps (ds:List Dt):BC ds true=fun t=>Cs ds t&& Di ds t:=funext fun t=>by unfold BC;simp
theorem KH (m:Bool) (ds:List Dt) (dv:Value) (B:Nat) (w:World) (hr:RdDts B w dv ds) (hl:AN ds≤1048576):
  Calls Pq 117 #[dv,.bool m] w fun e w'=>e= .returned (.bool (Bu (BC ds m) ds))∧Below w.heap.size w w':=by
 have HR:=Aa (fun(W:World) (hb:Below w.heap.size w W)=>hr.later' hb);have hln:=Dn ds;have hds:ds.length≤1048576:=by omega
 have SZ:=Aa (EP hl);have SA:=Aa (He hl);have HO:=Aa (fun(i:Nat) (hi:i < ds.length) (k:Nat) (hk:k < ds[i].cons.length) (j:Nat) (hj:j < ds[i].cons[k].args.length) (kv:Value) (B:Nat) (W:World) (hb:Below w.heap.size w W) (h:RdTps B W kv ds[i].cons[k].args[j].kids)=>(by
  have:=Hf hl i hi k hk j hj;exact KG m ds dv hds 1048577 _ kv B _ W (by omega) this (hr.later' hb) h:Calls Pq 176 #[dv,tpV ds[i].cons[k].args[j] kv,.bool m] W fun e w'=>e= .returned (.bool (As (BC ds m) ds[i].cons[k].args[j]))∧Below W.heap.size W w'))
 have HN:=Aa (fun(i:Nat) (hi:i < ds.length) (k:Nat) (hk:k < ds[i].cons.length) (j:Nat) (hj:j < ds[i].cons[k].args.length) (h:As (BC ds m) ds[i].cons[k].args[j]=false)=>IX (q:=BC ds m) i hi k hk (DN hj h));have HY:=Aa (fun h=>IY (q:=BC ds m) (ds:=ds) h);generalize Bu (BC ds m) ds=aq at*;obtain⟨ka,kc,rfl⟩:=hr.form;unfold tpV at HO;clear hr hln hl;go_enter Tryz.func117,Tryz.ntmps117;go_wp2
 go_loopw [5] (fun i wr=>∃k:Nat,k≤ds.length∧i= .int .i64 k∧Below w.heap.size w wr∧Hid (∀j (h:j < ds.length),j < k→ ∀l (hl:l < ds[j].cons.length),(ds[j].cons[l].args.all (As (BC ds m)))=true)) (fun i _=>ds.length - (intOf i).toNat)
 case atStart=>exact⟨0,Ao _,rfl,Ab _ _,Aa (fun j h hk=>absurd hk (Aw j))⟩
 case round=>
  obtain⟨ii,hi,rfl,bb,hd⟩:=hrel;by_cases hlt:ii < ds.length
  ·obtain⟨b,off,cap,cv,hv,hB,hbs,hcap,c0,c1,c2,hkr⟩:=(HR.out w (Ab _ _)).at_ hlt;cases hv
   have hki:(ii:Int) < (ds.length:Int):=by omega
   have hsz:=SZ.out ii hlt;have SAi:=Aa (SA.out ii hlt);have HOi:=Aa (HO.out ii hlt);have HNi:=Aa (HN.out ii hlt);have HC:=Aa (fun(W:World) (hb:Below w.heap.size w W)=>hkr.later' hb);have HC2:=Aa (fun(W:World) (hb:Below w.heap.size w W)=>(hb.cell (p:=⟨b,off+ii*3+2,none⟩) hbs).trans c2);obtain⟨ca,cc,rfl⟩:=hkr.form;clear hkr c0 c1 c2;go_wp2
   go_loopw [6] (fun i wz=>∃k:Nat,k≤ds[ii].cons.length∧i= .int .i64 k∧Below w.heap.size w wz∧Hid (∀l (hl:l < ds[ii].cons.length),l < k→ds[ii].cons[l].args.all (As (BC ds m))=true)) (fun i _=>ds[ii].cons.length - (intOf i).toNat)
   case atStart=>exact⟨0,Ao _,rfl,bb,Aa (fun j h hk=>absurd hk (Aw j))⟩
   case round=>
    clear bb;obtain⟨k,hk,rfl,bb,hdk⟩:=hrel;have c2:=HC2.out wr bb;by_cases hlk:k < ds[ii].cons.length
    ·obtain⟨b',off',cap',av,hv',hB',hbs',hcap',d0,d1,hka⟩:=(HC.out w (Ab _ _)).at_ hlk;cases hv'
     have hkk:(k:Int) < (ds[ii].cons.length:Int):=by omega
     have hza:=SAi.out k hlk;have HA:=Aa (fun(W:World) (hb:Below w.heap.size w W)=>hka.later' hb);have HD1:=Aa (fun(W:World) (hb:Below w.heap.size w W)=>(hb.cell (p:=⟨b',off'+k*2+1,none⟩) hbs').trans d1);have HOk:=Aa (HOi.out k hlk);have HNk:=Aa (HNi.out k hlk);obtain⟨aa,ac,rfl⟩:=hka.form;clear hka d0 d1;go_wp2;clear c2
     go_loopw [7] (fun i wz=>∃j:Nat,j≤ds[ii].cons[k].args.length∧i= .int .i64 j∧Below w.heap.size w wz∧Hid (∀l (hl:l < ds[ii].cons[k].args.length),l < j→As (BC ds m) ds[ii].cons[k].args[l]=true)) (fun i _=>ds[ii].cons[k].args.length - (intOf i).toNat)
     case atStart=>exact⟨0,Ao _,rfl,bb,Aa (fun j h hk=>absurd hk (Aw j))⟩
     case round=>
      clear bb;obtain⟨j,hj,rfl,bb,hdj⟩:=hrel;have c2:=HC2.out wr bb;have d1:=HD1.out wr bb;by_cases hlj:j < ds[ii].cons[k].args.length
      ·obtain⟨ab,ao,acp,kt,hvt,hBt,hbt,hcapt,⟨e0,e1,e2,e3⟩,hkt⟩:=(HA.out wr bb).at_ hlj;cases hvt
       have hjj:(j:Int) < (ds[ii].cons[k].args.length:Int):=by omega
       obtain⟨ta,tc,rfl⟩:=hkt.form;have HKT:=Aa hkt;clear hkt;go_wp2_with fail;clear c2 d1 e0 e1 e2 e3;refine(HOk.out j hlj _ _ wr bb HKT.out).mono ?_;rintro e w2 ⟨rfl,b2⟩;replace bb:=bb.trans (b2.mono bb.size);clear b2;cases hp:As (BC ds m) ds[ii].cons[k].args[j]with
       |true=>
        have hp':=Aa hp;clear hp;go_wp2;go_roundw
        case rel=>exact⟨j+1,hlj,by go_num,bb,Aa (fun l h hl=>by
         by_cases e:l=j
         ·subst e;exact hp'.out
         ·exact hdj.out l h (by omega))⟩
        case measure=>simp[intOf];omega
       |false=>
        have hp':=Aa (HNk.out j hlj hp);clear hp;go_wp2;go_ret;exact⟨Ac hp'.out.symm,bb⟩
      ·obtain rfl:j=ds[ii].cons[k].args.length:=by omega
       have hy:=Aa (Ea fun l hl=>hdj.out l hl hl);go_wp2;go_roundw
       case rel=>exact⟨k+1,hlk,by go_num,bb,Aa (fun j h hj=>by
        by_cases e:j=k
        ·subst e;exact hy.out
        ·exact hdk.out j h (by omega))⟩
       case measure=>simp[intOf];omega
    ·obtain rfl:k=ds[ii].cons.length:=by omega
     go_wp2;go_roundw
     case rel=>exact⟨ii+1,hlt,by go_num,bb,Aa (fun j h hj=>by
      by_cases e:j=ii
      ·subst e;exact fun l hl=>hdk.out l hl hl
      ·exact hd.out j h (by omega))⟩
     case measure=>simp[intOf];omega
  ·obtain rfl:ii=ds.length:=by omega
   have he:=Aa (HY.out fun j h=>hd.out j h h);go_wp2;go_ret;exact⟨Ac he.out.symm,bb⟩
end Go.Proofs.YtifhcbeaiijkcaaGreat
