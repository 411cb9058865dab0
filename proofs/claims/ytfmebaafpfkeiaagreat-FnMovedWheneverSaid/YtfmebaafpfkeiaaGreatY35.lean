/- Parts of the proof of FnEnds, FnMeant, FnMovedWhenever, FnSizes. -/
import Derived.Test.YtfmebaafpfkeiaaGreatY24
import Derived.Test.YtfmebaafpfkeiaaGreatY14
import Derived.Test.YtfmebaafpfkeiaaGreatY12
import Derived.Test.YtfmebaafpfkeiaaGreatY17
import Derived.Test.YtfmebaafpfkeiaaGreatY22
import Derived.Test.YtfmebaafpfkeiaaGreatY13
set_option linter.unusedVariables false
set_option linter.unusedSimpArgs false
set_option maxRecDepth 1000000
set_option maxHeartbeats 16000000
namespace Go.Proofs.YtfmebaafpfkeiaaGreat
open Go.RowKit
theorem Tryz.infoValue:(Tryz.prog.info? 50).map (fun i=>(i.zero,i.size,i.bytes))=some (some (.agg #[.int .i64 0,.int .i64 0,.string ⟨#[]⟩,.slice none 0 0]),4,56):=by kernel_rfl
theorem ag (w:World) (base:Nat) (e:TypeId) (sz:Nat):w.ownsRow base e sz (.slice none 0 0) 0 []:=⟨by simp,.inl ⟨rfl,rfl⟩⟩
theorem ah {w w':World}(h:w.grownBy w' none) (r:Option Nat):w.grownBy w' r:=⟨h.os,h.tape,h.output,h.size,fun i hi _=>h.block i hi (by simp)⟩
theorem Hi {w w9:World}{r:Option Nat}(h:w.grownBy w9 r) {b j:Nat}{u:Value}(hb:w.heap.size≤b):w.grownBy (w9.setCell ⟨b,j,none⟩ u) r:=
 ⟨h.os,h.tape,h.output,by simp;exact h.size,fun i hi hne=>((grownBy.setCell w9 b j u).block i (Nat.lt_of_lt_of_le hi h.size) (fun e=>by have:=Option.some.inj e;omega)).trans (h.block i hi hne)⟩
theorem Bx.set4g {w:World}{g:Nat}{z0 z1 z2 z3:Value}(k:Bx w g #[z0,z1,z2,z3]) (a0 a1 a2 a3:Value):
  Bx ((((w.setCell ⟨g,0,none⟩ a0).setCell ⟨g,1,none⟩ a1).setCell ⟨g,2,none⟩ a2).setCell ⟨g,3,none⟩ a3) g #[a0,a1,a2,a3]∧w.grownBy ((((w.setCell ⟨g,0,none⟩ a0).setCell ⟨g,1,none⟩ a1).setCell ⟨g,2,none⟩ a2).setCell ⟨g,3,none⟩ a3) (some g):=by
 have:=(((k.set 0 (by simp) a0).set 1 (by simp) a1).set 2 (by simp) a2).set 3 (by simp) a3;exact⟨by simpa using this,(((grownBy.setCell w g 0 a0).trans' (grownBy.setCell _ g 1 a1)).trans' (grownBy.setCell _ g 2 a2)).trans' (grownBy.setCell _ g 3 a3)⟩
structure TagAt (W:World) (lb lo ll lc:Nat) (tag:Int) (s:ByteArray) (m:Nat):Prop where
 ex:∃ (d kk cb co cl cc:Nat) (aa:Option Addr) (ac:Nat),d < ll∧kk < cl∧W.cell? ⟨lb,lo+d*3+2,none⟩=some (.slice (some ⟨cb,co,none⟩) cl cc)∧W.cell? ⟨cb,co+kk*2,none⟩=some (.string s)∧
  W.cell? ⟨cb,co+kk*2+1,none⟩=some (.slice aa m ac)∧lb < W.heap.size∧cb < W.heap.size∧
  Calls Tryz.prog 228 #[.slice (some ⟨lb,lo,none⟩) ll lc,.int .i64 tag] W fun e W'=>e= .returned (.tuple #[.int .i64 d,.int .i64 kk])∧Below W.heap.size W W'
structure Told0 (w0:World) (G:Nat) (con:Int→Option (ByteArray×Nat)) (zs:List Int) (ps:List Nat) (h b n:Nat) (lv pv:Value) (ha hc:Nat) (hb0:Nat):Prop where
 right:Right zs h b n ps
 zi:Au zs
 z:∀W,w0.grownBy W (some G)→Rd W.heap.size .i64 W (.slice (some ⟨hb0,ha,none⟩) zs.length hc) zs
 p:∀W,w0.grownBy W (some G)→Rd W.heap.size .i64 W pv (Ax ps)
 t:∀tag s m,con tag=some (s,m)→ ∃lb lo ll lc,lv= .slice (some ⟨lb,lo,none⟩) ll lc∧ ∀W,w0.grownBy W (some G)→TagAt W lb lo ll lc tag s m
 lf:∃la ll lc,lv= .slice la ll lc
theorem ai {w0:World}{G:Nat}{con:Int→Option (ByteArray×Nat)}{zs:List Int}{ps:List Nat}{h b n:Nat}{lv pv:Value}{ha hc hb0:Nat}(T:Told0 w0 G con zs ps h b n lv pv ha hc hb0)
  (x:Int) (hx:¬x%2=0) (room left:Nat) (h1:1≤room) (h2:room≤200) (h3:1≤left) (h4:left≤4000) (w:World) (hw:w0.grownBy w (some G)) (kG:Bx w G #[lv,.slice (some ⟨hb0,ha,none⟩) zs.length hc,.int .i64 h,.int .i64 b,.int .i64 n,pv,.int .i64 left]):
  Calls Tryz.prog 141 #[.pointer (some ⟨G,0,none⟩),.int .i64 x,.int .i64 room] w fun e w'=>∃v,e= .returned (.tuple #[v,.bool true])∧RdT w.heap.size w' (.num (x/2)) v∧
   Bx w' G #[lv,.slice (some ⟨hb0,ha,none⟩) zs.length hc,.int .i64 h,.int .i64 b,.int .i64 n,pv,.int .i64 ((left:Int) - 1)]∧w.grownBy w' (some G):=by
 obtain⟨la,ll,lc,rfl⟩:=T.lf;obtain⟨pa,pc,hpv⟩:=(T.p w hw).form;subst hpv;have e0:(x%2==0)=false:=by simp;omega
 have e1:IntKind.i64.wrap ((left:Int) - 1)= (left:Int) - 1:=IntWalk.i64_in _ (by omega);have e2:¬(room:Int)=0:=by omega
 have e3:¬(left:Int) - 1 < 0:=by omega
 have ckG:=kG.2.1;have ykG:=kG.1;have zkG:=kG.2.2;have KG:=Lib.hid kG;go_enter Tryz.func141,Tryz.ntmps141;go_wp2_with (first | (go_at_call 71;refine(Be _ _).mono ?_;rintro e w' ⟨rfl,rfl⟩) | (go_at_call 73;refine(DV _ _).mono ?_;rintro e w' ⟨rfl,rfl⟩));have kG1:=KG.out.set 6 (by simp) (.int .i64 ((left:Int) - 1));have gG:=grownBy.setCell w G 6 (.int .i64 ((left:Int) - 1));have hs1:(w.setCell ⟨G,6,none⟩ (.int .i64 ((left:Int) - 1))).heap.size=w.heap.size:=by simp
 generalize hxx:w.setCell ⟨G,6,none⟩ (.int .i64 ((left:Int) - 1))=w1 at kG1 gG hs1 ⊢;clear hxx;generalize hyy:w1.alloc _=w2;obtain⟨b2,k6⟩:=Bx.alloc hyy;have g2:w1.grownBy w2 (some G):=by rw[←hyy];exact World.grownBy_alloc w1 _ (some G)
 rw[hs1]at k6;have q6:=k6.2.1;refine bodyPost_ret (v:= .tuple #[.agg #[.int .i64 1,.int .i64 (x/2),.string ⟨#[]⟩,.slice none 0 0],.bool true]) ?_ rfl ⟨_,rfl,rfl,by simpa using kG1.below b2 kG1.1,gG.trans' g2⟩;simp[results,Tryz.results141,go_sem,q6]
theorem aj {con:Int→Option (ByteArray×Nat)}{hd:Int→Int}{kids:Int→List Int}{f:Nat}{x:Int}{t:CT}(h:ctW con hd kids (f+1) x=some t) (hx:x%2=0):
  Ce (hd x)=false∧ ∃s m,con (Az (hd x))=some (s,m)∧(kids x).length=m∧m≤1∧(m=0→t= .nul s)∧(m=1→ ∃y u,kids x=[y]∧ctW con hd kids f y=some u∧t= .one s u):=by
 unfold ctW at h;rw[if_pos hx]at h;split at h
 ·cases h
 ·rename_i hf;refine⟨by simpa using hf,?_⟩;split at h
  ·cases h
  ·rename_i s m hc;refine⟨s,m,hc,?_⟩;split at h
   ·rename_i hk;split at h
    ·rename_i hm;subst hm;cases h
     exact⟨by rw[hk];rfl,by omega,fun _=>rfl,fun h=>by omega⟩
    ·cases h
   ·rename_i y hk;split at h
    ·rename_i hm;subst hm;rw[Option.map_eq_some_iff]at h;obtain⟨u,hu,rfl⟩:=h;exact⟨by rw[hk];rfl,by omega,fun h=>by omega,fun _=>⟨y,u,hk,hu,rfl⟩⟩
    ·cases h
   ·cases h
theorem ak {w0:World}{G:Nat}{con:Int→Option (ByteArray×Nat)}{zs:List Int}{ps:List Nat}{h b n:Nat}{lv pv:Value}{ha hc hb0:Nat}(T:Told0 w0 G con zs ps h b n lv pv ha hc hb0):
  ∀ (f:Nat) (x:Int) (t:CT) (room left:Nat) (w:World),ctL con zs f x=some t→Ai ps x=true→f≤room→room≤200→f≤left→left≤4000→w0.grownBy w (some G)→
   Bx w G #[lv,.slice (some ⟨hb0,ha,none⟩) zs.length hc,.int .i64 h,.int .i64 b,.int .i64 n,pv,.int .i64 left]→
  Calls Tryz.prog 141 #[.pointer (some ⟨G,0,none⟩),.int .i64 x,.int .i64 room] w fun e w'=>∃v,e= .returned (.tuple #[v,.bool true])∧RdT w.heap.size w' t v∧
   Bx w' G #[lv,.slice (some ⟨hb0,ha,none⟩) zs.length hc,.int .i64 h,.int .i64 b,.int .i64 n,pv,.int .i64 ((left - t.sz:Nat):Int)]∧w.grownBy w' (some G):=by
 intro f;induction f with
 |zero=>intro x t room left w hct;cases hct
 |succ f ih=>
  intro x t room left w hct hwx h1 h2 h3 h4 hw kG;by_cases hev:x%2=0
  ·obtain⟨p,hpp,hpx⟩:=GR hwx hev;have hpe:(x/2).toNat=p:=by omega
   obtain⟨hf,s,m,hcon,hK,hm1,hm0,hmy⟩:=aj hct hev;rw[hpe]at hf hcon hK hmy;obtain⟨K,hKK⟩:∃K,Ae zs p=K:=⟨_,rfl⟩;rw[hKK]at hK hmy;have HKM:=Lib.hid hK;have hsz:=PU _ _ _ hct;have hat:=T.right.at_ hpp;have hle:=T.right.n_le;obtain⟨lb,lo,ll,lc,hlv,HT⟩:=T.t _ s m hcon;subst hlv;have HTag:=Lib.hid HT;have HP:=Lib.hid (fun(W:World) (hW:w0.grownBy W (some G))=>(by have:=Lh pv ps x W (T.p W hW) T.right.sorted (by have:=T.right.len;omega);rw[hwx]at this;exact this:Calls Tryz.prog 123 #[.int .i64 x,pv] W fun e w'=>e= .returned (.bool true)∧W=w'));have HB:=Lib.hid (fun(W:World) (hW:w0.grownBy W (some G))=>(by have:=F5 _ zs h b n p W (T.z W hW) T.zi hat.2.2.1 (Nat.le_trans hat.2.2.2.1 hle.1) (by omega);rw[hf,hKK]at this;exact this));have HX:=Lib.hid (fun(W:World)=>(by have:=ET x W;rw[←hpx]at this;exact this:Calls Tryz.prog 72 #[.int .i64 x] W fun e w'=>e= .returned (.int .i64 p)∧W=w'));obtain⟨pa,pc,hpv⟩:=(T.p w hw).form;subst hpv;have e0:(x%2==0)=true:=by simp;omega
   have e1:IntKind.i64.wrap ((left:Int) - 1)= (left:Int) - 1:=IntWalk.i64_in _ (by omega);have e2:¬(room:Int)=0:=by omega
   have e3:¬(left:Int) - 1 < 0:=by omega
   have HCT:=Lib.hid hct;have HWX:=Lib.hid hwx;have HAT:=Lib.hid hat;have HM0:=Lib.hid hm0;have HMY:=Lib.hid hmy;obtain⟨tg,htg⟩:∃tg,Az (zs.getD p 0)=tg:=⟨_,rfl⟩;rw[htg]at HB HTag;have HKW:=Lib.hid (show K.all (Ai ps)=true by rw[←hKK];exact hat.2.2.2.2);clear hct hwx hat hm0 hmy HT hcon hK hpe hpx hf hpp hKK htg;have ckG:=kG.2.1;have ykG:=kG.1;have zkG:=kG.2.2;have KG:=Lib.hid kG;go_enter Tryz.func141,Tryz.ntmps141;go_wp2_with fail;have kG1:=KG.out.set 6 (by simp) (.int .i64 ((left:Int) - 1));have gG:=grownBy.setCell w G 6 (.int .i64 ((left:Int) - 1));have hs1:(w.setCell ⟨G,6,none⟩ (.int .i64 ((left:Int) - 1))).heap.size=w.heap.size:=by simp
   generalize hxx:w.setCell ⟨G,6,none⟩ (.int .i64 ((left:Int) - 1))=w1 at kG1 gG hs1 ⊢;clear hxx;replace kG1:Bx w1 G #[.slice (some ⟨lb,lo,none⟩) ll lc,.slice (some ⟨hb0,ha,none⟩) zs.length hc,.int .i64 h,.int .i64 b,.int .i64 n,.slice pa (Ax ps).length pc,.int .i64 ((left:Int) - 1)]:=by simpa using kG1
   generalize hyy:w1.alloc _=w2;obtain⟨b2,k6⟩:=Bx.alloc hyy;have g2:w1.grownBy w2 (some G):=by rw[←hyy];exact World.grownBy_alloc w1 _ (some G)
   clear hyy;rw[hs1]at k6;have hGw:=kG.1;replace kG1:=kG1.below b2 kG1.1;have gw:=gG.trans' g2;have hw2:=hw.trans' gw;clear gG g2 b2 hs1 kG ckG ykG zkG;have ckG1:=kG1.2.1;have ykG1:=kG1.1;have zkG1:=kG1.2.2;refine(Be _ _).mono ?_;rintro e w' ⟨rfl,rfl⟩;go_wp2_with (first | (go_at_call 71;refine(Be _ _).mono ?_;rintro e w' ⟨rfl,rfl⟩) | (go_at_call 123;refine(HP.out _ hw2).mono ?_;rintro e w' ⟨rfl,rfl⟩));have KG1:=Lib.hid kG1;have K6:=Lib.hid k6;refine wp_region_held_drew (S:=(fun w'=>∀j,w'.cell? ⟨G,j,none⟩= #[.slice (some ⟨lb,lo,none⟩) ll lc,.slice (some ⟨hb0,ha,none⟩) zs.length hc,.int .i64 h,.int .i64 b,.int .i64 n,.slice pa (Ax ps).length pc,.int .i64 ((left:Int) - 1)][j]?)) (by kernel_rfl) (by first | (dsimp only;exact KG1.out.2.1) | (exact KG1.out.2.1)) (fun hHeld=> ?_);clear ckG1 ykG1 zkG1 kG1 k6;refine tkH (i:=0) ?_;refine tkH (i:=1) ?_;refine tkH (i:=2) ?_;refine tkH (i:=3) ?_;refine tkH (i:=4) ?_;generalize hxd:w2.drew=w3 at hHeld;have hd:Below w2.heap.size w2 w3:=by rw[←hxd];exact(Below.refl _ _).drew
   have gd:=Eo hd (some G);have kG3:=KG1.out.below hd KG1.out.1;have k63:=K6.out.below hd K6.out.1;have gw3:=gw.trans' gd;have hw3:=hw2.trans' gd;have z3:=hd.size;clear hxd hd gd KG1 K6;refine rdH (i:=5) (fun K hK=> ?_);go_simp;refine(HX.out w3).mono ?_;rintro e w' ⟨rfl,rfl⟩;refine bkH hK (by first | (dsimp only;exact hHeld) | (exact hHeld)) (fun hHeld=> ?_);clear hK K;refine rdH (i:=6) (fun K hK=> ?_);go_simp;refine(HB.out w3 hw3).mono ?_;rintro e w4 ⟨u,rfl,ru,b4⟩;obtain⟨ua,uc,hu⟩:=ru.form;rw[HKM.out]at hu;subst hu;refine bkH hK (by first | (dsimp only;exact(kG3.below b4 kG3.1).2.1) | (exact(kG3.below b4 kG3.1).2.1)) (fun hHeld=> ?_);clear hK K;refine tkH (i:=7) ?_;refine tkH (i:=8) ?_;refine tkH (i:=9) ?_;refine tkH (i:=10) ?_;refine tkH (i:=11) ?_;refine tkH (i:=12) ?_;refine tkH (i:=13) ?_;refine wpAnyH_done (by kernel_rfl) ?_ _;have kG4:=kG3.below b4 kG3.1;have k64:=k63.below b4 k63.1;have gw4:=gw3.trans' (Eo b4 (some G));have hw4:=hw3.trans' (Eo b4 (some G));have z4:=b4.size;have RU:=Lib.hid (Rd.below' ru (Below.refl _ _));clear hHeld kG3 k63 gw3 hw3 b4 ru gw hw2 HX HB;obtain⟨⟨d,kk,cb,co,cl,cc,aa,ac,hd1,hd2,t1,t2,t3,l1,l2,HC⟩⟩:=HTag.out w4 hw4;have HC:=Lib.hid HC;have T1:=Lib.hid t1;have T2:=Lib.hid t2;have T3:=Lib.hid t3;clear t1 t2 t3;have ckG4:=kG4.2.1;have ykG4:=kG4.1;have zkG4:=kG4.2.2;go_wp2_with fail;refine HC.out.mono ?_;rintro e w5 ⟨rfl,b5⟩;clear ckG4 ykG4 zkG4;have kG5:=kG4.below b5 kG4.1;have k65:=k64.below b5 k64.1;have gw5:=gw4.trans' (Eo b5 (some G));have hw5:=hw4.trans' (Eo b5 (some G));have z5:=b5.size;have RU5:=Lib.hid (RU.out.below' b5);have t1:=(b5.cell (p:=⟨lb,lo+d*3+2,none⟩) l1).trans T1.out;have t2:=(b5.cell (p:=⟨cb,co+kk*2,none⟩) l2).trans T2.out;have t3:=(b5.cell (p:=⟨cb,co+kk*2+1,none⟩) l2).trans T3.out;have l1':lb < w5.heap.size:=by omega
   have l2':cb < w5.heap.size:=by omega
   have d0:¬(d:Int) < 0:=by omega
   have d1:(d:Int) < (ll:Int):=by omega
   have d2:(kk:Int) < (cl:Int):=by omega
   clear kG4 k64 gw4 hw4 b5 RU HC T1 T2 T3 HTag l1 l2;have ckG5:=kG5.2.1;have ykG5:=kG5.1;have zkG5:=kG5.2.2;obtain⟨ti,hti,hz0,hz1,hz2⟩:=info_parts Tryz.infoValue;go_wp2_with fail;clear ckG5 ykG5 zkG5;generalize hyy:w5.alloc _=w6;obtain⟨b6,k13⟩:=Bx.alloc hyy;clear hyy t1 t2 t3 d0 d1 d2;have kG6:=kG5.below b6 kG5.1;have k66:=k65.below b6 k65.1;have gw6:=gw5.trans' (Eo b6 (some G));have hw6:=hw5.trans' (Eo b6 (some G));have z6:=k13.1;have RU6:=RU5.out.below' b6;have hwG:w.heap.size < w5.heap.size:=k65.1;clear kG5 k65 gw5 hw5 b6 RU5;obtain⟨B13,hB13⟩:∃B13,w5.heap.size=B13:=⟨_,rfl⟩;rw[hB13]at k13 z6 RU6 hwG ⊢;have KG6:=Lib.hid kG6;have K66:=Lib.hid k66;have K13:=Lib.hid k13;have GW6:=Lib.hid gw6;have HW6:=Lib.hid hw6;have RU:=Lib.hid RU6;clear kG6 k66 k13 gw6 hw6 RU6 hB13
   go_loopw [112] (fun i wr=>∃k:Nat,i= .int .i64 k∧k≤m∧(k < m→wr=w6)∧(k=m→ ∃ka kl kc,Bx wr B13 #[.int .i64 2,.int .i64 0,.string s,.slice ka kl kc]∧RdT (w.heap.size+1) wr t (.agg #[.int .i64 2,.int .i64 0,.string s,.slice ka kl kc])∧
    Bx wr G #[.slice (some ⟨lb,lo,none⟩) ll lc,.slice (some ⟨hb0,ha,none⟩) zs.length hc,.int .i64 h,.int .i64 b,.int .i64 n,.slice pa (Ax ps).length pc,.int .i64 ((left - t.sz:Nat):Int)]∧Bx wr w.heap.size #[.int .i64 0,.int .i64 0,.string ⟨#[]⟩,.slice none 0 0]∧w.grownBy wr (some G))) (fun i _=>m - (intOf i).toNat)
   case atStart=>
    refine⟨0,rfl,Nat.zero_le _,fun _=>rfl,fun hk=> ?_⟩;have ht:=HM0.out hk.symm;subst ht;refine⟨_,_,_,K13.out,rfl,?_,K66.out,GW6.out⟩;have e:((left - (CT.nul s).sz:Nat):Int)= (left:Int) - 1:=by simp[CT.sz];omega
    rw[e];exact KG6.out
   case round=>
    obtain⟨k,rfl,hk,hk1,hk2⟩:=hrel;by_cases hlt:k < m
    ·have hwr:=hk1 hlt;subst hwr;have hme:m=1:=by omega
     obtain⟨y,u,hKy,hu,ht⟩:=HMY.out hme;have HME:=Lib.hid hme;subst hKy;have hk0:k=0:=by omega
     subst hk0;have hsz':u.sz+1=t.sz:=by rw[ht];rfl
     rcases RU.out with ⟨h',_⟩ |⟨bl,off,c',hv,hbg,hbs,hbm,hcell⟩
     ·cases h'
     injection hv with hv1 hv2 hv3
     subst hv1 hv3;have c0:wr.cell? ⟨bl,off,none⟩=some (.int .i64 y):=by simpa using hcell 0 (by simp)
     have hl1:(0:Int) < (m:Int):=by omega
     clear hv2 hme;have hym:Ai ps y=true:=by simpa using HKW.out
     have hus:=PU _ _ _ hu;have e6:((left - 1:Nat):Int)= (left:Int) - 1:=by omega
     have hI:=ih y u (room - 1) (left - 1) wr hu hym (by omega) (by omega) (by omega) (by omega) HW6.out (by rw[e6];exact KG6.out);have e5:IntKind.i64.wrap ((room:Int) - 1)= ((room - 1:Nat):Int):=by rw[IntWalk.i64_in _ (by omega)];omega
     have HI:=Lib.hid hI;have HT:=Lib.hid ht;clear hk1 hk2 hu ht hI hcell e6;go_wp2_with fail;refine HI.out.mono ?_;rintro e w7 ⟨v7,rfl,rt7,kG7,g7⟩;obtain⟨k7,n7,s7,a7,l7,c7,rfl⟩:=rt7.form;have z7:=g7.size;have k137:=K13.out.grown g7 (fun e=>by have:=Option.some.inj e;omega);have k67:=K66.out.grown g7 (fun e=>by have:=Option.some.inj e;omega);have gw7:=GW6.out.trans' g7;have RT7:=Lib.hid rt7;have KG7:=Lib.hid kG7;have K67:=Lib.hid k67;have K137:=Lib.hid k137;have GW7:=Lib.hid gw7;obtain⟨na,hna⟩:∃na:Option Addr,none=na:=⟨none,rfl⟩;obtain⟨nl,hnl⟩:∃nl:Nat,0=nl:=⟨0,rfl⟩;have k13n:Bx w7 B13 #[.int .i64 2,.int .i64 0,.string s,.slice na nl nl]:=by rw[←hna,←hnl];exact k137
     have OWN:=Lib.hid (fun(W:World) (base:Nat) (e:TypeId) (sz:Nat)=>(by rw[←hna,←hnl];exact ag W base e sz:W.ownsRow base e sz (.slice na nl nl) 0 []));have HNB:=Lib.hid (show(Value.slice na nl nl).ownBlock=none by rw[←hna];rfl);clear rt7 kG7 k67 gw7 g7 HI c0 hna hnl k137;have ck13n:=k13n.2.1;have yk13n:=k13n.1;have zk13n:=k13n.2.2;go_wp2_with (at_builtin;refine Fq rfl _ _ 48 rfl wr.heap.size 50 ti (.agg #[.int .i64 0,.int .i64 0,.string ⟨#[]⟩,.slice none 0 0]) 4 56 Tryz.underlying48 hti hz0 hz1 hz2 rfl (by decide) _ _ _ (by rfl) (OWN.out _ _ _ _) #[.int .i64 k7,.int .i64 n7,.string s7,.slice a7 l7 c7] rfl (by simp[Value.oneCell']) (w7.heap.size+1) (by simp) (by rfl) (by unfold maxLen;omega) (by omega) (by simp;omega) ?_);intro v9 w9 o9 g9 _;rw[HNB.out]at g9;obtain⟨gb,gc,rfl,hb1,hb2⟩:=BU o9 (by decide);have g79:w7.grownBy w9 none:=(World.grownBy_alloc w7 _ none).trans' g9;have k139:=k13n.grown g79 (fun e=>by cases e);have g10:=grownBy.setCell w9 B13 3 (.slice (some ⟨gb,0,none⟩) 1 gc);have z6':=z6;have rt9:RdT wr.heap.size w9 u (.agg #[.int .i64 k7,.int .i64 n7,.string s7,.slice a7 l7 c7]):=RT7.out.keep g79.size (fun q h1 h2=>g79.block q h2 (by simp));have far:∀jj,jj < 4→(w9.setCell ⟨B13,3,none⟩ (.slice (some ⟨gb,0,none⟩) 1 gc)).cell? ⟨gb,jj,none⟩=[Value.int .i64 k7,.int .i64 n7,.string s7,.slice a7 l7 c7][jj]?:=fun jj hj=>
      (g10.cell_far ⟨gb,jj,none⟩ hb2 (fun e=>by have h5:gb=B13:=Option.some.inj e;omega)).trans (D3 o9 jj (by omega))
     have f0:=far 0 (by decide);have f1:=far 1 (by decide);have f2:=far 2 (by decide);have f3:=far 3 (by decide);have K10:=Lib.hid (k139.set 3 (by simp) (.slice (some ⟨gb,0,none⟩) 1 gc));have KG10:=Lib.hid ((KG7.out.grown g79 (fun e=>by cases e)).grown g10 (fun e=>by have:=Option.some.inj e;omega));have K610:=Lib.hid ((K67.out.grown g79 (fun e=>by cases e)).grown g10 (fun e=>by have:=Option.some.inj e;omega));have GW10:=Lib.hid (Hi (b:=B13) (j:=3) (u:= .slice (some ⟨gb,0,none⟩) 1 gc) (GW7.out.trans' (ah g79 (some G))) (by omega));have RT10:=Lib.hid (show RdT (w.heap.size+1) (w9.setCell ⟨B13,3,none⟩ (.slice (some ⟨gb,0,none⟩) 1 gc)) t (.agg #[.int .i64 2,.int .i64 0,.string s,.slice (some ⟨gb,0,none⟩) 1 gc])by
      rw[HT.out];exact⟨gb,0,gc,_,_,_,_,rfl,by omega,by simp;exact hb2,⟨f0,f1,f2,f3⟩,(rt9.grown g10 z6).base (by omega)⟩)
     clear o9 g9 g10 rt9 far f0 f1 f2 f3 KG7 K67 GW7 RT7 g79 OWN HNB k13n ck13n yk13n zk13n;have ck139:=k139.2.1;have yk139:=k139.1;have zk139:=k139.2.2;go_wp2;go_roundw
     case rel=>exact⟨1,by go_num,by have:=HME.out;omega,fun h=>by have:=HME.out;omega,fun _=>⟨_,_,_,by simpa using K10.out,RT10.out,by rw[show left - t.sz=left - 1 - u.sz by omega];exact KG10.out,K610.out,GW10.out⟩⟩
     case measure=>(have:=HME.out;simp[intOf];omega)
    ·have hkk:k=m:=by omega
     obtain⟨ka,kl,kc,q1,q2,q3,q4,q5⟩:=hk2 hkk;have Q2:=Lib.hid q2;have Q3:=Lib.hid q3;have Q5:=Lib.hid q5;clear hk1 hk2 q2 q3 q5;have hnk:¬(k:Int) < (m:Int):=by omega
     have cq1:=q1.2.1;have yq1:=q1.1;have zq1:=q1.2.2;have cq4:=q4.2.1;have yq4:=q4.1;have zq4:=q4.2.2;go_wp2;clear cq1 yq1 zq1 cq4 yq4 zq4;obtain⟨kz,g4⟩:=q4.set4g (.int .i64 2) (.int .i64 0) (.string s) (.slice ka kl kc);have gz:=Hi (b:=w.heap.size) (j:=3) (u:= .slice ka kl kc) (Hi (b:=w.heap.size) (j:=2) (u:= .string s) (Hi (b:=w.heap.size) (j:=1) (u:= .int .i64 0) (Hi (b:=w.heap.size) (j:=0) (u:= .int .i64 2) Q5.out (Nat.le_refl _)) (Nat.le_refl _)) (Nat.le_refl _)) (Nat.le_refl _);generalize hxx:World.setCell _ _ _=wz at kz g4 gz ⊢;clear hxx;have rz:=(Q2.out.grown g4 (Nat.lt_succ_self _)).base (Nat.le_succ _);have kGz:=Q3.out.grown g4 (fun e=>by have:=Option.some.inj e;omega);have q6:=kz.2.1;refine bodyPost_ret (v:= .tuple #[.agg #[.int .i64 2,.int .i64 0,.string s,.slice ka kl kc],.bool true]) ?_ rfl ⟨_,rfl,rz,kGz,gz⟩;simp[results,Tryz.results141,go_sem,q6]
  ·have hct':t= .num (x/2):=by
    unfold ctL ctW at hct;rw[if_neg hev]at hct;cases hct;rfl
   subst hct';refine(ai T x hev room left (by omega) h2 (by omega) h4 w hw kG).mono ?_;rintro e w' ⟨v,e1,e2,e3,e4⟩;refine⟨v,e1,e2,?_,e4⟩;have:((left - (CT.num (x/2)).sz:Nat):Int)= (left:Int) - 1:=by simp[CT.sz];omega
   rw[this];exact e3
theorem Right.heapOk {ws:List Int}{h b n:Nat}{ps:List Nat}(hR:Right ws h b n ps):heapOk ws h b n=true:=by
 have F:=hR.frame;have hf:Bg ws h b n=true:=by
  unfold Bg;have h0:=F.h0;have h1:=F.h1;have h2:=F.len;have h3:=F.base;have h4:=F.n0;have h5:=F.n1;exact decide_eq_true ⟨by omega,by omega,by omega,by omega,by omega,by omega⟩
 rw[Gz hf hR.some];exact hR.fit
theorem Rd.grow_lt {B g:Nat}{k:IntKind}{w W:World}{v:Value}{zs:List Int}(h:Rd B k w v zs) (hg:w.grownBy W (some g)) (hB:B≤g):Rd W.heap.size k W v zs:=by
 rcases h with h |⟨b,off,cap,rfl,h2,h3,h4,h5⟩
 ·exact .inl h
 ·have hl:=Nat.lt_of_lt_of_le h3 hg.size;exact .inr ⟨b,off,cap,rfl,hl,hl,h4,fun j hj=>(World.cell?_of_block (hg.block b h3 (fun e=>by have:=Option.some.inj e;omega))).trans (h5 j hj)⟩
def Tags (w:World) (con:Int→Option (ByteArray×Nat)) (lv:Value):Prop:=
 (∃la ll lc,lv= .slice la ll lc)∧ ∀tag s m,con tag=some (s,m)→ ∃lb lo ll lc,lv= .slice (some ⟨lb,lo,none⟩) ll lc∧ ∀W,Below w.heap.size w W→TagAt W lb lo ll lc tag s m
theorem Tags.later {w w':World}{con:Int→Option (ByteArray×Nat)}{lv:Value}(h:Tags w con lv) (hb:Below w.heap.size w w'):Tags w' con lv:=
 ⟨h.1,fun tag s m e=>by
  obtain⟨lb,lo,ll,lc,e1,e2⟩:=h.2 tag s m e;exact⟨lb,lo,ll,lc,e1,fun W hW=>e2 W (hb.trans (hW.mono hb.size))⟩⟩
theorem P9 {con:Int→Option (ByteArray×Nat)}{zs:List Int}{ps:List Nat}{h b n B:Nat}(hR:Right zs h b n ps) (zi:Au zs) (hv lv:Value) (f:Nat) (hf:f≤200) (x:Int) (t:CT) (hct:ctL con zs f x=some t) (hwx:Ai ps x=true)
  (w:World) (hz:Rd B .i64 w hv zs) (HT:Tags w con lv):
  Calls Tryz.prog 64 #[lv,.agg #[hv,.int .i64 h,.int .i64 b,.int .i64 n],.int .i64 x] w fun e w'=>∃v,e= .returned (.tuple #[v,.bool true])∧RdT w.heap.size w' t v∧Below w.heap.size w w':=by
 have hle:=hR.n_le;have F:=hR.frame;have h0:=F.h0;have h1:=F.h1;have h2:=F.len;have h3:=F.base;have h5:=F.n1;have HZ:=Lib.hid (fun(W:World) (hb:Below w.heap.size w W)=>hz.below' hb);have HO:=Lib.hid (fun(W:World) (hb:Below w.heap.size w W)=>(by have:=Ni hv zs h b n W (hz.below' hb) zi (by omega) (by omega) (by omega) (by omega);rw[hR.heapOk]at this;exact this:Calls Tryz.prog 77 #[.agg #[hv,.int .i64 h,.int .i64 b,.int .i64 n]] W fun e w'=>e= .returned (.bool true)∧Below W.heap.size W w'));have HS:=Lib.hid (fun(W:World) (hb:Below w.heap.size w W)=>(by have:=KI hv zs h b n W (hz.below' hb) zi F;rw[hR.some]at this;exact this:Calls Tryz.prog 121 #[.agg #[hv,.int .i64 h,.int .i64 b,.int .i64 n]] W fun e w'=>Told W e w' (some ps)∧Below W.heap.size W w'));rcases hz with ⟨hn,_⟩ |⟨hb0,ha,hc,rfl,_⟩
 ·rw[hn]at h2;simp at h2;omega
 obtain⟨⟨la,ll,lc,rfl⟩,HT2⟩:=HT;have HT:=Lib.hid HT2;clear HT2 h0 h1 h2 h3 h5 F hle;go_enter Tryz.func64,Tryz.ntmps64;go_wp2_with fail;generalize hxx:(w.alloc _).alloc _=x0;obtain⟨bb,k4,k6,sx⟩:=AS hxx;clear hxx;have ck4:=k4.2.1;have yk4:=k4.1;refine(HO.out x0 bb).mono ?_;rintro e w1 ⟨rfl,b1⟩;clear ck4 yk4;replace k4:=k4.below b1 k4.1;replace k6:=k6.below b1 k6.1;replace bb:=bb.trans (b1.mono bb.size);clear b1;have ck4:=k4.2.1;have yk4:=k4.1;go_wp2_with fail;refine(HS.out w1 bb).mono ?_;rintro e w2 ⟨⟨pv,rfl,op⟩,b2⟩;clear ck4 yk4;obtain⟨pa,pc,rfl⟩:=AC op;replace k4:=k4.below b2 k4.1;replace k6:=k6.below b2 k6.1;replace bb:=bb.trans (b2.mono bb.size);clear b2;have rp:Rd w2.heap.size .i64 w2 (.slice pa ps.length pc) (Ax ps):=by
  rw[GA]at op;have h2:w2.ownsRow w1.heap.size 3 1 (.slice pa ps.length pc) (Ax ps).length ((Ax ps).map (Value.int .i64)):=by rw[De];exact op
  exact Rd.of_own h2
 have RP:=Lib.hid rp;clear op rp;have ck4:=k4.2.1;have yk4:=k4.1;have zk4:=k4.2.2;go_wp2_with fail;generalize hxx:w2.alloc _=w3;obtain⟨b3,kG⟩:=Bx.alloc hxx;clear hxx;clear ck4 yk4 zk4;have hGw:w.heap.size+1 < w2.heap.size:=k6.1;have RP3:=Lib.hid (RP.out.below b3 (Nat.le_refl _));replace k4:=k4.below b3 k4.1;replace k6:=k6.below b3 k6.1;replace bb:=bb.trans (b3.mono bb.size);clear b3;have z3:=k6.1;obtain⟨G,hG⟩:∃G,w2.heap.size=G:=⟨_,rfl⟩;rw[hG]at kG hGw RP3 ⊢;have hbw:∀W,w3.grownBy W (some G)→Below w.heap.size w W:=fun W hW=>Below.grown_at bb hW bb.size (by omega);have T:Told0 w3 G con zs ps h b n (.slice la ll lc) (.slice pa ps.length pc) ha hc hb0:=
  ⟨hR,zi,fun W hW=>(HZ.out W (hbw W hW)).mono (hbw W hW).size,fun W hW=>RP3.out.grow_lt hW (Nat.le_refl _),fun tag s m e=>by
   obtain⟨lb,lo,ll',lc',e1,e2⟩:=HT.out tag s m e;exact⟨lb,lo,ll',lc',e1,fun W hW=>e2 W (hbw W hW)⟩,⟨_,_,_,rfl⟩⟩
 have HV:Calls Tryz.prog 141 #[.pointer (some ⟨G,0,none⟩),.int .i64 x,.int .i64 200] w3 _:=ak T f x t 200 4000 w3 hct hwx hf (Nat.le_refl _) (by omega) (Nat.le_refl _) (grownBy.refl _ _) kG;refine HV.mono ?_;rintro e w4 ⟨v,rfl,rt,kG4,g4⟩;obtain⟨k',n',s',a',l',c',rfl⟩:=rt.form;replace k6:=k6.grown g4 (fun e=>by have:=Option.some.inj e;omega);have bb4:=Lib.hid (hbw w4 g4);have RT:=Lib.hid rt;clear rt kG4 g4 T HV hbw k4 kG bb HT hct hwx hG;have ck6:=k6.2.1;have yk6:=k6.1;have zk6:=k6.2.2;go_wp2;clear ck6 yk6 zk6;obtain⟨kz,gz⟩:=k6.set4g (.int .i64 k') (.int .i64 n') (.string s') (.slice a' l' c');generalize hxx:World.setCell _ _ _=wz at kz gz ⊢;clear hxx;have q6:=kz.2.1;refine bodyPost_ret (v:= .tuple #[.agg #[.int .i64 k',.int .i64 n',.string s',.slice a' l' c'],.bool true]) ?_ rfl ⟨_,rfl,(RT.out.grown gz z3).base (by omega),bb4.out.trans (Below.of_grown gz bb4.out.size (fun k hk=>by have:=Option.some.inj hk;omega))⟩;simp[results,Tryz.results64,go_sem,q6]
theorem YR {con:Int→Option (ByteArray×Nat)}{L:VmL}{ps:List Nat}{h b n B:Nat}(hc:L.code=1) {x:Int}(hx:L.ss=[x]) (eh:L.h=h) (eb:L.b=b) (en:L.n=n) (hR:Right L.zs h b n ps) (zi:Au L.zs)
  (f:Nat) (hf:f≤200) (t:CT) (hct:ctL con L.zs f x=some t) (hwx:Ai ps x=true) (lv fv hv sv cv ov:Value) (w:World) (rd:RdV B w fv hv sv cv ov L) (HT:Tags w con lv):
  Calls Tryz.prog 19 #[lv,vmV fv hv sv cv ov L] w fun e w'=>∃v,e= .returned (.tuple #[v,.bool true])∧RdT w.heap.size w' t v∧Below w.heap.size w w':=by
 have hr0:=rd.below' (Below.refl w.heap.size w);have HB:=Lib.hid (fun(W:World) (hb:Below w.heap.size w W) (HW:Tags W con lv)=>P9 hR zi hv lv f hf x t hct hwx W (hr0.z.below' hb) HW);have HTW:=Lib.hid (fun(W:World) (hb:Below w.heap.size w W)=>HT.later hb);obtain⟨⟨la,ll,lc,rfl⟩,_⟩:=HT;have hs:=hr0.s;obtain⟨fa,fc,ha,hcp,sa,sc,ca,cc,oa,oc,rfl,rfl,rfl,rfl,rfl⟩:=hr0.forms;rcases hs with ⟨h',_⟩ |⟨sb,soff,sc',hv',hsb,hsb',_,hcell⟩
 ·rw[hx]at h';cases h'
 have c0:w.cell? ⟨sb,soff,none⟩=some (.int .i64 x):=by
  have:=hcell 0 (by rw[hx];simp);rw[hx]at this
  simpa using this
 injection hv' with e1 e2 e3
 subst e1 e3;obtain⟨fs,zs,hh,bb0,nn,ss,cs,os,code,each⟩:=L;dsimp only at*;subst hc hx eh eb en;clear hcell hr0 rd;unfold vmV;dsimp only[List.length_cons,List.length_nil];go_enter Tryz.func19,Tryz.ntmps19;go_wp2_with fail;generalize hxx:(w.alloc _).alloc _=x0;obtain⟨bb,k3,k4,sx⟩:=AS hxx;clear hxx;have c1:=(bb.cell (p:=⟨sb,soff,none⟩) hsb').trans c0;clear c0;refine wp_region_held_drew (S:=(fun w'=>(∀j,w'.cell? ⟨w.heap.size,j,none⟩= #[.slice fa fs.length fc,.slice ha zs.length hcp,.int .i64 h,.int .i64 b,.int .i64 n,.slice (some ⟨sb,soff,none⟩) 1 sc,.slice ca cs.length cc,.slice oa os.length oc,.int .i64 1,.bool each][j]?)∧w'.cell? ⟨sb,soff,none⟩=some (.int .i64 x))) (by kernel_rfl) (by first | (dsimp only;exact⟨k3.2.1,c1⟩) | (exact⟨k3.2.1,c1⟩)) (fun hHeld=> ?_);refine tkH (i:=0) ?_;refine tkH (i:=1) ?_;refine tkH (i:=2) ?_;refine tkH (i:=3) ?_;refine tkH (i:=4) ?_;refine tkH (i:=5) ?_;refine tkH (i:=6) ?_;generalize hxd:x0.drew=x1 at hHeld;have hd:Below x0.heap.size x0 x1:=by rw[←hxd];exact(Below.refl _ _).drew
 have k31:=k3.below hd k3.1;have k41:=k4.below hd k4.1;have bb1:=bb.trans (hd.mono bb.size);have z1:=k41.1;have hsx:sb < x1.heap.size:=by omega
 clear hxd hd k3 k4 bb c1;refine rdH (i:=7) (fun K hK=> ?_);go_simp;refine(HB.out x1 bb1 (HTW.out x1 bb1)).mono ?_;rintro e w4 ⟨v,rfl,rt,b4⟩;obtain⟨k',n',s',a',l',c',rfl⟩:=rt.form;refine bkH hK (by first | (dsimp only;exact⟨(k31.below b4 k31.1).2.1,(b4.cell (p:=⟨sb,soff,none⟩) hsx).trans hHeld.2⟩) | (exact⟨(k31.below b4 k31.1).2.1,(b4.cell (p:=⟨sb,soff,none⟩) hsx).trans hHeld.2⟩)) (fun hHeld=> ?_);clear hK K;refine tkH (i:=8) ?_;refine tkH (i:=9) ?_;have k44:=k41.below b4 k41.1;have k34:=k31.below b4 k31.1;have bb4:=bb1.trans (b4.mono bb1.size);have RT:=Lib.hid rt;have z4:=b4.size;obtain⟨kz,gz⟩:=k44.set4g (.int .i64 k') (.int .i64 n') (.string s') (.slice a' l' c');have KZ:=Lib.hid kz;have GZ:=Lib.hid gz;clear rt kz gz b4;have ck44:=k44.2.1;have yk44:=k44.1;have zk44:=k44.2.2;refine rdH (i:=10) (fun K hK=> ?_);go_simp;refine bkH hK (by first | (dsimp only;exact⟨(k34.grown GZ.out (fun e=>by have:=Option.some.inj e;omega)).2.1,(GZ.out.cell_far ⟨sb,soff,none⟩ (by show sb < _;omega) (fun e=>by have h9:sb=w.heap.size+1:=Option.some.inj e;omega)).trans hHeld.2⟩) | (exact⟨(k34.grown GZ.out (fun e=>by have:=Option.some.inj e;omega)).2.1,(GZ.out.cell_far ⟨sb,soff,none⟩ (by show sb < _;omega) (fun e=>by have h9:sb=w.heap.size+1:=Option.some.inj e;omega)).trans hHeld.2⟩)) (fun hHeld=> ?_);clear hK K;refine tkH (i:=11) ?_;refine wpAnyH_done (by kernel_rfl) ?_ _;clear ck44 yk44 zk44;generalize hxx:World.setCell _ _ _=wz at KZ GZ ⊢;clear hxx;have q6:=KZ.out.2.1;have gz:=GZ.out;go_wp2;refine bodyPost_ret (v:= .tuple #[.agg #[.int .i64 k',.int .i64 n',.string s',.slice a' l' c'],.bool true]) ?_ rfl ⟨_,rfl,(RT.out.grown gz (by omega)).base bb1.size,bb4.trans (Below.of_grown gz bb4.size (fun k hk=>by have:=Option.some.inj hk;omega))⟩;simp[results,Tryz.results19,go_sem,q6]
end Go.Proofs.YtfmebaafpfkeiaaGreat
