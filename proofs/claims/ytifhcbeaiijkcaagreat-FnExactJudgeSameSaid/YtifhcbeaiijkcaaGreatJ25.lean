/- Parts of the proof of FnExactJudgeSame. -/
import Derived.Test.YtifhcbeaiijkcaaGreatJ21
import Derived.Test.YtifhcbeaiijkcaaGreatJ24
import Derived.Test.YtifhcbeaiijkcaaGreatJ19
import Derived.Test.YtifhcbeaiijkcaaGreatJ09
import Derived.Test.YtifhcbeaiijkcaaGreatJ01
import Derived.Maps.AppendAt
import Derived.Deep.AppendLies
import Derived.Test.YtifhcbeaiijkcaaGreatRows
set_option linter.unusedVariables false
set_option linter.unusedSimpArgs false
set_option maxRecDepth 1000000
set_option maxHeartbeats 16000000
namespace Go.Proofs.YtifhcbeaiijkcaaGreat
open Go.RowKit
open _root_.Go.World renaming alloc→Wa,setCell→Ws
open _root_.Go.Proofs.Tryz renaming prog→Pq
section
variable {w0:World}{G:Nat}{ds:List Dt}{zs:List Int}{ps:List Nat}{h b n:Nat}{la:Option Addr}{lc:Nat}{pv:Value}{ha hc hb0:Nat}
theorem IK (T:Bkr w0 G ds zs ps h b n (.slice la ds.length lc) pv (.slice (some ⟨hb0,ha,none⟩) zs.length hc))
  (d:Nat) (x:Int) (l:Nat) (w:World) (h1:d≤200) (h2:l≤4000) (hw:w0.grownBy w (some G)) (kG:Bx w G #[.slice la ds.length lc,.slice (some ⟨hb0,ha,none⟩) zs.length hc,.int .i64 h,.int .i64 b,.int .i64 n,pv,.int .i64 l])
  (hbad:d=0∨l=0∨(x%2=0∧AA ps x=false)) (cs:Int→Array Value):
  Calls Pq 143 #[.pointer (some ⟨G,0,none⟩),.int .i64 x,.int .i64 d] w (BkR w G cs none):=by
 obtain⟨pa,pc,hpv⟩:=(T.p w hw).form;subst hpv;have e1:IntKind.i64.wrap ((l:Int) - 1)= (l:Int) - 1:=AX _ (by omega);have HP:=Aa (fun(W:World) (hW:w0.grownBy W (some G))=>Iy (.slice pa (AS ps).length pc) ps x W (T.p W hW) T.right.sorted (Ib T.right.some T.right.frame));have kG1:=kG.st 6 (by simp) (.int .i64 ((l:Int) - 1));have gG:=grownBy.setCell w G 6 (.int .i64 ((l:Int) - 1));have HW:=Aa (hw.trans' gG);have KG1:=Aa kG1;have GG:=Aa gG;have FIN:Hid (∀ (w1 w2:World) (o:Obj),w1=w.setCell ⟨G,6,none⟩ (.int .i64 ((l:Int) - 1))→w1.alloc o=w2→w.grownBy w2 (some G)):=Aa (fun w1 w2 o e1 e2=>by
  subst e1 e2;exact GG.out.trans' (De _ o (some G)))
 clear kG1 gG;have ckG:=kG.2.1;have ykG:=kG.1;have zkG:=kG.2.2;by_cases hd0:d=0
 ·subst hd0
  show Calls Pq 143 #[.pointer (some ⟨G,0,none⟩),.int .i64 x,.int .i64 0] w _
  clear hbad;go_enter Tryz.func143,Tryz.ntmps143;go_wp2_with fail;generalize hyy:Wa _ _=w2;obtain⟨b2,k6⟩:=Bx.alloc hyy;have g2:=FIN.out _ _ _ rfl hyy;have q6:=k6.2.1;refine Aq (v:= .tuple #[.agg #[.int .i64 0,.int .i64 0,.string ⟨#[]⟩,.slice none 0 0],.bool false]) ?_ rfl ⟨g2,rfl⟩;simp only[AP]at q6;simp[results,Tryz.results143,go_sem,q6]
 have e2:¬(d:Int)=0:=by omega
 by_cases hl0:l=0
 ·subst hl0;have e3:((0:Nat):Int) - 1 < 0:=by omega
  clear hbad;go_enter Tryz.func143,Tryz.ntmps143;go_wp2_with fail;generalize hyy:Wa _ _=w2;obtain⟨b2,k6⟩:=Bx.alloc hyy;have g2:=FIN.out _ _ _ rfl hyy;have q6:=k6.2.1;refine Aq (v:= .tuple #[.agg #[.int .i64 0,.int .i64 0,.string ⟨#[]⟩,.slice none 0 0],.bool false]) ?_ rfl ⟨g2,rfl⟩;simp only[AP]at q6;simp[results,Tryz.results143,go_sem,q6]
 have e3:¬(l:Int) - 1 < 0:=by omega
 obtain⟨hx,hwx⟩:x%2=0∧AA ps x=false:=by rcases hbad with h |h |h <;> first |omega |exact h
 have e0:(x%2==0)=true:=by simp;omega
 rw[hwx]at HP;clear hbad hx hwx hd0 hl0;go_enter Tryz.func143,Tryz.ntmps143;go_wp2_with fail;generalize hyy:Wa _ _=w2;obtain⟨b2,k6⟩:=Bx.alloc hyy;have g2:=FIN.out _ _ _ rfl hyy;have hw2:=hw.trans' g2;have kG2:=KG1.out.below b2 KG1.out.1;simp only[AP]at k6;clear hyy b2 ckG ykG zkG;have ckG2:=kG2.2.1;have ykG2:=kG2.1;have zkG2:=kG2.2.2;have ck6:=k6.2.1;have yk6:=k6.1;have zk6:=k6.2.2;refine(DQ _ _).mono ?_;rintro e w' ⟨rfl,rfl⟩;go_wp2_with (first | (go_at_call 186;refine(DQ _ _).mono ?_;rintro e w' ⟨rfl,rfl⟩) | (go_at_call 141;refine(HP.out _ hw2).mono ?_;rintro e w' ⟨rfl,rfl⟩));obtain⟨k7,g7⟩:=Bx.st4 (w:=w2) (g:=w.heap.size) k6 (.int .i64 0) (.int .i64 0) (.string ⟨#[]⟩) (.slice none 0 0);have q7:=k7.2.1;refine Aq (v:= .tuple #[.agg #[.int .i64 0,.int .i64 0,.string ⟨#[]⟩,.slice none 0 0],.bool false]) ?_ rfl ⟨Dh g2 g7 (Ad _),rfl⟩;simp[results,Tryz.results143,go_sem,q7]
theorem Ou (T:Bkr w0 G ds zs ps h b n (.slice la ds.length lc) pv (.slice (some ⟨hb0,ha,none⟩) zs.length hc))
  (d:Nat) (x:Int) (hx:¬x%2=0) (l:Nat) (w:World) (h1:d+1≤200) (h2:l≤4000) (h0:¬l=0) (hw:w0.grownBy w (some G)) (kG:Bx w G #[.slice la ds.length lc,.slice (some ⟨hb0,ha,none⟩) zs.length hc,.int .i64 h,.int .i64 b,.int .i64 n,pv,.int .i64 l]):
  Calls Pq 143 #[.pointer (some ⟨G,0,none⟩),.int .i64 x,.int .i64 (d+1:Nat)] w
   (BkR w G (fun l=> #[.slice la ds.length lc,.slice (some ⟨hb0,ha,none⟩) zs.length hc,.int .i64 h,.int .i64 b,.int .i64 n,pv,.int .i64 l]) (some (.int (x/2),l - 1))):=by
 obtain⟨pa,pc,hpv⟩:=(T.p w hw).form;subst hpv;have e1:IntKind.i64.wrap ((l:Int) - 1)= (l:Int) - 1:=AX _ (by omega);have e4:((l - 1:Nat):Int)= (l:Int) - 1:=by omega
 have kG1:=kG.st 6 (by simp) (.int .i64 ((l:Int) - 1));have gG:=grownBy.setCell w G 6 (.int .i64 ((l:Int) - 1));have KG1:=Aa kG1;have GG:=Aa gG;have E4:=Aa e4;have e0:(x%2==0)=false:=by simp;omega
 obtain⟨D,hD⟩:∃D:Nat,d+1=D:=⟨_,rfl⟩;have e2:¬(D:Int)=0:=by omega
 have e3:¬(l:Int) - 1 < 0:=by omega
 rw[hD];clear kG1 gG e4 hD hx;have ckG:=kG.2.1;have ykG:=kG.1;have zkG:=kG.2.2;go_enter Tryz.func143,Tryz.ntmps143;go_wp2_with (first | (go_at_call 186;refine(DQ _ _).mono ?_;rintro e w' ⟨rfl,rfl⟩) | (go_at_call 187;refine(Fv _ _).mono ?_;rintro e w' ⟨rfl,rfl⟩));generalize hyy:Wa _ _=w2;obtain⟨b2,k6⟩:=Bx.alloc hyy;have g2:w.grownBy w2 (some G):=by rw[←hyy];exact GG.out.trans' (De _ _ (some G))
 have kG2:=KG1.out.below b2 KG1.out.1;simp only[AP]at k6;have q6:=k6.2.1;refine Aq (v:= .tuple #[.agg #[.int .i64 1,.int .i64 (x/2),.string ⟨#[]⟩,.slice none 0 0],.bool true]) ?_ rfl ⟨g2,⟨.slice none 0 0,rfl,RdTv.leaf (u:= .int (x/2)) rfl none 0⟩,?_⟩
 ·simp[results,Tryz.results143,go_sem,q6]
 ·rw[E4.out]
  simpa using kG2
theorem Ov (T:Bkr w0 G ds zs ps h b n (.slice la ds.length lc) pv (.slice (some ⟨hb0,ha,none⟩) zs.length hc))
  (d:Nat) (x:Int) (hx:x%2=0) (hwx:AA ps x=true) (l:Nat) (w:World) (h1:d+1≤200) (h2:l≤4000) (h0:¬l=0) (hw:w0.grownBy w (some G)) (kG:Bx w G #[.slice la ds.length lc,.slice (some ⟨hb0,ha,none⟩) zs.length hc,.int .i64 h,.int .i64 b,.int .i64 n,pv,.int .i64 l])
  (IH:∀ (y:Int) (l:Nat) (W:World),l≤4000→w0.grownBy W (some G)→Bx W G #[.slice la ds.length lc,.slice (some ⟨hb0,ha,none⟩) zs.length hc,.int .i64 h,.int .i64 b,.int .i64 n,pv,.int .i64 l]→
   Calls Pq 143 #[.pointer (some ⟨G,0,none⟩),.int .i64 y,.int .i64 d] W (BkR W G (fun l=> #[.slice la ds.length lc,.slice (some ⟨hb0,ha,none⟩) zs.length hc,.int .i64 h,.int .i64 b,.int .i64 n,pv,.int .i64 l]) (AK ds zs ps d y l))):
  Calls Pq 143 #[.pointer (some ⟨G,0,none⟩),.int .i64 x,.int .i64 (d+1:Nat)] w
   (BkR w G (fun l=> #[.slice la ds.length lc,.slice (some ⟨hb0,ha,none⟩) zs.length hc,.int .i64 h,.int .i64 b,.int .i64 n,pv,.int .i64 l]) (AK ds zs ps (d+1) x l)):=by
 obtain⟨p,hpp,hpx⟩:=Mg hwx hx;have hpe:(x/2).toNat=p:=by omega
 have hat:=T.right.at_ hpp;have hle:=T.right.n_le;have hzl:zs.length≤6000:=by have:=T.right.frame.len;have:=T.right.frame.h1;omega
 have HP:=Aa (fun(W:World) (hW:w0.grownBy W (some G))=>(by have:=Iy pv ps x W (T.p W hW) T.right.sorted (Ib T.right.some T.right.frame);rw[hwx]at this;exact this:Calls Pq 141 #[.int .i64 x,pv] W fun e w'=>e= .returned (.bool true)∧W=w'));have HB:=Aa (fun(W:World) (hW:w0.grownBy W (some G))=>OI hb0 ha hc zs h b n p W (T.z W hW) T.zi hat.2.2.1 (At hat.2.2.2.1 hle.1) (by omega));have HX:=Aa (fun(W:World)=>(by have:=Nh x W;rw[←hpx]at this;exact this:Calls Pq 189 #[.int .i64 x] W fun e w'=>e= .returned (.int .i64 p)∧W=w'));obtain⟨kids,hkids⟩:∃k,Be zs p=k:=⟨_,rfl⟩;obtain⟨hd,hhd⟩:∃q,zs.getD p 0=q:=⟨_,rfl⟩;have hkl:kids.length=hK hd:=by rw[←hkids,←hhd];exact Ia (by have:=hat.2.2.2.1;omega)
 have HBP:=Aa (show AK ds zs ps (d+1) x l= (if Ej hd=true then some (fnV,l - 1)else match CW ds (BU hd).toNat kids.length with
   |none=>none
   |some s=>(BO (AK ds zs ps d) kids (l - 1)).map fun(q:List Vl×Nat)=>(.con s q.1,q.2))by
  unfold AK;rw[Ae h0,Af hx,Af hwx,hpe,hhd,hkids];rfl)
 have HK:=Aa (fun(W:World) (hW:w0.grownBy W (some G)) (j:Nat) (hj:j < kids.length)=>(by
  rcases T.z W hW with ⟨hn,_⟩ |⟨bl,off,cap,hv,hB,hbs,hm,hcell⟩
  ·rw[hn]at hat;have:=hat.2.2.1;simp[hOk]at this
  ·cases hv
   have hlt:p+ (j+1) < zs.length:=by have:=hat.2.2.2.1;rw[hkl,←hhd]at hj;omega
   have:=hcell (p+ (j+1)) hlt;rw[←Mh (by rw[hhd,←hkl];exact hj),hkids,List.getD,Ay hj,Option.getD_some]at this;rw[show ha+ (p+1)+j=ha+ (p+ (j+1))by omega];exact this:W.cell? ⟨hb0,ha+ (p+1)+j,none⟩=some (.int .i64 kids[j])))
 generalize hres:AK ds zs ps (d+1) x l=res at*;clear hres;have hok:=hat.2.2.1;rw[hhd]at hok;have htg:BU hd≤3000∧0≤BU hd:=⟨(EG.1 hok).2.2.1,by have:=(EG.1 hok).2.1;unfold BU;omega⟩;rw[hhd]at HB;rw[←hkl]at HB;obtain⟨tg,htag⟩:∃t:Nat,BU hd=t:=⟨(BU hd).toNat,by omega⟩;rw[htag]at HB HBP;rw[Dq]at HBP;have htg1:tg≤4294967296:=by omega
 have hm64:kids.length≤64:=by rw[←hkids];exact NJ _ _
 obtain⟨F,hF⟩:∃F,Ej hd=F:=⟨_,rfl⟩;rw[hF]at HB HBP;obtain⟨pa,pc,hpv⟩:=(T.p w hw).form;subst hpv;have e1:IntKind.i64.wrap ((l:Int) - 1)= (l:Int) - 1:=AX _ (by omega);have HE4:=Aa (show((l - 1:Nat):Int)= (l:Int) - 1 by omega);have e0:(x%2==0)=true:=by simp;omega
 obtain⟨D,hD⟩:∃D:Nat,d+1=D:=⟨_,rfl⟩;have e2:¬(D:Int)=0:=by omega
 have e3:¬(l:Int) - 1 < 0:=by omega
 have hDd:IntKind.i64.wrap ((D:Int) - 1)= (d:Int):=by rw[AX _ (by omega)];omega
 have HDD:=Aa (show(D:Int) - 1= (d:Int)by omega);rw[hD];have kG1:=kG.st 6 (by simp) (.int .i64 ((l:Int) - 1));have gG:=grownBy.setCell w G 6 (.int .i64 ((l:Int) - 1));have KG1:=Aa kG1;have GG:=Aa gG;have IH:=Aa IH;have hGw:=kG.1;clear kG1 gG hD hx hwx hpx hpe hat hok hhd hkids hkl hF htag htg hpp hle hzl;have ckG:=kG.2.1;have ykG:=kG.1;have zkG:=kG.2.2;go_enter Tryz.func143,Tryz.ntmps143;go_wp2_with fail;generalize hyy:Wa _ _=w2;obtain⟨b2,k6⟩:=Bx.alloc hyy;have g2:w.grownBy w2 (some G):=by rw[←hyy];exact GG.out.trans' (De _ _ (some G))
 have hw2:=hw.trans' g2;have kG2:=KG1.out.below b2 KG1.out.1;simp only[AP]at k6;simp only[List.setIfInBounds_toArray,List.set_cons_succ,List.set_cons_zero]at kG2;clear hyy b2 ckG ykG zkG KG1 GG;have ckG2:=kG2.2.1;have ykG2:=kG2.1;have zkG2:=kG2.2.2;refine(DQ _ _).mono ?_;rintro e w' ⟨rfl,rfl⟩;go_wp2_with (first | (go_at_call 186;refine(DQ _ _).mono ?_;rintro e w' ⟨rfl,rfl⟩) | (go_at_call 141;refine(HP.out _ hw2).mono ?_;rintro e w' ⟨rfl,rfl⟩));have KG2:=Aa kG2;have K6:=Aa k6;refine wp_region_held_drew (S:=(fun w'=>∀j,w'.cell? ⟨G,j,none⟩= #[.slice la ds.length lc,.slice (some ⟨hb0,ha,none⟩) zs.length hc,.int .i64 h,.int .i64 b,.int .i64 n,.slice pa (AS ps).length pc,.int .i64 ((l:Int) - 1)][j]?)) (by kernel_rfl) (by first | (dsimp only;exact KG2.out.2.1) | (exact KG2.out.2.1)) (fun hHeld=> ?_);clear ckG2 ykG2 zkG2 kG2 k6;refine tkH (i:=0) ?_;refine tkH (i:=1) ?_;refine tkH (i:=2) ?_;refine tkH (i:=3) ?_;refine tkH (i:=4) ?_;generalize hxd:w2.drew=w3 at hHeld;have hd3:Below w2.heap.size w2 w3:=by rw[←hxd];exact(Ab _ _).drew
 have kG3:=KG2.out.below hd3 KG2.out.1;have k63:=K6.out.below hd3 K6.out.1;have g3:=g2.trans' (CX hd3 (some G));have hw3:=hw2.trans' (CX hd3 (some G));have z3:=hd3.size;clear hxd hd3 KG2 K6;refine rdH (i:=5) (fun K hK=> ?_);go_simp;refine(HX.out w3).mono ?_;rintro e w' ⟨rfl,rfl⟩;refine bkH hK (by first | (dsimp only;exact hHeld) | (exact hHeld)) (fun hHeld=> ?_);clear hK K;refine rdH (i:=6) (fun K hK=> ?_);go_simp;refine(HB.out w3 hw3).mono ?_;rintro e w4 ⟨u,rfl,⟨ua,uk,uc,rfl,rfl,hua⟩,b4⟩;refine bkH hK (by first | (dsimp only;exact(kG3.below b4 kG3.1).2.1) | (exact(kG3.below b4 kG3.1).2.1)) (fun hHeld=> ?_);clear hK K;refine tkH (i:=7) ?_;refine tkH (i:=8) ?_;refine tkH (i:=9) ?_;refine tkH (i:=10) ?_;refine tkH (i:=11) ?_;refine tkH (i:=12) ?_;refine tkH (i:=13) ?_;refine A2 (by kernel_rfl) ?_ _;have kG4:=kG3.below b4 kG3.1;have k64:=k63.below b4 k63.1;have g4:=g3.trans' (CX b4 (some G));have hw4:=hw3.trans' (CX b4 (some G));have z4:=b4.size;clear hHeld kG3 k63 g3 hw3 b4 hw2 g2 HX HB HP;cases F with
 |true=>
  have hr:res=some (fnV,l - 1):=by rw[HBP.out,Af rfl]
  subst hr;have K64:=Aa k64;have KG4:=Aa kG4;have G4:=Aa g4;clear HBP kG4 g4;have ck64:=k64.2.1;have yk64:=k64.1;have zk64:=k64.2.2;go_wp2;obtain⟨k7,g7⟩:=Bx.st4 K64.out (.int .i64 3) (.int .i64 0) (.string ⟨#[]⟩) (.slice none 0 0);have q7:=k7.2.1;refine Aq (v:= .tuple #[.agg #[.int .i64 3,.int .i64 0,.string ⟨#[]⟩,.slice none 0 0],.bool true]) ?_ rfl ⟨Dh G4.out g7 (Ad _),⟨.slice none 0 0,rfl,RdTv.leaf (u:=fnV) rfl none 0⟩,?_⟩
  ·simp[results,Tryz.results143,go_sem,q7]
  ·rw[HE4.out];exact KG4.out.grown g7 (fun e=>by have:=Am e;omega)
 |false=>
  have hrf:res=match CW ds tg kids.length with
    |none=>none
    |some s=>(BO (AK ds zs ps d) kids (l - 1)).map fun(q:List Vl×Nat)=>(.con s q.1,q.2):=by rw[HBP.out,Ae (by decide)]
  have HRF:=Aa hrf;have HTC:=Aa (UE ds (.slice la ds.length lc) tg _ w4 (T.d w4 hw4) T.hd htg1);clear hrf HBP;have KG4:=Aa kG4;have ckG4:=kG4.2.1;have ykG4:=kG4.1;have zkG4:=kG4.2.2;go_wp2_with fail;refine HTC.out.mono ?_;rintro e w5 ⟨rfl,b5⟩;clear ckG4 ykG4 zkG4;have kG5:=KG4.out.below b5 KG4.out.1;have k65:=k64.below b5 k64.1;have g5:=g4.trans' (CX b5 (some G));have hw5:=hw4.trans' (CX b5 (some G));have z5:=b5.size;clear KG4 kG4 k64 g4 hw4 b5 HTC htg1;obtain⟨o,ho⟩:∃o,BN ds tg=o:=⟨_,rfl⟩;cases o with
  |none=>
   have ht:tgI ds tg= (-1, -1):=by unfold tgI;rw[ho]
   have hr:res=none:=by rw[HRF.out];unfold CW;rw[ho]
   subst hr;rw[ht];dsimp only;have K65:=Aa k65;have G5:=Aa g5;clear HRF ht ho g5;have ck65:=k65.2.1;have yk65:=k65.1;have zk65:=k65.2.2;have ckG5:=kG5.2.1;have ykG5:=kG5.1;have zkG5:=kG5.2.2;go_wp2;obtain⟨k7,g7⟩:=Bx.st4 K65.out (.int .i64 0) (.int .i64 0) (.string ⟨#[]⟩) (.slice none 0 0);have q7:=k7.2.1;refine Aq (v:= .tuple #[.agg #[.int .i64 0,.int .i64 0,.string ⟨#[]⟩,.slice none 0 0],.bool false]) ?_ rfl ⟨Dh G5.out g7 (Ad _),rfl⟩;simp[results,Tryz.results143,go_sem,q7]
  |some q=>
   obtain⟨i,k⟩:=q;have ht:tgI ds tg= ((i:Int),(k:Int)):=by unfold tgI;rw[ho]
   obtain⟨hi,hk⟩:=G9 ho;have hcn:CW ds tg kids.length=if ds[i].cons[k].args.length=kids.length then some ds[i].cons[k].name else none:=by
    unfold CW;rw[ho];dsimp only;rw[Hb hi hk]
   have HCN:=Aa hcn;rw[ht];dsimp only;obtain⟨lb,lo,lcap,cv,hv, -,hlb, -, -, -,t2,hcr⟩:=(T.d w5 hw5).at_ hi;cases hv
   obtain⟨cb,co,ccap,av,hv2, -,hcb, -,d0,d1,har⟩:=hcr.at_ hk;subst hv2;obtain⟨aa,ac,rfl⟩:=har.form;have hi0:(0:Int)≤ (i:Int):=by omega
   have hin:¬(i:Int) < 0:=by omega
   have hi1:(i:Int) < (ds.length:Int):=by omega
   have hk0:(0:Int)≤ (k:Int):=by omega
   have hk1:(k:Int) < (ds[i].cons.length:Int):=by omega
   clear hcr har ht ho hcn;generalize ds[i].cons[k].name=nm at*;generalize ds[i].cons[k].args.length=al at*;generalize ds[i].cons.length=cl at*;by_cases hal:al=kids.length
   ·subst hal;have hne:((kids.length:Int) !=(kids.length:Int))=false:=by simp
    have HRR:=Aa (show res= (BO (AK ds zs ps d) kids (l - 1)).map fun(q:List Vl×Nat)=>(.con nm q.1,q.2)by rw[HRF.out,HCN.out,Af rfl]);have KG5:=Aa kG5;have K65:=Aa k65;have G5:=Aa g5;have HW5:=Aa hw5;have HUA:=Aa hua;have hGw5:w.heap.size < w5.heap.size:=k65.1;clear HRF HCN g5 hw5 k65 hua z4 z3;have ckG5:=kG5.2.1;have ykG5:=kG5.1;have zkG5:=kG5.2.2;obtain⟨ti,hti,hz0,hz1,hz2⟩:=info_parts Tryz.infoVl;go_wp2_with fail;clear ckG5 ykG5 zkG5;generalize hyy:w5.alloc _=w6;obtain⟨b6,k13⟩:=Bx.alloc hyy;have kG6:=KG5.out.below b6 KG5.out.1;have k66:=K65.out.below b6 K65.out.1;have g6:=G5.out.trans' (CX b6 (some G));have hsz6:w6.heap.size=w5.heap.size+1:=by rw[←hyy,Bo]
    clear hyy t2 d0 d1 hi0 hin hi1 hk0 hk1 hne KG5 K65 G5 HW5 kG5 b6;obtain⟨B,hB⟩:∃B,w5.heap.size=B:=⟨_,rfl⟩;rw[hB]at k13 hsz6 hGw5 ⊢;clear hB;have K13:=Aa (KidR.start (M:=B+1) k13);have KG6:=Aa kG6;have K66:=Aa k66;have G6:=Aa g6;clear k13 kG6 k66 g6
    go_loopw [112] (fun i wr=>∃ (k:Nat) (us:List Vl) (l1:Nat) (kv:Value),i= .int .i64 k∧k≤kids.length∧Hid (us.length=k)∧l1≤4000∧Hid (BO (AK ds zs ps d) (kids.take k) (l - 1)=some (us,l1))∧KidR (B+1) B wr nm us kv∧
     Bx wr G #[.slice (some ⟨lb,lo,none⟩) ds.length lc,.slice (some ⟨hb0,ha,none⟩) zs.length hc,.int .i64 h,.int .i64 b,.int .i64 n,.slice pa (AS ps).length pc,.int .i64 l1]∧Bx wr w.heap.size #[.int .i64 0,.int .i64 0,.string ⟨#[]⟩,.slice none 0 0]∧w.grownBy wr (some G)∧B+1≤wr.heap.size) (fun i _=>kids.length - (intOf i).toNat)
    case atStart=>exact⟨0,[],l - 1,_,rfl,Ao _,Aa rfl,by omega,Aa rfl,K13.out,by rw[HE4.out];exact KG6.out,K66.out,G6.out,by omega⟩
    case round=>
     clear K13 KG6 K66 G6;obtain⟨k,us,l1,kv,rfl,hk,hul,hl1,hbk,kr,kGr,k6r,gr,hBr⟩:=hrel;obtain⟨ka,kc,rfl⟩:=kr.form;have hul1:us.length≤64:=by have:=hul.out;omega
     have KR:=Aa kr;have KGR:=Aa kGr;have K6R:=Aa k6r;have GR:=Aa gr;by_cases hlt:k < kids.length
     ·obtain rfl:ua=some ⟨hb0,ha+ (p+1),none⟩:=by
       rcases HUA.out with h |h
       ·omega
       ·exact h
      have hcell:=HK.out wr (hw.trans' gr) k hlt;have hkl:(k:Int) < (kids.length:Int):=by omega
      obtain⟨y,hy⟩:∃y,kids[k]=y:=⟨_,rfl⟩;rw[hy]at hcell;have HY:=Aa (show kids=kids.take k++ [y]++kids.drop (k+1)by rw[←hy,GT hlt,Oj]);have HY2:=Aa (show kids.take (k+1)=kids.take k++ [y]by rw[←hy,GT hlt]);have HI:=Aa (IH.out y l1 wr hl1 (hw.trans' gr) kGr);have hdi:IntKind.i64.wrap ((D:Int) - 1)= (d:Int):=hDd;have hDq:=HDD.out;clear kr kGr k6r gr hy;go_wp2_with fail
      first |rw[hDq] |skip
      refine HI.out.mono ?_;rintro e w7 ⟨g7,hres⟩;have G7:=Aa g7;cases hr7:AK ds zs ps d y l1 with
      |none=>
       rw[hr7]at hres;dsimp only at hres;subst hres;have hr:res=none:=by
        rw[HRR.out,HY.out,IR _ _ _ (by rw[Gg _ _ _ _ y hbk.out,hr7];rfl)];rfl
       subst hr;have k67:=K6R.out.grown g7 (fun e=>by have:=Am e;omega);have K67:=Aa k67;clear hr7 g7 hcell;have ck67:=k67.2.1;have yk67:=k67.1;have zk67:=k67.2.2;go_wp2;generalize hyy:Wa _ _=w9;obtain⟨k7,g7'⟩:=Bx.st4 K67.out (.int .i64 0) (.int .i64 0) (.string ⟨#[]⟩) (.slice none 0 0);obtain⟨b9, -⟩:=Bx.alloc hyy;have q7:=(k7.below b9 k7.1).2.1;refine Aq (v:= .tuple #[.agg #[.int .i64 0,.int .i64 0,.string ⟨#[]⟩,.slice none 0 0],.bool false]) ?_ rfl ⟨(Dh (GR.out.trans' G7.out) g7' (Ad _)).trans' (CX b9 (some G)),rfl⟩;simp[results,Tryz.results143,go_sem,q7]
      |some q=>
       obtain⟨u,l2⟩:=q;rw[hr7]at hres;dsimp only at hres;obtain⟨⟨kv2,rfl,rt7⟩,kG7⟩:=hres;obtain⟨a7,c7,rfl⟩:=rt7.form;have HBK:=Aa (show BO (AK ds zs ps d) (kids.take (k+1)) (l - 1)=some (us++ [u],l2)by
        rw[HY2.out,Gg _ _ _ _ y hbk.out,hr7];rfl)
       have hl2:l2≤4000:=by have:=Hc _ _ _ _ _ hr7;omega
       have kr7:=KR.out.grown g7 (by omega) (by omega);have k67:=K6R.out.grown g7 (fun e=>by have:=Am e;omega);have z7:=g7.size;unfold vlC at rt7 ⊢;have b8:=(Bx.alloc (w:=w7) (cur:= #[.int .i64 (kdV u),.int .i64 (nmV u),.string (tgV u),.slice a7 (ksV u).length c7]) (e:=60) rfl).1;have kr8:=kr7.grown (CX b8 (some G)) (by omega) (by omega);have rt8:RdTv (fun b=>wr.heap.size≤b) (w7.alloc (.cells #[.int .i64 (kdV u),.int .i64 (nmV u),.string (tgV u),.slice a7 (ksV u).length c7] 60)) u #[.int .i64 (kdV u),.int .i64 (nmV u),.string (tgV u),.slice a7 (ksV u).length c7]:=rt7.later fun q hq hl=>⟨hq,Ah hl b8.size,b8.block q hl⟩
       obtain⟨ps',hps,hnext⟩:=kr8.app (by omega) (fun q hq=>(KR.out.lt q hq).2) hBr rt8;have HPS:=Aa hps;have HNX:=Aa hnext;have KR8:=Aa kr8;have KG8:=Aa (kG7.below b8 kG7.1);have K68:=Aa (k67.below b8 k67.1);have G8:=Aa ((GR.out.trans' g7).trans' (CX b8 (some G)));have z8:=b8.size;have kt:=kr7.bt;clear hr7 kr7 kr8 k67 kG7 rt7 rt8 hps hnext b8 g7 hcell HI;have ckt:=kt.2.1;have ykt:=kt.1;have zkt:=kt.2.2;go_wp2_with (at_builtin;refine Dw rfl _ _ 58 rfl (B+1) 60 ti (.agg #[.int .i64 0,.int .i64 0,.string ⟨#[]⟩,.slice none 0 0]) 4 56 Tryz.underlying58 hti hz0 hz1 hz2 rfl (by decide) _ _ _ (by rfl) HPS.out #[.int .i64 (kdV u),.int .i64 (nmV u),.string (tgV u),.slice a7 (ksV u).length c7] rfl (by simp[Value.oneCell']) (w7.heap.size+1) (by simp) (by rfl) (by unfold maxLen;omega) (by omega) (by simp;omega) ?_);intro v9 w9 o9 g9 alt;obtain⟨a9,c9,rfl⟩:=AR o9;have HN:=Aa (HNX.out _ w9 o9 g9 (by
        rcases alt with e |e
        ·exact .inl e
        ·exact .inr ⟨_,e,by simp;try omega⟩))
       have kt9:=KR8.out.bt.grown g9 (fun e=>by have:=(KR8.out.lt _ e.symm).1;omega);have HG9:=Aa (Kr (b:=B) (j:=3) (u:= .slice a9 (us.length+1) c9) (Ks G8.out g9 (fun q e=>by have:=(KR8.out.lt q e).1;omega)) (by omega));have hlen:(us++ [u]).length=us.length+1:=by simp
       clear ckt ykt zkt;clear o9 g9 alt HPS HNX;have ckt9:=kt9.2.1;have ykt9:=kt9.1;have zkt9:=kt9.2.2;go_wp2;go_roundw
       case rel=>
        refine⟨k+1,us++ [u],l2,_,by go_num,hlt,Aa (by rw[hlen,hul.out]),hl2,HBK,HN.out.1,KG8.out.keep (HN.out.2.2 G KG8.out.1 (by omega) (fun e=>by have:=(KR8.out.lt _ e).1;omega)) HN.out.2.1,K68.out.keep (HN.out.2.2 _ K68.out.1 (by omega) (fun e=>by have:=(KR8.out.lt _ e).1;omega)) HN.out.2.1,HG9.out,?_⟩;have:=HN.out.2.1;omega
       case measure=>simp[intOf];omega
     ·obtain rfl:k=kids.length:=by omega
      have hnk:¬(kids.length:Int) < (kids.length:Int):=by omega
      have hr:res=some (.con nm us,l1):=by
       have:=hbk.out;rw[B8]at this;rw[HRR.out,this];rfl
      subst hr;have kt:=kr.bt;clear kr kGr gr;have ckt:=kt.2.1;have ykt:=kt.1;have zkt:=kt.2.2;have ck6r:=k6r.2.1;have yk6r:=k6r.1;have zk6r:=k6r.2.2;go_wp2;obtain⟨k7,g7⟩:=Bx.st4 K6R.out (.int .i64 2) (.int .i64 0) (.string nm) (.slice ka us.length kc);have q7:=k7.2.1;refine Aq (v:= .tuple #[.agg #[.int .i64 2,.int .i64 0,.string nm,.slice ka us.length kc],.bool true]) ?_ rfl ⟨Dh GR.out g7 (Ad _),⟨.slice ka us.length kc,rfl,(KR.out.done.grown g7 (by omega)).later fun q hq hl=>⟨by omega,hl,rfl⟩⟩,KGR.out.grown g7 (fun e=>by have:=Am e;omega)⟩;simp[results,Tryz.results143,go_sem,q7]
   ·have hr:res=none:=by rw[HRF.out,HCN.out,Ae hal]
    subst hr;have hne:((al:Int) !=(kids.length:Int))=true:=by simp;omega
    have K65:=Aa k65;have G5:=Aa g5;clear HRF HCN g5 hal;have ck65:=k65.2.1;have yk65:=k65.1;have zk65:=k65.2.2;have ckG5:=kG5.2.1;have ykG5:=kG5.1;have zkG5:=kG5.2.2;go_wp2;obtain⟨k7,g7⟩:=Bx.st4 K65.out (.int .i64 0) (.int .i64 0) (.string ⟨#[]⟩) (.slice none 0 0);have q7:=k7.2.1;refine Aq (v:= .tuple #[.agg #[.int .i64 0,.int .i64 0,.string ⟨#[]⟩,.slice none 0 0],.bool false]) ?_ rfl ⟨Dh G5.out g7 (Ad _),rfl⟩;simp[results,Tryz.results143,go_sem,q7]
theorem Kl (T:Bkr w0 G ds zs ps h b n (.slice la ds.length lc) pv (.slice (some ⟨hb0,ha,none⟩) zs.length hc)):
  ∀ (d:Nat) (x:Int) (l:Nat) (w:World),d≤200→l≤4000→w0.grownBy w (some G)→Bx w G #[.slice la ds.length lc,.slice (some ⟨hb0,ha,none⟩) zs.length hc,.int .i64 h,.int .i64 b,.int .i64 n,pv,.int .i64 l]→
  Calls Pq 143 #[.pointer (some ⟨G,0,none⟩),.int .i64 x,.int .i64 d] w
   (BkR w G (fun l=> #[.slice la ds.length lc,.slice (some ⟨hb0,ha,none⟩) zs.length hc,.int .i64 h,.int .i64 b,.int .i64 n,pv,.int .i64 l]) (AK ds zs ps d x l))
 |0,x,l,w,h1,h2,hw,kG=>IK T 0 x l w h1 h2 hw kG (.inl rfl) _
 |d+1,x,l,w,h1,h2,hw,kG=>by
  by_cases h0:l=0
  ·rw[show AK ds zs ps (d+1) x l=none by unfold AK;rw[Af h0]];exact IK T (d+1) x l w h1 h2 hw kG (.inr (.inl h0)) _
  by_cases hx:x%2=0
  ·cases hwx:AA ps x with
   |false=>
    rw[show AK ds zs ps (d+1) x l=none by unfold AK;rw[Ae h0,Af hx,Ae (by rw[hwx];decide)]];exact IK T (d+1) x l w h1 h2 hw kG (.inr (.inr ⟨hx,hwx⟩)) _
   |true=>exact Ov T d x hx hwx l w h1 h2 h0 hw kG (fun y l' W g2 gw gk=>Kl T d y l' W (by omega) g2 gw gk)
  ·rw[show AK ds zs ps (d+1) x l=some (.int (x/2),l - 1)by unfold AK;rw[Ae h0,Ae hx]];exact Ou T d x hx l w h1 h2 h0 hw kG
end
def RdE {α:Type}(enc:α→List Value) (size B:Nat) (w:World) (v:Value) (xs:List α):Prop:=
 (xs=[]∧ ∃a cap,v= .slice a 0 cap)∨
 ∃b off cap,v= .slice (some ⟨b,off,none⟩) xs.length cap∧b < B∧b < w.heap.size∧(xs.length≤maxLen∧xs.length≤cap)∧
  ∀ (j:Nat) (x:α),xs[j]?=some x→ ∀t,t < size→w.cell? ⟨b,off+j*size+t,none⟩= (enc x)[t]?
section
variable {α:Type}{enc:α→List Value}{size B B':Nat}{w w':World}{v:Value}{xs:List α}
theorem RdE.below (h:RdE enc size B w v xs) (hb:Below B' w w') (hB:B≤B'):RdE enc size B w' v xs:=by
 rcases h with h |⟨b,off,cap,h1,h2,h3,h4,h5⟩
 ·exact .inl h
 ·exact .inr ⟨b,off,cap,h1,h2,Ah h3 hb.size,h4,fun j x hj t ht=>(hb.cell (p:=⟨b,_,none⟩) (by show b < B';omega)).trans (h5 j x hj t ht)⟩
theorem RdE.below' (h:RdE enc size B w v xs) (hb:Below w.heap.size w w'):RdE enc size w.heap.size w' v xs:=by
 rcases h with h |⟨b,off,cap,h1,h2,h3,h4,h5⟩
 ·exact .inl h
 ·exact .inr ⟨b,off,cap,h1,h3,Ah h3 hb.size,h4,fun j x hj t ht=>(hb.cell (p:=⟨b,_,none⟩) h3).trans (h5 j x hj t ht)⟩
theorem RdE.form (h:RdE enc size B w v xs):∃a cap,v= .slice a xs.length cap:=by
 rcases h with ⟨rfl,a,cap,rfl⟩ |⟨b,off,cap,rfl,_⟩
 ·exact⟨_,_,rfl⟩
 ·exact⟨_,_,rfl⟩
theorem RdE.len (h:RdE enc size B w v xs):xs.length≤maxLen:=by
 rcases h with ⟨rfl,_⟩ |⟨b,off,cap,_,_,_,h,_⟩
 ·simp
 ·exact h.1
theorem RdE.at_ (h:RdE enc size B w v xs) {k:Nat}(hk:k < xs.length):∃b off cap,v= .slice (some ⟨b,off,none⟩) xs.length cap∧b < B∧b < w.heap.size∧xs.length≤cap∧ ∀t,t < size→w.cell? ⟨b,off+k*size+t,none⟩= (enc xs[k])[t]?:=by
 rcases h with ⟨rfl,_⟩ |⟨b,off,cap,h1,h2,h3,h4,h5⟩
 ·simp at hk
 ·exact⟨b,off,cap,h1,h2,h3,h4.2,fun t ht=>h5 k _ (Ay hk) t ht⟩
end
def By {α:Type}(enc:α→List Value) (xs:List α):List Value:=xs.flatMap enc
theorem Hn {α:Type}{enc:α→List Value}{size:Nat}(hs:∀x,(enc x).length=size) (xs:List α):(By enc xs).length=xs.length*size:=by
 induction xs with
 |nil=>simp[By]
 |cons x xs ih=>
  unfold By at ih ⊢;rw[List.flatMap_cons,Bl,hs,ih,List.length_cons,Et,GV,Nat.add_comm]
theorem Qc {α:Type}{enc:α→List Value}{size:Nat}(hs:∀x,(enc x).length=size):∀ (xs:List α) (j:Nat) (x:α),xs[j]?=some x→ ∀t,t < size→(By enc xs)[j*size+t]?= (enc x)[t]?:=by
 intro xs;induction xs with
 |nil=>intro j x h;simp at h
 |cons y xs ih=>
  intro j x hj t ht;unfold By at ih ⊢;rw[List.flatMap_cons];cases j with
  |zero=>
   simp only[List.getElem?_cons_zero,F8]at hj;subst hj;rw[Nat.zero_mul,BS,Ff (by rw[hs];exact ht)]
  |succ j=>
   rw[EN (by rw[hs,Et];omega),hs,show(j+1)*size+t - size=j*size+t by rw[Et];omega];exact ih j x (by simpa using hj) t ht
theorem Lr {α:Type}{enc:α→List Value}(xs:List α) (x:α):By enc (xs++ [x])=By enc xs++enc x:=by simp[By]
theorem BP {base:Nat}{e:TypeId}{size:Nat}{w:World}{g cap n:Nat}{xs:List Value}(h:w.ownsRow base e size (.slice (some ⟨g,0,none⟩) n cap) n xs) (j:Nat) (hj:j < n*size):w.cell? ⟨g,j,none⟩=xs[j]?:=by
 obtain⟨h1,h2⟩:=h;rcases h2 with ⟨hh,_⟩ |⟨g',cap',cur,hv,hb,hg,hn,hm,hc,ht⟩
 ·cases hh
 ·cases hv
  rw[Fe w g j cur e (0,0) hg,←ht,DU,Af hj,Array.getElem?_toList]
theorem Ch {base:Nat}{e:TypeId}{size:Nat}{w:World}{g cap n:Nat}{xs:List Value}(h:w.ownsRow base e size (.slice (some ⟨g,0,none⟩) n cap) n xs) (j:Nat) (hj:j < n*size) (u:Value):
  (w.setCell ⟨g,j,none⟩ u).ownsRow base e size (.slice (some ⟨g,0,none⟩) n cap) n (xs.set j u):=by
 obtain⟨h1,h2⟩:=h;refine⟨by simpa using h1,?_⟩;rcases h2 with ⟨hh,_⟩ |⟨g',cap',cur,hv,hb,hg,hn,hm,hc,ht⟩
 ·cases hh
 ·cases hv
  refine .inr ⟨g,cap,cur.setIfInBounds j u,rfl,hb,?_,hn,hm,by simpa using hc,?_⟩
  ·have hlt:=(GX.1 hg).1;simp only[Ws,Array.getElem?_modify,hg,Af];simp
  ·rw[Array.toList_setIfInBounds,List.take_set,ht]
theorem RdE.of_own {α:Type}{enc:α→List Value}{size base:Nat}{e:TypeId}{w:World}{v:Value}{xs:List α}(hs:∀x,(enc x).length=size) (h:w.ownsRow base e size v xs.length (By enc xs)):RdE enc size w.heap.size w v xs:=by
 obtain⟨h1,h2⟩:=h;rcases h2 with ⟨rfl,h0⟩ |⟨g,cap,cur,rfl,hb,hg,hn,hm,hc,ht⟩
 ·exact .inl ⟨List.eq_nil_of_length_eq_zero h0,none,0,rfl⟩
 ·have hlt:g < w.heap.size:=(GX.1 hg).1;refine .inr ⟨g,0,cap,rfl,hlt,hlt,⟨by omega,hn⟩,fun j x hj t htt=> ?_⟩;have hjl:j < xs.length:=(Oi.1 hj).1;have hlt2:j*size+t < xs.length*size:=by
   have:(j+1)*size≤xs.length*size:=Er _ hjl;rw[Et]at this;omega
  rw[BS,Fe w g _ cur e (0,0) hg,←Qc hs xs j x hj t htt,←ht,DU,Af hlt2,Array.getElem?_toList]
def Dy {α:Type}(enc:α→List Value) (size:Nat) (xs:List α) (ys:List Value) (k:Nat):List Value:=By enc (xs.take k)++ys.drop (k*size)
theorem Ls {α:Type}{enc:α→List Value}{size:Nat}{xs:List α}{ys:List Value}:Dy enc size xs ys 0=ys:=by simp[Dy,By]
theorem Lt {α:Type}{enc:α→List Value}{size:Nat}{xs:List α}{ys:List Value}(h:ys.length=xs.length*size):Dy enc size xs ys xs.length=By enc xs:=by
 unfold Dy;rw[List.take_of_length_le (Ad _),List.drop_eq_nil_of_le (by omega),List.append_nil]
theorem Lu {α:Type}{enc:α→List Value}{size:Nat}(hs:∀x,(enc x).length=size) {xs:List α}{ys:List Value}(h:ys.length=xs.length*size) {k:Nat}(hk:k≤xs.length):(Dy enc size xs ys k).length=xs.length*size:=by
 unfold Dy;have h1:k*size≤xs.length*size:=Er _ hk;rw[Bl,Hn hs,IG,Nat.min_eq_left hk,Kg,h];omega
theorem Lv {α:Type}{enc:α→List Value}{xs:List α}{ys:List Value}(hs:∀x,(enc x).length=3) (h:ys.length=xs.length*3) {k:Nat}{x:α}(hk:xs[k]?=some x) {a b c:Value}(he:enc x=[a,b,c]):
  (((Dy enc 3 xs ys k).set (k*3) a).set (k*3+1) b).set (k*3+2) c=Dy enc 3 xs ys (k+1):=by
 obtain⟨hl,hx⟩:=Oi.1 hk;unfold Dy;have hf:(By enc (xs.take k)).length=k*3:=by rw[Hn hs,IG,Nat.min_eq_left (by omega)]
 have hd:ys.drop (k*3)=ys[k*3]'(by omega)::ys[k*3+1]'(by omega)::ys[k*3+2]'(by omega)::ys.drop (k*3+3):=by
  rw[List.drop_eq_getElem_cons (by omega),List.drop_eq_getElem_cons (by omega),List.drop_eq_getElem_cons (by omega)]
 rw[hd,GY _ _ (by omega),GY _ _ (by omega),GY _ _ (by omega),hf,FC,show k*3+1 - k*3=1 by omega,show k*3+2 - k*3=2 by omega];rw[←GT hl,Lr,hx,he,GW,show(k+1)*3=k*3+3 by omega];rfl
structure O3 where
 c:Int
 n:Int
 m:Int
deriving DecidableEq
def O3.enc (o:O3):List Value:=[.int .i64 o.c,.int .i64 o.n,.int .i64 o.m]
theorem O3.enc_len (o:O3):o.enc.length=3:=rfl
def O3.val (o:O3):Value:= .agg #[.int .i64 o.c,.int .i64 o.n,.int .i64 o.m]
def DB (o:O3):Prop:=(-9223372036854775808≤o.c∧o.c≤9223372036854775807)∧(-9223372036854775808≤o.n∧o.n≤9223372036854775807)∧(-9223372036854775808≤o.m∧o.m≤9223372036854775807)
abbrev RdO (B:Nat) (w:World) (v:Value) (os:List O3):Prop:=RdE O3.enc 3 B w v os
theorem RdO.at_ {B:Nat}{w:World}{v:Value}{os:List O3}(h:RdO B w v os) {k:Nat}(hk:k < os.length):∃b off cap,v= .slice (some ⟨b,off,none⟩) os.length cap∧b < B∧b < w.heap.size∧os.length≤cap∧
  w.cell? ⟨b,off+k*3,none⟩=some (.int .i64 os[k].c)∧w.cell? ⟨b,off+k*3+1,none⟩=some (.int .i64 os[k].n)∧w.cell? ⟨b,off+k*3+2,none⟩=some (.int .i64 os[k].m):=by
 obtain⟨b,off,cap,h1,h2,h3,h4,h5⟩:=RdE.at_ h hk;exact⟨b,off,cap,h1,h2,h3,h4,h5 0 (by decide),h5 1 (by decide),h5 2 (by decide)⟩
theorem SD (c n m:Int) (w:World):
  Calls Pq 183 #[.agg #[.int .i64 c,.int .i64 n,.int .i64 m]] w fun e w'=>e= .returned (.agg #[.int .i64 c,.int .i64 n,.int .i64 m])∧Below w.heap.size w w':=by
 go_enter Tryz.func183,Tryz.ntmps183;go_wp2;refine Aq (v:= .agg #[.int .i64 c,.int .i64 n,.int .i64 m]) ?_ rfl ⟨rfl,?_⟩
 ·simp[results,Tryz.results183,go_sem]
 ·repeat(with_reducible refine Below.setCell ?_ (by dsimp only;omega) _)
  exact(((Ab _ _).alloc (Ad _) _).alloc (by simp) _).alloc (by simp;omega) _
theorem SE {B:Nat}(v:Value) (os:List O3) (left:Int) (w:World) (hr:RdO B w v os) (h0:-1≤left) (h1:left≤4611686018427387904):
  Calls Pq 127 #[v,.int .i64 left] w fun e w'=>e= .returned (.int .i64 (Ak os.length left))∧w=w':=by
 have hx:=hr.len;unfold maxLen at hx;obtain⟨a,cap,rfl⟩:=hr.form;clear hr;by_cases hneg:left - os.length < 0
 ·have HF:=Aa (show Ak os.length left= -1 from Af hneg);go_enter Tryz.func127,Tryz.ntmps127;go_wp2;go_ret;exact⟨Ap HF.out.symm,rfl⟩
 ·have HF:=Aa (show Ak os.length left=left - os.length from Ae hneg);go_enter Tryz.func127,Tryz.ntmps127;go_wp2;go_ret;exact⟨Ap HF.out.symm,rfl⟩
theorem Tryz.infoOp2:(Tryz.prog.info? 194).map (fun i=>(i.zero,i.size,i.bytes))=some (some (.agg #[.int .i64 0,.int .i64 0,.int .i64 0]),3,24):=by kernel_rfl
theorem SH {B:Nat}(v:Value) (os:List O3) (w:World) (hr:RdO B w v os) (hn:os.length≤4294967296):
  Calls Pq 136 #[v] w fun e w'=>∃v',e= .returned v'∧w'.ownsRow w.heap.size 194 3 v' os.length (By O3.enc os)∧Below w.heap.size w w':=by
 obtain⟨i0,hi,hz0,hz1,hz2⟩:=info_parts Tryz.infoOp2;have HR:=Aa hr;obtain⟨a,cap,rfl⟩:=hr.form;clear hr;go_enter Tryz.func136,Tryz.ntmps136;go_wp2_with (refine Fz _ rfl (.tmp 6) (.tmp 6) 128 rfl w.heap.size 194 i0 (.agg #[.int .i64 0,.int .i64 0,.int .i64 0]) 3 Tryz.underlying128 hi hz0 hz1 .i64 .i64 _ _ os.length rfl rfl rfl rfl ?_ ?_ ?_ ?_)
 ·rw[hz2];omega
 ·unfold maxLen;omega
 ·exact Ad _
 ·intro w1 hown hgrow;have hb1:Below w.heap.size w w1:=(Ab _ _).grown hgrow (Ad _) (by simp);obtain⟨xs,hown,hlen⟩:∃xs,w1.ownsRow w.heap.size 194 3 (.slice (some ⟨w.heap.size,0,none⟩) os.length os.length) os.length xs∧xs.length=os.length*3:=⟨_,hown,by simpa using hown.1⟩;have HL:=Aa hlen;clear hlen;go_wp2
  go_loopw [4] (fun i wr=>∃k:Nat,k≤os.length∧i= .int .i64 k∧wr.ownsRow w.heap.size 194 3 (.slice (some ⟨w.heap.size,0,none⟩) os.length os.length) os.length (Dy O3.enc 3 os xs k)∧Below w.heap.size w wr) (fun i _=>os.length - (intOf i).toNat)
  case atStart=>exact⟨0,Ao _,rfl,by rw[Ls];exact hown,hb1⟩
  case round=>
   obtain⟨k,hk,rfl,ho,hb⟩:=hrel;by_cases hlt:k < os.length
   ·obtain⟨b,off,cap',hs,hB,hbs,hcap,c0,c1,c2⟩:=RdO.at_ HR.out hlt;cases hs
    replace c0:=(hb.cell (p:=⟨b,off+k*3,none⟩) hbs).trans c0;replace c1:=(hb.cell (p:=⟨b,off+k*3+1,none⟩) hbs).trans c1;replace c2:=(hb.cell (p:=⟨b,off+k*3+2,none⟩) hbs).trans c2;go_wp2_with fail;refine(SD _ _ _ _).mono ?_;rintro e w2 ⟨rfl,b2⟩;replace ho:=Bm ho b2 (A5 ho);replace hb:=hb.trans (b2.mono hb.size);clear c0 c1 c2 b2;have hrl:(Dy O3.enc 3 os xs k).length=os.length*3:=Lu O3.enc_len HL.out hk;have d0:=BP ho (k*3) (by omega);have d1:=BP ho (k*3+1) (by omega);have d2:=BP ho (k*3+2) (by omega);rw[Ay (by omega)]at d0 d1 d2;have f0:=Cg ho (k*3);have f1:=Cg ho (k*3+1);have f2:=Cg ho (k*3+2);go_wp2;go_roundw
    case rel=>
     refine⟨k+1,hlt,by go_num,?_,((hb.setCell (Ad _) _).setCell (Ad _) _).setCell (Ad _) _⟩;rw[←Lv O3.enc_len HL.out (Ay hlt) rfl];exact Ch (Ch (Ch ho _ (by omega) _) _ (by omega) _) _ (by omega) _
    case measure=>simp[intOf];omega
   ·obtain rfl:k=os.length:=by omega
    go_wp2;go_ret;refine⟨_,rfl,?_,hb⟩;rw[←Lt HL.out];exact ho
end Go.Proofs.YtifhcbeaiijkcaaGreat
