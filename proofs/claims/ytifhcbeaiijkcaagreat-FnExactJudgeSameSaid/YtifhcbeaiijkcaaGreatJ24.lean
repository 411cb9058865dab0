/- Parts of the proof of FnExactJudgeSame. -/
import Derived.Test.YtifhcbeaiijkcaaGreatJ21
import Derived.Test.YtifhcbeaiijkcaaGreatJ19
import Derived.Test.YtifhcbeaiijkcaaGreatJ09
import Derived.Test.YtifhcbeaiijkcaaGreatJ23
import Derived.Deep.DeepCutAuto
import Derived.Deep.CutRange
import Derived.Test.YtifhcbeaiijkcaaGreatJ20
set_option linter.unusedVariables false
set_option linter.unusedSimpArgs false
set_option maxRecDepth 1000000
set_option maxHeartbeats 16000000
namespace Go.Proofs.YtifhcbeaiijkcaaGreat
open Go.RowKit
open _root_.Go.World renaming alloc→Wa,setCell→Ws
open _root_.Go.Proofs.Tryz renaming prog→Pq
section
variable {w0:World}{G:Nat}{ds:List Dt}{zs:List Int}{ps:List Nat}{h b n:Nat}{la:Option Addr}{lc:Nat}{pv:Value}{ha hc hb0:Nat}
theorem IS (T:Bkr w0 G ds zs ps h b n (.slice la ds.length lc) pv (.slice (some ⟨hb0,ha,none⟩) zs.length hc))
  (d:Nat) (x:Int) (l:Nat) (w:World) (h1:d≤200) (h2:l≤4000) (hw:w0.grownBy w (some G)) (kG:Bx w G #[.int .i64 l])
  (hbad:d=0∨l=0∨(x%2=0∧AA ps x=false)) (cs:Int→Array Value):
  Calls Pq 134 #[.pointer (some ⟨G,0,none⟩),.slice la ds.length lc,.agg #[.slice (some ⟨hb0,ha,none⟩) zs.length hc,.int .i64 h,.int .i64 b,.int .i64 n],pv,.int .i64 x,.int .i64 d] w (BkR w G cs none):=by
 obtain⟨pa,pc,hpv⟩:=(T.p w hw).form;subst hpv;have e1:IntKind.i64.wrap ((l:Int) - 1)= (l:Int) - 1:=AX _ (by omega);have HP:=Aa (fun(W:World) (hW:w0.grownBy W (some G))=>Jb (.slice pa (AS ps).length pc) (AS ps) (x/2) W (T.p W hW));have kG1:=kG.st 0 (by simp) (.int .i64 ((l:Int) - 1));have gG:=grownBy.setCell w G 0 (.int .i64 ((l:Int) - 1));have KG1:=Aa kG1;have GG:=Aa gG;clear kG1 gG;have ckG:=kG.2.1;have ykG:=kG.1;have zkG:=kG.2.2;by_cases hd0:d=0
 ·subst hd0
  show Calls Pq 134 #[.pointer (some ⟨G,0,none⟩),.slice la ds.length lc,.agg #[.slice (some ⟨hb0,ha,none⟩) zs.length hc,.int .i64 h,.int .i64 b,.int .i64 n],.slice pa (AS ps).length pc,.int .i64 x,.int .i64 0] w _
  clear hbad;go_enter Tryz.func134,Tryz.ntmps134;go_wp2_with fail;generalize hyy:Wa (Wa _ _) _=w2;obtain⟨b2,k4,k6,sx2⟩:=BV hyy;simp only[AP]at k4 k6 sx2;have g2:w.grownBy w2 (some G):=by rw[←hyy];exact(GG.out.trans' (De _ _ (some G))).trans' (De _ _ (some G))
  have hw2:=hw.trans' g2;have kG2:=KG1.out.below b2 KG1.out.1;simp only[List.setIfInBounds_toArray,List.set_cons_succ,List.set_cons_zero]at kG2;clear hyy b2 ckG ykG zkG KG1 GG sx2;have q6:=k6.2.1;refine Aq (v:= .tuple #[.agg #[.int .i64 0,.int .i64 0,.string ⟨#[]⟩,.slice none 0 0],.bool false]) ?_ rfl ⟨g2,rfl⟩;simp[results,Tryz.results134,go_sem,q6]
 have e2:¬(d:Int)=0:=by omega
 by_cases hl0:l=0
 ·subst hl0;have e3:((0:Nat):Int) - 1 < 0:=by omega
  clear hbad;go_enter Tryz.func134,Tryz.ntmps134;go_wp2_with fail;generalize hyy:Wa (Wa _ _) _=w2;obtain⟨b2,k4,k6,sx2⟩:=BV hyy;simp only[AP]at k4 k6 sx2;have g2:w.grownBy w2 (some G):=by rw[←hyy];exact(GG.out.trans' (De _ _ (some G))).trans' (De _ _ (some G))
  have hw2:=hw.trans' g2;have kG2:=KG1.out.below b2 KG1.out.1;simp only[List.setIfInBounds_toArray,List.set_cons_succ,List.set_cons_zero]at kG2;clear hyy b2 ckG ykG zkG KG1 GG sx2;have q6:=k6.2.1;refine Aq (v:= .tuple #[.agg #[.int .i64 0,.int .i64 0,.string ⟨#[]⟩,.slice none 0 0],.bool false]) ?_ rfl ⟨g2,rfl⟩;simp[results,Tryz.results134,go_sem,q6]
 have e3:¬(l:Int) - 1 < 0:=by omega
 obtain⟨hx,hwx⟩:x%2=0∧AA ps x=false:=by rcases hbad with h |h |h <;> first |omega |exact h
 have e0:(x%2==0)=true:=by simp;omega
 rw[GQ hx]at hwx;rw[hwx]at HP;clear hbad hx hwx hd0 hl0;go_enter Tryz.func134,Tryz.ntmps134;go_wp2_with fail;generalize hyy:Wa (Wa _ _) _=w2;obtain⟨b2,k4,k6,sx2⟩:=BV hyy;simp only[AP]at k4 k6 sx2;have g2:w.grownBy w2 (some G):=by rw[←hyy];exact(GG.out.trans' (De _ _ (some G))).trans' (De _ _ (some G))
 have hw2:=hw.trans' g2;have kG2:=KG1.out.below b2 KG1.out.1;simp only[List.setIfInBounds_toArray,List.set_cons_succ,List.set_cons_zero]at kG2;clear hyy b2 ckG ykG zkG KG1 GG sx2;have ckG2:=kG2.2.1;have ykG2:=kG2.1;have zkG2:=kG2.2.2;have ck6:=k6.2.1;have yk6:=k6.1;have zk6:=k6.2.2;refine(Eo _ _).mono ?_;rintro e w' ⟨rfl,rfl⟩;go_wp2_with (first | (go_at_call 132;refine(JP _ _).mono ?_;rintro e w' ⟨rfl,rfl⟩) | (go_at_call 131;refine(HP.out _ hw2).mono ?_;rintro e w' ⟨rfl,rfl⟩));obtain⟨k7,g7⟩:=Bx.st4 (w:=w2) (g:=w.heap.size+1) k6 (.int .i64 0) (.int .i64 0) (.string ⟨#[]⟩) (.slice none 0 0);have q7:=k7.2.1;refine Aq (v:= .tuple #[.agg #[.int .i64 0,.int .i64 0,.string ⟨#[]⟩,.slice none 0 0],.bool false]) ?_ rfl ⟨Dh g2 g7 (AJ _),rfl⟩;simp[results,Tryz.results134,go_sem,q7]
theorem OC (T:Bkr w0 G ds zs ps h b n (.slice la ds.length lc) pv (.slice (some ⟨hb0,ha,none⟩) zs.length hc))
  (d:Nat) (x:Int) (hx:¬x%2=0) (l:Nat) (w:World) (h1:d+1≤200) (h2:l≤4000) (h0:¬l=0) (hw:w0.grownBy w (some G)) (kG:Bx w G #[.int .i64 l]):
  Calls Pq 134 #[.pointer (some ⟨G,0,none⟩),.slice la ds.length lc,.agg #[.slice (some ⟨hb0,ha,none⟩) zs.length hc,.int .i64 h,.int .i64 b,.int .i64 n],pv,.int .i64 x,.int .i64 (d+1:Nat)] w (BkR w G (fun l=> #[.int .i64 l]) (some (.int (x/2),l - 1))):=by
 obtain⟨pa,pc,hpv⟩:=(T.p w hw).form;subst hpv;have e1:IntKind.i64.wrap ((l:Int) - 1)= (l:Int) - 1:=AX _ (by omega);have e4:((l - 1:Nat):Int)= (l:Int) - 1:=by omega
 have kG1:=kG.st 0 (by simp) (.int .i64 ((l:Int) - 1));have gG:=grownBy.setCell w G 0 (.int .i64 ((l:Int) - 1));have KG1:=Aa kG1;have GG:=Aa gG;have E4:=Aa e4;have e0:(x%2==0)=false:=by simp;omega
 obtain⟨D,hD⟩:∃D:Nat,d+1=D:=⟨_,rfl⟩;have e2:¬(D:Int)=0:=by omega
 have e3:¬(l:Int) - 1 < 0:=by omega
 rw[hD];clear kG1 gG e4 hD hx;have ckG:=kG.2.1;have ykG:=kG.1;have zkG:=kG.2.2;go_enter Tryz.func134,Tryz.ntmps134;go_wp2_with (first | (go_at_call 130;refine(Eo _ _).mono ?_;rintro e w' ⟨rfl,rfl⟩) | (go_at_call 133;refine(Ni _ _).mono ?_;rintro e w' ⟨rfl,rfl⟩));generalize hyy:Wa (Wa _ _) _=w2;obtain⟨b2,k4,k6,sx2⟩:=BV hyy;simp only[AP]at k4 k6 sx2;have g2:w.grownBy w2 (some G):=by rw[←hyy];exact(GG.out.trans' (De _ _ (some G))).trans' (De _ _ (some G))
 have hw2:=hw.trans' g2;have kG2:=KG1.out.below b2 KG1.out.1;simp only[List.setIfInBounds_toArray,List.set_cons_succ,List.set_cons_zero]at kG2;clear hyy b2 ckG ykG zkG KG1 GG sx2;have q6:=k6.2.1;refine Aq (v:= .tuple #[.agg #[.int .i64 1,.int .i64 (x/2),.string ⟨#[]⟩,.slice none 0 0],.bool true]) ?_ rfl ⟨g2,⟨.slice none 0 0,rfl,RdTv.leaf (u:= .int (x/2)) rfl none 0⟩,?_⟩
 ·simp[results,Tryz.results134,go_sem,q6]
 ·rw[E4.out];exact kG2
theorem OD (T:Bkr w0 G ds zs ps h b n (.slice la ds.length lc) pv (.slice (some ⟨hb0,ha,none⟩) zs.length hc))
  (d:Nat) (x:Int) (hx:x%2=0) (hwx:AA ps x=true) (l:Nat) (w:World) (h1:d+1≤200) (h2:l≤4000) (h0:¬l=0) (hw:w0.grownBy w (some G)) (kG:Bx w G #[.int .i64 l])
  (IH:∀ (y:Int) (l:Nat) (W:World),l≤4000→w0.grownBy W (some G)→Bx W G #[.int .i64 l]→
   Calls Pq 134 #[.pointer (some ⟨G,0,none⟩),.slice la ds.length lc,.agg #[.slice (some ⟨hb0,ha,none⟩) zs.length hc,.int .i64 h,.int .i64 b,.int .i64 n],pv,.int .i64 y,.int .i64 d] W (BkR W G (fun l=> #[.int .i64 l]) (AK ds zs ps d y l))):
  Calls Pq 134 #[.pointer (some ⟨G,0,none⟩),.slice la ds.length lc,.agg #[.slice (some ⟨hb0,ha,none⟩) zs.length hc,.int .i64 h,.int .i64 b,.int .i64 n],pv,.int .i64 x,.int .i64 (d+1:Nat)] w (BkR w G (fun l=> #[.int .i64 l]) (AK ds zs ps (d+1) x l)):=by
 obtain⟨p,hpp,hpx⟩:=Mg hwx hx;have hpe:(x/2).toNat=p:=by omega
 have hat:=T.right.at_ hpp;have hle:=T.right.n_le;have hzl:zs.length≤6000:=by have:=T.right.frame.len;have:=T.right.frame.h1;omega
 have HP:=Aa (fun(W:World) (hW:w0.grownBy W (some G))=>(by have:=Jb pv (AS ps) (x/2) W (T.p W hW);rw[←GQ hx,hwx,←hpx]at this;exact this:Calls Pq 131 #[pv,.int .i64 p] W fun e w'=>e= .returned (.bool true)∧W=w'));have HX:=Aa (fun(W:World)=>(by have:=JP x W;rw[←hpx]at this;exact this:Calls Pq 132 #[.int .i64 x] W fun e w'=>e= .returned (.int .i64 p)∧W=w'));obtain⟨kids,hkids⟩:∃k,Be zs p=k:=⟨_,rfl⟩;obtain⟨hd,hhd⟩:∃q,zs.getD p 0=q:=⟨_,rfl⟩;have hkl:kids.length=hK hd:=by rw[←hkids,←hhd];exact Ia (by have:=hat.2.2.2.1;omega)
 have hplt:p < zs.length:=by have:=hat.2.1;omega
 have hpk:p+kids.length < zs.length:=by have:=hat.2.2.2.1;rw[hkl,←hhd];omega
 have HBP:=Aa (show AK ds zs ps (d+1) x l= (if Ej hd=true then some (fnV,l - 1)else match CW ds (BU hd).toNat kids.length with
   |none=>none
   |some s=>(BO (AK ds zs ps d) kids (l - 1)).map fun(q:List Vl×Nat)=>(.con s q.1,q.2))by
  unfold AK;rw[Ae h0,Af hx,Af hwx,hpe,hhd,hkids];rfl)
 have HCW:=Aa (fun(W:World) (hW:w0.grownBy W (some G)) (j:Nat) (hj:j < zs.length)=>(by
  rcases T.z W hW with ⟨hn,_⟩ |⟨bl,off,cap,hv,hB,hbs,hm,hcell⟩
  ·rw[hn]at hj;simp at hj
  ·cases hv
   exact⟨hbs,hcell j hj⟩:hb0 < W.heap.size∧W.cell? ⟨hb0,ha+j,none⟩=some (.int .i64 (zs.getD j 0))))
 have HKJ:=Aa (fun(j:Nat) (hj:j < kids.length)=>(by
   rw[←Mh (by rw[hhd,←hkl];exact hj),hkids,List.getD,Ay hj,Option.getD_some]:zs.getD (p+ (j+1)) 0=kids[j]))
 generalize hres:AK ds zs ps (d+1) x l=res at*;clear hres;have hok:=hat.2.2.1;rw[hhd]at hok;have htg:BU hd≤3000∧0≤BU hd:=⟨(EG.1 hok).2.2.1,by have:=(EG.1 hok).2.1;unfold BU;omega⟩;have hd0:0≤hd:=(EG.1 hok).2.1;have hd1:hd≤9223372036854775807:=by have:=(T.zi p).2;rw[hhd]at this;exact this
 have hkd:C3 hd= (kids.length:Int):=by rw[hkl];exact(FP hd).symm
 have HOF:=Aa (fun(W:World)=>(by have:=Fq hd W hd0 hd1;rw[hkd]at this;exact this:Calls Pq 129 #[.int .i64 hd] W fun e w'=>e= .returned (.tuple #[.bool (Ej hd),.int .i64 (BU hd),.int .i64 kids.length])∧W=w'));obtain⟨tg,htag⟩:∃t:Nat,BU hd=t:=⟨(BU hd).toNat,by omega⟩;rw[htag]at HBP HOF;rw[Dq]at HBP;have htg1:tg≤4294967296:=by omega
 have hm64:kids.length≤64:=by rw[←hkids];exact NJ _ _
 obtain⟨F,hF⟩:∃F,Ej hd=F:=⟨_,rfl⟩;rw[hF]at HOF HBP;obtain⟨pa,pc,hpv⟩:=(T.p w hw).form;subst hpv;have e1:IntKind.i64.wrap ((l:Int) - 1)= (l:Int) - 1:=AX _ (by omega);have HE4:=Aa (show((l - 1:Nat):Int)= (l:Int) - 1 by omega);have e0:(x%2==0)=true:=by simp;omega
 obtain⟨D,hD⟩:∃D:Nat,d+1=D:=⟨_,rfl⟩;have e2:¬(D:Int)=0:=by omega
 have e3:¬(l:Int) - 1 < 0:=by omega
 have hDd:IntKind.i64.wrap ((D:Int) - 1)= (d:Int):=by rw[AX _ (by omega)];omega
 have HDD:=Aa (show(D:Int) - 1= (d:Int)by omega);rw[hD];have kG1:=kG.st 0 (by simp) (.int .i64 ((l:Int) - 1));have gG:=grownBy.setCell w G 0 (.int .i64 ((l:Int) - 1));have KG1:=Aa kG1;have GG:=Aa gG;have IH:=Aa IH;have hGw:=kG.1;have HHD:=Aa hhd;clear kG1 gG hD hx hwx hpx hpe hat hok hhd hkids hkl hF htag htg hpp hle hd0 hd1 hkd;have ckG:=kG.2.1;have ykG:=kG.1;have zkG:=kG.2.2;go_enter Tryz.func134,Tryz.ntmps134;go_wp2_with fail;generalize hyy:Wa (Wa _ _) _=w2;obtain⟨b2,k4,k6,sx2⟩:=BV hyy;simp only[AP]at k4 k6 sx2;have g2:w.grownBy w2 (some G):=by rw[←hyy];exact(GG.out.trans' (De _ _ (some G))).trans' (De _ _ (some G))
 have hw2:=hw.trans' g2;have kG2:=KG1.out.below b2 KG1.out.1;simp only[List.setIfInBounds_toArray,List.set_cons_succ,List.set_cons_zero]at kG2;clear hyy b2 ckG ykG zkG KG1 GG sx2;have ckG2:=kG2.2.1;have ykG2:=kG2.1;have zkG2:=kG2.2.2;have ck6:=k6.2.1;have yk6:=k6.1;have zk6:=k6.2.2;have ck4:=k4.2.1;have yk4:=k4.1;have zk4:=k4.2.2;have cw2:=(HCW.out w2 hw2 p hplt).2;rw[HHD.out]at cw2;have hp0:(0:Int)≤ (p:Int):=by omega
 have hp1:(p:Int) < (zs.length:Int):=by omega
 refine(Eo _ _).mono ?_;rintro e w' ⟨rfl,rfl⟩;go_wp2_with (first | (go_at_call 132;refine(HX.out _).mono ?_;rintro e w' ⟨rfl,rfl⟩) | (go_at_call 131;refine(HP.out _ hw2).mono ?_;rintro e w' ⟨rfl,rfl⟩));refine(HOF.out _).mono ?_;rintro e w' ⟨rfl,rfl⟩;clear HX HP HOF cw2;clear ck4 yk4 zk4 ck6 yk6 zk6 ckG2 ykG2 zkG2;cases F with
 |true=>
  have hr:res=some (fnV,l - 1):=by rw[HBP.out,Af rfl]
  subst hr;have K6:=Aa k6;have KG4:=Aa kG2;have G4:=Aa g2;clear HBP kG2 g2 k4;have ck6:=k6.2.1;have yk6:=k6.1;have zk6:=k6.2.2;go_wp2;obtain⟨k7,g7⟩:=Bx.st4 K6.out (.int .i64 3) (.int .i64 0) (.string ⟨#[]⟩) (.slice none 0 0);have q7:=k7.2.1;refine Aq (v:= .tuple #[.agg #[.int .i64 3,.int .i64 0,.string ⟨#[]⟩,.slice none 0 0],.bool true]) ?_ rfl ⟨Dh G4.out g7 (AJ _),⟨.slice none 0 0,rfl,RdTv.leaf (u:=fnV) rfl none 0⟩,?_⟩
  ·simp[results,Tryz.results134,go_sem,q7]
  ·rw[HE4.out];exact KG4.out.grown g7 (fun e=>by have:=Am e;omega)
 |false=>
  have hrf:res=match CW ds tg kids.length with
    |none=>none
    |some s=>(BO (AK ds zs ps d) kids (l - 1)).map fun(q:List Vl×Nat)=>(.con s q.1,q.2):=by rw[HBP.out,Ae (by decide)]
  have HRF:=Aa hrf;have HTC:=Aa (UD ds (.slice la ds.length lc) tg _ w2 (T.d w2 hw2) T.hd htg1);clear hrf HBP;go_wp2_with fail;refine HTC.out.mono ?_;rintro e w5 ⟨rfl,rfl⟩;clear HTC htg1;obtain⟨o,ho⟩:∃o,BN ds tg=o:=⟨_,rfl⟩;cases o with
  |none=>
   have ht:tgI ds tg= (-1, -1):=by unfold tgI;rw[ho]
   have hr:res=none:=by rw[HRF.out];unfold CW;rw[ho]
   subst hr;rw[ht];dsimp only;have K6:=Aa k6;have G5:=Aa g2;clear HRF ht ho g2 k4;have ck6:=k6.2.1;have yk6:=k6.1;have zk6:=k6.2.2;go_wp2;obtain⟨k7,g7⟩:=Bx.st4 (w:=w5) (g:=w.heap.size+1) K6.out (.int .i64 0) (.int .i64 0) (.string ⟨#[]⟩) (.slice none 0 0);have q7:=k7.2.1;refine Aq (v:= .tuple #[.agg #[.int .i64 0,.int .i64 0,.string ⟨#[]⟩,.slice none 0 0],.bool false]) ?_ rfl ⟨Dh G5.out g7 (AJ _),rfl⟩;simp[results,Tryz.results134,go_sem,q7]
  |some q=>
   obtain⟨i,k⟩:=q;have ht:tgI ds tg= ((i:Int),(k:Int)):=by unfold tgI;rw[ho]
   obtain⟨hi,hk⟩:=G9 ho;have hcn:CW ds tg kids.length=if ds[i].cons[k].args.length=kids.length then some ds[i].cons[k].name else none:=by
    unfold CW;rw[ho];dsimp only;rw[Hb hi hk]
   have HCN:=Aa hcn;rw[ht];dsimp only;obtain⟨lb,lo,lcap,cv,hv, -,hlb, -, -, -,t2,hcr⟩:=(T.d w5 hw2).at_ hi;cases hv
   obtain⟨cb,co,ccap,av,hv2, -,hcb, -,d0,d1,har⟩:=hcr.at_ hk;subst hv2;obtain⟨aa,ac,rfl⟩:=har.form;have hi0:(0:Int)≤ (i:Int):=by omega
   have hin:¬(i:Int) < 0:=by omega
   have hi1:(i:Int) < (ds.length:Int):=by omega
   have hk0:(0:Int)≤ (k:Int):=by omega
   have hk1:(k:Int) < (ds[i].cons.length:Int):=by omega
   clear hcr har ht ho hcn;generalize ds[i].cons[k].name=nm at*;generalize ds[i].cons[k].args.length=al at*;generalize ds[i].cons.length=cl at*;by_cases hal:al=kids.length
   ·subst hal;have hne:((kids.length:Int) !=(kids.length:Int))=false:=by simp
    have HRR:=Aa (show res= (BO (AK ds zs ps d) kids (l - 1)).map fun(q:List Vl×Nat)=>(.con nm q.1,q.2)by rw[HRF.out,HCN.out,Af rfl]);have hG2:=g2;obtain⟨ti,hti,hz0,hz1,hz2⟩:=info_parts Tryz.infoVl;clear HRF HCN;go_wp2_with fail;generalize hyy:w5.alloc _=w6;obtain⟨b6,k13⟩:=Bx.alloc hyy;have kG6:=kG2.below b6 kG2.1;have k66:=k6.below b6 k6.1;have k46:=k4.below b6 k4.1;have g6:=g2.trans' (CX b6 (some G));have hsz6:w6.heap.size=w5.heap.size+1:=by rw[←hyy,Bo]
    have hGw5:w.heap.size+1 < w5.heap.size:=k6.1;clear hyy t2 d0 d1 hi0 hin hi1 hk0 hk1 hne b6 g2 hG2 kG2 k6 k4 hw2;obtain⟨B,hB⟩:∃B,w5.heap.size=B:=⟨_,rfl⟩;rw[hB]at k13 hsz6 hGw5 ⊢;clear hB;have K13:=Aa (KidR.start (M:=B+1) k13);have KG6:=Aa kG6;have K66:=Aa k66;have K46:=Aa k46;have G6:=Aa g6;clear k13 kG6 k66 g6 k46;go_wp2
    go_loopw [21] (fun i wr=>∃ (k:Nat) (us:List Vl) (l1:Nat) (kv:Value),i= .int .i64 (k+1:Nat)∧k≤kids.length∧Hid (us.length=k)∧l1≤4000∧Hid (BO (AK ds zs ps d) (kids.take k) (l - 1)=some (us,l1))∧KidR (B+1) B wr nm us kv∧
     Bx wr G #[.int .i64 l1]∧Bx wr (w.heap.size+1) #[.int .i64 0,.int .i64 0,.string ⟨#[]⟩,.slice none 0 0]∧Bx wr w.heap.size #[.slice (some ⟨hb0,ha,none⟩) zs.length hc,.int .i64 h,.int .i64 b,.int .i64 n]∧w.grownBy wr (some G)∧B+1≤wr.heap.size) (fun i _=>kids.length+1 - (intOf i).toNat)
    case atStart=>exact⟨0,[],l - 1,_,rfl,Ao _,Aa rfl,by omega,Aa rfl,K13.out,by rw[HE4.out];exact KG6.out,K66.out,K46.out,G6.out,by omega⟩
    case round=>
     clear K13 KG6 K66 G6 K46;obtain⟨k,us,l1,kv,rfl,hk,hul,hl1,hbk,kr,kGr,k6r,k4r,gr,hBr⟩:=hrel;obtain⟨ka,kc,rfl⟩:=kr.form;have hul1:us.length≤64:=by have:=hul.out;omega
     have KR:=Aa kr;have KGR:=Aa kGr;have K6R:=Aa k6r;have K4R:=Aa k4r;have GR:=Aa gr;obtain⟨k1,hk1e⟩:∃k1:Nat,k+1=k1:=⟨_,rfl⟩;rw[hk1e];by_cases hlt:k < kids.length
     ·have hkl:(k1:Int)≤ (kids.length:Int):=by omega
      have hbw:=(HCW.out wr (hw.trans' gr) p hplt).1;have hpk0:(0:Int)≤ (p:Int)+ (k1:Int):=by omega
      have hpk1:(p:Int)+ (k1:Int) < (zs.length:Int):=by omega
      have hpkw:IntKind.i64.wrap ((p:Int)+ (k1:Int))= ((p+k1:Nat):Int):=by rw[AX _ (by omega)];omega
      obtain⟨y,hy⟩:∃y,kids[k]=y:=⟨_,rfl⟩;have hvy:zs.getD ((p:Int)+ (k1:Int)).toNat 0=y:=by rw[show((p:Int)+ (k1:Int)).toNat=p+ (k+1)by omega,HKJ.out k hlt];exact hy
      have HCX:=Aa (fun(W:World) (hW:w0.grownBy W (some G))=>(by have:=(HCW.out W hW ((p:Int)+ (k1:Int)).toNat (by omega)).2;rw[hvy]at this;exact this:W.cell? ⟨hb0,ha+ ((p:Int)+ (k1:Int)).toNat,none⟩=some (.int .i64 y)));have hcell:=HCX.out wr (hw.trans' gr);clear hvy;have HY:=Aa (show kids=kids.take k++ [y]++kids.drop (k+1)by rw[←hy,GT hlt,Oj]);have HY2:=Aa (show kids.take (k+1)=kids.take k++ [y]by rw[←hy,GT hlt]);have HIA:=Aa (fun(W:World) (hb:Below wr.heap.size wr W)=>IH.out y l1 W hl1 ((hw.trans' GR.out).trans' (CX hb (some G))) (KGR.out.below hb KGR.out.1));clear kr kGr gr hy;have ck4r:=k4r.2.1;have yk4r:=k4r.1;have zk4r:=k4r.2.2;go_wp2_with fail;go_cut [22,23]from 104 to 120 (fun pt ok W=>∃ (g22:Nat) (k' n':Int) (s':ByteArray) (a':Option Addr) (l' c':Nat),pt= .pointer (some ⟨g22,0,none⟩)∧ok= .bool (AK ds zs ps d y l1).isSome∧wr.grownBy W (some G)∧wr.heap.size≤g22∧
       Bx W g22 #[.int .i64 k',.int .i64 n',.string s',.slice a' l' c']∧OcP (fun b=>wr.heap.size≤b) W ((AK ds zs ps d y l1).map Prod.fst) #[.int .i64 k',.int .i64 n',.string s',.slice a' l' c']∧(∀q,AK ds zs ps d y l1=some q→Bx W G #[.int .i64 q.2]))
      case first=>
       refine wp_region_held_drew (S:=(fun w'=>(∀j,w'.cell? ⟨w.heap.size,j,none⟩= #[.slice (some ⟨hb0,ha,none⟩) zs.length hc,.int .i64 h,.int .i64 b,.int .i64 n][j]?)∧w'.cell? ⟨hb0,ha+ ((p:Int)+ (k1:Int)).toNat,none⟩=some (.int .i64 y))) (by kernel_rfl) (by first | (dsimp only;exact⟨K4R.out.2.1,hcell⟩) | (exact⟨K4R.out.2.1,hcell⟩)) (fun hHeld=> ?_);refine tkH (i:=0) ?_;refine tkH (i:=1) ?_;refine tkH (i:=2) ?_;refine tkH (i:=3) ?_;refine tkH (i:=4) ?_;refine tkH (i:=5) ?_;refine tkH (i:=6) ?_;refine tkH (i:=7) ?_;refine tkH (i:=8) ?_;refine tkH (i:=9) ?_;refine tkH (i:=10) ?_;refine tkH (i:=11) ?_;refine tkH (i:=12) ?_;generalize hxd:wr.drew=x1 at hHeld;have hdx:Below wr.heap.size wr x1:=by rw[←hxd];exact(Ab _ _).drew
       have k41:=K4R.out.below hdx K4R.out.1;have hzx:=hdx.size;clear hxd;refine wpAnyH_ready (rs:=[13,17]) (by kernel_rfl) (by simp) ?_;refine AllReadyH.cons (by (simp only[List.getElem?_toArray,List.getElem?_cons_succ,List.getElem?_cons_zero];rfl)) (fun K hK=> ?_) (AllReadyH.cons (by (simp only[List.getElem?_toArray,List.getElem?_cons_succ,List.getElem?_cons_zero];rfl)) (fun K hK=> ?_) AllReadyH.nil)
       ·go_simp;refine(HIA.out x1 hdx).mono ?_;rintro e w7 hb7;obtain⟨k',n',s',a',l',c',rfl,g7,rt7,kg7⟩:=hb7.open;have gx7:wr.grownBy w7 (some G):=(CX hdx (some G)).trans' g7;have hz7:=g7.size;have k47:=k41.grown g7 (fun e=>by have:=Am e;omega);refine bkH hK (by first | (dsimp only;exact⟨k47.2.1,HCX.out w7 (hw.trans' (GR.out.trans' gx7))⟩) | (exact⟨k47.2.1,HCX.out w7 (hw.trans' (GR.out.trans' gx7))⟩)) (fun hHeld=> ?_);clear hK K;refine tkH (i:=14) ?_;refine tkH (i:=15) ?_;refine tkH (i:=16) ?_;refine rdH (i:=17) (fun K hK=> ?_);go_simp;generalize hy8:w7.alloc _=w8;obtain⟨b8,k8⟩:=Bx.alloc hy8;refine bkH hK (by first | (dsimp only;exact⟨(k47.below b8 k47.1).2.1,(b8.cell (p:=⟨hb0,ha+ ((p:Int)+ (k1:Int)).toNat,none⟩) (show hb0 < w7.heap.size by omega)).trans hHeld.2⟩) | (exact⟨(k47.below b8 k47.1).2.1,(b8.cell (p:=⟨hb0,ha+ ((p:Int)+ (k1:Int)).toNat,none⟩) (show hb0 < w7.heap.size by omega)).trans hHeld.2⟩)) (fun hHeld=> ?_);clear hK K;have hz78:=b8.size;have k48:=k47.below b8 k47.1;obtain⟨kz,gz⟩:=k8.st4 (.int .i64 k') (.int .i64 n') (.string s') (.slice a' l' c');have KZ:=Aa kz;have GZ:=Aa gz;clear hy8 kz gz k47;have ck8:=k8.2.1;have yk8:=k8.1;have zk8:=k8.2.2;refine rdH (i:=18) (fun K hK=> ?_);go_simp;refine bkH hK (by first | (dsimp only;exact⟨(k48.grown GZ.out (fun e=>by have:=Option.some.inj e;omega)).2.1,(GZ.out.cell_far ⟨hb0,ha+ ((p:Int)+ (k1:Int)).toNat,none⟩ (show hb0 < w8.heap.size by omega) (fun e=>by have h9:hb0=w7.heap.size:=Option.some.inj e;omega)).trans hHeld.2⟩) | (exact⟨(k48.grown GZ.out (fun e=>by have:=Option.some.inj e;omega)).2.1,(GZ.out.cell_far ⟨hb0,ha+ ((p:Int)+ (k1:Int)).toNat,none⟩ (show hb0 < w8.heap.size by omega) (fun e=>by have h9:hb0=w7.heap.size:=Option.some.inj e;omega)).trans hHeld.2⟩)) (fun hHeld=> ?_);clear hK K;refine tkH (i:=19) ?_;refine A2 (by kernel_rfl) ?_ _;clear ck8 yk8 zk8;generalize hxx:Ws _ _ _=wz at KZ GZ ⊢;clear hxx hHeld;go_wp2_with fail;go_meet;exact⟨_,k',n',s',a',l',c',rfl,rfl,Dh (gx7.trans' (CX b8 (some G))) GZ.out (by omega),by omega,KZ.out,rt7.later fun q hq hl=>⟨by omega,Ah hl (At hz78 GZ.out.size),(GZ.out.block q (by omega) (fun e=>by have:=Am e;omega)).trans (b8.block q hl)⟩,
         fun q e=>((kg7 q e).below b8 (kg7 q e).1).grown GZ.out (fun e=>by have:=Am e;omega)⟩
       ·go_simp;generalize hy8:x1.alloc _=x2;obtain⟨b8,k8⟩:=Bx.alloc hy8;have hz2:x2.heap.size=x1.heap.size+1:=by rw[←hy8,Bo]
        clear hy8;have hz78:=b8.size;have k42:=k41.below b8 k41.1;refine bkH hK (by first | (dsimp only;exact⟨k42.2.1,(b8.cell (p:=⟨hb0,ha+ ((p:Int)+ (k1:Int)).toNat,none⟩) (show hb0 < x1.heap.size by omega)).trans hHeld.2⟩) | (exact⟨k42.2.1,(b8.cell (p:=⟨hb0,ha+ ((p:Int)+ (k1:Int)).toNat,none⟩) (show hb0 < x1.heap.size by omega)).trans hHeld.2⟩)) (fun hHeld=> ?_);clear hK K
        try simp only[Act.put,List.setIfInBounds_toArray,List.set_cons_zero,List.set_cons_succ]
        have hb82:=b8;refine rdH (i:=13) (fun K hK=> ?_);go_simp;refine(HIA.out x2 (hdx.trans (b8.mono hzx))).mono ?_;rintro e w7 hb7;obtain⟨k',n',s',a',l',c',rfl,g7,rt7,kg7⟩:=hb7.open;have gx7:wr.grownBy w7 (some G):=(CX (hdx.trans (b8.mono hzx)) (some G)).trans' g7;have k47:=k42.grown g7 (fun e=>by have:=Am e;omega);refine bkH hK (by first | (dsimp only;exact⟨k47.2.1,HCX.out w7 (hw.trans' (GR.out.trans' gx7))⟩) | (exact⟨k47.2.1,HCX.out w7 (hw.trans' (GR.out.trans' gx7))⟩)) (fun hHeld=> ?_);clear hK K;refine tkH (i:=14) ?_;refine tkH (i:=15) ?_;refine tkH (i:=16) ?_;have hz7:=g7.size;have k87:=k8.grown g7 (fun e=>by have:=Am e;omega);obtain⟨kz,gz⟩:=k87.st4 (.int .i64 k') (.int .i64 n') (.string s') (.slice a' l' c');have KZ:=Aa kz;have GZ:=Aa gz;have HZ2:=Aa hz2;clear kz gz hz2;have ck87:=k87.2.1;have yk87:=k87.1;have zk87:=k87.2.2;refine rdH (i:=18) (fun K hK=> ?_);go_simp;refine bkH hK (by first | (dsimp only;exact⟨(k47.grown GZ.out (fun e=>by have:=Option.some.inj e;omega)).2.1,(GZ.out.cell_far ⟨hb0,ha+ ((p:Int)+ (k1:Int)).toNat,none⟩ (show hb0 < w7.heap.size by omega) (fun e=>by have h9:hb0=x1.heap.size:=Option.some.inj e;omega)).trans hHeld.2⟩) | (exact⟨(k47.grown GZ.out (fun e=>by have:=Option.some.inj e;omega)).2.1,(GZ.out.cell_far ⟨hb0,ha+ ((p:Int)+ (k1:Int)).toNat,none⟩ (show hb0 < w7.heap.size by omega) (fun e=>by have h9:hb0=x1.heap.size:=Option.some.inj e;omega)).trans hHeld.2⟩)) (fun hHeld=> ?_);clear hK K;refine tkH (i:=19) ?_;refine A2 (by kernel_rfl) ?_ _;clear ck87 yk87 zk87;generalize hxx:Ws _ _ _=wz at KZ GZ ⊢;clear hxx hHeld;have hz2:=HZ2.out;go_wp2_with fail;go_meet;exact⟨_,k',n',s',a',l',c',rfl,rfl,Dh gx7 GZ.out (by omega),by omega,KZ.out,rt7.later fun q hq hl=>⟨by omega,Ah hl GZ.out.size,GZ.out.block q hl (fun e=>by have:=Am e;omega)⟩,
         fun q e=>(kg7 q e).grown GZ.out (fun e=>by have:=Am e;omega)⟩
      case rest=>
       obtain⟨g22,k',n',s',a',l',c',rfl,rfl,gwc,hg22,kzz,hoc,hkg⟩:=hcut;have KZ:=Aa kzz;have RT7:=Aa hoc;have KG7:=Aa hkg;clear kzz hoc hkg;have GWZ:=Aa gwc;have k6z:=K6R.out.grown gwc (fun e=>by have:=Am e;omega);have K6Z:=Aa k6z;cases hr7:AK ds zs ps d y l1 with
       |none=>
        have hr:res=none:=by
         rw[HRR.out,HY.out,IR _ _ _ (by rw[Gg _ _ _ _ y hbk.out,hr7];rfl)];rfl
        subst hr;clear hr7 gwc hcell;have ck6z:=k6z.2.1;have yk6z:=k6z.1;have zk6z:=k6z.2.2;go_wp2;obtain⟨k7,g7'⟩:=Bx.st4 K6Z.out (.int .i64 0) (.int .i64 0) (.string ⟨#[]⟩) (.slice none 0 0);have q7:=k7.2.1;refine Aq (v:= .tuple #[.agg #[.int .i64 0,.int .i64 0,.string ⟨#[]⟩,.slice none 0 0],.bool false]) ?_ rfl ⟨Dh (GR.out.trans' GWZ.out) g7' (AJ _),rfl⟩;simp[results,Tryz.results134,go_sem,q7]
       |some q=>
        obtain⟨u,l2⟩:=q;rw[hr7]at RT7;have rtz0:=RT7.out;have kGz:=KG7.out _ hr7;have HBK:=Aa (show BO (AK ds zs ps d) (kids.take (k+1)) (l - 1)=some (us++ [u],l2)by
         rw[HY2.out,Gg _ _ _ _ y hbk.out,hr7];rfl)
        have hl2:l2≤4000:=by have:=Hc _ _ _ _ _ hr7;omega
        have krz:=KR.out.grown gwc (by omega) (by omega);have rtz:RdTv (fun b=>wr.heap.size≤b) wc u #[.int .i64 k',.int .i64 n',.string s',.slice a' l' c']:=by
         obtain⟨kv2,hkv2,r⟩:=rtz0;rw[hkv2];exact r
        obtain⟨ps',hps,hnext⟩:=krz.app (by omega) (fun q hq=>(KR.out.lt q hq).2) hBr rtz;have HPS:=Aa hps;have HNX:=Aa hnext;have KRZ:=Aa krz;have KGZ:=Aa kGz;have K4Z:=Aa (K4R.out.grown GWZ.out (fun e=>by have:=Am e;omega));have GALL:=Aa (GR.out.trans' GWZ.out);have zz:=GWZ.out.size;have kt:=krz.bt;have kq:Bx wc g22 #[.int .i64 k',.int .i64 n',.string s',.slice a' l' c']:=KZ.out;clear hr7 krz kGz rtz rtz0 hps hnext gwc hcell HIA k6z;have ckt:=kt.2.1;have ykt:=kt.1;have zkt:=kt.2.2;have ckq:=kq.2.1;have ykq:=kq.1;have zkq:=kq.2.2;go_wp2_with (at_builtin;refine Dw rfl _ _ 58 rfl (B+1) 60 ti (.agg #[.int .i64 0,.int .i64 0,.string ⟨#[]⟩,.slice none 0 0]) 4 56 Tryz.underlying58 hti hz0 hz1 hz2 rfl (by decide) _ _ _ (by rfl) HPS.out #[.int .i64 k',.int .i64 n',.string s',.slice a' l' c'] rfl (by simp[Value.oneCell']) wc.heap.size rfl (by rfl) (by unfold maxLen;omega) (by omega) (by omega) ?_);intro v9 w9 o9 g9 alt;obtain⟨a9,c9,rfl⟩:=AR o9;have HN:=Aa (HNX.out _ w9 o9 g9 (by
         rcases alt with e |e
         ·exact .inl e
         ·exact .inr ⟨_,e,by omega⟩))
        have kt9:=KRZ.out.bt.grown g9 (fun e=>by have:=(KRZ.out.lt _ e.symm).1;omega);have HG9:=Aa (Kr (b:=B) (j:=3) (u:= .slice a9 (us.length+1) c9) (Ks GALL.out g9 (fun q e=>by have:=(KRZ.out.lt q e).1;omega)) (by omega));have hlen:(us++ [u]).length=us.length+1:=by simp
        have KEEP:=Aa (fun(g:Nat) (cs:Array Value) (kk:Bx wc g cs) (h1:g≠B) (h2:g < B+1)=>kk.keep (HN.out.2.2 g kk.1 h1 (fun e=>by have:=(KRZ.out.lt _ e).1;omega)) HN.out.2.1);clear ckt ykt zkt ckq ykq zkq;clear o9 g9 alt HPS HNX;have ckt9:=kt9.2.1;have ykt9:=kt9.1;have zkt9:=kt9.2.2;go_wp2;go_roundw
        case rel=>
         refine⟨k+1,us++ [u],l2,_,by go_num,hlt,Aa (by rw[hlen,hul.out]),hl2,HBK,HN.out.1,KEEP.out _ _ KGZ.out (by omega) (by omega),KEEP.out _ _ K6Z.out (by omega) (by omega),KEEP.out _ _ K4Z.out (by omega) (by omega),HG9.out,?_⟩;have:=HN.out.2.1;omega
        case measure=>simp[intOf];omega
     ·obtain rfl:k=kids.length:=by omega
      have hnk:¬(k1:Int)≤ (kids.length:Int):=by omega
      have hr:res=some (.con nm us,l1):=by
       have:=hbk.out;rw[B8]at this;rw[HRR.out,this];rfl
      subst hr;have kt:=kr.bt;clear kr kGr gr k4r;have ckt:=kt.2.1;have ykt:=kt.1;have zkt:=kt.2.2;have ck6r:=k6r.2.1;have yk6r:=k6r.1;have zk6r:=k6r.2.2;go_wp2;obtain⟨k7,g7⟩:=Bx.st4 K6R.out (.int .i64 2) (.int .i64 0) (.string nm) (.slice ka us.length kc);have q7:=k7.2.1;refine Aq (v:= .tuple #[.agg #[.int .i64 2,.int .i64 0,.string nm,.slice ka us.length kc],.bool true]) ?_ rfl ⟨Dh GR.out g7 (AJ _),⟨.slice ka us.length kc,rfl,(KR.out.done.grown g7 (by omega)).later fun q hq hl=>⟨by omega,hl,rfl⟩⟩,KGR.out.grown g7 (fun e=>by have:=Am e;omega)⟩;simp[results,Tryz.results134,go_sem,q7]
   ·have hr:res=none:=by rw[HRF.out,HCN.out,Ae hal]
    subst hr;have hne:((al:Int) !=(kids.length:Int))=true:=by simp;omega
    have K6:=Aa k6;have G5:=Aa g2;clear HRF HCN g2 hal k4;have ck6:=k6.2.1;have yk6:=k6.1;have zk6:=k6.2.2;go_wp2;obtain⟨k7,g7⟩:=Bx.st4 (w:=w5) (g:=w.heap.size+1) K6.out (.int .i64 0) (.int .i64 0) (.string ⟨#[]⟩) (.slice none 0 0);have q7:=k7.2.1;refine Aq (v:= .tuple #[.agg #[.int .i64 0,.int .i64 0,.string ⟨#[]⟩,.slice none 0 0],.bool false]) ?_ rfl ⟨Dh G5.out g7 (AJ _),rfl⟩;simp[results,Tryz.results134,go_sem,q7]
theorem Kt (T:Bkr w0 G ds zs ps h b n (.slice la ds.length lc) pv (.slice (some ⟨hb0,ha,none⟩) zs.length hc)):
  ∀ (d:Nat) (x:Int) (l:Nat) (w:World),d≤200→l≤4000→w0.grownBy w (some G)→Bx w G #[.int .i64 l]→
  Calls Pq 134 #[.pointer (some ⟨G,0,none⟩),.slice la ds.length lc,.agg #[.slice (some ⟨hb0,ha,none⟩) zs.length hc,.int .i64 h,.int .i64 b,.int .i64 n],pv,.int .i64 x,.int .i64 d] w (BkR w G (fun l=> #[.int .i64 l]) (AK ds zs ps d x l))
 |0,x,l,w,h1,h2,hw,kG=>IS T 0 x l w h1 h2 hw kG (.inl rfl) _
 |d+1,x,l,w,h1,h2,hw,kG=>by
  by_cases h0:l=0
  ·rw[show AK ds zs ps (d+1) x l=none by unfold AK;rw[Af h0]];exact IS T (d+1) x l w h1 h2 hw kG (.inr (.inl h0)) _
  by_cases hx:x%2=0
  ·cases hwx:AA ps x with
   |false=>
    rw[show AK ds zs ps (d+1) x l=none by unfold AK;rw[Ae h0,Af hx,Ae (by rw[hwx];decide)]];exact IS T (d+1) x l w h1 h2 hw kG (.inr (.inr ⟨hx,hwx⟩)) _
   |true=>exact OD T d x hx hwx l w h1 h2 h0 hw kG (fun y l' W g2 gw gk=>Kt T d y l' W (by omega) g2 gw gk)
  ·rw[show AK ds zs ps (d+1) x l=some (.int (x/2),l - 1)by unfold AK;rw[Ae h0,Ae hx]];exact OC T d x hx l w h1 h2 h0 hw kG
end
def OH (u:Value) (bl at_ m:Nat):Prop:=∃a k c,u= .slice a k c∧k=m∧(m=0∨a=some ⟨bl,at_,none⟩)
theorem OI {B:Nat}(bl off cap:Nat) (ws:List Int) (h b n:Int) (p:Nat) (w:World) (hr:Rd B .i64 w (.slice (some ⟨bl,off,none⟩) ws.length cap) ws) (hw:EI ws) (hh:hOk (ws.getD p 0)=true) (hfit:p+1+hK (ws.getD p 0)≤ws.length) (hlen:ws.length≤4294967296):
  Calls Pq 190 #[.agg #[.slice (some ⟨bl,off,none⟩) ws.length cap,.int .i64 h,.int .i64 b,.int .i64 n],.int .i64 p] w fun e w'=>
   ∃u,e= .returned (.tuple #[.bool (Ej (ws.getD p 0)),.int .i64 (BU (ws.getD p 0)),u])∧OH u bl (off+ (p+1)) (hK (ws.getD p 0))∧Below w.heap.size w w':=by
 rcases hr with ⟨hnil,_⟩ |⟨bl',off',cap',hv,hB,hbs,hm,hc⟩
 ·rw[hnil]at hfit;simp at hfit
 cases hv
 obtain⟨hm1,hm2⟩:=hm;have c2:=hc p (by omega);obtain⟨x,hxx⟩:∃x,ws.getD p 0=x:=⟨_,rfl⟩;have hx:=hw p;rw[hxx]at hx hh hfit c2 ⊢;obtain⟨hx0,hx1⟩:=hx;have HX:=Aa hxx;have hkn:=FP x;have HKN:=Aa hkn;have hkb:=DY x;rw[←hkn]at hkb;obtain⟨hkb1,hkb2⟩:=hkb;clear hxx hkn hw hc;by_cases hcp:cap=p+1
 ·have h0:hK x=0:=by omega
  subst hcp;go_enter Tryz.func190,Tryz.ntmps190;go_wp2_with fail;refine(Gw _ _ hh hx1).mono ?_;rw[←HKN.out];rintro e w' ⟨rfl,rfl⟩;go_wp2_with fail;go_quiet (fail);go_wp2
  go_ret3
  exact⟨_,rfl,⟨_,_,_,rfl,by omega,.inl (by omega)⟩,AM ((Ab _ _).alloc (Ad _) _) _⟩
 ·go_enter Tryz.func190,Tryz.ntmps190;go_wp2_with fail;refine(Gw _ _ hh hx1).mono ?_;rw[←HKN.out];rintro e w' ⟨rfl,rfl⟩;go_wp2_with fail;go_quiet (fail);go_wp2
  go_ret3
  exact⟨_,rfl,⟨_,_,_,rfl,by omega,.inr rfl⟩,AM ((Ab _ _).alloc (Ad _) _) _⟩
end Go.Proofs.YtifhcbeaiijkcaaGreat
