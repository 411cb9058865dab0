/- Parts of the proof of FnDepthsHold, FnEnds, FnMeant, FnMovedWhenever, FnSizes. -/
import Derived.Test.YtfmebaafpfkeiaaGreatY15
import Derived.Test.YtfmebaafpfkeiaaGreatY14
import Derived.Test.YtfmebaafpfkeiaaGreatY11
import Derived.Test.YtfmebaafpfkeiaaGreatY12
import Derived.Test.YtfmebaafpfkeiaaGreatY13
set_option linter.unusedVariables false
set_option linter.unusedSimpArgs false
set_option maxRecDepth 1000000
set_option maxHeartbeats 16000000
namespace Go.Proofs.YtfmebaafpfkeiaaGreat
open Go.RowKit
theorem M0 {B:Nat}(v:Value) (fs:List F2) (w:World) (hr:RdF B w v fs) (hf:∀x∈fs,Gv x) (hlen:fs.length≤4294967296):
  Calls Tryz.prog 52 #[v] w fun e w'=>e= .returned (.bool (A3 fs))∧Below w.heap.size w w':=by
 have HR:=Lib.hid (fun(W:World) (hb:Below w.heap.size w W)=>hr.below' hb);have HF:=Lib.hid hf;have HI:=Lib.hid (fun(a b c:Int) (W:World)=>AT a b c W);by_cases hq:inB (fs.length:Int) 1 60=true
 ·have hl:=Aw.1 hq;have h0:0 < fs.length:=by omega
  obtain⟨b,off,cap,lv,rfl,hB,hbs,hcap,q0,q1,ro⟩:=hr.at_ h0;obtain⟨la,lc,rfl⟩:=ro.form;have hz:fs[0]=fs.getD 0 fn0:=(DJ h0).symm;rw[hz]at q0;obtain⟨F,hF⟩:∃F,(fs.getD 0 fn0).f=F:=⟨_,rfl⟩;rw[hF]at q0;rw[Nat.zero_mul,Nat.add_zero]at q0;have h0i:(0:Int) < (fs.length:Int):=by omega
  by_cases hF0:F=0
  ·subst hF0;have HH:=Lib.hid (show(inB (fs.length:Int) 1 60&& ((fs.getD 0 fn0).f==0))=true by rw[hq,hF];rfl);clear hr hf hF hz ro q1;go_enter Tryz.func52,Tryz.ntmps52;go_wp2_with (go_at_call 54;refine(AT _ _ _ _).mono ?_;rw[hq];rintro e w' ⟨rfl,rfl⟩);clear q0
   go_loopw [23] (fun i wr=>∃k:Nat,k≤fs.length∧i= .int .i64 k∧Below w.heap.size w wr∧Hid (∀j (h:j < fs.length),j < k→DI fs[j]=true)) (fun i _=>fs.length - (intOf i).toNat)
   case atStart=>exact⟨0,Nat.zero_le _,rfl,Below.refl _ _,Lib.hid (fun j _ h=>absurd h (by omega))⟩
   case round=>
    obtain⟨k,hk,rfl,hb,hd⟩:=hrel;by_cases hlt:k < fs.length
    ·obtain⟨b',off',cap',lv',hs,_,hbs',_,c0,c1,ro⟩:=(HR.out _ hb).at_ hlt;cases hs
     obtain⟨la',lc',rfl⟩:=ro.form;have hkl:(k:Int) < (fs.length:Int):=by omega
     obtain⟨x,hx⟩:∃x,fs[k]=x:=⟨_,rfl⟩;obtain⟨q3,hq3⟩:∃q,inB x.f 0 20=q:=⟨_,rfl⟩;obtain⟨q4,hq4⟩:∃q,inB (x.os.length:Int) 1 3000=q:=⟨_,rfl⟩;rw[hx]at c0 c1;have HX:=Lib.hid hx;have HB:=Lib.hid hb;clear hx ro hb;cases q3
     ·have HBAD:=Lib.hid (MY hlt (by rw[HX.out];unfold DI;rw[hq3];rfl));go_wp2_with (go_at_call 54;refine(AT _ _ _ _).mono ?_;simp only[hq3];rintro e w' ⟨rfl,rfl⟩);go_ret;exact⟨Aq HBAD.out.symm,HB.out.alloc HB.out.size _⟩
     cases q4
     ·have HBAD:=Lib.hid (MY hlt (by rw[HX.out];unfold DI;rw[hq3,hq4];rfl));go_wp2_with (go_at_call 54;refine(AT _ _ _ _).mono ?_;simp only[hq3,hq4];rintro e w' ⟨rfl,rfl⟩);go_ret;exact⟨Aq HBAD.out.symm,HB.out.alloc HB.out.size _⟩
     ·go_wp2_with (go_at_call 54;refine(AT _ _ _ _).mono ?_;simp only[hq3,hq4];rintro e w' ⟨rfl,rfl⟩);go_roundw
      case rel=>exact⟨k+1,hlt,by go_num,HB.out.alloc HB.out.size _,Lib.hid (fun j h hj=>by
       by_cases e:j=k
       ·subst e;rw[HX.out];unfold DI;rw[hq3,hq4];rfl
       ·exact hd.out j h (by omega))⟩
      case measure=>simp[intOf];omega
    ·obtain rfl:k=fs.length:=by omega
     have HB:=Lib.hid hb;clear hb;go_wp2
     go_loopw [41] (fun i wr=>∃k:Nat,k≤fs.length∧i= .int .i64 k∧Below w.heap.size w wr∧Hid (∀j,j < k→Dp fs j=true)) (fun i _=>fs.length - (intOf i).toNat)
     case atStart=>exact⟨0,Nat.zero_le _,rfl,HB.out,Lib.hid (fun j h=>absurd h (by omega))⟩
     case round=>
      clear HB;obtain⟨k,hk,rfl,hb,hd2⟩:=hrel;by_cases hlt:k < fs.length
      ·obtain⟨b',off',cap',lv',hs,_,hbs',_,c0,c1,ro⟩:=(HR.out _ hb).at_ hlt;cases hs
       obtain⟨la',lc',rfl⟩:=ro.form;have hkl:(k:Int) < (fs.length:Int):=by omega
       have hhd:=hd.out k hlt hlt;unfold DI at hhd;rw[Bool.and_eq_true]at hhd;have hh1:=Aw.1 hhd.1;have hh2:=Aw.1 hhd.2;have hoi:=(HF.out _ (List.getElem_mem hlt)).2;have HO:=Lib.hid (fun(W:World) (hb:Below w.heap.size w W) (o:O3) (ho:FU o)=>YQ _ fs k o W (HR.out W hb) hlt ho hh1 (by omega) (by omega));have HOI:=Lib.hid hoi;obtain⟨x,hx⟩:∃x,fs[k]=x:=⟨_,rfl⟩;rw[hx]at c0 c1 ro hh2;have HOX:=Lib.hid (by rw[hx]at hoi;exact hoi:∀o∈x.os,FU o);have HX:=Lib.hid hx;have RO:=Lib.hid (fun(W:World) (h:Below wr.heap.size wr W)=>RdE.below' ro h);have HB:=Lib.hid hb;have hbz:=hb.size;clear hx hb hhd hh1 hoi ro;go_wp2_with fail;clear c0 c1;generalize hz:wr.alloc _=z;obtain⟨bz,kz⟩:=Bx.alloc hz;clear hz;have BZ:=Lib.hid bz;have KZ:=Lib.hid kz;have hzz:=bz.size;clear bz kz
       go_loopw [49] (fun i wy=>∃t:Nat,t≤x.os.length∧i= .int .i64 t∧Below z.heap.size z wy∧Hid (∀j (h:j < x.os.length),j < t→Ei fs k x.os[j]=true)) (fun i _=>x.os.length - (intOf i).toNat)
       case atStart=>exact⟨0,Nat.zero_le _,rfl,Below.refl _ _,Lib.hid (fun j _ h=>absurd h (by omega))⟩
       case round=>
        obtain⟨t,ht,rfl,hb,hd3⟩:=hrel;have hbr:=BZ.out.trans (hb.mono BZ.out.size);have hbw:=HB.out.trans (hbr.mono hbz);by_cases htl:t < x.os.length
        ·obtain⟨bo,offo,capo,hso,_,hbso,_,d0,d1,d2⟩:=RdO.at_ (RO.out _ hbr) htl;cases hso
         have htt:(t:Int) < (x.os.length:Int):=by omega
         have hoo:=HOX.out _ (List.getElem_mem htl);obtain⟨q5,hq5⟩:∃q,Ei fs k x.os[t]=q:=⟨_,rfl⟩;have ho:=fun(W:World) (hb:Below w.heap.size w W)=>HO.out W hb x.os[t] hoo;rw[hq5]at ho;have HO5:=Lib.hid ho;have HQ5:=Lib.hid hq5;have HB3:=Lib.hid hb;have HBW:=Lib.hid hbw;clear ho hq5 hoo hb hbr hbw;go_wp2_with fail;refine(HO5.out _ (HBW.out.alloc HBW.out.size _)).mono ?_;rintro e w9 ⟨rfl,b9⟩;have b9z:Below z.heap.size z w9:=(HB3.out.alloc HB3.out.size _).trans (b9.mono (by simp;have:=HB3.out.size;omega));have B9:=Lib.hid b9z;have BW9:=Lib.hid ((HBW.out.alloc HBW.out.size _).trans (b9.mono (by simp;have:=HBW.out.size;omega)));clear b9 b9z d0 d1 d2 HB3 HBW HO5;cases q5
         ·have HBAD:=Lib.hid (MZ hlt (U8 hlt (by rw[HX.out];exact htl) (by have:=HQ5.out;simp only[HX.out];exact this)));go_wp2;go_ret;exact⟨Aq HBAD.out.symm,BW9.out⟩
         ·go_wp2;go_roundw
          case rel=>exact⟨t+1,htl,by go_num,B9.out,Lib.hid (fun j h hj=>by
           by_cases e:j=t
           ·subst e;exact HQ5.out
           ·exact hd3.out j h (by omega))⟩
          case measure=>simp[intOf];omega
        ·obtain rfl:t=x.os.length:=by omega
         obtain⟨E,hE⟩:∃E:Nat,x.os.length - 1=E:=⟨_,rfl⟩;have hEl:E < x.os.length:=by omega
         obtain⟨bo,offo,capo,hso,_,hbso,_,d0,_,_⟩:=RdO.at_ (RO.out _ hbr) hEl;cases hso
         have e1:IntKind.i64.wrap ((x.os.length:Int) - 1)= (E:Int):=by rw[IntWalk.i64_in _ (by omega)];omega
         have e2:(E:Int) < (x.os.length:Int):=by omega
         have kz:=KZ.out.below hb KZ.out.1;have qz:=kz.2.1;have yz:=kz.1;obtain⟨C,hC⟩:∃C,x.os[E].c=C:=⟨_,rfl⟩;rw[hC]at d0;have hlc:FI x=C:=by
          obtain⟨_,h2⟩:=Vc (x:=x) rfl (by omega);rw[←h2,←hC];simp only[hE]
         have HLC:=Lib.hid hlc;have HB3:=Lib.hid hb;have HBW:=Lib.hid hbw;have HD3:=hd3;clear hC hlc hE hb hbr hbw kz;by_cases hC:C=7∨C=19∨C=21
         ·have HYES:=Lib.hid (Vb hlt (fun j hj=>by
           have h1:j < x.os.length:=by rw[←HX.out];exact hj
           have h2:=HD3.out j h1 h1;simp only[HX.out];exact h2) (by rw[HX.out];unfold Gw;rw[HLC.out];rcases hC with rfl |rfl |rfl <;> rfl))
          rcases hC with rfl |rfl |rfl
          all_goals go_wp2
          all_goals go_roundw
          all_goals first
           |exact⟨k+1,hlt,by go_num,HBW.out,Lib.hid (fun j hj=>by
             by_cases e:j=k
             ·subst e;exact HYES.out
             ·exact hd2.out j (by omega))⟩
           | (simp[intOf];omega)
         ·have HBAD:=Lib.hid (MZ hlt (U9 hlt (by rw[HX.out];unfold Gw;rw[HLC.out];simp;omega)));have n1:(C !=7)=true:=by simp;omega
          have n2:(C !=19)=true:=by simp;omega
          have n3:(C !=21)=true:=by simp;omega
          have n4:C≠7:=by omega
          have n5:C≠19:=by omega
          have n6:C≠21:=by omega
          clear hC;go_wp2;go_ret;exact⟨Aq HBAD.out.symm,HBW.out⟩
      ·obtain rfl:k=fs.length:=by omega
       have HYES:=Lib.hid (Va HH.out (fun j h=>hd.out j h h) (fun j hj=>hd2.out j hj));go_wp2;go_ret;exact⟨Aq HYES.out.symm,hb⟩
  ·have HH:=Lib.hid (MX (fs:=fs) (by rw[hF];simp[hF0]));have hFn:(F !=0)=true:=by simp[hF0]
   clear hr hf hF hz ro q1;go_enter Tryz.func52,Tryz.ntmps52;go_wp2_with (go_at_call 54;refine(AT _ _ _ _).mono ?_;rw[hq];rintro e w' ⟨rfl,rfl⟩);go_ret;exact⟨Aq HH.out.symm,Below.refl _ _⟩
 ·have hq:inB (fs.length:Int) 1 60=false:=by simpa using hq
  have HH:=Lib.hid (MX (fs:=fs) (by rw[hq];rfl));obtain⟨a,cap,rfl⟩:=hr.form;clear hr hf;go_enter Tryz.func52,Tryz.ntmps52;go_wp2_with (go_at_call 54;refine(AT _ _ _ _).mono ?_;rw[hq];rintro e w' ⟨rfl,rfl⟩);go_ret;exact⟨Aq HH.out.symm,Below.refl _ _⟩
def am (xs:List Int) (e:Ending):Prop:=∃r:Int,e= .returned (.int .i64 r)∧(0≤r↔xs.all A4=false)
theorem an {xs:List Int}{x:Int}{k:Nat}(hk:k < xs.length) (hx:xs.getD k 0=x) (h:A4 x=false):xs.all A4=false:=by
 rw[List.all_eq_false];exact⟨x,JZ hk hx,by rw[h];simp⟩
theorem ao {xs:List Int}(h:∀j,j < xs.length→A4 (xs.getD j 0)=true):xs.all A4=true:=by
 rw[List.all_eq_true];intro x hx;obtain⟨i,hi,he⟩:=List.getElem_of_mem hx;have:=h i hi
 simpa [List.getD,List.getElem?_eq_getElem hi,he] using this
theorem aq {xs:List Int}{k:Nat}(h:∀j,j < k→A4 (xs.getD j 0)=true) (he:A4 (xs.getD k 0)=true):∀j,j < k+1→A4 (xs.getD j 0)=true:=by
 intro j hj;by_cases e:j=k
 ·subst e;exact he
 ·exact h j (by omega)
theorem aS9 (x:Int) (w:World):
  Calls Tryz.prog 57 #[.int .i64 x] w fun e w'=>e= .returned (.bool (!A4 x))∧w=w':=by
 go_enter Tryz.func57,Tryz.ntmps57;go_wp2_with (go_at_call 58;refine(CF _ _).mono ?_;rintro e w' ⟨rfl,rfl⟩);go_ret;exact⟨rfl,rfl⟩
theorem au {B:Nat}(u:Value) (xs:List Int) (w:World) (hu:Rd B .i64 w u xs):
  Calls Tryz.prog 124 #[u,.func (.func 57) #[] #[]] w fun e w'=>am xs e∧w=w':=by
 have hx:=hu.len;unfold maxLen at hx;have HF:=Lib.hid (fun x=>aS9 x w);rcases hu with ⟨rfl,a,cap,rfl⟩ |⟨b,off,cap,rfl,hB,hbs,hm,hc⟩
 ·go_enter Tryz.func124,Tryz.ntmps124;go_wp2;refine wp_loop_rounds 1 ?_;rw[rounds_succ];go_wp2;go_ret;exact⟨⟨-1,rfl,by simp⟩,rfl⟩
 ·go_enter Tryz.func124,Tryz.ntmps124;go_wp2
  go_loop [5,8] (fun _ i=>∃k:Nat,k≤xs.length∧i= .int .i64 k∧Hid (∀j,j < k→A4 (xs.getD j 0)=true)) (fun _ i=>xs.length - (intOf i).toNat)
  case atStart=>exact⟨0,Nat.zero_le _,rfl,fun j hj=>by omega⟩
  case round=>
   obtain⟨k,hk,rfl,hd⟩:=hrel;by_cases hlt:k < xs.length
   ·have c1:=hc k hlt;obtain⟨x,hx⟩:∃x,xs.getD k 0=x:=⟨_,rfl⟩;rw[hx]at c1;have HX:=Lib.hid hx;clear hc hx;cases he:A4 x
    ·go_wp2_with fail;refine(HF.out x).mono ?_;rintro e w' ⟨rfl,rfl⟩;rw[he];go_wp2;go_ret;exact⟨⟨k,rfl,by simp only[Int.natCast_nonneg,true_iff];exact an hlt HX.out he⟩,rfl⟩
    ·go_wp2_with fail;refine(HF.out x).mono ?_;rintro e w' ⟨rfl,rfl⟩;rw[he];go_wp2
     go_round
     case rel=>exact⟨k+1,hlt,by go_num,aq hd.out (by rw[HX.out];exact he)⟩
     case measure=>simp[intOf];omega
   ·go_wp2;go_ret;exact⟨⟨-1,rfl,⟨fun h=>by omega,fun h=>by rw[ao (fun j hj=>hd.out j (by omega))]at h;cases h⟩⟩,rfl⟩
theorem aw {B:Nat}(u:Value) (xs:List Int) (w:World) (hu:Rd B .i64 w u xs):
  Calls Tryz.prog 56 #[u,.func (.func 57) #[] #[]] w fun e w'=>e= .returned (.bool (!xs.all A4))∧w=w':=by
 have HI:=Lib.hid (au u xs w hu);clear hu;go_enter Tryz.func56,Tryz.ntmps56;go_wp2_with fail;refine HI.out.mono ?_;rintro e w' ⟨⟨r,rfl,hr⟩,rfl⟩;have HR:=Lib.hid hr;clear hr;go_wp2
 all_goals go_ret
 all_goals exact⟨Aq (by have:=HR.out;rw[Bool.eq_iff_iff];simp only[decide_eq_true_iff,Bool.not_eq_true'];exact this),rfl⟩
def vmOk (L:VmL):Bool:=A3 L.fs&& (AW L.zs L.h L.b L.n L.ss&& (decide (L.ss.length≤600)&& (inB L.code 0 5&& (BY L.fs L.ss.length L.cs L.code&& L.os.all A4))))
theorem Ja {B:Nat}(fv hv sv cv ov:Value) (L:VmL) (w:World) (hr:RdV B w fv hv sv cv ov L) (hi:EQ L) (hl:CA L≤1048576):
  Calls Tryz.prog 17 #[vmV fv hv sv cv ov L] w fun e w'=>e= .returned (.bool (vmOk L))∧Below w.heap.size w w':=by
 have hcl:=fun(W:World) (hb:Below w.heap.size w W)=>Qj fv hv sv cv ov L W (hr.below' hb) hl;obtain⟨fs,zs,h,b,n,ss,cs,os,code,each⟩:=L;obtain⟨if_,iz,ih,ib,in_,is,_,hio,hcd⟩:=hi;dsimp only at if_ iz ih ib in_ is hio hcd hcl;unfold CA at hl;dsimp only at hl;have hfn:=fun(W:World) (hb:Below w.heap.size w W)=>M0 fv fs W (hr.f.below' hb) if_ (by omega);have hro:=fun(W:World) (hb:Below w.heap.size w W)=>KJ hv sv zs ss h b n W (hr.z.below' hb) iz (by omega) (hr.s.below' hb) ih ib in_;have hco:=fun(W:World) (hb:Below w.heap.size w W)=>aw ov os W (hr.o.below' hb);obtain⟨fa,fc,rfl⟩:=hr.f.form;obtain⟨ha,hc,rfl⟩:=hr.z.form;obtain⟨sa,sc,rfl⟩:=hr.s.form;obtain⟨ca,cc,rfl⟩:=hr.c.form;obtain⟨oa,oc,rfl⟩:=hr.o.form;clear hr if_ iz ih ib in_ is hio hcd;unfold vmV at hcl ⊢;unfold vmOk;dsimp only at hcl ⊢;obtain⟨q1,hq1⟩:∃q,A3 fs=q:=⟨_,rfl⟩;obtain⟨q2,hq2⟩:∃q,AW zs h b n ss=q:=⟨_,rfl⟩;obtain⟨q3,hq3⟩:∃q,decide (ss.length≤600)=q:=⟨_,rfl⟩;obtain⟨q4,hq4⟩:∃q,inB code 0 5=q:=⟨_,rfl⟩;obtain⟨q5,hq5⟩:∃q,BY fs ss.length cs code=q:=⟨_,rfl⟩;obtain⟨q6,hq6⟩:∃q,os.all A4=q:=⟨_,rfl⟩;rw[hq1]at hfn;rw[hq2]at hro;rw[hq5]at hcl;rw[hq6]at hco;rw[hq1,hq2,hq3,hq4,hq5,hq6];have HQ3:=Lib.hid hq3;have HF:=Lib.hid hfn;have HRO:=Lib.hid hro;have HW:=Lib.hid (fun(W:World)=>(by have:=AT code 0 5 W;rw[hq4]at this;exact this:Calls Tryz.prog 54 #[.int .i64 code,.int .i64 0,.int .i64 5] W _));have HC:=Lib.hid hcl;have HO:=Lib.hid hco;clear hq1 hq2 hq3 hq4 hq5 hq6 hfn hro hcl hco;go_enter Tryz.func17,Tryz.ntmps17;go_wp2_with fail;generalize hx:w.alloc _=x;obtain⟨bb,k1⟩:=Bx.alloc hx;clear hx;have ck1:=k1.2.1;have yk1:=k1.1;go_wp2_with fail;refine(HF.out _ bb).mono ?_;rintro e w1 ⟨rfl,b1⟩;clear ck1 yk1;replace k1:=k1.below b1 k1.1;replace bb:=bb.trans (b1.mono bb.size);clear b1;cases q1
 ·go_wp2;go_ret;exact⟨rfl,bb⟩
 have ck1:=k1.2.1;have yk1:=k1.1;go_wp2_with fail;refine(HRO.out _ bb).mono ?_;rintro e w2 ⟨rfl,b2⟩;clear ck1 yk1;replace k1:=k1.below b2 k1.1;replace bb:=bb.trans (b2.mono bb.size);clear b2;have ck1:=k1.2.1;have yk1:=k1.1;cases q2
 ·go_wp2;go_ret;exact⟨rfl,bb⟩
 cases q3
 case true=>
  have h3i:(ss.length:Int)≤600:=by have:=of_decide_eq_true HQ3.out;omega
  go_wp2_with fail;refine(HW.out _).mono ?_;rintro e w3 ⟨rfl,rfl⟩;cases q4
  ·go_wp2;go_ret;exact⟨rfl,bb⟩
  go_wp2_with fail;refine(HC.out _ bb).mono ?_;rintro e w4 ⟨rfl,b4⟩;clear ck1 yk1;replace k1:=k1.below b4 k1.1;replace bb:=bb.trans (b4.mono bb.size);clear b4;have ck1:=k1.2.1;have yk1:=k1.1;cases q5
  ·go_wp2;go_ret;exact⟨rfl,bb⟩
  go_wp2_with fail;refine(HO.out _ bb).mono ?_;rintro e w5 ⟨rfl,rfl⟩;cases q6
  ·go_wp2;go_ret;exact⟨rfl,bb⟩
  ·go_wp2;go_ret;exact⟨rfl,bb⟩
 case false=>
  have h3i:¬((ss.length:Int)≤600):=by have:=of_decide_eq_false HQ3.out;omega
  go_wp2;go_ret;exact⟨rfl,bb⟩
def Ag (c m:Int):Int:=
 if c=5∨c=8 then m else if c=6∨c=12∨c=13∨c=14∨c=15∨c=16∨c=20 then 2 else if c=7∨c=10∨c=11∨c=18∨c=9∨c=17 then 1 else 0
def A0 (c:Int):Int:=
 if c=7∨c=10∨c=11∨c=18∨c=19∨c=21 then 0 else if 1≤c∧c≤21 then 1 else 0
def Fu (o:O3) (d:Int):Bool:=(decide (d - 1 < Ag o.c o.m) || (decide (o.c=2)&& decide (d≤o.n))) || (decide (60 < d - Ag o.c o.m+A0 o.c) || (decide (o.c=7)&& decide (d≠2)))
def Hr (o:O3) (d:Int):Int:=d - Ag o.c o.m+A0 o.c
def fol (o:O3) (p:Int):List Int:=
 if o.c=7∨o.c=21 then []else if o.c=19 then [o.n]else if o.c=10∨o.c=11 then [p+1,o.m]else if o.c=18 then [p+1,o.n]else [p+1]
def dIn (d:Int):List Int→List Int→List Int→Option (Option (List Int×List Int))
 | [],out,todo=>some (some (out,todo))
 |q::l,out,todo=>if 0≤q∧q < out.length then(if out.getD q.toNat 0 < 0 then dIn d l (out.set q.toNat d) (todo++ [q])else if out.getD q.toNat 0=d then dIn d l out todo else some none)else none
def CY (todo:List Int):Int:=todo.getD (todo.length - 1) 0
def opT (os:List O3) (p:Int):O3:=os.getD p.toNat ⟨0,0,0⟩
def dOk (os:List O3) (out todo:List Int):Bool:=
 (decide (out.length=os.length∧os.length≤3000)&& decide (todo.length≤100000))&& (decide (0≤CY todo∧CY todo < os.length)&& decide (1≤out.getD (CY todo).toNat 0∧out.getD (CY todo).toNat 0≤60))
def Fv (fl:O3→Int→List Int) (os:List O3):Nat→List Int→List Int→Option (Option (List Int))
 |0,_,_=>none
 |f+1,out,todo=>if todo.length=0 then some (some out)else
  if dOk os out todo then
   (if Fu (opT os (CY todo)) (out.getD (CY todo).toNat 0)then some none else
   match dIn (Hr (opT os (CY todo)) (out.getD (CY todo).toNat 0)) (fl (opT os (CY todo)) (CY todo)) out todo.dropLast with
   |some (some (out',todo'))=>Fv fl os f out' todo'
   |some none=>some none
   |none=>none)
  else none
def F9 (os:List O3):List Int:=(List.replicate os.length (-1)).set 0 1
def Ap (ss:List Int) (k:Nat):Int:=ss.getD (ss.length - 1 - k) 0
def AY (ss:List Int) (t:Nat) (x:Int):Int×List Int:=if 600 < (ss.length:Int) - t+1 then(3,ss)else(0,ss.take (ss.length - t)++ [x])
def F0 (n:Int):Int:=if 1073741823 < n.tmod 2147483648 then n.tmod 2147483648 - 2147483648 else if n.tmod 2147483648 < -1073741824 then n.tmod 2147483648+2147483648 else n.tmod 2147483648
def DZ (op a b:Int):Int:=if op=10 then F0 (a+b)else if op=11 then F0 (a - b)else if op=12 then F0 (a*b)else if(op=13∧a < b)∨(op=14∧a=b)then 1 else 0
def AZ (zs:List Int) (x:Int) (f:Bool):Bool:=decide (x%2=0)&& (Ce (zs.getD (x/2).toNat 0)==f)
def Bp (zs:List Int) (x:Int):Int:=Az (zs.getD (x/2).toNat 0)
def BE (zs:List Int) (x:Int):List Int:=Ae zs (x/2).toNat
def A8 (L:VmL):Int:=L.b+L.h - L.n
def AJ (L:VmL):VmL:=let C:=D2 L.zs L.h L.b L.n L.ss;{L with zs:=C.ws,b:=C.base,n:=C.next,ss:=C.roots}
def BV (L:VmL) (f:Bool) (tag:Int) (k:Nat):Int×VmL:=
 if A8 L < 1+k then(2,L)
 else let r:=AY L.ss k (2*L.n);(r.1,{L with zs:=ov L.zs L.n.toNat (An f tag k::L.ss.drop (L.ss.length - k)),n:=L.n+ (1+k),ss:=r.2})
def Bb (L:VmL) (f:Bool) (tag:Int) (k:Nat):Int×VmL:=
 BV (if L.each=true∨A8 L < 1+k then AJ L else L) f tag k
def A5 (cs:List O3) (pc:Int):List O3:=cs.set (cs.length - 1) {cs.getD (cs.length - 1) c0 with n:=pc}
def Em (L:VmL):Int×VmL:=
 let x:=Ap L.ss 1
 if AZ L.zs x true=false∨(L.fs.length:Int)≤Bp L.zs x then(5,L)
 else if L.cs.length=120 then(3,L)else(0,{L with cs:=L.cs++ [⟨Bp L.zs x,0,(L.ss.length:Int) - 1⟩]})
def Dw (L:VmL) (base:Int):Int×VmL:=
 if(L.ss.length:Int)≠base+2 then(5,L)
 else(if L.cs.length=1 then 1 else 0,{L with ss:=L.ss.take (base - 1).toNat++ [Ap L.ss 0],cs:=L.cs.dropLast})
def Bt (L:VmL) (x:Int) (f:Bool) (n:Int) (t:Nat):Int×VmL:=
 if AZ L.zs x f=false∨((BE L.zs x).length:Int)≤n then(5,L)
 else let r:=AY L.ss t ((BE L.zs x).getD n.toNat 0);(r.1,{L with ss:=r.2})
def Bu (zs:List Int) (o:O3) (x:Int):Bool:=
 if o.c=10 then !(AZ zs x false&& decide (Bp zs x=o.n))else if o.c=11 then decide (x≠BT o.n)else decide (x=1)
def A6 (L:VmL) (o:O3):Int×VmL:=
 let x:=Ap L.ss 0
 if o.c=18∧x%2=0 then(5,L)
 else(0,{L with ss:=L.ss.take (L.ss.length - 1),cs:=if Bu L.zs o x then A5 L.cs (if o.c=18 then o.n else o.m)else L.cs})
def CV (L:VmL) (c:Int):Int×VmL:=
 let a:=Ap L.ss 1;let b:=Ap L.ss 0
 if a%2=0∨b%2=0 then(5,L)else let r:=AY L.ss 2 (BT (DZ (c - 12+10) (a/2) (b/2)));(r.1,{L with ss:=r.2})
def Dd (L:VmL) (t:Nat) (x:Int):Int×VmL:=let r:=AY L.ss t x;(r.1,{L with ss:=r.2})
def doL (L:VmL) (o c:O3):Int×VmL:=
 let self:=L.ss.getD (c.m - 1).toNat 0
 if(L.ss.length:Int) - c.m - 1 < Ag o.c o.m then(5,L)
 else if o.c=1 then Dd L 0 (BT o.n)
 else if o.c=2 then(if(L.ss.length:Int)≤c.m+o.n then(5,L)else Dd L 0 (L.ss.getD (c.m+o.n).toNat 0))
 else if o.c=3 then Bt L self true o.n 0
 else if o.c=4 then Dd L 0 self
 else if o.c=5∨o.c=8 then Bb L (decide (o.c=5)) o.n o.m.toNat
 else if o.c=6 then Em L
 else if o.c=7 then Dw L c.m
 else if o.c=9 then Bt L (Ap L.ss 0) false o.n 1
 else if o.c=10∨o.c=11∨o.c=18 then A6 L o
 else if o.c=17 then(if Ap L.ss 0%2=0 then(5,L)else(0,{L with os:=L.os++ [Ap L.ss 0/2]}))
 else if o.c=19 then(0,{L with cs:=A5 L.cs o.n})
 else if o.c=20 then Dd L 2 (Ap L.ss 0)
 else if o.c=21 then(4,L)
 else CV L o.c
def Ay (L:VmL):O3:=L.cs.getD (L.cs.length - 1) c0
def opL (L:VmL) (c:O3):O3:=(L.fs.getD c.c.toNat fn0).os.getD c.n.toNat ⟨0,0,0⟩
def Av (L:VmL):VmL:=
 let c:=Ay L
 let r:=doL {L with cs:=A5 L.cs (c.n+1),code:=0} (opL L c) c
 if r.1=0∨r.1=1 then {r.2 with code:=r.1}else {L with code:=r.1}
def Ak:Nat→VmL→VmL
 |0,L=>L
 |k+1,L=>if L.code=0 then Ak k (Av L)else L
theorem YK {X ks Y:List Int}{x:Int}(hk:hK x=ks.length):(X++ (x::ks++Y)).getD X.length 0=x∧Ae (X++ (x::ks++Y)) X.length=ks:=by
 have h0:(X++ (x::ks++Y)).getD X.length 0=x:=by
  rw[List.getD_eq_getElem?_getD,List.getElem?_append_right (Nat.le_refl _),Nat.sub_self];rfl
 refine⟨h0,?_⟩;unfold Ae;rw[h0,hk,List.drop_append,List.drop_eq_nil_of_le (by omega),List.nil_append,show X.length+1 - X.length=1 by omega,List.cons_append,List.drop_succ_cons,List.drop_zero,List.take_left]
structure Mvg (ws rs:List Int) (h b n:Nat) (ps o:List Nat):Prop where
 right:Right ws h b n ps
 roots:rs.all (Ai ps)=true
 ord:o=Ao ws rs
theorem Mvg.ok {ws rs:List Int}{h b n:Nat}{ps o:List Nat}(M:Mvg ws rs h b n ps o):Bo ps o:=by rw[M.ord];exact EU M.right M.roots
theorem Mvg.at_ {ws rs:List Int}{h b n:Nat}{ps o:List Nat}(M:Mvg ws rs h b n ps o) {p:Nat}(hp:p∈o):b≤p∧p < n∧hOk (ws.getD p 0)=true∧p+1+hK (ws.getD p 0)≤n∧(Ae ws p).all (Ai ps)=true:=M.right.at_ (M.ok.2 p hp)
theorem Mvg.klen {ws rs:List Int}{h b n:Nat}{ps o:List Nat}(M:Mvg ws rs h b n ps o) {p:Nat}(hp:p∈o):(Ae ws p).length=hK (ws.getD p 0):=by
 have h1:=(M.at_ hp).2.2.2.1;have h2:=M.right.n_le.1;exact Ix (by omega)
abbrev qAt (ws:List Int) (h b:Nat) (o:List Nat) (p:Nat):Nat:=Cp ws (h - b) o p
abbrev Cz (ws:List Int) (h b:Nat) (o:List Nat):List Int:=lay (h - b) ws.length (mvd ws (h - b) o o)
theorem YL {o:List Nat}(ho:o.Nodup) {k:Nat}(hk:k < o.length):o.idxOf (o.getD k 0)=k:=by
 rw[List.getD_eq_getElem?_getD,List.getElem?_eq_getElem hk,Option.getD_some];exact ho.idxOf_getElem k hk
theorem Mvg.q {ws rs:List Int}{h b n:Nat}{ps o:List Nat}(M:Mvg ws rs h b n ps o) {k:Nat}(hk:k < o.length):qAt ws h b o (o.getD k 0)= (h - b)+ (raw ws (o.take k)).length:=by
 unfold qAt Cp;rw[YL M.ok.1 hk]
theorem O7 (ws:List Int) (b:Nat) (o x y:List Nat):mvd ws b o (x++y)=mvd ws b o x++mvd ws b o y:=by simp[mvd]
theorem Mvg.block {ws rs:List Int}{h b n:Nat}{ps o:List Nat}(M:Mvg ws rs h b n ps o) {p:Nat}(hp:p∈o):
  (Cz ws h b o).getD (qAt ws h b o p) 0=ws.getD p 0∧Ae (Cz ws h b o) (qAt ws h b o p)= (Ae ws p).map (mv ws (h - b) o):=by
 obtain⟨k,hk,rfl⟩:=List.mem_iff_getElem.1 hp;have e:o[k]=o.getD k 0:=by rw[List.getD_eq_getElem?_getD,List.getElem?_eq_getElem hk];rfl
 have hq:=M.q hk;rw[←e]at hq;rw[hq];have hl:(List.replicate (h - b) (0:Int)++mvd ws (h - b) o (o.take k)).length= (h - b)+ (raw ws (o.take k)).length:=by rw[List.length_append,List.length_replicate,Df]
 have ht:Cz ws h b o= (List.replicate (h - b) (0:Int)++mvd ws (h - b) o (o.take k))++ ((ws.getD o[k] 0::(Ae ws o[k]).map (mv ws (h - b) o))++ (mvd ws (h - b) o (o.drop (k+1))++List.replicate (ws.length - (h - b) - (mvd ws (h - b) o o).length) 0)):=by
  unfold Cz lay;have e2:mvd ws (h - b) o o=mvd ws (h - b) o (o.take k)++ (D1 ws (h - b) o o[k]++mvd ws (h - b) o (o.drop (k+1))):=by
   have:o=o.take k++ ([o[k]]++o.drop (k+1)):=by rw[List.singleton_append,←List.drop_eq_getElem_cons hk,List.take_append_drop]
   have e3:mvd ws (h - b) o (o.take k++ ([o[k]]++o.drop (k+1)))=mvd ws (h - b) o (o.take k)++ (D1 ws (h - b) o o[k]++mvd ws (h - b) o (o.drop (k+1))):=by
    rw[O7,O7]
    congr 2
    simp[mvd]
   rw[←this]at e3;exact e3
  conv=>lhs;rw[show mvd ws (h - b) o o++List.replicate (ws.length - (h - b) - (mvd ws (h - b) o o).length) 0= (mvd ws (h - b) o (o.take k)++ (D1 ws (h - b) o o[k]++mvd ws (h - b) o (o.drop (k+1))))++List.replicate (ws.length - (h - b) - (mvd ws (h - b) o o).length) 0 from by rw[←e2]]
  simp only[D1,List.append_assoc,List.cons_append]
 have hm:=YK (X:=List.replicate (h - b) (0:Int)++mvd ws (h - b) o (o.take k)) (ks:=(Ae ws o[k]).map (mv ws (h - b) o)) (Y:=mvd ws (h - b) o (o.drop (k+1))++List.replicate (ws.length - (h - b) - (mvd ws (h - b) o o).length) 0) (x:=ws.getD o[k] 0) (by rw[List.length_map,M.klen hp]);rw[←ht,hl]at hm;exact hm
theorem O8 (ws:List Int) (o:List Nat) (k:Nat):(raw ws o).length= (raw ws (o.take k)).length+ (raw ws (o.drop k)).length:=by
 conv=>lhs;rw[←List.take_append_drop k o,Jd,List.length_append]
theorem Mvg.places {ws rs:List Int}{h b n:Nat}{ps o:List Nat}(M:Mvg ws rs h b n ps o):
  ∀ (m k f:Nat),k+m=o.length→(raw ws (o.drop k)).length≤f→places (Cz ws h b o) ((h - b)+ (raw ws o).length) f ((h - b)+ (raw ws (o.take k)).length)=some ((o.drop k).map (qAt ws h b o)):=by
 intro m;induction m with
 |zero=>
  intro k f hk hf;rw[show o.take k=o by rw[List.take_of_length_le];omega,show o.drop k=[]by rw[List.drop_eq_nil_of_le];omega,C7 (by omega)];rfl
 |succ m ih=>
  intro k f hk hf;have hkl:k < o.length:=by omega
  have hp:o[k]∈o:=List.getElem_mem hkl;have e:o[k]=o.getD k 0:=by rw[List.getD_eq_getElem?_getD,List.getElem?_eq_getElem hkl];rfl
  have hq:=M.q hkl;rw[←e]at hq;obtain⟨b1,b2⟩:=M.block hp;rw[hq]at b1;have hd:o.drop k=o[k]::o.drop (k+1):=List.drop_eq_getElem_cons hkl;have hbl:(blk ws o[k]).length=1+hK (ws.getD o[k] 0):=Lz (by have h1:=(M.at_ hp).2.2.2.1;have h2:=M.right.n_le.1;omega);have hs:=O8 ws o k;have hs1:=O8 ws o (k+1);have ht:(raw ws (o.take (k+1))).length= (raw ws (o.take k)).length+ (1+hK (ws.getD o[k] 0)):=by
   rw[←List.take_append_getElem hkl,F7,List.length_append,hbl]
  have hfd:(raw ws (o.drop k)).length= (1+hK (ws.getD o[k] 0))+ (raw ws (o.drop (k+1))).length:=by omega
  obtain⟨f,rfl⟩:∃g,f=g+1:=⟨f - 1,by omega⟩;rw[DK (by omega) (by rw[b1];exact(M.at_ hp).2.2.1) (by rw[b1];omega),b1,hd,List.map_cons,hq];have:=ih (k+1) f (by omega) (by omega);rw[ht,show(h - b)+ ((raw ws (o.take k)).length+ (1+hK (ws.getD o[k] 0)))= (h - b)+ (raw ws (o.take k)).length+1+hK (ws.getD o[k] 0)by omega]at this;rw[this];rfl
abbrev CR (ws:List Int) (h b:Nat) (o:List Nat):List Nat:=o.map (qAt ws h b o)
theorem Mvg.some_ {ws rs:List Int}{h b n:Nat}{ps o:List Nat}(M:Mvg ws rs h b n ps o):Bw (Cz ws h b o) (h - b) ((h - b)+ (raw ws o).length)=some (CR ws h b o):=by
 have:=M.places o.length 0 ((h - b)+ (raw ws o).length - (h - b)) (by omega) (by simp)
 simpa [Bw,Ly] using this
theorem Mvg.word {ws rs:List Int}{h b n:Nat}{ps o:List Nat}(M:Mvg ws rs h b n ps o) {x:Int}(hx:Ai ps x=true) (hc:x%2=0→(x/2).toNat∈o):Ai (CR ws h b o) (mv ws (h - b) o x)=true:=by
 unfold mv;split
 ·rename_i he;unfold Ai;rw[if_pos (by omega),decide_eq_true_eq];exact⟨_,List.mem_map_of_mem (hc he),by show((Cp ws (h - b) o (x/2).toNat:Nat):Int)=_;omega⟩
 ·rename_i he;unfold Ai at hx ⊢;rw[if_neg he]at hx ⊢;exact hx
theorem Mvg.words {ws rs:List Int}{h b n:Nat}{ps o:List Nat}(M:Mvg ws rs h b n ps o) {xs:List Int}(hx:xs.all (Ai ps)=true) (hc:Cl o xs):(xs.map (mv ws (h - b) o)).all (Ai (CR ws h b o))=true:=by
 rw[List.all_eq_true]at hx ⊢;intro y hy;obtain⟨x,hxm,rfl⟩:=List.mem_map.1 hy;exact M.word (hx x hxm) (hc x hxm)
theorem Mvg.kcl {ws rs:List Int}{h b n:Nat}{ps o:List Nat}(M:Mvg ws rs h b n ps o) {p:Nat}(hp:p∈o):Cl o (Ae ws p):=by
 have:=M.ord;subst this;exact KR M.right M.roots hp
theorem Mvg.rcl {ws rs:List Int}{h b n:Nat}{ps o:List Nat}(M:Mvg ws rs h b n ps o):Cl o rs:=by
 have:=M.ord;subst this;exact KQ ws rs
theorem Mvg.tlen {ws rs:List Int}{h b n:Nat}{ps o:List Nat}(M:Mvg ws rs h b n ps o):(Cz ws h b o).length=ws.length:=by
 refine F6 ?_;rw[Df];have h1:=M.right.raw_le M.ok;have h2:=M.right.frame.len;have h3:=M.right.frame.base;omega
theorem Mvg.rightT {ws rs:List Int}{h b n:Nat}{ps o:List Nat}(M:Mvg ws rs h b n ps o):Right (Cz ws h b o) h (h - b) ((h - b)+ (raw ws o).length) (CR ws h b o):=by
 have h1:=M.right.raw_le M.ok;have F:=M.right.frame;have hb:=F.base;refine⟨⟨F.h0,F.h1,by rw[M.tlen];exact F.len,by omega,by omega,by omega⟩,M.some_,?_⟩;unfold DL;rw[List.all_eq_true];intro q hq;obtain⟨p,hp,rfl⟩:=List.mem_map.1 hq;rw[(M.block hp).2];exact M.words (M.at_ hp).2.2.2.2 (M.kcl hp)
theorem Mvg.inj {ws rs:List Int}{h b n:Nat}{ps o:List Nat}(M:Mvg ws rs h b n ps o) {p p':Nat}(hp:p∈o) (hp':p'∈o) (he:qAt ws h b o p=qAt ws h b o p'):p=p':=by
 have hs:=M.rightT.sorted;obtain⟨i,hi,rfl⟩:=List.mem_iff_getElem.1 hp;obtain⟨j,hj,rfl⟩:=List.mem_iff_getElem.1 hp';rw[List.pairwise_iff_getElem]at hs;rcases Nat.lt_trichotomy i j with hij |hij |hij
 ·have:=hs i j (by simpa using hi) (by simpa using hj) hij;simp only[List.getElem_map]at this;omega
 ·subst hij;rfl
 ·have:=hs j i (by simpa using hj) (by simpa using hi) hij;simp only[List.getElem_map]at this;omega
theorem Mvg.seeW {ws rs:List Int}{h b n:Nat}{ps o:List Nat}(M:Mvg ws rs h b n ps o) {S:List Nat}{x:Int}(hS:∀p∈S,p∈o) (hc:x%2=0→(x/2).toNat∈o):
  seeW (S.map (qAt ws h b o)) (mv ws (h - b) o x)= (seeW S x).map (qAt ws h b o)∧ ∀p∈seeW S x,p∈o:=by
 unfold Go.Proofs.YtfmebaafpfkeiaaGreat.seeW mv;split
 ·rename_i he;have hm:=hc he;rw[if_pos (by omega),show(2* ((Cp ws (h - b) o (x/2).toNat:Nat):Int)/2).toNat=qAt ws h b o (x/2).toNat by show _=Cp ws (h - b) o (x/2).toNat;omega];by_cases hi:(x/2).toNat∈S
  ·rw[if_pos (List.mem_map_of_mem hi),if_pos hi];exact⟨rfl,hS⟩
  ·rw[if_neg,if_neg hi]
   ·refine⟨by simp,fun p hp=> ?_⟩;rcases List.mem_append.1 hp with hp |hp
    ·exact hS p hp
    ·rw[List.mem_singleton.1 hp];exact hm
   ·intro hh;obtain⟨p,hp,hpe⟩:=List.mem_map.1 hh;have:=M.inj (hS p hp) hm hpe;exact hi (this▸hp)
 ·rename_i he;exact⟨rfl,hS⟩
theorem Mvg.seeL {ws rs:List Int}{h b n:Nat}{ps o:List Nat}(M:Mvg ws rs h b n ps o):∀ (xs:List Int) (S:List Nat),(∀p∈S,p∈o)→Cl o xs→
  seeL (S.map (qAt ws h b o)) (xs.map (mv ws (h - b) o))= (seeL S xs).map (qAt ws h b o)∧ ∀p∈seeL S xs,p∈o:=by
 intro xs;induction xs with
 |nil=>intro S hS _;exact⟨rfl,hS⟩
 |cons x xs ih=>
  intro S hS hc;obtain⟨h1,h2⟩:=M.seeW hS (hc x (List.mem_cons_self ..));have:=ih (Go.Proofs.YtfmebaafpfkeiaaGreat.seeW S x) h2 (fun y hy=>hc y (List.mem_cons_of_mem _ hy));rw[←h1]at this;exact this
theorem Mvg.bfs {ws rs:List Int}{h b n:Nat}{ps o:List Nat}(M:Mvg ws rs h b n ps o):∀ (f i:Nat) (S:List Nat),(∀p∈S,p∈o)→bfs (Cz ws h b o) f i (S.map (qAt ws h b o))= (bfs ws f i S).map (qAt ws h b o):=by
 intro f;induction f with
 |zero=>intro i S _;rfl
 |succ f ih=>
  intro i S hS;by_cases hi:i < S.length
  ·have hp:S.getD i 0∈o:=hS _ (FL hi);have e:(S.map (qAt ws h b o)).getD i 0=qAt ws h b o (S.getD i 0):=by
    rw[List.getD_eq_getElem?_getD,List.getD_eq_getElem?_getD,List.getElem?_map,List.getElem?_eq_getElem hi];rfl
   obtain⟨h1,h2⟩:=M.seeL (Ae ws (S.getD i 0)) S hS (M.kcl hp);rw[Fl hi,Fl (by simpa using hi),e,(M.block hp).2,h1];exact ih (i+1) _ h2
  ·rw[Fm hi,Fm (by simpa using hi)]
theorem Mvg.order {ws rs:List Int}{h b n:Nat}{ps o:List Nat}(M:Mvg ws rs h b n ps o):Ao (Cz ws h b o) (rs.map (mv ws (h - b) o))=CR ws h b o:=by
 obtain⟨h1,h2⟩:=M.seeL rs [] (by simp) M.rcl;unfold Ao;rw[M.tlen];have:=M.bfs ws.length 0 (Go.Proofs.YtfmebaafpfkeiaaGreat.seeL [] rs) h2;rw[←h1]at this;refine this.trans ?_;have e:=M.ord;unfold Ao at e;rw[←e]
theorem Mvg.mvgT {ws rs:List Int}{h b n:Nat}{ps o:List Nat}(M:Mvg ws rs h b n ps o):Mvg (Cz ws h b o) (rs.map (mv ws (h - b) o)) h (h - b) ((h - b)+ (raw ws o).length) (CR ws h b o) (CR ws h b o):=
 ⟨M.rightT,M.words M.roots M.rcl,M.order.symm⟩
theorem Mvg.idx {ws rs:List Int}{h b n:Nat}{ps o:List Nat}(M:Mvg ws rs h b n ps o) {p:Nat}(hp:p∈o):∀l:List Nat,(∀y∈l,y∈o)→(l.map (qAt ws h b o)).idxOf (qAt ws h b o p)=l.idxOf p:=by
 intro l;induction l with
 |nil=>intro _;rfl
 |cons y l ih=>
  intro hl;rw[List.map_cons,List.idxOf_cons,List.idxOf_cons,ih (fun z hz=>hl z (List.mem_cons_of_mem _ hz))];by_cases hy:y=p
  ·subst hy;simp
  ·have:¬qAt ws h b o y=qAt ws h b o p:=fun he=>hy (M.inj (hl y (List.mem_cons_self ..)) hp he);have e1:(qAt ws h b o y==qAt ws h b o p)=false:=by simpa using this
   have e2:(y==p)=false:=by simpa using hy
   rw[e1,e2]
theorem Mvg.numOf {ws rs:List Int}{h b n:Nat}{ps o:List Nat}(M:Mvg ws rs h b n ps o) {p:Nat}(hp:p∈o):numOf (CR ws h b o) (qAt ws h b o p)=numOf o p:=by
 unfold Go.Proofs.YtfmebaafpfkeiaaGreat.numOf;rw[if_pos (List.mem_map_of_mem hp),if_pos hp,M.idx hp o (fun _ h=>h)]
theorem Mvg.wordTxt {ws rs:List Int}{h b n:Nat}{ps o:List Nat}(M:Mvg ws rs h b n ps o) {x:Int}(hc:x%2=0→(x/2).toNat∈o):wordTxt (CR ws h b o) (mv ws (h - b) o x)=wordTxt o x:=by
 unfold Go.Proofs.YtfmebaafpfkeiaaGreat.wordTxt mv;split
 ·rename_i he;rw[if_pos (by omega),show(2* ((Cp ws (h - b) o (x/2).toNat:Nat):Int)/2).toNat=qAt ws h b o (x/2).toNat by show _=Cp ws (h - b) o (x/2).toNat;omega,M.numOf (hc he)]
 ·rfl
theorem Mvg.wordsTxt {ws rs:List Int}{h b n:Nat}{ps o:List Nat}(M:Mvg ws rs h b n ps o):∀ (xs:List Int),Cl o xs→wordsTxt (CR ws h b o) (xs.map (mv ws (h - b) o))=wordsTxt o xs:=by
 intro xs;induction xs with
 |nil=>intro _;rfl
 |cons x xs ih=>
  intro hc;have h1:=M.wordTxt (hc x (List.mem_cons_self ..));have h2:=ih (fun y hy=>hc y (List.mem_cons_of_mem _ hy));unfold Go.Proofs.YtfmebaafpfkeiaaGreat.wordsTxt at h2 ⊢;rw[List.map_cons,List.flatMap_cons,List.flatMap_cons,h1,h2]
theorem Mvg.shapeL {ws rs:List Int}{h b n:Nat}{ps o:List Nat}(M:Mvg ws rs h b n ps o):shapeL (Cz ws h b o) (CR ws h b o) (rs.map (mv ws (h - b) o))=shapeL ws o rs:=by
 unfold Go.Proofs.YtfmebaafpfkeiaaGreat.shapeL;rw[M.wordsTxt rs M.rcl]
 congr 1
 have key:∀l:List Nat,(∀p∈l,p∈o)→(l.map (qAt ws h b o)).flatMap (Co (Cz ws h b o) (CR ws h b o))=l.flatMap (Co ws o):=by
  intro l;induction l with
  |nil=>intro _;rfl
  |cons p l ih=>
   intro hl;have hp:=hl p (List.mem_cons_self ..);rw[List.map_cons,List.flatMap_cons,List.flatMap_cons,ih (fun y hy=>hl y (List.mem_cons_of_mem _ hy))]
   congr 1
   unfold Co;obtain⟨b1,b2⟩:=M.block hp;rw[b1,b2,M.wordsTxt _ (M.kcl hp)]
 exact key o (fun _ h=>h)
theorem Mvg.rightB {ws rs:List Int}{h b n:Nat}{ps o:List Nat}(M:Mvg ws rs h b n ps o):heapOk ws h b n=true∧AW ws h b n rs=true:=by
 have hF:Bg ws h b n=true:=by
  unfold Bg;rw[decide_eq_true_eq];have F:=M.right.frame;have f1:=F.h0;have f2:=F.h1;have f3:=F.len;have f4:=F.base;have f5:=F.n0;have f6:=F.n1;omega
 have h1:heapOk ws h b n=true:=by rw[Gz hF M.right.some];exact M.right.fit
 exact⟨h1,by rw[KF h1 M.right.some];exact M.roots⟩
theorem Mvg.shape {ws rs:List Int}{h b n:Nat}{ps o:List Nat}(M:Mvg ws rs h b n ps o):CU ws h b n rs=st (Go.Proofs.YtfmebaafpfkeiaaGreat.shapeL ws o rs):=by rw[PD M.rightB.2,M.ord]
structure AbS where
 st:List (Int×List Int)
 ss:List Int
 cs:List O3
 os:List Int
 code:Int
def b0:Int×List Int:=(1,[])
def Ek (A:AbS) (x:Int):Int×List Int:=A.st.getD (x/2).toNat b0
def G9 (A:AbS) (x:Int) (f:Bool):Bool:=decide (x%2=0)&& (Ce (Ek A x).1==f)
def EV (A:AbS) (t:Nat) (x:Int):Int×AbS:=((AY A.ss t x).1,{A with ss:=(AY A.ss t x).2})
def Ha (A:AbS) (f:Bool) (tag:Int) (k:Nat):Int×AbS:=
 ((AY A.ss k (2* (A.st.length:Int))).1,{A with st:=A.st++ [(An f tag k,A.ss.drop (A.ss.length - k))],ss:=(AY A.ss k (2* (A.st.length:Int))).2})
def KT (fs:List F2) (A:AbS):Int×AbS:=
 if G9 A (Ap A.ss 1) true=false∨(fs.length:Int)≤Az (Ek A (Ap A.ss 1)).1 then(5,A)
 else if A.cs.length=120 then(3,A)else(0,{A with cs:=A.cs++ [⟨Az (Ek A (Ap A.ss 1)).1,0,(A.ss.length:Int) - 1⟩]})
def KU (A:AbS) (base:Int):Int×AbS:=
 if(A.ss.length:Int)≠base+2 then(5,A)
 else(if A.cs.length=1 then 1 else 0,{A with ss:=A.ss.take (base - 1).toNat++ [Ap A.ss 0],cs:=A.cs.dropLast})
def I7 (A:AbS) (x:Int) (f:Bool) (n:Int) (t:Nat):Int×AbS:=
 if G9 A x f=false∨((Ek A x).2.length:Int)≤n then(5,A)else EV A t ((Ek A x).2.getD n.toNat 0)
def KV (A:AbS) (o:O3) (x:Int):Bool:=
 if o.c=10 then !(G9 A x false&& decide (Az (Ek A x).1=o.n))else if o.c=11 then decide (x≠BT o.n)else decide (x=1)
def KW (A:AbS) (o:O3):Int×AbS:=
 if o.c=18∧Ap A.ss 0%2=0 then(5,A)
 else(0,{A with ss:=A.ss.take (A.ss.length - 1),cs:=if KV A o (Ap A.ss 0)then A5 A.cs (if o.c=18 then o.n else o.m)else A.cs})
def KX (A:AbS) (c:Int):Int×AbS:=
 if Ap A.ss 1%2=0∨Ap A.ss 0%2=0 then(5,A)else EV A 2 (BT (DZ (c - 12+10) (Ap A.ss 1/2) (Ap A.ss 0/2)))
def doA (fs:List F2) (A:AbS) (o c:O3):Int×AbS:=
 if(A.ss.length:Int) - c.m - 1 < Ag o.c o.m then(5,A)
 else if o.c=1 then EV A 0 (BT o.n)
 else if o.c=2 then(if(A.ss.length:Int)≤c.m+o.n then(5,A)else EV A 0 (A.ss.getD (c.m+o.n).toNat 0))
 else if o.c=3 then I7 A (A.ss.getD (c.m - 1).toNat 0) true o.n 0
 else if o.c=4 then EV A 0 (A.ss.getD (c.m - 1).toNat 0)
 else if o.c=5∨o.c=8 then Ha A (decide (o.c=5)) o.n o.m.toNat
 else if o.c=6 then KT fs A
 else if o.c=7 then KU A c.m
 else if o.c=9 then I7 A (Ap A.ss 0) false o.n 1
 else if o.c=10∨o.c=11∨o.c=18 then KW A o
 else if o.c=17 then(if Ap A.ss 0%2=0 then(5,A)else(0,{A with os:=A.os++ [Ap A.ss 0/2]}))
 else if o.c=19 then(0,{A with cs:=A5 A.cs o.n})
 else if o.c=20 then EV A 2 (Ap A.ss 0)
 else if o.c=21 then(4,A)
 else KX A o.c
def Ah (A:AbS):O3:=A.cs.getD (A.cs.length - 1) c0
def opA (fs:List F2) (c:O3):O3:=(fs.getD c.c.toNat fn0).os.getD c.n.toNat ⟨0,0,0⟩
def Hb (A:AbS):AbS:= {A with cs:=A5 A.cs ((Ah A).n+1),code:=0}
def Cg (fs:List F2) (A:AbS):Int×AbS:=doA fs (Hb A) (opA fs (Ah A)) (Ah A)
def Dv (fs:List F2) (A:AbS):AbS:=
 if(Cg fs A).1=0∨(Cg fs A).1=1 then {(Cg fs A).2 with code:=(Cg fs A).1}else {A with code:=(Cg fs A).1}
section
variable {E:Nat→Nat→Prop}
def Wd (E:Nat→Nat→Prop) (x y:Int):Prop:=(x%2=1∧x=y)∨(x%2=0∧y%2=0∧0≤x∧E (x/2).toNat (y/2).toNat)
def Wds (E:Nat→Nat→Prop) (xs ys:List Int):Prop:=xs.length=ys.length∧ ∀j,j < xs.length→Wd E (xs.getD j 0) (ys.getD j 0)
theorem PF {xs:List Int}{j k:Nat}(h:j < k):(xs.take k).getD j 0=xs.getD j 0:=by
 rw[List.getD_eq_getElem?_getD,List.getElem?_take,if_pos h,List.getD_eq_getElem?_getD]
theorem PG {xs:List Int}{j k:Nat}:(xs.drop k).getD j 0=xs.getD (k+j) 0:=by
 rw[List.getD_eq_getElem?_getD,List.getElem?_drop,List.getD_eq_getElem?_getD]
theorem PH {xs:List Int}{x:Int}{j:Nat}(h:j < xs.length):(xs++ [x]).getD j 0=xs.getD j 0:=by
 rw[List.getD_eq_getElem?_getD,List.getElem?_append_left h,List.getD_eq_getElem?_getD]
theorem PI {xs:List Int}{x:Int}{j:Nat}(h:j=xs.length):(xs++ [x]).getD j 0=x:=by
 subst h;rw[List.getD_eq_getElem?_getD,List.getElem?_append_right (Nat.le_refl _),Nat.sub_self];rfl
theorem Wd.even {x y:Int}(h:Wd E x y):(x%2=0)= (y%2=0):=by
 rcases h with ⟨h1,h2⟩ |⟨h1,h2,_⟩
 ·subst h2;rfl
 ·simp[h1,h2]
theorem Wd.odd {x y:Int}(h:Wd E x y) (ho:¬x%2=0):x=y:=by
 rcases h with ⟨_,h2⟩ |⟨h1,_⟩
 ·exact h2
 ·exact absurd h1 ho
theorem Wd.mono {E':Nat→Nat→Prop}(hE:∀p i,E p i→E' p i) {x y:Int}(h:Wd E x y):Wd E' x y:=by
 rcases h with h |⟨h1,h2,h3,h4⟩
 ·exact .inl h
 ·exact .inr ⟨h1,h2,h3,hE _ _ h4⟩
theorem Wd.lit {x:Int}(h:x%2=1):Wd E x x:= .inl ⟨h,rfl⟩
theorem Wds.mono {E':Nat→Nat→Prop}(hE:∀p i,E p i→E' p i) {xs ys:List Int}(h:Wds E xs ys):Wds E' xs ys:=⟨h.1,fun j hj=>(h.2 j hj).mono hE⟩
theorem Wds.take {xs ys:List Int}(h:Wds E xs ys) (k:Nat):Wds E (xs.take k) (ys.take k):=by
 refine⟨by simp[h.1],fun j hj=> ?_⟩;rw[List.length_take]at hj;rw[PF (by omega),PF (by omega)];exact h.2 j (by omega)
theorem Wds.drop {xs ys:List Int}(h:Wds E xs ys) (k:Nat):Wds E (xs.drop k) (ys.drop k):=by
 refine⟨by simp[h.1],fun j hj=> ?_⟩;rw[List.length_drop]at hj;rw[PG,PG];exact h.2 _ (by omega)
theorem Wds.snoc {xs ys:List Int}(h:Wds E xs ys) {x y:Int}(hx:Wd E x y):Wds E (xs++ [x]) (ys++ [y]):=by
 refine⟨by simp[h.1],fun j hj=> ?_⟩;rw[List.length_append,List.length_singleton]at hj;by_cases hl:j < xs.length
 ·rw[PH hl,PH (by rw[←h.1];exact hl)];exact h.2 j hl
 ·rw[PI (by omega),PI (by rw[←h.1];omega)];exact hx
theorem Wds.last {xs ys:List Int}(h:Wds E xs ys) {k:Nat}(hk:k < xs.length):Wd E (Ap xs k) (Ap ys k):=by
 unfold Ap;rw[←h.1];exact h.2 _ (by omega)
structure Sim (E:Nat→Nat→Prop) (fs:List F2) (L:VmL) (A:AbS) (h b n:Nat) (ps:List Nat):Prop where
 lh:L.h=h
 lb:L.b=b
 ln:L.n=n
 lf:L.fs=fs
 right:Right L.zs h b n ps
 mem:∀p i,E p i→p∈ps∧i < A.st.length
 fn:∀p i j,E p i→E p j→i=j
 inj:∀p q i,E p i→E q i→p=q
 hd:∀p i,E p i→L.zs.getD p 0= (A.st.getD i b0).1
 kids:∀p i,E p i→Wds E (Ae L.zs p) (A.st.getD i b0).2
 ss:Wds E L.ss A.ss
 cs:L.cs=A.cs
 os:L.os=A.os
 code:L.code=A.code
 zi:Au L.zs
variable {fs:List F2}{L:VmL}{A:AbS}{h b n:Nat}{ps:List Nat}
theorem Sim.put (S:Sim E fs L A h b n ps) {ss ss':List Int}(w:Wds E ss ss') {cs cs':List O3}{os os':List Int}{code code':Int}(h1:cs=cs') (h2:os=os') (h3:code=code'):
  Sim E fs ⟨L.fs,L.zs,L.h,L.b,L.n,ss,cs,os,code,L.each⟩ ⟨A.st,ss',cs',os',code'⟩ h b n ps:=
 ⟨S.lh,S.lb,S.ln,S.lf,S.right,S.mem,S.fn,S.inj,S.hd,S.kids,w,h1,h2,h3,S.zi⟩
def Res (E:Nat→Nat→Prop) (fs:List F2) (h b n:Nat) (ps:List Nat) (r:Int×VmL) (s:Int×AbS):Prop:=r.1=s.1∧Sim E fs r.2 s.2 h b n ps
theorem Sim.same (S:Sim E fs L A h b n ps) (c:Int):Res E fs h b n ps (c,L) (c,A):=⟨rfl,S⟩
theorem Sim.blk (S:Sim E fs L A h b n ps) {x y:Int}(hw:Wd E x y) (f:Bool):
  AZ L.zs x f=G9 A y f∧(AZ L.zs x f=true→Bp L.zs x=Az (Ek A y).1∧Wds E (BE L.zs x) (Ek A y).2):=by
 unfold AZ G9 Bp BE Ek;rcases hw with ⟨h1,rfl⟩ |⟨h1,h2,h3,h4⟩
 ·have:decide (x%2=0)=false:=by simp;omega
  rw[this];exact⟨rfl,fun h=>by cases h⟩
 ·rw[S.hd _ _ h4,h1,h2];exact⟨rfl,fun _=>⟨rfl,S.kids _ _ h4⟩⟩
theorem Sim.push (S:Sim E fs L A h b n ps) {t:Nat}{x y:Int}(hw:Wd E x y):Res E fs h b n ps (Dd L t x) (EV A t y):=by
 unfold Dd EV AY;dsimp only;rw[←S.ss.1];by_cases hc:600 < (L.ss.length:Int) - t+1
 ·rw[if_pos hc,if_pos hc];exact⟨rfl,S.put S.ss S.cs S.os S.code⟩
 ·rw[if_neg hc,if_neg hc];exact⟨rfl,S.put ((S.ss.take _).snoc hw) S.cs S.os S.code⟩
theorem Sim.call (S:Sim E fs L A h b n ps) (h2:2≤L.ss.length):Res E fs h b n ps (Em L) (KT fs A):=by
 obtain⟨i1,i2⟩:=S.blk (S.ss.last (k:=1) h2) true;have hfl:L.fs.length=fs.length:=by rw[S.lf]
 unfold Em KT;dsimp only;rw[←i1,hfl];by_cases hb:AZ L.zs (Ap L.ss 1) true=true
 ·obtain⟨t1,_⟩:=i2 hb;rw[←t1,←S.ss.1];by_cases c1:(fs.length:Int)≤Bp L.zs (Ap L.ss 1)
  ·rw[if_pos (.inr c1),if_pos (.inr c1)];exact S.same 5
  ·have c2:¬(AZ L.zs (Ap L.ss 1) true=false∨(fs.length:Int)≤Bp L.zs (Ap L.ss 1)):=by rw[hb];simp;omega
   rw[if_neg c2,if_neg c2];by_cases c3:L.cs.length=120
   ·rw[if_pos c3,if_pos (by rw[←S.cs];exact c3)];exact S.same 3
   ·rw[if_neg c3,if_neg (by rw[←S.cs];exact c3)];exact⟨rfl,S.put S.ss (by rw[S.cs]) S.os S.code⟩
 ·have hb':AZ L.zs (Ap L.ss 1) true=false:=by simpa using hb
  rw[if_pos (.inl hb'),if_pos (.inl hb')];exact S.same 5
theorem Sim.ret (S:Sim E fs L A h b n ps) (h1:1≤L.ss.length) (base:Int):Res E fs h b n ps (Dw L base) (KU A base):=by
 unfold Dw KU;rw[←S.ss.1,←S.cs];by_cases c1:(L.ss.length:Int)≠base+2
 ·rw[if_pos c1,if_pos c1];exact S.same 5
 ·rw[if_neg c1,if_neg c1];exact⟨rfl,S.put ((S.ss.take _).snoc (S.ss.last (k:=0) h1)) rfl S.os S.code⟩
theorem Sim.kid (S:Sim E fs L A h b n ps) {x y:Int}(hw:Wd E x y) (f:Bool) {m:Int}(hm:0≤m) (t:Nat):Res E fs h b n ps (Bt L x f m t) (I7 A y f m t):=by
 obtain⟨i1,i2⟩:=S.blk hw f;unfold Bt I7;rw[←i1];by_cases hb:AZ L.zs x f=true
 ·obtain⟨_,ks⟩:=i2 hb;rw[←ks.1];by_cases c1:((BE L.zs x).length:Int)≤m
  ·rw[if_pos (.inr c1),if_pos (.inr c1)];exact S.same 5
  ·have c2:¬(AZ L.zs x f=false∨((BE L.zs x).length:Int)≤m):=by rw[hb];simp;omega
   rw[if_neg c2,if_neg c2];exact S.push (ks.2 _ (by omega))
 ·have hb':AZ L.zs x f=false:=by simpa using hb
  rw[if_pos (.inl hb'),if_pos (.inl hb')];exact S.same 5
theorem Wd.eq_odd {x y z:Int}(h:Wd E x y) (hz:z%2=1):(x=z)= (y=z):=by
 rcases h with ⟨_,rfl⟩ |⟨h1,h2,_⟩
 ·rfl
 ·have e1:¬x=z:=by omega
  have e2:¬y=z:=by omega
  simp[e1,e2]
theorem I8 (m:Int):BT m%2=1:=by unfold BT;split <;> omega
theorem Sim.goes (S:Sim E fs L A h b n ps) {x y:Int}(hw:Wd E x y) (o:O3):Bu L.zs o x=KV A o y:=by
 obtain⟨i1,i2⟩:=S.blk hw false;unfold Bu KV;rw[←i1];by_cases hb:AZ L.zs x false=true
 ·rw[(i2 hb).1]
  congr 1
  have e1:=hw.eq_odd (I8 o.n);have e2:=hw.eq_odd (z:=1) (by decide);simp only[ne_eq,e1,e2]
 ·have hb':AZ L.zs x false=false:=by simpa using hb
  rw[hb']
  congr 1
  have e1:=hw.eq_odd (I8 o.n);have e2:=hw.eq_odd (z:=1) (by decide);simp only[ne_eq,e1,e2]
theorem Sim.branch (S:Sim E fs L A h b n ps) (h1:1≤L.ss.length) (o:O3):Res E fs h b n ps (A6 L o) (KW A o):=by
 have hw:=S.ss.last (k:=0) h1;have hg:=S.goes hw o;have he:=hw.even;unfold A6 KW;dsimp only;rw[←S.ss.1,←S.cs,←hg];by_cases c1:o.c=18∧Ap L.ss 0%2=0
 ·have c1':o.c=18∧Ap A.ss 0%2=0:=by rw[←he];exact c1
  rw[if_pos c1,if_pos c1'];exact S.same 5
 ·have c1':¬(o.c=18∧Ap A.ss 0%2=0):=by rw[←he];exact c1
  rw[if_neg c1,if_neg c1'];exact⟨rfl,S.put (S.ss.take _) rfl S.os S.code⟩
theorem Sim.reck (S:Sim E fs L A h b n ps) (h2:2≤L.ss.length) (c:Int):Res E fs h b n ps (CV L c) (KX A c):=by
 have h0:=S.ss.last (k:=0) (by omega);have h1:=S.ss.last (k:=1) h2;have e0:=h0.even;have e1:=h1.even;unfold CV KX;dsimp only;by_cases c1:Ap L.ss 1%2=0∨Ap L.ss 0%2=0
 ·rw[if_pos c1,if_pos (by rw[←e0,←e1];exact c1)];exact S.same 5
 ·rw[if_neg c1,if_neg (by rw[←e0,←e1];exact c1)];rw[←h0.odd (fun h=>c1 (.inr h)),←h1.odd (fun h=>c1 (.inl h))];exact S.push (Wd.lit (I8 _))
theorem Sim.do_ (S:Sim E fs L A h b n ps) {o c:O3}(hm:1≤c.m) (hr:1≤o.c∧o.c≤21) (hn:o.c=3∨o.c=9→0≤o.n) (hk:¬(o.c=5∨o.c=8)):Res E fs h b n ps (doL L o c) (doA fs A o c):=by
 unfold doL doA;dsimp only;rw[←S.ss.1];by_cases c0:(L.ss.length:Int) - c.m - 1 < Ag o.c o.m
 ·rw[if_pos c0,if_pos c0];exact S.same 5
 rw[if_neg c0,if_neg c0];have ht:0≤Ag o.c o.m:=by unfold Ag;split;(·omega);split;(·omega);split <;> omega
 have hself:Wd E (L.ss.getD (c.m - 1).toNat 0) (A.ss.getD (c.m - 1).toNat 0):=S.ss.2 _ (by omega);by_cases c1:o.c=1
 ·rw[if_pos c1,if_pos c1];exact S.push (Wd.lit (I8 _))
 rw[if_neg c1,if_neg c1];by_cases c2:o.c=2
 ·rw[if_pos c2,if_pos c2];by_cases d:(L.ss.length:Int)≤c.m+o.n
  ·rw[if_pos d,if_pos d];exact S.same 5
  ·rw[if_neg d,if_neg d];exact S.push (S.ss.2 _ (by omega))
 rw[if_neg c2,if_neg c2];by_cases c3:o.c=3
 ·rw[if_pos c3,if_pos c3];exact S.kid hself true (hn (.inl c3)) 0
 rw[if_neg c3,if_neg c3];by_cases c4:o.c=4
 ·rw[if_pos c4,if_pos c4];exact S.push hself
 rw[if_neg c4,if_neg c4,if_neg hk,if_neg hk];by_cases c6:o.c=6
 ·rw[if_pos c6,if_pos c6];have:Ag o.c o.m=2:=by rw[c6];rfl
  exact S.call (by omega)
 rw[if_neg c6,if_neg c6];by_cases c7:o.c=7
 ·rw[if_pos c7,if_pos c7];exact S.ret (by omega) _
 rw[if_neg c7,if_neg c7];by_cases c9:o.c=9
 ·rw[if_pos c9,if_pos c9];exact S.kid (S.ss.last (by omega)) false (hn (.inr c9)) 1
 rw[if_neg c9,if_neg c9];by_cases c10:o.c=10∨o.c=11∨o.c=18
 ·rw[if_pos c10,if_pos c10];exact S.branch (by omega) o
 rw[if_neg c10,if_neg c10];by_cases c17:o.c=17
 ·rw[if_pos c17,if_pos c17];have hw:=S.ss.last (k:=0) (by omega);have he:=hw.even;by_cases d:Ap L.ss 0%2=0
  ·rw[if_pos d,if_pos (by rw[←he];exact d)];exact S.same 5
  ·rw[if_neg d,if_neg (by rw[←he];exact d)];exact⟨rfl,S.put S.ss S.cs (by rw[S.os,hw.odd d]) S.code⟩
 rw[if_neg c17,if_neg c17];by_cases c19:o.c=19
 ·rw[if_pos c19,if_pos c19];exact⟨rfl,S.put S.ss (by rw[S.cs]) S.os S.code⟩
 rw[if_neg c19,if_neg c19];by_cases c20:o.c=20
 ·rw[if_pos c20,if_pos c20];exact S.push (S.ss.last (by omega))
 rw[if_neg c20,if_neg c20];by_cases c21:o.c=21
 ·rw[if_pos c21,if_pos c21];exact S.same 4
 rw[if_neg c21,if_neg c21];have c12:o.c=12∨o.c=13∨o.c=14∨o.c=15∨o.c=16:=by omega
 have:Ag o.c o.m=2:=by unfold Ag;rw[if_neg hk,if_pos (by rcases c12 with e |e |e |e |e <;> simp[e])]
 exact S.reck (by omega) _
end
section
variable {E:Nat→Nat→Prop}{fs:List F2}{L:VmL}{A:AbS}{h b n:Nat}{ps:List Nat}
def BC (L:VmL):Nat:=(raw L.zs (Ao L.zs L.ss)).length
def mvE (E:Nat→Nat→Prop) (L:VmL) (h b:Nat) (q i:Nat):Prop:=∃p∈Ao L.zs L.ss,q=qAt L.zs h b (Ao L.zs L.ss) p∧E p i
theorem Sim.mvg (S:Sim E fs L A h b n ps) (hr:L.ss.all (Ai ps)=true):Mvg L.zs L.ss h b n ps (Ao L.zs L.ss):=⟨S.right,hr,rfl⟩
theorem Sim.rightB (S:Sim E fs L A h b n ps) (hr:L.ss.all (Ai ps)=true):AW L.zs L.h L.b L.n L.ss=true:=by
 rw[S.lh,S.lb,S.ln];exact(S.mvg hr).rightB.2
theorem Wds.moved {ws:List Int}{o:List Nat}{xs ys:List Int}(hw:Wds E xs ys) (hc:Cl o xs):Wds (fun q i=>∃p∈o,q=qAt ws h b o p∧E p i) (xs.map (mv ws (h - b) o)) ys:=by
 refine⟨by simp[hw.1],fun j hj=> ?_⟩;rw[List.length_map]at hj;have hx:=hw.2 j hj;have hmem:xs.getD j 0∈xs:=by rw[List.getD_eq_getElem?_getD,List.getElem?_eq_getElem hj];exact List.getElem_mem hj
 have e:(xs.map (mv ws (h - b) o)).getD j 0=mv ws (h - b) o (xs.getD j 0):=by
  rw[List.getD_eq_getElem?_getD,List.getD_eq_getElem?_getD,List.getElem?_map,List.getElem?_eq_getElem hj];rfl
 rw[e];rcases hx with ⟨h1,h2⟩ |⟨h1,h2,h3,h4⟩
 ·refine .inl ⟨?_,?_⟩
  ·unfold mv;rw[if_neg (by omega)];exact h1
  ·unfold mv;rw[if_neg (by omega)];exact h2
 ·have hm:=hc _ hmem h1;refine .inr ?_;unfold mv;rw[if_pos h1];refine⟨by omega,h2,by omega,_,hm,?_,h4⟩
  show _=Cp ws (h - b) o _
  omega
theorem Sim.moved (S:Sim E fs L A h b n ps) (hr:L.ss.all (Ai ps)=true):
  Sim (mvE E L h b) fs (AJ L) A h (h - b) ((h - b)+BC L) (CR L.zs h b (Ao L.zs L.ss))∧(AJ L).each=L.each:=by
 have M:=S.mvg hr;have hbh:b≤h:=by have:=S.right.frame.base;omega
 have hR:=S.rightB hr;have hC:D2 L.zs L.h L.b L.n L.ss=⟨Cz L.zs h b (Ao L.zs L.ss),((h - b:Nat):Int),(((h - b)+BC L:Nat):Int),L.ss.map (mv L.zs (h - b) (Ao L.zs L.ss))⟩:=by
  rw[S.lh,S.lb,S.ln]at hR ⊢;exact Hq hbh hR
 unfold AJ;rw[hC];refine⟨⟨S.lh,rfl,rfl,S.lf,M.rightT,?_,?_,?_,?_,?_,?_,S.cs,S.os,S.code,Jc (KC S.right M.ok (by have:=S.right.frame.len;have:=S.right.frame.h1;omega) S.zi _)⟩,rfl⟩
 ·rintro q i ⟨p,hp,rfl,he⟩;exact⟨List.mem_map_of_mem hp,(S.mem _ _ he).2⟩
 ·rintro q i j ⟨p,hp,rfl,he⟩ ⟨p',hp',hq,he'⟩;have:=M.inj hp hp' hq;subst this;exact S.fn _ _ _ he he'
 ·rintro q q' i ⟨p,hp,rfl,he⟩ ⟨p',hp',rfl,he'⟩;rw[S.inj _ _ _ he he']
 ·rintro q i ⟨p,hp,rfl,he⟩;rw[(M.block hp).1];exact S.hd _ _ he
 ·rintro q i ⟨p,hp,rfl,he⟩;rw[(M.block hp).2];exact(S.kids _ _ he).moved (M.kcl hp)
 ·exact S.ss.moved M.rcl
theorem PJ {ps:List Nat}{p:Nat}{x:Int}(h:Ai ps x=true):Ai (ps++ [p]) x=true:=by
 unfold Ai at h ⊢;split
 ·rename_i he;rw[if_pos he,decide_eq_true_eq]at h;obtain⟨q,hq,e⟩:=h;rw[decide_eq_true_eq];exact⟨q,List.mem_append_left _ hq,e⟩
 ·rename_i he;rw[if_neg he]at h;exact h
theorem Right.put {ws:List Int}(hR:Right ws h b n ps) {f:Bool}{tag:Int}{ks:List Int}(h0:0≤tag) (h1:tag≤3000) (h2:ks.length≤20) (hfit:n+1+ks.length≤b+h) (hk:ks.all (Ai ps)=true):
  Right (ov ws n (An f tag ks.length::ks)) h b (n+1+ks.length) (ps++ [n])∧(ov ws n (An f tag ks.length::ks)).getD n 0=An f tag ks.length∧Ae (ov ws n (An f tag ks.length::ks)) n=ks∧
   ∀p∈ps,(ov ws n (An f tag ks.length::ks)).getD p 0=ws.getD p 0∧Ae (ov ws n (An f tag ks.length::ks)) p=Ae ws p:=by
 obtain⟨t0,t1,t2,t3⟩:=Nc f tag ks.length h0 h1 h2;have hnl:=hR.n_le;have F:=hR.frame;have f1:=F.h0;have f2:=F.h1;have hfr:=F.len;have hb0:=F.n0;have hn1:=F.n1;have hbb:=F.base;have hl:(ov ws n (An f tag ks.length::ks)).length=ws.length:=Fp (by simp;omega);have e0:(ov ws n (An f tag ks.length::ks)).getD n 0=An f tag ks.length:=Na (ws:=ws) (p:=n) (j:=0) (ks:=An f tag ks.length::ks) (by simp) (by omega);have ek:Ae (ov ws n (An f tag ks.length::ks)) n=ks:=by
  unfold Ae;rw[e0,t3];unfold ov;have hl:(ws.take n).length=n:=by simp;omega
  rw[List.drop_append,hl,List.drop_eq_nil_of_le (by omega),List.nil_append,show n+1 - n=1 by omega,List.cons_append,List.drop_succ_cons,List.drop_zero,List.take_left]
 have low:∀p∈ps,(ov ws n (An f tag ks.length::ks)).getD p 0=ws.getD p 0∧Ae (ov ws n (An f tag ks.length::ks)) p=Ae ws p:=by
  intro p hp;obtain⟨p1,p2,p3,p4,_⟩:=hR.at_ hp;have e1:(ov ws n (An f tag ks.length::ks)).getD p 0=ws.getD p 0:=Iu p2 (by omega);refine⟨e1,?_⟩;unfold Ae;rw[e1];refine List.ext_getElem (by rw[List.length_take,List.length_take,List.length_drop,List.length_drop,hl]) fun i i1 i2=> ?_;rw[List.getElem_take,List.getElem_take,List.getElem_drop,List.getElem_drop];rw[List.length_take]at i1;have:=Iu (ws:=ws) (p:=n) (j:=p+1+i) (ks:=An f tag ks.length::ks) (by omega) (by omega);rw[List.getD_eq_getElem?_getD,List.getD_eq_getElem?_getD,List.getElem?_eq_getElem (by omega),List.getElem?_eq_getElem (by omega)]at this;exact this
 refine⟨⟨⟨f1,f2,by rw[hl];exact hfr,hbb,by omega,by omega⟩,?_,?_⟩,e0,ek,low⟩
 ·unfold Bw;exact Nb (ws:=ws) (nx:=n) (fun j hj=>Iu hj (by omega)) (by rw[e0];exact t0) (by rw[e0,t3]) _ _ _ _ hR.some hb0 (Nat.le_refl _) (Nat.le_refl _)
 ·unfold DL;rw[List.all_eq_true];intro p hp;rcases List.mem_append.1 hp with hp |hp
  ·rw[(low p hp).2];have:=(hR.at_ hp).2.2.2.2;rw[List.all_eq_true]at this ⊢;exact fun x hx=>PJ (this x hx)
  ·rw[List.mem_singleton]at hp;subst hp;rw[ek];rw[List.all_eq_true]at hk ⊢;exact fun x hx=>PJ (hk x hx)
def KY (E:Nat→Nat→Prop) (n m:Nat) (p i:Nat):Prop:=E p i∨(p=n∧i=m)
theorem PK {st:List (Int×List Int)}{x:Int×List Int}{i:Nat}(h:i < st.length):(st++ [x]).getD i b0=st.getD i b0:=by
 rw[List.getD_eq_getElem?_getD,List.getElem?_append_left h,List.getD_eq_getElem?_getD]
theorem PL {st:List (Int×List Int)}{x:Int×List Int}:(st++ [x]).getD st.length b0=x:=by
 rw[List.getD_eq_getElem?_getD,List.getElem?_append_right (Nat.le_refl _),Nat.sub_self];rfl
theorem Sim.made (S:Sim E fs L A h b n ps) (hr:L.ss.all (Ai ps)=true) {f:Bool}{tag:Int}{k:Nat}(h0:0≤tag) (h1:tag≤3000) (h2:k≤20) (hk:k≤L.ss.length) (hfit:n+1+k≤b+h)
  (hs:(L.ss.length:Int) - k+1≤600):
  ∃E' ps',Sim E' fs (BV L f tag k).2 (Ha A f tag k).2 h b (n+1+k) ps'∧(BV L f tag k).1=0∧(Ha A f tag k).1=0∧(BV L f tag k).2.each=L.each:=by
 have hks:(L.ss.drop (L.ss.length - k)).length=k:=by rw[List.length_drop];omega
 have hka:(L.ss.drop (L.ss.length - k)).all (Ai ps)=true:=by
  rw[List.all_eq_true]at hr ⊢;exact fun x hx=>hr x (List.mem_of_mem_drop hx)
 obtain⟨r1,r2,r3,r4⟩:=S.right.put (f:=f) h0 h1 (by rw[hks];exact h2) (by rw[hks];exact hfit) hka;rw[hks]at r1 r2 r3 r4;have F:=S.right.frame;have hroom:A8 L= (b:Int)+h - n:=by unfold A8;rw[S.lb,S.lh,S.ln]
 have hnr:¬A8 L < 1+k:=by omega
 have hnp:¬600 < (L.ss.length:Int) - k+1:=by omega
 have hln:L.n.toNat=n:=by rw[S.ln];rfl
 have hin:∀p,p∈ps→p≠n:=fun p hp e=>by have:=(S.right.at_ hp).2.1;omega
 unfold BV Ha AY;dsimp only;rw[if_neg hnr,←S.ss.1,if_neg hnp,if_neg hnp,hln];refine⟨KY E n A.st.length,ps++ [n],⟨S.lh,S.lb,?_,S.lf,?_,?_,?_,?_,?_,?_,?_,S.cs,S.os,S.code,?_⟩,rfl,rfl,rfl⟩
 ·show L.n+ (1+ (k:Int))=_;rw[S.ln];omega
 ·exact r1
 ·rintro p i (he |⟨rfl,rfl⟩)
  ·obtain⟨m1,m2⟩:=S.mem _ _ he;exact⟨List.mem_append_left _ m1,by simp;omega⟩
  ·exact⟨by simp,by simp⟩
 ·rintro p i j (he |⟨rfl,rfl⟩) (he' |⟨e1,rfl⟩)
  ·exact S.fn _ _ _ he he'
  ·exact absurd e1 (hin _ (S.mem _ _ he).1)
  ·exact absurd rfl (hin _ (S.mem _ _ he').1)
  ·rfl
 ·rintro p q i (he |⟨rfl,rfl⟩) (he' |⟨rfl,e1⟩)
  ·exact S.inj _ _ _ he he'
  ·have:=(S.mem _ _ he).2;omega
  ·have:=(S.mem _ _ he').2;omega
  ·rfl
 ·rintro p i (he |⟨rfl,rfl⟩)
  ·obtain⟨m1,m2⟩:=S.mem _ _ he;dsimp only;rw[PK m2,(r4 p m1).1];exact S.hd _ _ he
  ·dsimp only;rw[PL,r2]
 ·rintro p i (he |⟨rfl,rfl⟩)
  ·obtain⟨m1,m2⟩:=S.mem _ _ he;dsimp only;rw[PK m2,(r4 p m1).2];exact(S.kids _ _ he).mono (fun _ _ h=> .inl h)
  ·dsimp only;rw[PL,r3];exact(S.ss.drop _).mono (fun _ _ h=> .inl h)
 ·have hw:Wd (KY E n A.st.length) (2*L.n) (2* (A.st.length:Int)):= .inr ⟨by omega,by omega,by rw[S.ln];omega,.inr ⟨by rw[S.ln];omega,by omega⟩⟩;exact((S.ss.take _).mono (E':=KY E n A.st.length) (fun _ _ h=> .inl h)).snoc hw
 ·refine Lk S.zi (CB fun x hx=> ?_);rcases List.mem_cons.1 hx with rfl |hx
  ·have:=Hj f tag k h0 h1 h2;omega
  ·rw[List.all_eq_true]at hka;have hwx:=hka x hx;unfold Ai at hwx;split at hwx
   ·rw[decide_eq_true_eq]at hwx;obtain⟨p,hp,e⟩:=hwx;have:=(S.right.at_ hp).2.1;have:=S.right.n_le;omega
   ·have:=Aw.1 hwx;omega
end
end Go.Proofs.YtfmebaafpfkeiaaGreat
