/- Parts of the proof of FnExactJudgeSame. -/
import Derived.Test.YtifhcbeaiijkcaaGreatJ29
set_option linter.unusedVariables false
set_option linter.unusedSimpArgs false
set_option maxRecDepth 1000000
set_option maxHeartbeats 16000000
namespace Go.Proofs.YtifhcbeaiijkcaaGreat
open Go.RowKit
open _root_.Go.World renaming alloc→Wa,setCell→Ws
open _root_.Go.Proofs.Tryz renaming prog→Pq
theorem NP {L:VmL}(h:CL L.fs=false):Bc L=false:=by simp[Bc,h]
theorem NQ {L:VmL}(h:Cf L.zs L.h L.b L.n=false):Bc L=false:=by simp[Bc,Mi h]
theorem NR {L:VmL}(h:El L.zs L.h L.b L.n L.ss=false):Bc L=false:=by simp[Bc,h]
theorem NS {L:VmL}(h:¬L.ss.length≤600):Bc L=false:=by simp[Bc,h]
theorem NU {L:VmL}(h:inB L.code 0 5=false):Bc L=false:=by simp[Bc,h]
theorem NW {L:VmL}(h:¬L.cs.length≤120):Bc L=false:=by simp[Bc,CY,h]
theorem NX {L:VmL}(h:L.code=0) (h2:¬0 < L.cs.length):Bc L=false:=by simp[Bc,CY,h,h2]
theorem NY {L:VmL}(h:Ey L.fs L.ss.length L.cs=false):Bc L=false:=by simp[Bc,CY,h]
theorem NZ {L:VmL}(h:L.os.all AU=false):Bc L=false:=by simp only[Bc,h,Bool.and_false]
theorem N9 {L:VmL}(h1:CL L.fs=true) (h2:El L.zs L.h L.b L.n L.ss=true) (h3:L.ss.length≤600) (h4:inB L.code 0 5=true) (h5:L.cs.length≤120) (h6:L.code=0→0 < L.cs.length) (h7:Ey L.fs L.ss.length L.cs=true) (h8:L.os.all AU=true):Bc L=true:=by
 unfold Bc CY;rw[h1,h2,h4,h7,h8,Ax h3,Ax h5];by_cases h:L.code=0
 ·simp[h6 h]
 ·simp[h]
theorem Vc {B:Nat}(fv hv sv cv ov:Value) (L:VmL) (w:World) (hr:RdV B w fv hv sv cv ov L) (hi:D9 L) (hl:Bw L≤1048576) (hcode:L.code=0):
  Calls Pq 25 #[vmV fv hv sv cv ov L] w fun e w'=>e= .returned (.bool (Bc L))∧Below w.heap.size w w':=by
 have V1:=Aa (@NP L);have V2:=Aa (@NQ L);have V3:=Aa (@NR L);have V4:=Aa (@NS L);have V5:=Aa (@NU L);have V6:=Aa (@NW L);have V7:=Aa (@NX L);have HVC:=Aa (@NY L);have V8:=Aa (@NZ L);have V9:=Aa (@N9 L);obtain⟨V,hV⟩:∃V,Bc L=V:=⟨_,rfl⟩;rw[hV]at V1 V2 V3 V4 V5 V6 V7 HVC V8 V9 ⊢;clear hV;obtain⟨fs,zs,h,b,n,ss,cs,os,code,each⟩:=L;dsimp only at hcode;obtain⟨if_,iz,ih,ib,in_,is,_,hio,hcd⟩:=hi;unfold Bw at hl;dsimp only at if_ iz ih ib in_ is hio hcd hl V1 V2 V3 V4 V5 V6 V7 HVC V8 V9;have RF:=Aa (fun(W:World) (hb:Below w.heap.size w W)=>hr.f.below' hb);have RC:=Aa (fun(W:World) (hb:Below w.heap.size w W)=>RdE.below' hr.c hb);have RS:=Aa (fun(W:World) (hb:Below w.heap.size w W)=>hr.s.below' hb);have RU:=Aa (fun(W:World) (hb:Below w.heap.size w W)=>hr.o.below' hb);have hfn:=fun(W:World) (hb:Below w.heap.size w W)=>LJ fv fs W (hr.f.below' hb) if_ (by omega);have hho:=fun(W:World) (hb:Below w.heap.size w W)=>Jo hv zs h b n W (hr.z.below' hb) iz (by omega) ih ib in_;dsimp only at RF RC RS RU;obtain⟨q1,hq1⟩:∃q,CL fs=q:=⟨_,rfl⟩;rw[hq1]at hfn V1 V9;obtain⟨q4,hq4⟩:∃q,inB code 0 5=q:=⟨_,rfl⟩;rw[hq4]at V5 V9;have HF:=Aa hfn;have HW4:=Aa (fun(W:World)=>(by have:=AZ code 0 5 W;rw[hq4]at this;exact this:Calls Pq 65 #[.int .i64 code,.int .i64 0,.int .i64 5] W _));clear hq1 hq4 hfn;subst hcode;cases hok:Cf zs h b n
 ·rw[hok]at hho;have HHO:=Aa hho;have V2':=Aa (V2.out hok);obtain⟨fa,fc,rfl⟩:=hr.f.form;obtain⟨ha,hc,rfl⟩:=hr.z.form;obtain⟨sa,sc,rfl⟩:=hr.s.form;obtain⟨ca,cc,rfl⟩:=hr.c.form;obtain⟨oa,oc,rfl⟩:=hr.o.form;clear hr if_ iz ih ib in_ is hio hcd hho hok;unfold vmV;dsimp only;go_enter Tryz.func25,Tryz.ntmps25;go_wp2_with fail;generalize hx:w.alloc _=x;obtain⟨bb,k1⟩:=Bx.alloc hx;clear hx;have ck1:=k1.2.1;have yk1:=k1.1;go_wp2_with fail;refine(HF.out _ bb).mono ?_;rintro e w1 ⟨rfl,b1⟩;clear ck1 yk1;replace k1:=k1.below b1 k1.1;replace bb:=bb.trans (b1.mono bb.size);clear b1;cases q1
  ·go_wp2;go_ret;exact⟨Ac (V1.out (by first |trivial |rfl)).symm,bb⟩
  have ck1:=k1.2.1;have yk1:=k1.1;go_wp2_with fail;refine(HHO.out _ bb).mono ?_;rintro e w2 ⟨rfl,b2⟩;clear ck1 yk1;replace k1:=k1.below b2 k1.1;replace bb:=bb.trans (b2.mono bb.size);clear b2;go_wp2;go_ret;exact⟨Ac V2'.out.symm,bb⟩
 ·rw[hok]at hho;have HHO:=Aa hho;obtain⟨h',b',n',ps,rfl,rfl,rfl,hR⟩:=Right.of hok;have hS:=fun(W:World) (hb:Below w.heap.size w W)=>Im hv zs h' b' n' W (hr.z.below' hb) iz hR.frame;rw[hR.some]at hS;have HS:=Aa hS;have HRT:=Aa (GB (rs:=ss) hok hR.some);have HRN:=Aa (fun(h:ss.all (AA ps)=false)=>V3.out ((GB (rs:=ss) hok hR.some).trans h));obtain⟨fa,fc,rfl⟩:=hr.f.form;obtain⟨ha,hc,rfl⟩:=hr.z.form;obtain⟨sa,sc,rfl⟩:=hr.s.form;obtain⟨ca,cc,rfl⟩:=hr.c.form;obtain⟨oa,oc,rfl⟩:=hr.o.form;clear hr if_ iz ih ib in_ is hio hcd hho hok hS hR;unfold vmV;dsimp only;have e1:IntKind.i64.wrap ((fs.length:Int) - 1)= (fs.length:Int) - 1:=AX _ (by omega);have e2:IntKind.i64.wrap ((ss.length:Int) - 1)= (ss.length:Int) - 1:=AX _ (by omega);have HW:=Aa (fun(a b c:Int) (W:World)=>(AZ a b c W).mono (fun e w' h=>And.intro h.1 h.2.symm));go_enter Tryz.func25,Tryz.ntmps25;go_wp2_with fail;generalize hx:w.alloc _=x;obtain⟨bb,k1⟩:=Bx.alloc hx;clear hx;have ck1:=k1.2.1;have yk1:=k1.1;go_wp2_with fail;refine(HF.out _ bb).mono ?_;rintro e w1 ⟨rfl,b1⟩;clear ck1 yk1;replace k1:=k1.below b1 k1.1;replace bb:=bb.trans (b1.mono bb.size);clear b1;cases q1
  ·go_wp2;go_ret;exact⟨Ac (V1.out (by first |trivial |rfl)).symm,bb⟩
  have ck1:=k1.2.1;have yk1:=k1.1;go_wp2_with fail;refine(HHO.out _ bb).mono ?_;rintro e w2 ⟨rfl,b2⟩;clear ck1 yk1;replace k1:=k1.below b2 k1.1;replace bb:=bb.trans (b2.mono bb.size);clear b2;have ck1:=k1.2.1;have yk1:=k1.1;by_cases h3:600 < ss.length
  ·have V4':=Aa (V4.out (by omega));have h3i:(600:Int) < (ss.length:Int):=by omega
   go_wp2;go_ret;exact⟨Ac V4'.out.symm,bb⟩
  have h3i:¬((600:Int) < (ss.length:Int)):=by omega
  by_cases h4:120 < cs.length
  ·have V6':=Aa (V6.out (by omega));have h4i:(120:Int) < (cs.length:Int):=by omega
   go_wp2;go_ret;exact⟨Ac V6'.out.symm,bb⟩
  have h4i:¬((120:Int) < (cs.length:Int)):=by omega
  by_cases h5:0 < cs.length
  case neg=>
   have V7':=Aa (V7.out (by first |trivial |rfl) h5);have h5i:((cs.length:Int)==0)=true:=beq_iff_eq.2 (by omega);go_wp2;go_ret;exact⟨Ac V7'.out.symm,bb⟩
  have h5i:((cs.length:Int)==0)=false:=Kj.2 (by omega);have H56:=Aa (show(0:Int)=0→0 < cs.length from fun _=>by omega);go_wp2_with fail;refine(HW4.out _).mono ?_;rintro e w3 ⟨rfl,rfl⟩;cases q4
  ·go_wp2;go_ret;exact⟨Ac (V5.out (by first |trivial |rfl)).symm,bb⟩
  have HEND:=Aa (show Ey fs ss.length cs=true→ss.all (AA ps)=true→os.all AU=true→V=true from fun a b c=>V9.out (by first |trivial |rfl) (HRT.out.trans b) (by omega) (by first |trivial |rfl) (by omega) H56.out a c);go_wp2_with fail;refine(HS.out _ bb).mono ?_;rintro e w4 ⟨⟨u,rfl,o2⟩,b4⟩;clear ck1 yk1;replace k1:=k1.below b4 k1.1;replace bb:=bb.trans (b4.mono bb.size);clear b4;rw[Fs,←Ep]at o2;obtain⟨a2,c2',rfl⟩:=AR o2;have HT:=Aa (fun(x:Int)=>J6 (.slice a2 (AS ps).length c2') ps x w4 (Rd.of_own o2));have HQ:=Aa (RS.out _ bb);have BX:=Aa bb;have K1:=Aa k1;have hxz:=bb.size;have ck1:=k1.2.1;have yk1:=k1.1;clear o2 bb;go_wp2
  go_loop [5] (fun i=>∃k:Nat,k≤ss.length∧i= .int .i64 k∧Hid (∀j,j < k→AA ps (ss.getD j 0)=true)) (fun i=>ss.length - (intOf i).toNat)
  case atStart=>exact⟨0,Ao _,rfl,Aa (fun j hj=>absurd hj (by omega))⟩
  case round=>
   obtain⟨k,hk,rfl,hall⟩:=hrel;by_cases hlt:k < ss.length
   ·rcases HQ.out with ⟨h',_⟩ |⟨bl,off,c',hv,_,hbs,_,hc⟩
    ·rw[h']at hlt;simp at hlt
    cases hv
    have c0:=hc k hlt;obtain⟨x,hxx⟩:∃x,ss.getD k 0=x:=⟨_,rfl⟩;rw[hxx]at c0;have HX:=Aa hxx;clear hc hxx;cases hwi:AA ps x
    ·have HT2:=Aa (HT.out x);rw[hwi]at HT2;have HW5:=Aa hwi;clear hwi;go_wp2_with fail;refine HT2.out.mono ?_;rintro e w5 ⟨rfl,rfl⟩;go_wp2;go_ret;exact⟨Ac (HRN.out (Gk hlt HX.out HW5.out)).symm,BX.out⟩
    ·have HT2:=Aa (HT.out x);rw[hwi]at HT2;have HW5:=Aa hwi;clear hwi;go_wp2_with fail;refine HT2.out.mono ?_;rintro e w5 ⟨rfl,rfl⟩;go_wp2
     go_round
     case rel=>exact⟨k+1,hlt,by go_num,Aa (Gm hall.out (by rw[HX.out];exact HW5.out))⟩
     case measure=>simp[intOf];omega
   ·obtain rfl:k=ss.length:=by omega
    have HA:=Aa (Gl hall.out);clear hall;go_wp2;clear ck1 yk1 k1;obtain⟨x,rfl⟩:∃x,x=w4:=⟨w4,rfl⟩
    go_loopw [6] (fun i wr=>∃k:Nat,k≤cs.length∧i= .int .i64 k∧Below x.heap.size x wr∧Hid (∀j,j < k→Ca fs ss.length cs j=true)) (fun i _=>cs.length - (intOf i).toNat)
    case atStart=>exact⟨0,Ao _,rfl,Ab _ _,Aa (fun j h=>absurd h (by omega))⟩
    case round=>
     obtain⟨k,hk,rfl,hb,hd⟩:=hrel;have hbw:=BX.out.trans (hb.mono hxz);have k1:=K1.out.below hb K1.out.1;have q1:=k1.2.1;have y1:=k1.1;by_cases hlt:k < cs.length
     ·obtain⟨bo,offo,capo,hso,_,hbso,_,d0,d1,d2⟩:=RdO.at_ (RC.out _ hbw) hlt;cases hso
      have hkl:(k:Int) < (cs.length:Int):=by omega
      obtain⟨o,ho⟩:∃o,cs[k]=o:=⟨_,rfl⟩;have hog:cs.getD k c0=o:=by rw[FG hlt,ho]
      rw[ho]at d0 d1 d2;obtain⟨a,p,m⟩:=o;dsimp only at d0 d1 d2;have HOG:=Aa hog;have HB:=Aa hb;have HBW:=Aa hbw;have hbz:=hb.size;have HRF:=Aa (fun(W:World) (h:Below wr.heap.size wr W)=>RF.out W (HBW.out.trans (h.mono (by have:=HBW.out.size;omega))));clear ho hog hb hbw k1;go_wp2_with fail;generalize hz:wr.alloc _=z;obtain⟨bz,kz⟩:=Bx.alloc hz;clear hz;replace q1:∀j:Nat,z.cell? ⟨w.heap.size,j,none⟩=_:=fun j=>(bz.cell (p:=⟨w.heap.size,j,none⟩) y1).trans (q1 j);have qz:=kz.2.1;have HD0:=Aa (fun(t:Nat)=>bz.cell (p:=⟨bo,t,none⟩) hbso);have BZ:=Aa bz;have hzz:=bz.size;clear bz kz d0 d1 d2;have HB4:=Aa (HB.out.trans (BZ.out.mono HB.out.size));by_cases ha:inB a 0 ((fs.length:Int) - 1)=true
      ·have ha2:=Ct.1 ha;obtain⟨ka,rfl⟩:∃k:Nat,a= (k:Int):=⟨a.toNat,by omega⟩;have hka:ka < fs.length:=by omega
       obtain⟨bf,offf,capf,lv,hsf,_,hbsf,_,_,c1,ro⟩:=(HRF.out _ BZ.out).at_ hka;cases hsf
       obtain⟨la,lc,rfl⟩:=ro.form;obtain⟨E,hE⟩:∃E,fs[ka].os.length=E:=⟨_,rfl⟩;rw[hE]at c1;have hEb:E≤1048576:=by have:=Hr (An hka);omega
       have hFE:(fs.getD (ka:Int).toNat fn0).os.length=E:=by rw[Dq,EV hka,hE]
       have HFE:=Aa hFE;have e3:IntKind.i64.wrap ((E:Int) - 1)= (E:Int) - 1:=AX _ (by omega);have hka0:(0:Int)≤ (ka:Int):=by omega
       have hka1:(ka:Int) < (fs.length:Int):=by omega
       have H1:=Aa (fun(W:World)=>(by have:=HW.out (ka:Int) 0 ((fs.length:Int) - 1) W;rw[ha]at this;exact this:Calls Pq 65 #[.int .i64 (ka:Int),.int .i64 0,.int .i64 ((fs.length:Int) - 1)] W _));have HA:=Aa ha;clear ro hE hFE ha2 ha;by_cases hp:inB p 0 ((E:Int) - 1)=true
       ·have H2:=Aa (fun(W:World)=>(by have:=HW.out p 0 ((E:Int) - 1) W;rw[hp]at this;exact this:Calls Pq 65 #[.int .i64 p,.int .i64 0,.int .i64 ((E:Int) - 1)] W _));have HP:=Aa hp;clear hp;by_cases hm:inB m 1 ((ss.length:Int) - 1)=true
        ·have H3:=Aa (fun(W:World)=>(by have:=HW.out m 1 ((ss.length:Int) - 1) W;rw[hm]at this;exact this:Calls Pq 65 #[.int .i64 m,.int .i64 1,.int .i64 ((ss.length:Int) - 1)] W _));have HM:=Aa hm;clear hm;by_cases hk0:k=0
         ·subst hk0;go_quiet ((go_at_call 65;first | (with_reducible exact Az (H1.out _)) | (with_reducible exact Az (H2.out _)) | (with_reducible exact Az (H3.out _))));go_wp2;go_roundw
          case rel=>exact⟨1,hlt,by go_num,AM HB4.out nq,Aa (fun j hj=>by
           obtain rfl:j=0:=by omega
           unfold Ca;rw[HOG.out];dsimp only;rw[HFE.out,HA.out,HP.out,HM.out];rfl)⟩
          case measure=>simp[intOf];omega
         ·obtain⟨kp,rfl⟩:∃kp,k=kp+1:=⟨k - 1,by omega⟩;obtain⟨b2,off2,cap2,hs2,_,_,_,_,_,c5⟩:=RdO.at_ (RC.out _ (HBW.out.trans (BZ.out.mono (by have:=HBW.out.size;omega)))) (show kp < cs.length by omega);cases hs2
          obtain⟨pm,hpm⟩:∃pm,cs[kp].m=pm:=⟨_,rfl⟩;rw[hpm]at c5;have HPM:=Aa (show(cs.getD kp c0).m=pm by rw[FG (by omega),hpm]);have e4:IntKind.i64.wrap (((kp+1:Nat):Int) - 1)= (kp:Int):=by rw[AX _ (by omega)];omega
          have e5:IntKind.i64.wrap ((kp:Int)+1 - 1)= (kp:Int):=by rw[AX _ (by omega)];omega
          have hg0:(0:Int) < (kp:Int)+1:=by omega
          have hkp:(kp:Int) < (cs.length:Int):=by omega
          by_cases hlm:m≤pm
          ·have HBAD:=Aa (DJ (fs:=fs) (ns:=ss.length) hlt (by
            unfold Ca;rw[HOG.out,GU,HPM.out];dsimp only;rw[show decide (pm < m)=false by simp;omega];simp))
           clear hpm;go_quiet ((go_at_call 65;first | (with_reducible exact Az (H1.out _)) | (with_reducible exact Az (H2.out _)) | (with_reducible exact Az (H3.out _))));go_wp2;go_ret;exact⟨Ac (HVC.out HBAD.out).symm,BX.out.trans ((AM HB4.out nq).mono hxz)⟩
          ·have hlm2:¬(m≤pm):=hlm;clear hpm;go_quiet ((go_at_call 65;first | (with_reducible exact Az (H1.out _)) | (with_reducible exact Az (H2.out _)) | (with_reducible exact Az (H3.out _))));go_wp2;go_roundw
           case rel=>exact⟨kp+1+1,hlt,by go_num,AM HB4.out nq,Aa (fun j hj=>by
            by_cases e:j=kp+1
            ·subst e;unfold Ca;rw[HOG.out,GU,HPM.out];dsimp only;rw[HFE.out,HA.out,HP.out,HM.out,show decide (pm < m)=true by simp;omega];simp
            ·exact hd.out j (by omega))⟩
           case measure=>simp[intOf];omega
        ·have hm:inB m 1 ((ss.length:Int) - 1)=false:=by simpa using hm
         have H3:=Aa (fun(W:World)=>(by have:=HW.out m 1 ((ss.length:Int) - 1) W;rw[hm]at this;exact this:Calls Pq 65 #[.int .i64 m,.int .i64 1,.int .i64 ((ss.length:Int) - 1)] W _));have HBAD:=Aa (DJ (fs:=fs) (ns:=ss.length) hlt (by
          unfold Ca;rw[HOG.out];dsimp only;rw[hm];simp))
         clear hm;go_quiet ((go_at_call 65;first | (with_reducible exact Az (H1.out _)) | (with_reducible exact Az (H2.out _)) | (with_reducible exact Az (H3.out _))));go_wp2;go_ret;exact⟨Ac (HVC.out HBAD.out).symm,BX.out.trans ((AM HB4.out nq).mono hxz)⟩
       ·have hp:inB p 0 ((E:Int) - 1)=false:=by simpa using hp
        have H2:=Aa (fun(W:World)=>(by have:=HW.out p 0 ((E:Int) - 1) W;rw[hp]at this;exact this:Calls Pq 65 #[.int .i64 p,.int .i64 0,.int .i64 ((E:Int) - 1)] W _));have H3:=H2;have HBAD:=Aa (DJ (fs:=fs) (ns:=ss.length) hlt (by
         unfold Ca;rw[HOG.out];dsimp only;rw[HFE.out,hp];simp))
        clear hp;go_quiet ((go_at_call 65;first | (with_reducible exact Az (H1.out _)) | (with_reducible exact Az (H2.out _)) | (with_reducible exact Az (H3.out _))));go_wp2;go_ret;exact⟨Ac (HVC.out HBAD.out).symm,BX.out.trans ((AM HB4.out nq).mono hxz)⟩
      ·have ha:inB a 0 ((fs.length:Int) - 1)=false:=by simpa using ha
       have H1:=Aa (fun(W:World)=>(by have:=HW.out a 0 ((fs.length:Int) - 1) W;rw[ha]at this;exact this:Calls Pq 65 #[.int .i64 a,.int .i64 0,.int .i64 ((fs.length:Int) - 1)] W _));have H2:=H1;have H3:=H1;have HBAD:=Aa (DJ (fs:=fs) (ns:=ss.length) hlt (by
        unfold Ca;rw[HOG.out];dsimp only;rw[ha];rfl))
       clear ha;go_quiet ((go_at_call 65;first | (with_reducible exact Az (H1.out _)) | (with_reducible exact Az (H2.out _)) | (with_reducible exact Az (H3.out _))));go_wp2;go_ret;exact⟨Ac (HVC.out HBAD.out).symm,BX.out.trans ((AM HB4.out nq).mono hxz)⟩
     ·obtain rfl:k=cs.length:=by omega
      have HYES:=Aa (IT (fun j hj=>hd.out j hj));have HBW:=Aa hbw;have HU:=Aa (RU.out _ hbw);clear hb hbw k1;go_wp2
      go_loop [8] (fun i=>∃k:Nat,k≤os.length∧i= .int .i64 k∧Hid (∀j,j < k→AU (os.getD j 0)=true)) (fun i=>os.length - (intOf i).toNat)
      case atStart=>exact⟨0,Ao _,rfl,Aa (fun j hj=>absurd hj (by omega))⟩
      case round=>
       obtain⟨k,hk,rfl,hall⟩:=hrel;by_cases hlt:k < os.length
       ·rcases HU.out with ⟨h',_⟩ |⟨bl,off,c',hv,_,hbs,_,hc⟩
        ·rw[h']at hlt;simp at hlt
        cases hv
        have c0:=hc k hlt;obtain⟨y,hxx⟩:∃y,os.getD k 0=y:=⟨_,rfl⟩;rw[hxx]at c0;have HX:=Aa hxx;clear hc hxx;cases hwi:AU y
        ·have HT2:=Aa (Dd y wr);rw[hwi]at HT2;have HW5:=Aa hwi;clear hwi;go_wp2_with fail;refine HT2.out.mono ?_;rintro e w5 ⟨rfl,rfl⟩;go_wp2;go_ret;exact⟨Ac (V8.out (JY hlt HX.out HW5.out)).symm,HBW.out⟩
        ·have HT2:=Aa (Dd y wr);rw[hwi]at HT2;have HW5:=Aa hwi;clear hwi;go_wp2_with fail;refine HT2.out.mono ?_;rintro e w5 ⟨rfl,rfl⟩;go_wp2
         go_round
         case rel=>exact⟨k+1,hlt,by go_num,Aa (J0 hall.out (by rw[HX.out];exact HW5.out))⟩
         case measure=>simp[intOf];omega
       ·obtain rfl:k=os.length:=by omega
        have HB:=Aa (JZ (fun j hj=>hall.out j (by omega)));clear hall;go_wp2;go_ret;exact⟨Ac (HEND.out HYES.out HA.out HB.out).symm,HBW.out⟩
theorem Vd {B:Nat}(fv hv sv cv ov:Value) (L:VmL) (w:World) (hr:RdV B w fv hv sv cv ov L) (hi:D9 L) (hl:Bw L≤1048576) (hcode:¬L.code=0):
  Calls Pq 25 #[vmV fv hv sv cv ov L] w fun e w'=>e= .returned (.bool (Bc L))∧Below w.heap.size w w':=by
 have V1:=Aa (@NP L);have V2:=Aa (@NQ L);have V3:=Aa (@NR L);have V4:=Aa (@NS L);have V5:=Aa (@NU L);have V6:=Aa (@NW L);have V7:=Aa (@NX L);have HVC:=Aa (@NY L);have V8:=Aa (@NZ L);have V9:=Aa (@N9 L);obtain⟨V,hV⟩:∃V,Bc L=V:=⟨_,rfl⟩;rw[hV]at V1 V2 V3 V4 V5 V6 V7 HVC V8 V9 ⊢;clear hV;obtain⟨fs,zs,h,b,n,ss,cs,os,code,each⟩:=L;dsimp only at hcode;obtain⟨if_,iz,ih,ib,in_,is,_,hio,hcd⟩:=hi;unfold Bw at hl;dsimp only at if_ iz ih ib in_ is hio hcd hl V1 V2 V3 V4 V5 V6 V7 HVC V8 V9;have RF:=Aa (fun(W:World) (hb:Below w.heap.size w W)=>hr.f.below' hb);have RC:=Aa (fun(W:World) (hb:Below w.heap.size w W)=>RdE.below' hr.c hb);have RS:=Aa (fun(W:World) (hb:Below w.heap.size w W)=>hr.s.below' hb);have RU:=Aa (fun(W:World) (hb:Below w.heap.size w W)=>hr.o.below' hb);have hfn:=fun(W:World) (hb:Below w.heap.size w W)=>LJ fv fs W (hr.f.below' hb) if_ (by omega);have hho:=fun(W:World) (hb:Below w.heap.size w W)=>Jo hv zs h b n W (hr.z.below' hb) iz (by omega) ih ib in_;dsimp only at RF RC RS RU;obtain⟨q1,hq1⟩:∃q,CL fs=q:=⟨_,rfl⟩;rw[hq1]at hfn V1 V9;obtain⟨q4,hq4⟩:∃q,inB code 0 5=q:=⟨_,rfl⟩;rw[hq4]at V5 V9;have HF:=Aa hfn;have HW4:=Aa (fun(W:World)=>(by have:=AZ code 0 5 W;rw[hq4]at this;exact this:Calls Pq 65 #[.int .i64 code,.int .i64 0,.int .i64 5] W _));clear hq1 hq4 hfn;cases hok:Cf zs h b n
 ·rw[hok]at hho;have HHO:=Aa hho;have V2':=Aa (V2.out hok);obtain⟨fa,fc,rfl⟩:=hr.f.form;obtain⟨ha,hc,rfl⟩:=hr.z.form;obtain⟨sa,sc,rfl⟩:=hr.s.form;obtain⟨ca,cc,rfl⟩:=hr.c.form;obtain⟨oa,oc,rfl⟩:=hr.o.form;clear hr if_ iz ih ib in_ is hio hcd hho hok;unfold vmV;dsimp only;go_enter Tryz.func25,Tryz.ntmps25;go_wp2_with fail;generalize hx:w.alloc _=x;obtain⟨bb,k1⟩:=Bx.alloc hx;clear hx;have ck1:=k1.2.1;have yk1:=k1.1;go_wp2_with fail;refine(HF.out _ bb).mono ?_;rintro e w1 ⟨rfl,b1⟩;clear ck1 yk1;replace k1:=k1.below b1 k1.1;replace bb:=bb.trans (b1.mono bb.size);clear b1;cases q1
  ·go_wp2;go_ret;exact⟨Ac (V1.out (by first |trivial |rfl)).symm,bb⟩
  have ck1:=k1.2.1;have yk1:=k1.1;go_wp2_with fail;refine(HHO.out _ bb).mono ?_;rintro e w2 ⟨rfl,b2⟩;clear ck1 yk1;replace k1:=k1.below b2 k1.1;replace bb:=bb.trans (b2.mono bb.size);clear b2;go_wp2;go_ret;exact⟨Ac V2'.out.symm,bb⟩
 ·rw[hok]at hho;have HHO:=Aa hho;obtain⟨h',b',n',ps,rfl,rfl,rfl,hR⟩:=Right.of hok;have hS:=fun(W:World) (hb:Below w.heap.size w W)=>Im hv zs h' b' n' W (hr.z.below' hb) iz hR.frame;rw[hR.some]at hS;have HS:=Aa hS;have HRT:=Aa (GB (rs:=ss) hok hR.some);have HRN:=Aa (fun(h:ss.all (AA ps)=false)=>V3.out ((GB (rs:=ss) hok hR.some).trans h));obtain⟨fa,fc,rfl⟩:=hr.f.form;obtain⟨ha,hc,rfl⟩:=hr.z.form;obtain⟨sa,sc,rfl⟩:=hr.s.form;obtain⟨ca,cc,rfl⟩:=hr.c.form;obtain⟨oa,oc,rfl⟩:=hr.o.form;clear hr if_ iz ih ib in_ is hio hcd hho hok hS hR;unfold vmV;dsimp only;have e1:IntKind.i64.wrap ((fs.length:Int) - 1)= (fs.length:Int) - 1:=AX _ (by omega);have e2:IntKind.i64.wrap ((ss.length:Int) - 1)= (ss.length:Int) - 1:=AX _ (by omega);have HW:=Aa (fun(a b c:Int) (W:World)=>(AZ a b c W).mono (fun e w' h=>And.intro h.1 h.2.symm));go_enter Tryz.func25,Tryz.ntmps25;go_wp2_with fail;generalize hx:w.alloc _=x;obtain⟨bb,k1⟩:=Bx.alloc hx;clear hx;have ck1:=k1.2.1;have yk1:=k1.1;go_wp2_with fail;refine(HF.out _ bb).mono ?_;rintro e w1 ⟨rfl,b1⟩;clear ck1 yk1;replace k1:=k1.below b1 k1.1;replace bb:=bb.trans (b1.mono bb.size);clear b1;cases q1
  ·go_wp2;go_ret;exact⟨Ac (V1.out (by first |trivial |rfl)).symm,bb⟩
  have ck1:=k1.2.1;have yk1:=k1.1;go_wp2_with fail;refine(HHO.out _ bb).mono ?_;rintro e w2 ⟨rfl,b2⟩;clear ck1 yk1;replace k1:=k1.below b2 k1.1;replace bb:=bb.trans (b2.mono bb.size);clear b2;have ck1:=k1.2.1;have yk1:=k1.1;by_cases h3:600 < ss.length
  ·have V4':=Aa (V4.out (by omega));have h3i:(600:Int) < (ss.length:Int):=by omega
   go_wp2;go_ret;exact⟨Ac V4'.out.symm,bb⟩
  have h3i:¬((600:Int) < (ss.length:Int)):=by omega
  by_cases h4:120 < cs.length
  ·have V6':=Aa (V6.out (by omega));have h4i:(120:Int) < (cs.length:Int):=by omega
   go_wp2;go_ret;exact⟨Ac V6'.out.symm,bb⟩
  have h4i:¬((120:Int) < (cs.length:Int)):=by omega
  have h5i:(code==0)=false:=by simpa using hcode
  have h5j:¬code=0:=hcode;have H56:=Aa (show code=0→0 < cs.length from fun h=>absurd h hcode);clear hcode;go_wp2_with fail;refine(HW4.out _).mono ?_;rintro e w3 ⟨rfl,rfl⟩;cases q4
  ·go_wp2;go_ret;exact⟨Ac (V5.out (by first |trivial |rfl)).symm,bb⟩
  have HEND:=Aa (show Ey fs ss.length cs=true→ss.all (AA ps)=true→os.all AU=true→V=true from fun a b c=>V9.out (by first |trivial |rfl) (HRT.out.trans b) (by omega) (by first |trivial |rfl) (by omega) H56.out a c);go_wp2_with fail;refine(HS.out _ bb).mono ?_;rintro e w4 ⟨⟨u,rfl,o2⟩,b4⟩;clear ck1 yk1;replace k1:=k1.below b4 k1.1;replace bb:=bb.trans (b4.mono bb.size);clear b4;rw[Fs,←Ep]at o2;obtain⟨a2,c2',rfl⟩:=AR o2;have HT:=Aa (fun(x:Int)=>J6 (.slice a2 (AS ps).length c2') ps x w4 (Rd.of_own o2));have HQ:=Aa (RS.out _ bb);have BX:=Aa bb;have K1:=Aa k1;have hxz:=bb.size;have ck1:=k1.2.1;have yk1:=k1.1;clear o2 bb;go_wp2
  go_loop [5] (fun i=>∃k:Nat,k≤ss.length∧i= .int .i64 k∧Hid (∀j,j < k→AA ps (ss.getD j 0)=true)) (fun i=>ss.length - (intOf i).toNat)
  case atStart=>exact⟨0,Ao _,rfl,Aa (fun j hj=>absurd hj (by omega))⟩
  case round=>
   obtain⟨k,hk,rfl,hall⟩:=hrel;by_cases hlt:k < ss.length
   ·rcases HQ.out with ⟨h',_⟩ |⟨bl,off,c',hv,_,hbs,_,hc⟩
    ·rw[h']at hlt;simp at hlt
    cases hv
    have c0:=hc k hlt;obtain⟨x,hxx⟩:∃x,ss.getD k 0=x:=⟨_,rfl⟩;rw[hxx]at c0;have HX:=Aa hxx;clear hc hxx;cases hwi:AA ps x
    ·have HT2:=Aa (HT.out x);rw[hwi]at HT2;have HW5:=Aa hwi;clear hwi;go_wp2_with fail;refine HT2.out.mono ?_;rintro e w5 ⟨rfl,rfl⟩;go_wp2;go_ret;exact⟨Ac (HRN.out (Gk hlt HX.out HW5.out)).symm,BX.out⟩
    ·have HT2:=Aa (HT.out x);rw[hwi]at HT2;have HW5:=Aa hwi;clear hwi;go_wp2_with fail;refine HT2.out.mono ?_;rintro e w5 ⟨rfl,rfl⟩;go_wp2
     go_round
     case rel=>exact⟨k+1,hlt,by go_num,Aa (Gm hall.out (by rw[HX.out];exact HW5.out))⟩
     case measure=>simp[intOf];omega
   ·obtain rfl:k=ss.length:=by omega
    have HA:=Aa (Gl hall.out);clear hall;go_wp2;clear ck1 yk1 k1;obtain⟨x,rfl⟩:∃x,x=w4:=⟨w4,rfl⟩
    go_loopw [6] (fun i wr=>∃k:Nat,k≤cs.length∧i= .int .i64 k∧Below x.heap.size x wr∧Hid (∀j,j < k→Ca fs ss.length cs j=true)) (fun i _=>cs.length - (intOf i).toNat)
    case atStart=>exact⟨0,Ao _,rfl,Ab _ _,Aa (fun j h=>absurd h (by omega))⟩
    case round=>
     obtain⟨k,hk,rfl,hb,hd⟩:=hrel;have hbw:=BX.out.trans (hb.mono hxz);have k1:=K1.out.below hb K1.out.1;have q1:=k1.2.1;have y1:=k1.1;by_cases hlt:k < cs.length
     ·obtain⟨bo,offo,capo,hso,_,hbso,_,d0,d1,d2⟩:=RdO.at_ (RC.out _ hbw) hlt;cases hso
      have hkl:(k:Int) < (cs.length:Int):=by omega
      obtain⟨o,ho⟩:∃o,cs[k]=o:=⟨_,rfl⟩;have hog:cs.getD k c0=o:=by rw[FG hlt,ho]
      rw[ho]at d0 d1 d2;obtain⟨a,p,m⟩:=o;dsimp only at d0 d1 d2;have HOG:=Aa hog;have HB:=Aa hb;have HBW:=Aa hbw;have hbz:=hb.size;have HRF:=Aa (fun(W:World) (h:Below wr.heap.size wr W)=>RF.out W (HBW.out.trans (h.mono (by have:=HBW.out.size;omega))));clear ho hog hb hbw k1;go_wp2_with fail;generalize hz:wr.alloc _=z;obtain⟨bz,kz⟩:=Bx.alloc hz;clear hz;replace q1:∀j:Nat,z.cell? ⟨w.heap.size,j,none⟩=_:=fun j=>(bz.cell (p:=⟨w.heap.size,j,none⟩) y1).trans (q1 j);have qz:=kz.2.1;have HD0:=Aa (fun(t:Nat)=>bz.cell (p:=⟨bo,t,none⟩) hbso);have BZ:=Aa bz;have hzz:=bz.size;clear bz kz d0 d1 d2;have HB4:=Aa (HB.out.trans (BZ.out.mono HB.out.size));by_cases ha:inB a 0 ((fs.length:Int) - 1)=true
      ·have ha2:=Ct.1 ha;obtain⟨ka,rfl⟩:∃k:Nat,a= (k:Int):=⟨a.toNat,by omega⟩;have hka:ka < fs.length:=by omega
       obtain⟨bf,offf,capf,lv,hsf,_,hbsf,_,_,c1,ro⟩:=(HRF.out _ BZ.out).at_ hka;cases hsf
       obtain⟨la,lc,rfl⟩:=ro.form;obtain⟨E,hE⟩:∃E,fs[ka].os.length=E:=⟨_,rfl⟩;rw[hE]at c1;have hEb:E≤1048576:=by have:=Hr (An hka);omega
       have hFE:(fs.getD (ka:Int).toNat fn0).os.length=E:=by rw[Dq,EV hka,hE]
       have HFE:=Aa hFE;have e3:IntKind.i64.wrap ((E:Int) - 1)= (E:Int) - 1:=AX _ (by omega);have hka0:(0:Int)≤ (ka:Int):=by omega
       have hka1:(ka:Int) < (fs.length:Int):=by omega
       have H1:=Aa (fun(W:World)=>(by have:=HW.out (ka:Int) 0 ((fs.length:Int) - 1) W;rw[ha]at this;exact this:Calls Pq 65 #[.int .i64 (ka:Int),.int .i64 0,.int .i64 ((fs.length:Int) - 1)] W _));have HA:=Aa ha;clear ro hE hFE ha2 ha;by_cases hp:inB p 0 ((E:Int) - 1)=true
       ·have H2:=Aa (fun(W:World)=>(by have:=HW.out p 0 ((E:Int) - 1) W;rw[hp]at this;exact this:Calls Pq 65 #[.int .i64 p,.int .i64 0,.int .i64 ((E:Int) - 1)] W _));have HP:=Aa hp;clear hp;by_cases hm:inB m 1 ((ss.length:Int) - 1)=true
        ·have H3:=Aa (fun(W:World)=>(by have:=HW.out m 1 ((ss.length:Int) - 1) W;rw[hm]at this;exact this:Calls Pq 65 #[.int .i64 m,.int .i64 1,.int .i64 ((ss.length:Int) - 1)] W _));have HM:=Aa hm;clear hm;by_cases hk0:k=0
         ·subst hk0;go_quiet ((go_at_call 65;first | (with_reducible exact Az (H1.out _)) | (with_reducible exact Az (H2.out _)) | (with_reducible exact Az (H3.out _))));go_wp2;go_roundw
          case rel=>exact⟨1,hlt,by go_num,AM HB4.out nq,Aa (fun j hj=>by
           obtain rfl:j=0:=by omega
           unfold Ca;rw[HOG.out];dsimp only;rw[HFE.out,HA.out,HP.out,HM.out];rfl)⟩
          case measure=>simp[intOf];omega
         ·obtain⟨kp,rfl⟩:∃kp,k=kp+1:=⟨k - 1,by omega⟩;obtain⟨b2,off2,cap2,hs2,_,_,_,_,_,c5⟩:=RdO.at_ (RC.out _ (HBW.out.trans (BZ.out.mono (by have:=HBW.out.size;omega)))) (show kp < cs.length by omega);cases hs2
          obtain⟨pm,hpm⟩:∃pm,cs[kp].m=pm:=⟨_,rfl⟩;rw[hpm]at c5;have HPM:=Aa (show(cs.getD kp c0).m=pm by rw[FG (by omega),hpm]);have e4:IntKind.i64.wrap (((kp+1:Nat):Int) - 1)= (kp:Int):=by rw[AX _ (by omega)];omega
          have e5:IntKind.i64.wrap ((kp:Int)+1 - 1)= (kp:Int):=by rw[AX _ (by omega)];omega
          have hg0:(0:Int) < (kp:Int)+1:=by omega
          have hkp:(kp:Int) < (cs.length:Int):=by omega
          by_cases hlm:m≤pm
          ·have HBAD:=Aa (DJ (fs:=fs) (ns:=ss.length) hlt (by
            unfold Ca;rw[HOG.out,GU,HPM.out];dsimp only;rw[show decide (pm < m)=false by simp;omega];simp))
           clear hpm;go_quiet ((go_at_call 65;first | (with_reducible exact Az (H1.out _)) | (with_reducible exact Az (H2.out _)) | (with_reducible exact Az (H3.out _))));go_wp2;go_ret;exact⟨Ac (HVC.out HBAD.out).symm,BX.out.trans ((AM HB4.out nq).mono hxz)⟩
          ·have hlm2:¬(m≤pm):=hlm;clear hpm;go_quiet ((go_at_call 65;first | (with_reducible exact Az (H1.out _)) | (with_reducible exact Az (H2.out _)) | (with_reducible exact Az (H3.out _))));go_wp2;go_roundw
           case rel=>exact⟨kp+1+1,hlt,by go_num,AM HB4.out nq,Aa (fun j hj=>by
            by_cases e:j=kp+1
            ·subst e;unfold Ca;rw[HOG.out,GU,HPM.out];dsimp only;rw[HFE.out,HA.out,HP.out,HM.out,show decide (pm < m)=true by simp;omega];simp
            ·exact hd.out j (by omega))⟩
           case measure=>simp[intOf];omega
        ·have hm:inB m 1 ((ss.length:Int) - 1)=false:=by simpa using hm
         have H3:=Aa (fun(W:World)=>(by have:=HW.out m 1 ((ss.length:Int) - 1) W;rw[hm]at this;exact this:Calls Pq 65 #[.int .i64 m,.int .i64 1,.int .i64 ((ss.length:Int) - 1)] W _));have HBAD:=Aa (DJ (fs:=fs) (ns:=ss.length) hlt (by
          unfold Ca;rw[HOG.out];dsimp only;rw[hm];simp))
         clear hm;go_quiet ((go_at_call 65;first | (with_reducible exact Az (H1.out _)) | (with_reducible exact Az (H2.out _)) | (with_reducible exact Az (H3.out _))));go_wp2;go_ret;exact⟨Ac (HVC.out HBAD.out).symm,BX.out.trans ((AM HB4.out nq).mono hxz)⟩
       ·have hp:inB p 0 ((E:Int) - 1)=false:=by simpa using hp
        have H2:=Aa (fun(W:World)=>(by have:=HW.out p 0 ((E:Int) - 1) W;rw[hp]at this;exact this:Calls Pq 65 #[.int .i64 p,.int .i64 0,.int .i64 ((E:Int) - 1)] W _));have H3:=H2;have HBAD:=Aa (DJ (fs:=fs) (ns:=ss.length) hlt (by
         unfold Ca;rw[HOG.out];dsimp only;rw[HFE.out,hp];simp))
        clear hp;go_quiet ((go_at_call 65;first | (with_reducible exact Az (H1.out _)) | (with_reducible exact Az (H2.out _)) | (with_reducible exact Az (H3.out _))));go_wp2;go_ret;exact⟨Ac (HVC.out HBAD.out).symm,BX.out.trans ((AM HB4.out nq).mono hxz)⟩
      ·have ha:inB a 0 ((fs.length:Int) - 1)=false:=by simpa using ha
       have H1:=Aa (fun(W:World)=>(by have:=HW.out a 0 ((fs.length:Int) - 1) W;rw[ha]at this;exact this:Calls Pq 65 #[.int .i64 a,.int .i64 0,.int .i64 ((fs.length:Int) - 1)] W _));have H2:=H1;have H3:=H1;have HBAD:=Aa (DJ (fs:=fs) (ns:=ss.length) hlt (by
        unfold Ca;rw[HOG.out];dsimp only;rw[ha];rfl))
       clear ha;go_quiet ((go_at_call 65;first | (with_reducible exact Az (H1.out _)) | (with_reducible exact Az (H2.out _)) | (with_reducible exact Az (H3.out _))));go_wp2;go_ret;exact⟨Ac (HVC.out HBAD.out).symm,BX.out.trans ((AM HB4.out nq).mono hxz)⟩
     ·obtain rfl:k=cs.length:=by omega
      have HYES:=Aa (IT (fun j hj=>hd.out j hj));have HBW:=Aa hbw;have HU:=Aa (RU.out _ hbw);clear hb hbw k1;go_wp2
      go_loop [8] (fun i=>∃k:Nat,k≤os.length∧i= .int .i64 k∧Hid (∀j,j < k→AU (os.getD j 0)=true)) (fun i=>os.length - (intOf i).toNat)
      case atStart=>exact⟨0,Ao _,rfl,Aa (fun j hj=>absurd hj (by omega))⟩
      case round=>
       obtain⟨k,hk,rfl,hall⟩:=hrel;by_cases hlt:k < os.length
       ·rcases HU.out with ⟨h',_⟩ |⟨bl,off,c',hv,_,hbs,_,hc⟩
        ·rw[h']at hlt;simp at hlt
        cases hv
        have c0:=hc k hlt;obtain⟨y,hxx⟩:∃y,os.getD k 0=y:=⟨_,rfl⟩;rw[hxx]at c0;have HX:=Aa hxx;clear hc hxx;cases hwi:AU y
        ·have HT2:=Aa (Dd y wr);rw[hwi]at HT2;have HW5:=Aa hwi;clear hwi;go_wp2_with fail;refine HT2.out.mono ?_;rintro e w5 ⟨rfl,rfl⟩;go_wp2;go_ret;exact⟨Ac (V8.out (JY hlt HX.out HW5.out)).symm,HBW.out⟩
        ·have HT2:=Aa (Dd y wr);rw[hwi]at HT2;have HW5:=Aa hwi;clear hwi;go_wp2_with fail;refine HT2.out.mono ?_;rintro e w5 ⟨rfl,rfl⟩;go_wp2
         go_round
         case rel=>exact⟨k+1,hlt,by go_num,Aa (J0 hall.out (by rw[HX.out];exact HW5.out))⟩
         case measure=>simp[intOf];omega
       ·obtain rfl:k=os.length:=by omega
        have HB:=Aa (JZ (fun j hj=>hall.out j (by omega)));clear hall;go_wp2;go_ret;exact⟨Ac (HEND.out HYES.out HA.out HB.out).symm,HBW.out⟩
theorem Ve {B:Nat}(fv hv sv cv ov:Value) (L:VmL) (w:World) (hr:RdV B w fv hv sv cv ov L) (hi:D9 L) (hl:Bw L≤1048576):
  Calls Pq 25 #[vmV fv hv sv cv ov L] w fun e w'=>e= .returned (.bool (Bc L))∧Below w.heap.size w w':=by
 by_cases h:L.code=0
 ·exact Vc fv hv sv cv ov L w hr hi hl h
 ·exact Vd fv hv sv cv ov L w hr hi hl h
end Go.Proofs.YtifhcbeaiijkcaaGreat
