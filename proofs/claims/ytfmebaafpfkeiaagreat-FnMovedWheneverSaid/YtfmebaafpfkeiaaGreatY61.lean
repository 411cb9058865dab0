/- Parts of the proof of FnMovedWhenever. -/
import Derived.Test.YtfmebaafpfkeiaaGreatY13
import Derived.Test.YtfmebaafpfkeiaaGreatY24
import Derived.Test.YtfmebaafpfkeiaaGreatY14
import Derived.Test.YtfmebaafpfkeiaaGreatY62
import Derived.Test.YtfmebaafpfkeiaaGreatY63
import Derived.Test.YtfmebaafpfkeiaaGreatY64
set_option linter.unusedVariables false
set_option linter.unusedSimpArgs false
set_option maxRecDepth 1000000
set_option maxHeartbeats 16000000
section
namespace Go.Proofs.YtfmebaafpfkeiaaGreat
open Go.RowKit
theorem ZO {o:List Nat}(p:Nat) (h:o.length≤6000):-1≤numOf o p∧numOf o p≤6000:=by
 by_cases hp:p∈o
 ·have:=OW hp;omega
 ·rw[OX hp];omega
theorem ZP {ps:List Nat}{x:Int}(h:Ai ps x=true) (ho:¬x%2=0):-1073741824≤x/2∧x/2≤1073741823:=by
 rw[P3 ho]at h;exact Aw.1 h
theorem ZQ {B B2 gn N:Nat}(nv v:Value) (ps o:List Nat) (xs:List Int) (w:World) (hn:Rd B .i64 w nv (A7 o N)) (hg:w.cell? ⟨gn,0,none⟩=some nv) (hr:Rd B2 .i64 w v xs)
  (hx:xs.all (Ai ps)=true) (hp:∀p∈ps,p < N) (hol:o.length≤6000) (hxl:xs.length≤4294967296):
  Calls Tryz.prog 70 #[v,.pointer (some ⟨gn,0,none⟩)] w fun e w'=>e= .returned (.string (st (wordsTxt o xs++ [10])))∧Still w w':=by
 obtain⟨a,c,rfl⟩:=hr.form;obtain⟨na,nc,hnv⟩:=hn.form;rw[DR]at hnv;subst hnv;have RK:=Lib.hid (fun(W:World) (hs:Still w W)=>hr.below (hs.below B2) (Nat.le_refl _));have RN:=Lib.hid (fun(W:World) (hs:Still w W)=>hn.below (hs.below B) (Nat.le_refl _));have RG:=Lib.hid (fun(W:World) (hs:Still w W)=>((hs.below (gn+1)).cell (p:=⟨gn,0,none⟩) (by dsimp only;omega)).trans hg);clear hr hn hg;go_enter Tryz.func70,Tryz.ntmps70;go_wp2
 go_loopw [4,9] (fun t i wr=>∃k:Nat,k≤xs.length∧i= .int .i64 k∧t= .string (st (wordsTxt o (xs.take k)))∧Still w wr) (fun _ i _=>xs.length - (intOf i).toNat)
 case atStart=>exact⟨0,Nat.zero_le _,rfl,rfl,Still.refl _⟩
 case round=>
  obtain⟨k,hk,rfl,rfl,hs⟩:=hrel;have hsl:(st (wordsTxt o (xs.take k))).size≤98784247808:=by
   rw[Dx];have h1:=I6 o (xs.take k);have h2:=PB xs k;omega
  by_cases hlt:k < xs.length
  ·rcases RK.out _ hs with ⟨h',_⟩ |⟨bl,off,c',hv,_,hbs,_,hc⟩
   ·rw[h']at hlt;simp at hlt
   cases hv
   have c0:=hc k hlt;have hx1:=KE hx hlt;have hst:wordsTxt o (xs.take (k+1))=wordsTxt o (xs.take k)++wordTxt o (xs.getD k 0):=PA (wordTxt o) 0 xs k hlt;obtain⟨x,hxx⟩:∃x,xs.getD k 0=x:=⟨_,rfl⟩;rw[hxx]at c0 hx1 hst;obtain⟨S,hSS⟩:∃S,st (wordsTxt o (xs.take k))=S:=⟨_,rfl⟩;rw[hSS]at hsl ⊢;have HST:=Lib.hid hst;have HSS:=Lib.hid hSS;have HS:=Lib.hid hs;clear hst hxx hc hSS;by_cases hev:x%2=0
   ·obtain⟨p,hpp,hpx⟩:=GR hx1 hev;have hpN:=hp p hpp;have hpe:(x/2).toNat=p:=by omega
    have HX:=Lib.hid hpx;have e1:(x%2==0)=true:=by simp;omega
    rcases RN.out _ hs with ⟨h',_⟩ |⟨bn,offn,cn',hvn,_,_,_,hcn⟩
    ·have:=congrArg List.length h';rw[DR]at this;simp at this;omega
    rw[DR]at hvn;cases hvn
    have c1:=hcn p (by rw[DR];exact hpN);rw[OV hpN]at c1;have q1:=RG.out _ hs;obtain⟨hm0,hm1⟩:=ZO p hol;have HWT:=Lib.hid (show wordTxt o x=[32,64]++Ch (numOf o p)by unfold wordTxt;rw[if_pos hev,hpe]);obtain⟨m,hm⟩:∃m,numOf o p=m:=⟨_,rfl⟩;rw[hm]at c1 hm0 hm1 HWT;have HD:=Lib.hid (fun(W:World)=>(Hv m W (by omega) (by omega)).mono (fun e w' h=>And.intro h.1 h.2.symm));have HR:=Lib.hid (fun(W:World)=>(by have:=(ET x W).mono (fun e w' h=>And.intro h.1 h.2.symm);rw[←HX.out]at this;exact this:Calls Tryz.prog 72 #[.int .i64 x] W _));have hds:(Cq m).size≤21:=Ht m;have HDL:=Lib.hid (show Cq m=st (Ch m)from rfl);obtain⟨D,hD⟩:∃D,Cq m=D:=⟨_,rfl⟩;rw[hD]at hds HDL HD;have hz1:(⟨#[32,64]⟩:ByteArray).size+D.size≤9223372036854775807:=by show 2+D.size≤_;omega
    have hz2:S.size+ ((⟨#[32,64]⟩:ByteArray)++D).size≤9223372036854775807:=by rw[ByteArray.size_append];show _+ (2+D.size)≤_;omega
    have hpi:(p:Int) < (N:Int):=by omega
    clear hs hcn hpx hpe hm hev hx1 hD;go_wp2_with (go_at_call 71;refine(Be _ _).mono ?_;rintro e w' ⟨rfl,rfl⟩);go_quiet (first | (go_at_call 72;exact Calls.quiet_of_same (HR.out _)) | (go_at_call 65;exact Calls.quiet_of_same (HD.out _)));have hs':=HS.out.trans (⟨nq,rfl⟩:Still wr _);go_wp2;go_roundw
    case rel=>exact⟨k+1,hlt,by go_num,by rw[HST.out,←CC,HSS.out,HWT.out,←CC,HDL.out];rfl,hs'⟩
    case measure=>simp[intOf];omega
   ·have e1:(x%2==0)=false:=by simp;omega
    obtain⟨b0,b1⟩:=ZP hx1 hev;have HWT:=Lib.hid (show wordTxt o x=[32]++Ch (x/2)by unfold wordTxt;rw[if_neg hev]);have HD:=Lib.hid (fun(W:World)=>Hv (x/2) W (by omega) (by omega));have hds:(Cq (x/2)).size≤21:=Ht _;have HDL:=Lib.hid (show Cq (x/2)=st (Ch (x/2))from rfl);obtain⟨D,hD⟩:∃D,Cq (x/2)=D:=⟨_,rfl⟩;rw[hD]at hds HDL HD;have hz1:(⟨#[32]⟩:ByteArray).size+D.size≤9223372036854775807:=by show 1+D.size≤_;omega
    have hz2:S.size+ ((⟨#[32]⟩:ByteArray)++D).size≤9223372036854775807:=by rw[ByteArray.size_append];show _+ (1+D.size)≤_;omega
    clear hs hev hx1 hD;go_wp2_with (first | (go_at_call 71;refine(Be _ _).mono ?_;rintro e w' ⟨rfl,rfl⟩) | (go_at_call 73;refine(DV _ _).mono ?_;rintro e w' ⟨rfl,rfl⟩) | (go_at_call 65;refine(HD.out _).mono ?_;rintro e w' ⟨rfl,rfl⟩));go_roundw
    case rel=>exact⟨k+1,hlt,by go_num,by rw[HST.out,←CC,HSS.out,HWT.out,←CC,HDL.out];rfl,HS.out⟩
    case measure=>simp[intOf];omega
  ·obtain rfl:k=xs.length:=by omega
   rw[List.take_of_length_le (Nat.le_refl _)]at hsl ⊢;have HS:=Lib.hid hs;have hz1:(st (wordsTxt o xs)).size+ (⟨#[10]⟩:ByteArray).size≤9223372036854775807:=by show _+1≤_;omega
   clear hs;go_wp2;go_ret;exact⟨by rw[←CC];rfl,HS.out⟩
theorem ZR {base:Nat}{w:World}{a:Option Addr}{c:Nat}{S:List Nat}(h:w.ownsRow base 3 1 (.slice a S.length c) S.length (S.map ofN)):Rd w.heap.size .i64 w (.slice a S.length c) (Ax S):=by
 rw[GA]at h;have h2:w.ownsRow base 3 1 (.slice a S.length c) (Ax S).length ((Ax S).map (Value.int .i64)):=by rw[De];exact h
 exact Rd.of_own h2
theorem ZS {X:Int}(h:hOk X=true):0≤Az X∧Az X≤3000:=by
 obtain⟨h1,h2,h3,h4⟩:=FJ.1 h;unfold Az at h3 ⊢;omega
theorem Py {B:Nat}(v vr:Value) (ws rs:List Int) (h b n:Int) (w:World) (hr:Rd B .i64 w v ws) (hw:Au ws) (hlen:ws.length≤4294967296) (hq:Rd B .i64 w vr rs) (hrl:rs.length≤4294967296)
  (bh:-9223372036854775808≤h∧h≤9223372036854775807) (ib:-9223372036854775808≤b∧b≤9223372036854775807) (bn:-9223372036854775808≤n∧n≤9223372036854775807):
  Calls Tryz.prog 23 #[.agg #[v,.int .i64 h,.int .i64 b,.int .i64 n],vr] w fun e w'=>e= .returned (.string (CU ws h b n rs))∧Below w.heap.size w w':=by
 have hO:=fun(W:World) (hb:Below w.heap.size w W)=>KJ v vr ws rs h b n W (hr.below' hb) hw hlen (hq.below' hb) bh ib bn;cases hok:AW ws h b n rs
 ·obtain⟨a,cap,rfl⟩:=hr.form;obtain⟨qa,qc,rfl⟩:=hq.form;rw[hok]at hO;have HO:=Lib.hid hO;have HF:=Lib.hid (ZZ hok);clear hO hr hw bh ib bn hok hq;go_enter Tryz.func23,Tryz.ntmps23;go_wp2_with fail;generalize hx:w.alloc _=x;obtain⟨bb,k1⟩:=Bx.alloc hx;clear hx;refine(HO.out _ bb).mono ?_;rintro e w1 ⟨rfl,b1⟩;replace k1:=k1.below b1 k1.1;replace bb:=bb.trans (b1.mono bb.size);clear b1;go_wp2;go_ret;exact⟨by rw[HF.out];rfl,bb⟩
 ·rw[hok]at hO;have HO:=Lib.hid hO;have HF0:=PD hok;obtain⟨h',b',n',ps,rfl,rfl,rfl,hR,hx⟩:=Right.ofR hok;have hM:=fun(W:World) (hb:Below w.heap.size w W)=>OM v vr ws rs h' b' n' ps W hR (hr.below' hb) hw (hq.below' hb) hx hrl;have hoO:=EU hR hx;have hol:(Ao ws rs).length≤6000:=Nat.le_trans (hR.ord_len hoO) hR.n_le.2;obtain⟨o,ho⟩:∃o,Ao ws rs=o:=⟨_,rfl⟩;rw[ho]at hM HF0 hoO hol;have hB:=fun(B:Nat) (W:World) (p:Nat) (hp:p∈ps) (hr:Rd B .i64 W v ws)=>F5 v ws h' b' n' p W hr hw (hR.at_ hp).2.2.1 (Nat.le_trans (hR.at_ hp).2.2.2.1 hR.n_le.1) hlen;have hpN:∀p∈ps,p < ws.length:=fun p hp=>Nat.lt_of_lt_of_le (hR.at_ hp).2.1 hR.n_le.1;have hT:=fun(B B2 gn:Nat) (nv u:Value) (xs:List Int) (W:World) (hn:Rd B .i64 W nv (A7 o ws.length)) (hg:W.cell? ⟨gn,0,none⟩=some nv) (hr:Rd B2 .i64 W u xs) (hx:xs.all (Ai ps)=true) (hxl:xs.length≤4294967296)=>
   ZQ nv u ps o xs W hn hg hr hx hpN hol hxl
  have HM:=Lib.hid hM;have HF:=Lib.hid HF0;have HB:=Lib.hid hB;have HT:=Lib.hid hT;have HR:=Lib.hid hR;have HX:=Lib.hid hx;have HOO:=Lib.hid hoO;have RW:=Lib.hid (fun(W:World) (hb:Below w.heap.size w W)=>hr.below' hb);have RQ:=Lib.hid (fun(W:World) (hb:Below w.heap.size w W)=>hq.below' hb);have hwl:=hR.n_le.2;obtain⟨a,cap,rfl⟩:=hr.form;obtain⟨qa,qc,rfl⟩:=hq.form;clear hO hr hw bh ib bn hok hq hM hoO ho hB hpN hT HF0 hR hx;go_enter Tryz.func23,Tryz.ntmps23;go_wp2_with fail;generalize hx:w.alloc _=x;obtain⟨bb,k1⟩:=Bx.alloc hx;clear hx;refine(HO.out _ bb).mono ?_;rintro e w1 ⟨rfl,b1⟩;replace k1:=k1.below b1 k1.1;replace bb:=bb.trans (b1.mono bb.size);clear b1;have ck1:=k1.2.1;have yk1:=k1.1;go_wp2_with fail;refine(HM.out _ bb).mono ?_;rintro e w2 ⟨ov,nv,rfl,oo,rn,b2⟩;clear ck1 yk1;replace k1:=k1.below b2 k1.1;replace bb:=bb.trans (b2.mono bb.size);clear b2;obtain⟨oa,oc,rfl⟩:=AC oo;have ro:=ZR oo;clear oo;obtain⟨na,nc,hnf⟩:=rn.form;rw[DR]at hnf;subst hnf;go_wp2_with fail;generalize hx:w2.alloc _=x3;obtain⟨b3,k3⟩:=Bx.alloc hx;clear hx;replace ro:=ro.below b3 (Nat.le_refl _);replace rn:=rn.below b3 (Nat.le_refl _);replace k1:=k1.below b3 k1.1;replace bb:=bb.trans (b3.mono bb.size);clear b3;have z3:=k3.1;refine(HT.out _ _ _ _ _ _ _ rn (k3.2.1 0) (RQ.out _ bb) HX.out hrl).mono ?_;rintro e w4 ⟨rfl,s4⟩;have b4:=s4.below x3.heap.size;clear s4;replace ro:=ro.below b4 (Nat.le_of_lt z3);replace rn:=rn.below b4 (Nat.le_of_lt z3);replace k1:=k1.below b4 k1.1;replace k3:=k3.below b4 k3.1;replace bb:=bb.trans (b4.mono bb.size);clear b4;have z4:=k3.1;obtain⟨gn,hgn⟩:∃gn,w2.heap.size=gn:=⟨_,rfl⟩;rw[hgn]at k3 z3 z4 ro rn ⊢;have HGN:=Lib.hid hgn;have K1:=Lib.hid k1;have K3:=Lib.hid k3;have RO:=Lib.hid ro;have RN:=Lib.hid rn;have BB:=Lib.hid bb;have hT0:(wordsTxt o rs++ [10]).length≤98784247809:=by have:=I6 o rs;simp;omega
  obtain⟨T0,hT0e⟩:∃T0,wordsTxt o rs++ [10]=T0:=⟨_,rfl⟩;rw[hT0e]at hT0 ⊢;have HF2:=Lib.hid (show CU ws h' b' n' rs=st (T0++o.flatMap (Co ws o))by rw[HF.out,←hT0e];rfl);clear hgn k1 k3 ro rn bb hT0e;go_wp2
  go_loopw [8,31] (fun t i wr=>∃k:Nat,k≤o.length∧i= .int .i64 k∧t= .string (st (T0++ (o.take k).flatMap (Co ws o)))∧Bx wr w.heap.size #[.slice a ws.length cap,.int .i64 h',.int .i64 b',.int .i64 n']∧
   Bx wr gn #[.slice na ws.length nc]∧Rd gn .i64 wr (.slice oa o.length oc) (Ax o)∧Rd gn .i64 wr (.slice na ws.length nc) (A7 o ws.length)∧Below w.heap.size w wr) (fun _ i _=>o.length - (intOf i).toNat)
  case atStart=>exact⟨0,Nat.zero_le _,rfl,by simp,K1.out,K3.out,RO.out,RN.out,BB.out⟩
  case round=>
   clear K1 K3 RO RN BB;obtain⟨k,hk,rfl,rfl,k1,k3,ro,rn,bb⟩:=hrel;have hsl:(st (T0++ (o.take k).flatMap (Co ws o))).size≤98793247809:=by
    rw[Dx,List.length_append];have h1:=Pz (ZV ws o) (o.take k);have h2:=PB o k;omega
   by_cases hlt:k < o.length
   ·have hpm:=HOO.out.2 _ (FL hlt);have hst:T0++ (o.take (k+1)).flatMap (Co ws o)= (T0++ (o.take k).flatMap (Co ws o))++Co ws o (o.getD k 0):=by rw[PA (Co ws o) 0 o k hlt,List.append_assoc]
    rcases ro with ⟨h',_⟩ |⟨bl,off,c',hv,hbg,hbs,hbm,hc⟩
    ·have:=congrArg List.length h';rw[De,List.length_nil]at this;omega
    have ro:Rd gn .i64 wr (.slice oa o.length oc) (Ax o):= .inr ⟨bl,off,c',hv,hbg,hbs,hbm,hc⟩;have c0:=hc k (by rw[De];exact hlt);rw[J4]at c0;rw[De]at hv;cases hv
    obtain⟨p,hpp⟩:∃p,o.getD k 0=p:=⟨_,rfl⟩;rw[hpp]at hpm c0 hst;have hat:=HR.out.at_ hpm;have hBp:=HB.out _ wr p hpm (RW.out _ bb);obtain⟨X,hXX⟩:∃X,ws.getD p 0=X:=⟨_,rfl⟩;rw[hXX]at hBp;have hbt:Co ws o p=FW X++Ch (Az X)++ (wordsTxt o (Ae ws p)++ [10]):=by unfold Co;rw[hXX]
    rw[hbt]at hst;obtain⟨t0,t1⟩:=ZS (X:=X) (by rw[←hXX];exact hat.2.2.1);have hka:=hat.2.2.2.2;have hkl:=Lg ws p;have hK1:=I6 o (Ae ws p);have HD:=Lib.hid (fun(W:World)=>Hv (Az X) W (by omega) (by omega));have hds:(Cq (Az X)).size≤21:=Ht _;have HDL:=Lib.hid (show Cq (Az X)=st (Ch (Az X))from rfl);obtain⟨D,hD⟩:∃D,Cq (Az X)=D:=⟨_,rfl⟩;rw[hD]at hds HDL HD;have hts:(st (wordsTxt o (Ae ws p)++ [10])).size≤1473:=by rw[Dx];simp;omega
    obtain⟨T,hT⟩:∃T,st (wordsTxt o (Ae ws p)++ [10])=T:=⟨_,rfl⟩;have HTp:=fun(B B2:Nat) (nv u:Value) (W:World) (hn:Rd B .i64 W nv (A7 o ws.length)) (hg:W.cell? ⟨gn,0,none⟩=some nv) (hr:Rd B2 .i64 W u (Ae ws p))=>HT.out B B2 gn nv u (Ae ws p) W hn hg hr hka (by omega);rw[hT]at hts HTp;obtain⟨S,hS⟩:∃S,st (T0++ (o.take k).flatMap (Co ws o))=S:=⟨_,rfl⟩;rw[hS]at hsl ⊢;have HST:=Lib.hid hst;have HS:=Lib.hid hS;have HT2:=Lib.hid hT;have HTP:=Lib.hid HTp;have hki:(k:Int) < (o.length:Int):=by omega
    cases hf:Ce X
    all_goals
     have HK:=Lib.hid (show FW X=_ by unfold FW;rw[hf]);rw[hf]at hBp;have HBP:=Lib.hid hBp;clear hst hc hpp hXX hbt hat hD hT hS hBp HTp hf;have ck1:=k1.2.1;have yk1:=k1.1;go_wp2_with fail;clear ck1 yk1;refine HBP.out.mono ?_;rintro e w5 ⟨u,rfl,ru,b5⟩;obtain⟨ua,uc,rfl⟩:=ru.form;have zg:=k3.1;replace ro:=ro.below b5 (Nat.le_of_lt zg);replace rn:=rn.below b5 (Nat.le_of_lt zg);replace k1:=k1.below b5 k1.1;replace k3:=k3.below b5 k3.1;replace bb:=bb.trans (b5.mono bb.size);clear b5;clear c0;go_wp2_with fail;refine(HD.out _).mono ?_;rintro e w6 ⟨rfl,rfl⟩;go_wp2_with fail;refine(HTP.out _ _ _ _ _ rn (k3.2.1 0) ru).mono ?_;rintro e w7 ⟨rfl,s7⟩;have b7:=s7.below w5.heap.size;clear s7 ru;have zg:=k3.1;replace ro:=ro.below b7 (Nat.le_of_lt zg);replace rn:=rn.below b7 (Nat.le_of_lt zg);replace k1:=k1.below b7 k1.1;replace k3:=k3.below b7 k3.1;replace bb:=bb.trans (b7.mono bb.size);clear b7
    ·have K1:=Lib.hid k1;have K3:=Lib.hid k3;have RO:=Lib.hid ro;have RN:=Lib.hid rn;have BB:=Lib.hid bb;have hz1:(⟨#[99,111,110,32]⟩:ByteArray).size+D.size≤9223372036854775807:=by show 4+D.size≤_;omega
     have hz2:((⟨#[99,111,110,32]⟩:ByteArray)++D).size+T.size≤9223372036854775807:=by rw[ByteArray.size_append];show 4+D.size+T.size≤_;omega
     have hz3:S.size+ ((⟨#[99,111,110,32]⟩:ByteArray)++D++T).size≤9223372036854775807:=by rw[ByteArray.size_append,ByteArray.size_append];show _+ (4+D.size+T.size)≤_;omega
     clear k1 k3 ro rn bb;go_wp2;go_roundw
     case rel=>exact⟨k+1,hlt,by go_num,by rw[HST.out,←CC,HS.out,←CC,HT2.out,←CC,←HDL.out,HK.out];rfl,K1.out,K3.out,RO.out,RN.out,BB.out⟩
     case measure=>simp[intOf];omega
    ·have K1:=Lib.hid k1;have K3:=Lib.hid k3;have RO:=Lib.hid ro;have RN:=Lib.hid rn;have BB:=Lib.hid bb;have hz1:(⟨#[102,117,110,32]⟩:ByteArray).size+D.size≤9223372036854775807:=by show 4+D.size≤_;omega
     have hz2:((⟨#[102,117,110,32]⟩:ByteArray)++D).size+T.size≤9223372036854775807:=by rw[ByteArray.size_append];show 4+D.size+T.size≤_;omega
     have hz3:S.size+ ((⟨#[102,117,110,32]⟩:ByteArray)++D++T).size≤9223372036854775807:=by rw[ByteArray.size_append,ByteArray.size_append];show _+ (4+D.size+T.size)≤_;omega
     clear k1 k3 ro rn bb;go_wp2;go_roundw
     case rel=>exact⟨k+1,hlt,by go_num,by rw[HST.out,←CC,HS.out,←CC,HT2.out,←CC,←HDL.out,HK.out];rfl,K1.out,K3.out,RO.out,RN.out,BB.out⟩
     case measure=>simp[intOf];omega
   ·obtain rfl:k=o.length:=by omega
    rw[List.take_of_length_le (Nat.le_refl _)]at hsl ⊢;have BB:=Lib.hid bb;clear bb k1 k3 ro rn;go_wp2;go_ret;exact⟨by rw[HF2.out];rfl,BB.out⟩
end Go.Proofs.YtfmebaafpfkeiaaGreat
end
section
namespace Go.Proofs.YtfmebaafpfkeiaaGreat.fnMovedWhenever
open Go.ChangeShapes Go.WideShapes Go.ChangeAt Go.RowKit
theorem bt {a b:Bool}(h:a=true) (k:b=true):(a&& b)=true:=by rw[h,k];rfl
theorem joined:joinedFacts Tryz.prog 6 Tryz.f6 Rows.fnMovedWheneverSpec Rows.fnMovedWheneverRow=true:=(bt (bt (bt (bt (bt (bt (bt (bt (bt (bt (bt (bt (bt (bt (bt (bt (bt (bt (bt (bt (bt (bt (bt (bt (bt (bt (bt (bt (bt (bt (bt j0 j1) j2) j3) j4) j5) j6) j7) j8) j9) j10) j11) j12) j13) j14) j15) j16) j17) j18) j19) j20) j21) j22) j23) j24) j25) j26) j27) j28) j29) j30) j31)
end Go.Proofs.YtfmebaafpfkeiaaGreat.fnMovedWhenever
end
