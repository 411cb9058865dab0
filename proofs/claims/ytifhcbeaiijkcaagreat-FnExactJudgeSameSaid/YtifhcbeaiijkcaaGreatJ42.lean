/- Parts of the proof of FnExactJudgeSame. -/
import Derived.Test.YtifhcbeaiijkcaaGreatJ41
import Derived.Test.YtifhcbeaiijkcaaGreatJ38
import Derived.Test.YtifhcbeaiijkcaaGreatJ34
import Derived.Test.YtifhcbeaiijkcaaGreatJ32
import Derived.Test.YtifhcbeaiijkcaaGreatJ16
import Derived.Test.YtifhcbeaiijkcaaGreatJ10
set_option linter.unusedVariables false
set_option linter.unusedSimpArgs false
set_option maxRecDepth 1000000
set_option maxHeartbeats 16000000
namespace Go.Proofs.YtifhcbeaiijkcaaGreat
open Go.RowKit
open _root_.Go.World renaming alloc→Wa,setCell→Ws
open _root_.Go.Proofs.Tryz renaming prog→Pq
theorem Uu {B g:Nat}{X:Nat→Prop}{lv:Value}{ds:List Dt}{x:Nd}{kv ev:Value}{env:Env}{s:Es}{w:World}{r:Option Nat}(hf:s.fuel=0) (P:SPre B X g lv ds x kv ev env s w r):
  Calls Pq 56 #[.pointer (some ⟨g,0,none⟩),ndV x kv,ev] w (BH B X g lv (.bad 1 s.out) r w):=by
 have PP:=Aa P;obtain⟨ka,kc,rfl⟩:=P.rk.form;obtain⟨ea,ec,rfl⟩:=P.re.sc_form;have hx:=P.ev;rw[hf]at hx;have HX:=Aa hx;obtain⟨ov,hb, -, -⟩:=hx.bx;have q1:∀ (o1 o2:Obj),((w.alloc o1).alloc o2).cell? ⟨g,1,none⟩=some (.int .i64 0):=fun o1 o2=>((AG o1 o2).cell (p:=⟨g,1,none⟩) hb.1).trans (hb.2.1 1);have q2:∀ (o1 o2:Obj),((w.alloc o1).alloc o2).cell? ⟨g,2,none⟩=some (.int .i64 0):=fun o1 o2=>((AG o1 o2).cell (p:=⟨g,2,none⟩) hb.1).trans (hb.2.1 2);have f2:∀ (o1 o2:Obj),((w.alloc o1).alloc o2).frozen? ⟨g,2,none⟩=false:=fun o1 o2=>((AG o1 o2).frozen (p:=⟨g,2,none⟩) hb.1).trans (hb.2.2 2);have hgw:g < w.heap.size:=hb.1;have hwg:w.heap.size≠g:=by omega
 have hwg1:w.heap.size+1≠g:=by omega
 unfold ndV;clear P hx hb hf;go_enter Tryz.func56,Tryz.ntmps56;go_wp2_with fail;generalize hx:Wa (Wa _ _) _=z;obtain⟨e1,t1⟩:=HX.out.setC 1;obtain⟨b2,k2⟩:=Bx.alloc hx;simp only[Bo,AP]at k2 b2;have bb:Below w.heap.size (w.setCell ⟨g,2,none⟩ (.int .i64 1)) z:=by rw[←hx];exact(((Ab _ _).alloc (by simp) _).alloc (by simp) _)
 have c9:=k2.2.1;obtain⟨e2,t2⟩:=e1.same (by rw[AP];exact bb);refine Aq (v:= .agg sv0) ?_ rfl ⟨sv0,r,rfl,t1.trans t2,FormS.zero,.inl rfl,_,e2⟩;simp[results,Tryz.results56,go_sem,c9,sv0]
theorem Nm {B g:Nat}{lv:Value}{ds:List Dt}{ar:Str→Option Nat}{m:Nat}{X:Nat→Prop}{x:Nd}{kv ev:Value}{env:Env}{s:Es}{w:World}{r:Option Nat}(hf:s.fuel=0) (P:SPre B X g lv ds x kv ev env s w r):
  Calls Pq 56 #[.pointer (some ⟨g,0,none⟩),ndV x kv,ev] w (BH B X g lv (Ag ar m x env s) r w):=by
 rw[Mw hf];exact Uu hf P
theorem Nn {B g:Nat}{lv:Value}{ds:List Dt}{ar:Str→Option Nat}(har:ar=arP ds) (hlw:AN ds≤1048576):∀m,Ck B g lv ds ar m
 |0,X,x,kv,ev,env,s,w,r,hs,P=>Nm (by omega) P
 |m+1,X,x,kv,ev,env,s,w,r,hs,P=>by
  have IH:=Nn (B:=B) (g:=g) (lv:=lv) har hlw m;cases hf:s.fuel with
  |zero=>exact Nm hf P
  |succ f=>
   have hm:f≤m:=by omega
   rcases Hx P.np with o |o |o |o |o |o |o |o |o |o |o
   ·exact TR hf hm P o
   ·exact TS hf hm P o
   ·exact TU hf hm P o
   ·exact Uc hf hm P o IH
   ·exact TV hf hm P o IH
   ·exact TX hf hm P o IH
   ·exact Ul hf hm P o IH
   ·exact TY hf hm P o IH
   ·have h5:x.op=10∨x.op=11∨x.op=12∨x.op=13∨x.op=14:=by omega
    rcases h5 with o |o |o |o |o
    ·exact Uo hf hm P o IH
    ·exact Uq hf hm P o IH
    ·exact Ur hf hm P o IH
    ·exact Us hf hm P o IH
    ·exact Ut hf hm P o IH
   ·exact Um hf hm P o IH har hlw
   ·exact Un hf hm P o IH
theorem KI (ds:List Dt) (dv:Value) (B:Nat) (w:World) (hr:RdDts B w dv ds) (hl:AN ds≤1048576):
  Calls Pq 54 #[dv] w fun e w'=>e= .returned (.int .i64 (ckP ds))∧Below w.heap.size w w':=by
 have HR:=Aa hr;have hln:=Dn ds;have hds:ds.length≤1048576:=by omega
 have NC:=Aa (fun(k:Nat)=>(At (Gr ds k) (At (Hj ds) hl):BE (ds.take k)≤1048576));have NT:=Aa (FI ds);have SZ:=Aa (EP hl);have DA:=Aa (fun(s:Str)=>KE ds dv s _ w hr hds);have CO:=Aa (fun(s:Str)=>KF ds dv s _ w hr hl);have A0:=Aa (KH false ds dv _ w hr hl);have A1:=Aa (fun(W:World) (hb:Below w.heap.size w W)=>KH true ds dv _ W (hr.later' hb) hl);have HAN:=Aa (show Bu (BC ds true) ds= (Bu (Cs ds) ds&& Bu (Di ds) ds)by rw[Ps,Pp]);rw[Pr]at A0;have HE:=Aa (Lf ds);obtain⟨ka,kc,rfl⟩:=hr.form;generalize ckP ds=cp at*;clear hr hln hl;go_enter Tryz.func54,Tryz.ntmps54;go_wp2
 go_loop [3,4] (fun c i=>∃k:Nat,k≤ds.length∧i= .int .i64 k∧c= .int .i64 (BE (ds.take k))∧Hid (FJ ds k)) (fun _ i=>ds.length - (intOf i).toNat)
 case atStart=>exact⟨0,Ao _,rfl,rfl,Aa (Lg ds)⟩
 case round=>
  obtain⟨i,hi,rfl,rfl,hu⟩:=hrel;by_cases hlt:i < ds.length
  ·obtain⟨b,off,cap,cv,hv,hB,hbs,hcap,c0,c1,c2,hkr⟩:=HR.out.at_ hlt;cases hv
   have hki:(i:Int) < (ds.length:Int):=by omega
   have HC:=Aa hkr;have hsz:=SZ.out i hlt;have HNT:=Aa (NT.out i hlt);have hnc:=NC.out (i+1);rw[HNT.out]at hnc;obtain⟨ca,cc,rfl⟩:=hkr.form;clear hkr;go_wp2_with fail;refine(DA.out ds[i].name).mono ?_;rintro e w2 ⟨rfl,rfl⟩;by_cases hdx:dIx ds ds[i].name=i
   ·have HDX:=Aa hdx;rw[hdx];clear hdx;go_wp2
    go_loop [3,5] (fun c v=>∃k:Nat,k≤ds[i].cons.length∧v= .int .i64 k∧c= .int .i64 (BE (ds.take i)+k)∧Hid (Gs ds i k)) (fun _ v=>ds[i].cons.length - (intOf v).toNat)
    case atStart=>exact⟨0,Ao _,rfl,by simp,Aa (fun h l hl hlt=>absurd hlt (Aw l))⟩
    case round=>
     obtain⟨k,hk,rfl,rfl,hur⟩:=hrel;by_cases hlk:k < ds[i].cons.length
     ·obtain⟨b',off',cap',av,hv',hB',hbs',hcap',d0,d1, -⟩:=HC.out.at_ hlk;cases hv'
      have hkk:(k:Int) < (ds[i].cons.length:Int):=by omega
      have HUN:=Aa (fun e=>Li hlt hlk hur.out e);have HUB:=Aa (fun(e:Bp ds ds[i].cons[k].name≠ ((i:Int),(k:Int)))=>Hi (ds:=ds) (fun h=>e (h.2 i hlt k hlk)));have COk:=Aa (CO.out ds[i].cons[k].name);generalize Bp ds ds[i].cons[k].name=co at*;generalize ds[i].cons[k].name=cn at*;obtain⟨ca,cb⟩:=co;go_wp2_with fail;refine COk.out.mono ?_;rintro e w3 ⟨rfl,rfl⟩;dsimp only;by_cases ha:ca= (i:Int)
      ·subst ha;by_cases hb:cb= (k:Int)
       ·subst hb;have hy:=Aa (HUN.out rfl);go_wp2
        go_round
        case rel=>exact⟨k+1,hlk,by go_num,by go_num,hy⟩
        case measure=>simp[intOf];omega
       ·have hy:=Aa (HUB.out (fun e=>hb (Bk Prod.snd e)));have hbb:(cb !=(k:Int))=true:=by simpa using hb
        go_wp2;go_ret;exact⟨Ap (by rw[HE.out,hy.out];rfl),Ab _ _⟩
      ·have hy:=Aa (HUB.out (fun e=>ha (Bk Prod.fst e)));have hab:(ca !=(i:Int))=true:=by simpa using ha
       go_wp2;go_ret;exact⟨Ap (by rw[HE.out,hy.out];rfl),Ab _ _⟩
     ·obtain rfl:k=ds[i].cons.length:=by omega
      have hu2:=Aa (Lj hlt hu.out HDX.out hur.out);go_wp2
      go_round
      case rel=>exact⟨i+1,hlt,by go_num,by rw[HNT.out];rfl,hu2⟩
      case measure=>simp[intOf];omega
   ·have hy:=Aa (Hi (fun h=>hdx (h.1 i hlt)));have hdb:(dIx ds ds[i].name !=(i:Int))=true:=by simpa using hdx
    go_wp2;go_ret;exact⟨Ap (by rw[HE.out,hy.out];rfl),Ab _ _⟩
  ·obtain rfl:i=ds.length:=by omega
   rw[B8];have hnn:=NC.out ds.length;rw[B8]at hnn;have hy:=Aa (Le (Lh hu.out));go_wp2_with fail;refine A0.out.mono ?_;rintro e w2 ⟨rfl,bb⟩;cases hn:Bu (Cs ds) ds with
   |false=>
    have hn:=Aa hn;go_wp2;go_ret;exact⟨Ap (by rw[HE.out,hy.out,hn.out];rfl),bb⟩
   |true=>
    have hn:=Aa hn;go_wp2_with fail;refine(A1.out _ bb).mono ?_;rintro e w3 ⟨rfl,b3⟩;replace bb:=bb.trans (b3.mono bb.size);rw[HAN.out,hn.out,DH];cases hm:Bu (Di ds) ds with
    |false=>
     have hm:=Aa hm;go_wp2;go_ret;exact⟨Ap (by rw[HE.out,hy.out,hn.out,hm.out];simp),bb⟩
    |true=>
     have hm:=Aa hm;by_cases h60:BE ds≤60
     ·have h60i:¬((BE ds:Int) > 60):=by omega
      have h60':=Aa h60;clear h60;go_wp2;go_ret;exact⟨Ap (by rw[HE.out,hy.out,hn.out,hm.out];simp[h60'.out]),bb⟩
     ·have h60i:(BE ds:Int) > 60:=by omega
      have h60':=Aa h60;clear h60;go_wp2;go_ret;exact⟨Ap (by rw[HE.out,hy.out,hn.out];simp[h60'.out]),bb⟩
theorem Vn {B:Nat}{ds:List Dt}{x:Nd}{dv kv:Value}{w:World}(F:Int) (hz:SzP ds x) (hr:RdDts B w dv ds) (hk:RdNs B w kv x.kids) (hv:∀d∈ds, -9223372036854775808≤d.vars∧d.vars≤9223372036854775807)
  (hs:¬(BG ds x=true∧ckP ds=0)):
  Calls Pq 16 #[pgV dv x kv,.int .i64 F] w (EvR w ds x F):=by
 have HT:=Aa (fun(W:World) (b:Below w.heap.size w W)=>NI ds x dv kv _ _ W hz (hr.later' b) (hk.later' b) hv);have HC:=Aa (fun(W:World) (b:Below w.heap.size w W)=>KI ds dv _ W (hr.later' b) hz.1);have HE:Hid (AV ds x F= (2,none,[])):=Aa (by unfold AV;rw[Ae hs]);have HS:=Aa hs;obtain⟨da,dc,rfl⟩:=hr.form;obtain⟨ka,kc,rfl⟩:=hk.form;clear hr hk hv hs hz;unfold pgV at HT ⊢;go_enter Tryz.func16,Tryz.ntmps16;go_wp2_with fail;generalize hxx:(w.alloc _).alloc _=x0;obtain⟨bx,k1,k2,sx⟩:=Ho hxx;clear hxx;refine(HT.out x0 bx).mono ?_;rintro e w1 ⟨rfl,b1⟩;replace k1:=k1.below b1 k1.1;replace k2:=k2.below b1 k2.1;have c1:=k1.2.1;have c2:=k2.2.1;have f2:=k2.2.2;have y2:=k2.1;have B1:=Aa (bx.trans (b1.mono bx.size));clear k1 bx b1 HT;by_cases ht:BG ds x=true
 ·rw[ht];have hcne:ckP ds≠0:=fun h=>HS.out ⟨ht,h⟩;have hcb:(ckP ds !=0)=true:=by simpa using hcne
  generalize ckP ds=cc at*;clear ht hcne;go_wp2_with fail;refine(HC.out w1 B1.out).mono ?_;rintro e w2 ⟨rfl,b2⟩;have KK:=Aa (k2.below b2 k2.1);have BB:=Aa (B1.out.trans (b2.mono B1.out.size));have c3:=KK.out.2.1;have f3:=KK.out.2.2;have y3:=KK.out.1;clear k2 c1 c2 f2 y2 b2 HC;go_wp2;obtain⟨k9,g9⟩:=KK.out.set6 (.int .i64 2) (.int .i64 0) (.int .i64 0) (.string ⟨#[]⟩) (.slice none 0 0) (.slice none 0 0);have c9:=k9.2.1;refine Aq (v:= .agg #[.int .i64 2,.int .i64 0,.int .i64 0,.string ⟨#[]⟩,.slice none 0 0,.slice none 0 0]) ?_ rfl ⟨_,rfl,grown_at BB.out g9 (by omega),?_⟩
  ·simp[results,Tryz.results16,go_sem,c9]
  ·rw[HE.out];exact⟨_,_,_,_,_,rfl,.inl ⟨rfl,_,_,rfl⟩,rfl,rfl,rfl,rfl⟩
 ·obtain ht:BG ds x=false:=by simpa using ht
  rw[ht];have KK:=Aa k2;have BB:=B1;clear ht k2;go_wp2;obtain⟨k9,g9⟩:=KK.out.set6 (.int .i64 2) (.int .i64 0) (.int .i64 0) (.string ⟨#[]⟩) (.slice none 0 0) (.slice none 0 0);have c9:=k9.2.1;refine Aq (v:= .agg #[.int .i64 2,.int .i64 0,.int .i64 0,.string ⟨#[]⟩,.slice none 0 0,.slice none 0 0]) ?_ rfl ⟨_,rfl,grown_at BB.out g9 (by omega),?_⟩
  ·simp[results,Tryz.results16,go_sem,c9]
  ·rw[HE.out];exact⟨_,_,_,_,_,rfl,.inl ⟨rfl,_,_,rfl⟩,rfl,rfl,rfl,rfl⟩
theorem Vo {B g:Nat}{X:Nat→Prop}{lv:Value}{x:Nd}{kv ev:Value}{w:World}{r:Option Nat}{fu:Int}{o:List Int}(hf:fu≤0) (hx:Ev B g lv w fu 0 o r) (hk:RdNs B w kv x.kids) (he:∃a l c,ev= .slice a l c):
  Calls Pq 56 #[.pointer (some ⟨g,0,none⟩),ndV x kv,ev] w (BH B X g lv (.bad 1 o) r w):=by
 obtain⟨ka,kc,rfl⟩:=hk.form;obtain⟨ea,el,ec,rfl⟩:=he;have HX:=Aa hx;obtain⟨ov,hb, -, -⟩:=hx.bx;have q1:∀ (o1 o2:Obj),((w.alloc o1).alloc o2).cell? ⟨g,1,none⟩=some (.int .i64 fu):=fun o1 o2=>((AG o1 o2).cell (p:=⟨g,1,none⟩) hb.1).trans (hb.2.1 1);have q2:∀ (o1 o2:Obj),((w.alloc o1).alloc o2).cell? ⟨g,2,none⟩=some (.int .i64 0):=fun o1 o2=>((AG o1 o2).cell (p:=⟨g,2,none⟩) hb.1).trans (hb.2.1 2);have f2:∀ (o1 o2:Obj),((w.alloc o1).alloc o2).frozen? ⟨g,2,none⟩=false:=fun o1 o2=>((AG o1 o2).frozen (p:=⟨g,2,none⟩) hb.1).trans (hb.2.2 2);have hgw:g < w.heap.size:=hb.1;have hwg:w.heap.size≠g:=by omega
 have hwg1:w.heap.size+1≠g:=by omega
 unfold ndV;clear hk hx hb;go_enter Tryz.func56,Tryz.ntmps56;go_wp2_with fail;generalize hx:Wa (Wa _ _) _=z;obtain⟨e1,t1⟩:=HX.out.setC 1;obtain⟨b2,k2⟩:=Bx.alloc hx;simp only[Bo,AP]at k2 b2;have bb:Below w.heap.size (w.setCell ⟨g,2,none⟩ (.int .i64 1)) z:=by rw[←hx];exact(((Ab _ _).alloc (by simp) _).alloc (by simp) _)
 have c9:=k2.2.1;obtain⟨e2,t2⟩:=e1.same (by rw[AP];exact bb);refine Aq (v:= .agg sv0) ?_ rfl ⟨sv0,r,rfl,t1.trans t2,FormS.zero,.inl rfl,_,e2⟩;simp[results,Tryz.results56,go_sem,c9,sv0]
theorem Vp {ds:List Dt}{x:Nd}{dv kv:Value}{w2 w3:World}{f:Nat}{e:TypeId}(hz:SzP ds x) (ht:BG ds x=true) (hf:f≤4000) (hd:RdDts w2.heap.size w2 dv ds) (hk:RdNs w2.heap.size w2 kv x.kids)
  (h:w2.alloc (.cells #[dv,.int .i64 f,.int .i64 0,.slice none 0 0] e)=w3):SPre w2.heap.size (fun _=>False) w2.heap.size dv ds x kv (.slice none 0 0) [] ⟨f,[]⟩ w3 none:=by
 obtain⟨b,k⟩:=Bx.alloc h;unfold BG at ht;rw[Cd,Cd]at ht;exact⟨ht.2.2,hz.2.1,.nil,.sc [] (Ao _) (by simp),by simpa using hf,hk.later b (Ad _),.sc [] _ (fun _=> #[]) (.inl ⟨rfl,_,_,rfl⟩) (fun j hj=>absurd hj (Aw j)),⟨⟨_,k,⟨by simp,.inl ⟨rfl,rfl⟩⟩,rfl⟩,⟨Ad _,b.size⟩,by simp⟩,hd.later b (Ad _),fun b h=>h.elim⟩
theorem Vq (a b:Int) (w:World):Calls Pq 55 #[.int .i64 a,.int .i64 b] w fun e w'=>e= .returned (.int .i64 (min a b))∧w'=w:=by
 by_cases h:a < b
 ·have hm:=Aa (show min a b=a by omega);go_enter Tryz.func55,Tryz.ntmps55;go_wp2;go_ret;exact⟨Ap hm.out.symm,rfl⟩
 ·have hm:=Aa (show min a b=b by omega);go_enter Tryz.func55,Tryz.ntmps55;go_wp2;go_ret;exact⟨Ap hm.out.symm,rfl⟩
theorem Vr {B:Nat}{ds:List Dt}{x:Nd}{dv kv:Value}{w:World}(F:Int) (hz:SzP ds x) (hr:RdDts B w dv ds) (hk:RdNs B w kv x.kids) (hv:∀d∈ds, -9223372036854775808≤d.vars∧d.vars≤9223372036854775807)
  (hF:-9223372036854775808≤F∧F≤9223372036854775807) (hs:BG ds x=true∧ckP ds=0):
  Calls Pq 16 #[pgV dv x kv,.int .i64 F] w (EvR w ds x F):=by
 have HT:=Aa (fun(W:World) (b:Below w.heap.size w W)=>NI ds x dv kv _ _ W hz (hr.later' b) (hk.later' b) hv);have HC:=Aa (fun(W:World) (b:Below w.heap.size w W)=>KI ds dv _ W (hr.later' b) hz.1);have HE:Hid (AV ds x F=Fl (Ag (arP ds) (Bq F) x [] ⟨Bq F,[]⟩)):=Aa (by unfold AV;rw[Af hs]);have HS:=Aa hs;have HZ:=Aa hz;have HD:=Aa (fun(W:World) (b:Below w.heap.size w W)=>hr.later' b);have HK:=Aa (fun(W:World) (b:Below w.heap.size w W)=>hk.later' b);obtain⟨da,dc,rfl⟩:=hr.form;obtain⟨ka,kc,rfl⟩:=hk.form;obtain⟨ht,hc⟩:=hs;have HFU:=Aa (Lw F);have HF:=Aa hF;clear hr hk hv hz hF;unfold pgV at HT ⊢;go_enter Tryz.func16,Tryz.ntmps16;go_wp2_with fail;generalize hxx:(w.alloc _).alloc _=x0;obtain⟨bx,k1,k2,sx⟩:=Ho hxx;clear hxx;refine(HT.out x0 bx).mono ?_;rintro e w1 ⟨rfl,b1⟩;replace k1:=k1.below b1 k1.1;replace k2:=k2.below b1 k2.1;have c1:=k1.2.1;have hl1:=k1.1;have B1:=Aa (bx.trans (b1.mono bx.size));rw[ht];have HB1:=b1.size;clear bx b1 HT ht;go_wp2_with fail;refine(HC.out w1 B1.out).mono ?_;rintro e w2 ⟨rfl,b2⟩;rw[hc];replace k1:=k1.below b2 k1.1;have K1:=Aa k1;have K2:=Aa (k2.below b2 k2.1);have B2:=Aa (B1.out.trans (b2.mono B1.out.size));have hs2:w.heap.size+2≤w2.heap.size:=by have:=b2.size;omega
 have S0:=Aa (fun(W:World) (h:Below w2.heap.size w2 W)=>((k1.below h k1.1).2.1 0:W.cell? ⟨w.heap.size,0,none⟩=some (.slice da ds.length dc)));clear c1 k1 k2 b2 HC hc hl1 HB1;go_wp2_with fail;refine wp_region_held_drew (S:=(fun W=>W.cell? ⟨w.heap.size,0,none⟩=some (.slice da ds.length dc))) (by kernel_rfl) (by first | (dsimp only;exact S0.out _ (Below.refl _ _).drew) | (exact S0.out _ (Below.refl _ _).drew)) (fun hHeld=> ?_);generalize hxd:World.drew _=x1 at hHeld ⊢;have hd1:Below w2.heap.size w2 x1:=by rw[←hxd];exact(Ab _ _).drew
 clear hxd;refine tkH (i:=0) ?_;refine tkH (i:=1) ?_;refine tkH (i:=2) ?_;refine rdH (i:=3) (fun K hK=> ?_);go_simp;refine(Vq F 4000 x1).mono ?_;rintro e W6 ⟨rfl,rfl⟩;refine bkH hK (by first | (dsimp only;exact S0.out _ hd1) | (exact S0.out _ hd1)) (fun hHeld=> ?_);clear hK K;refine tkH (i:=4) ?_;refine rdH (i:=5) (fun K hK=> ?_);go_simp;generalize hy:Wa _ _=w3;refine bkH hK (by first | (dsimp only;(have hb3:Below w2.heap.size w2 w3:=hd1.trans ((Bx.alloc hy).1.mono hd1.size);exact S0.out _ hb3)) | ((have hb3:Below w2.heap.size w2 w3:=hd1.trans ((Bx.alloc hy).1.mono hd1.size);exact S0.out _ hb3))) (fun hHeld=> ?_);clear hK K;refine tkH (i:=6) ?_;refine A2 (by kernel_rfl) ?_ _;obtain⟨b3,k3⟩:=Bx.alloc hy;have B6:=Aa (B2.out.trans (hd1.mono B2.out.size));have BB:=Aa (B6.out.trans (b3.mono B6.out.size));have KR:=Aa ((K2.out.below hd1 K2.out.1).below b3 (Ah K2.out.1 hd1.size));have KP:=Aa ((K1.out.below hd1 K1.out.1).below b3 (Ah K1.out.1 hd1.size));have HFM:=Aa (show min F 4000≤0∧Bq F=0∨min F 4000= (Bq F:Int)by have:=HFU.out;omega);have HCALL:=Aa (show Calls Pq 56 #[.pointer (some ⟨W6.heap.size,0,none⟩),ndV x (.slice ka x.kids.length kc),.slice none 0 0] w3 (BH W6.heap.size (fun _=>False) W6.heap.size (.slice da ds.length dc) (Ag (arP ds) (Bq F) x [] ⟨Bq F,[]⟩) none w3)by
  have hsz6:=hd1.size;have hk6:=HK.out W6 B6.out;have hd6:=HD.out W6 B6.out;have hwl:w.heap.size≤W6.heap.size:=B6.out.size;rcases HFM.out with ⟨h1,h2⟩ |h1
  ·have hb:=(Vo (X:=fun _=>False) (fu:=min F 4000) (o:=[]) (r:=none) h1 (⟨⟨_,k3,⟨by simp,.inl ⟨rfl,rfl⟩⟩,rfl⟩,⟨Ad _,b3.size⟩,by simp⟩:Ev W6.heap.size W6.heap.size (.slice da ds.length dc) w3 (min F 4000) 0 [] none) ((hk6.later' (Ab _ _)).later b3 (Ad _)) ⟨none,0,0,rfl⟩);rw[h2];exact hb
  ·rw[h1]at hy;exact Nn rfl HZ.out.1 (Bq F) _ x _ _ [] _ w3 none (Ad _) (Vp HZ.out HS.out.1 (Lx F) (hd6.later' (Ab _ _)) (hk6.later' (Ab _ _)) hy))
 have qp:=KP.out.2.1;have lp:=KP.out.1;have HX3:=Aa b3;have hs6:w.heap.size+2≤W6.heap.size:=At hs2 hd1.size;have h36:=b3.size;clear hHeld hd1 b3 k3 hy;unfold ndV at HCALL;go_wp2_with fail;refine HCALL.out.mono ?_;rintro e W4 ⟨c4,r4,rfl,t4,h4⟩;have KR4:=Aa (KR.out.tw t4 (by omega) (by simp));have BB4:=Aa (BB.out.trans (t4.below (B:=w.heap.size) BB.out.size (by omega) (fun k e=>by cases e)));have HES:=Aa h4.evS;have H4:=Aa h4;have lg:=h4.evS.lt;obtain⟨res,hres⟩:∃R,Ag (arP ds) (Bq F) x [] ⟨Bq F,[]⟩=R:=⟨_,rfl⟩;rw[hres]at HE HES H4;have HR:=Aa hres;have HB4:=BB4.out.size;obtain⟨kd4,nn4,ss4,a14,l14,c14,xx4,a24,l24,c24,arg4,self4,a34,l34,c34,rfl⟩:=h4.formS;clear h4 t4 HCALL hres qp lp;unfold svC;cases res with
 |bad cd o=>
  obtain⟨hcd,f4,e4⟩:=HES.out;have hcb:(cd !=0)=true:=by rcases hcd with rfl |rfl <;> rfl
  obtain⟨ov,hb,how,hrv⟩:=e4.bx;obtain⟨oa,oc,rfl⟩:=AR how;have q2:W4.cell? ⟨W6.heap.size,2,none⟩=some (.int .i64 cd):=hb.2.1 2;have HB:=Aa hb;have HOW:=Aa how;clear hb how hrv e4;go_wp2_with fail;generalize hW5:Wa _ _=W5;obtain⟨b5, -⟩:=Bx.alloc hW5;have HQ:=Aa (fun(W':World) (h:Below W5.heap.size W5 W')=>(And.intro (((HB.out.below b5 HB.out.1).below h (Ah HB.out.1 b5.size)).2.1 2) (((HB.out.below b5 HB.out.1).below h (Ah HB.out.1 b5.size)).2.1 3):W'.cell? ⟨W6.heap.size,2,none⟩=some (.int .i64 cd)∧W'.cell? ⟨W6.heap.size,3,none⟩=some (.slice oa o.length oc)));have B5:=Aa b5;clear q2 hW5 b5;refine CQ 9 (S:=(fun W'=>W'.cell? ⟨W6.heap.size,2,none⟩=some (.int .i64 cd)∧W'.cell? ⟨W6.heap.size,3,none⟩=some (.slice oa o.length oc))) (by kernel_rfl) (by kernel_rfl) (by first | (dsimp only;exact HQ.out _ (Below.refl _ _).drew) | (exact HQ.out _ (Below.refl _ _).drew)) (fun hHeld=> ?_);generalize hxd:World.drew _=x2 at hHeld ⊢;have hd2:Below W5.heap.size W5 x2:=by rw[←hxd];exact(Ab _ _).drew
  have hd4:Below W4.heap.size W4 x2:=B5.out.trans (hd2.mono B5.out.size);clear hxd;refine tkT (i:=0) ?_;refine tkT (i:=1) ?_;refine tkT (i:=2) ?_;refine tkT (i:=3) ?_;refine tkT (i:=4) ?_;refine tkT (i:=5) ?_;refine tkT (i:=6) ?_;refine tkT (i:=7) ?_;refine tkT (i:=8) ?_;refine CM (by kernel_rfl) ?_;dsimp only[List.drop];have KR5:=Aa (KR4.out.below hd4 KR4.out.1);have BB5:=Aa (BB4.out.trans (hd4.mono BB4.out.size));have HO5:=Aa (Bm HOW.out hd4 (A5 HOW.out));have ck:=KR5.out.2.1;have fk:=KR5.out.2.2;have yk:=KR5.out.1;clear hHeld hd2 hd4;go_wp2;generalize hz:Ws (Ws _ _ _) _ _=z;obtain⟨e1,e2,e3⟩:=Hp KR5.out BB5.out HO5.out hs6 hz;refine Aq (v:= .agg #[.int .i64 cd,.int .i64 0,.int .i64 0,.string ⟨#[]⟩,.slice none 0 0,.slice oa o.length oc]) ?_ rfl ⟨_,rfl,e1,by rw[HE.out];exact e2⟩;simp[results,Tryz.results16,go_sem,e3]
 |ok v s4=>
  obtain⟨ov,hb,how,hrv⟩:=(show Ev W6.heap.size W6.heap.size (.slice da ds.length dc) W4 s4.fuel 0 s4.out r4 from HES.out).bx;obtain⟨oa,oc,rfl⟩:=AR how;have hb:Bx W4 W6.heap.size #[.slice da ds.length dc,.int .i64 s4.fuel,.int .i64 0,.slice oa s4.out.length oc]:=hb;have q2:W4.cell? ⟨W6.heap.size,2,none⟩=some (.int .i64 0):=hb.2.1 2;have HB:=Aa hb;have HOW:=Aa how;have HROW:=Aa HES.out.row;clear hb how hrv;go_wp2_with fail;generalize hW5:Wa _ _=W5;obtain⟨b5,k5⟩:=Bx.alloc hW5;have B5:=Aa b5;have K5:=Aa k5;have h5s:=b5.size;have h45:=k5.1;obtain⟨T,hT⟩:∃T,W4.heap.size=T:=⟨_,rfl⟩;rw[hT]at K5 ⊢;have RD5:=Aa (RdS.later H4.out.1 (Tw.of_below b5 (fun k e=>(HROW.out k e).2)) (b5.mono HES.out.gB.2));have HBD:=Aa (Nb v 4000 (by omega));have HPV:=Aa (show 1≤Ar v by cases v <;> (unfold Ar;omega));clear q2 hW5 b5 k5;refine(Nf W6.heap.size (fun _=>False) W6.heap.size r4 (Ar v+1) v _ W5 4000 (Cp _) (by omega) (by omega) (At HES.out.gB.2 B5.out.size) (fun k e=>Ah (HROW.out k e).2 B5.out.size) RD5.out).mono ?_;rintro e W7 ⟨rfl,b7⟩;have hd7:Below W4.heap.size W4 W7:=B5.out.trans (b7.mono B5.out.size);have KR7:=Aa (KR4.out.below hd7 KR4.out.1);have BB7:=Aa (BB4.out.trans (hd7.mono BB4.out.size));have HO7:=Aa (Bm HOW.out hd7 (A5 HOW.out));have HB7:=Aa (HB.out.below hd7 HB.out.1);have K7:=Aa (K5.out.below b7 K5.out.1);have RD7:=Aa (RdS.later H4.out.1 (Tw.of_below hd7 (fun k e=>(HROW.out k e).2)) (hd7.mono HES.out.gB.2));have HROW7:=Aa (fun k e=>Ah (HROW.out k e).2 hd7.size);have HGB7:=Aa (At HES.out.gB.2 hd7.size);have q3:=HB7.out.2.1;have l3:=HB7.out.1;by_cases hbig:Ar v > 4000
  ·have hrm:=HBD.out.2 (by omega);rw[hrm];have HBG:=Aa hbig;have ck:=KR7.out.2.1;have fk:=KR7.out.2.2;have yk:=KR7.out.1;clear hrm hbig b7 hd7;go_wp2;generalize hz:Ws (Ws _ _ _) _ _=z;obtain⟨e1,e2,e3⟩:=Hp KR7.out BB7.out HO7.out hs6 hz;refine Aq (v:= .agg #[.int .i64 1,.int .i64 0,.int .i64 0,.string ⟨#[]⟩,.slice none 0 0,.slice oa s4.out.length oc]) ?_ rfl ⟨_,rfl,e1,by rw[HE.out,LA (v:=v) rfl HBG.out];exact e2⟩;simp[results,Tryz.results16,go_sem,e3]
  ·obtain⟨rm,hrm⟩:∃z,CU v 4000=z:=⟨_,rfl⟩;have hr0:0≤rm:=by rw[←hrm,HBD.out.1 (by omega)];omega
   have hr1:rm≤4000:=by rw[←hrm,HBD.out.1 (by omega)];omega
   rw[hrm];have HSM:=Aa (show Ar v≤4000 by omega);have HQ:=Aa (fun(W':World) (h:Below W7.heap.size W7 W')=>(by
    have j1:=(K7.out.below h K7.out.1).2.1;have j2:=(HB7.out.below h HB7.out.1).2.1;exact⟨j1 0,j1 1,j1 2,j1 3,j1 4,j1 5,j1 6,j1 7,j1 8,j1 9,j1 10,j1 11,j2 3⟩:W'.cell? ⟨T,0,none⟩=some (.int .i64 kd4)∧W'.cell? ⟨T,1,none⟩=some (.int .i64 nn4)∧W'.cell? ⟨T,2,none⟩=some (.string ss4)∧W'.cell? ⟨T,3,none⟩=some (.slice a14 l14 c14)∧W'.cell? ⟨T,4,none⟩=some (.int .i64 xx4.op)∧W'.cell? ⟨T,5,none⟩=some (.int .i64 xx4.n)∧W'.cell? ⟨T,6,none⟩=some (.string xx4.s)∧W'.cell? ⟨T,7,none⟩=some (.string xx4.t)∧W'.cell? ⟨T,8,none⟩=some (.slice a24 l24 c24)∧W'.cell? ⟨T,9,none⟩=some (.string arg4)∧W'.cell? ⟨T,10,none⟩=some (.string self4)∧W'.cell? ⟨T,11,none⟩=some (.slice a34 l34 c34)∧W'.cell? ⟨W6.heap.size,3,none⟩=some (.slice oa s4.out.length oc)))
   clear hrm hbig b7 hd7;go_wp2_with fail;clear q3 l3;refine CQ 7 (S:=(fun W'=>W'.cell? ⟨T,0,none⟩=some (.int .i64 kd4)∧W'.cell? ⟨T,1,none⟩=some (.int .i64 nn4)∧W'.cell? ⟨T,2,none⟩=some (.string ss4)∧W'.cell? ⟨T,3,none⟩=some (.slice a14 l14 c14)∧W'.cell? ⟨T,4,none⟩=some (.int .i64 xx4.op)∧W'.cell? ⟨T,5,none⟩=some (.int .i64 xx4.n)∧W'.cell? ⟨T,6,none⟩=some (.string xx4.s)∧W'.cell? ⟨T,7,none⟩=some (.string xx4.t)∧W'.cell? ⟨T,8,none⟩=some (.slice a24 l24 c24)∧W'.cell? ⟨T,9,none⟩=some (.string arg4)∧W'.cell? ⟨T,10,none⟩=some (.string self4)∧W'.cell? ⟨T,11,none⟩=some (.slice a34 l34 c34)∧W'.cell? ⟨W6.heap.size,3,none⟩=some (.slice oa s4.out.length oc))) (by kernel_rfl) (by kernel_rfl) (by first | (dsimp only;exact HQ.out _ (Below.refl _ _).drew) | (exact HQ.out _ (Below.refl _ _).drew)) (fun hHeld=> ?_);generalize hxd:World.drew _=x2 at hHeld ⊢;have hd2:Below W7.heap.size W7 x2:=by rw[←hxd];exact(Ab _ _).drew
   clear hxd;have RD8:=Aa (RD7.out.lat hd2 HGB7.out HROW7.out);refine tkT (i:=0) ?_;refine tkT (i:=2) ?_;refine tkT (i:=3) ?_;refine tkT (i:=4) ?_;refine tkT (i:=5) ?_;refine rdT (i:=1) (fun K hK=> ?_);go_simp;refine(Ny W6.heap.size (fun _=>False) W6.heap.size r4 (Ar v+1) v _ x2 (Cp _) HSM.out (At HGB7.out hd2.size) (fun k e=>Ah (HROW7.out k e) hd2.size) RD8.out).mono ?_;rintro e W8 ⟨b8,kv8,rfl,tv8⟩;obtain⟨ka8,kc8,rfl⟩:=tv8.form;unfold vlC;refine bkT hK (by first | (dsimp only;exact HQ.out _ (hd2.trans (b8.mono hd2.size))) | (exact HQ.out _ (hd2.trans (b8.mono hd2.size)))) (fun hHeld=> ?_);clear hK K;refine tkT (i:=6) ?_;refine CM (by kernel_rfl) ?_;dsimp only[List.drop];have hd8:Below W7.heap.size W7 W8:=hd2.trans (b8.mono hd2.size);have KR8:=Aa (KR7.out.below hd8 KR7.out.1);have BB8:=Aa (BB7.out.trans (hd8.mono BB7.out.size));have HO8:=Aa (Bm HO7.out hd8 (A5 HO7.out));have TV8:=Aa tv8;have hM:=Aa (show w.heap.size+2≤x2.heap.size by have:=hd2.size;have:=B5.out.size;have:=HGB7.out;omega);have ck:=KR8.out.2.1;have fk:=KR8.out.2.2;have yk:=KR8.out.1;have q8:=(HQ.out _ hd8).2.2.2.2.2.2.2.2.2.2.2.2;have l8:=Ah HB7.out.1 hd8.size;clear hHeld hd2 b8 tv8 hd8;go_wp2;generalize hz:Ws (Ws _ _ _) _ _=z;obtain⟨e1,e2,e3⟩:=Ly KR8.out BB8.out HO8.out hs6 TV8.out hM.out hz;refine Aq (v:= .agg #[.int .i64 0,.int .i64 (kdV v),.int .i64 (nmV v),.string (tgV v),.slice ka8 (ksV v).length kc8,.slice oa s4.out.length oc]) ?_ rfl ⟨_,rfl,e1,by rw[HE.out,Lz (v:=v) rfl HSM.out];exact e2⟩;simp[results,Tryz.results16,go_sem,e3]
theorem Vs {B:Nat}{ds:List Dt}{x:Nd}{dv kv:Value}{w:World}(F:Int) (hz:SzP ds x) (hr:RdDts B w dv ds) (hk:RdNs B w kv x.kids) (hv:∀d∈ds, -9223372036854775808≤d.vars∧d.vars≤9223372036854775807)
  (hF:-9223372036854775808≤F∧F≤9223372036854775807):Calls Pq 16 #[pgV dv x kv,.int .i64 F] w (EvR w ds x F):=by
 by_cases hs:BG ds x=true∧ckP ds=0
 ·exact Vr F hz hr hk hv hF hs
 ·exact Vn F hz hr hk hv hs
theorem J4 (A:Nat→Prop):∀ (N:Nat) (u:Vl) (kv:Value) (w:World),Ar u < N→Ar u≤4000→lnV u≤4611686018427387904→Good (.th u)→RdTv A w u (vlC u kv)→
  Calls Pq 28 #[.agg (vlC u kv)] w (VtR w u)
 |0,u,kv,w,hN,hc,hl,hg,hr=>by omega
 |N+1,.int n,kv,w,hN,hc,hl,hg,hr=>by
  obtain⟨a,c,rfl⟩:=hr.form;have hw:=(Hy n).1 hg.inv_int;have HD:=Aa (fun(W:World)=>Qb n W (by omega) (by omega));clear hr hg hw hN hc hl
  show Calls Pq 28 #[.agg #[.int .i64 1,.int .i64 n,.string eS,.slice a 0 c]] w _
  go_enter Tryz.func28,Tryz.ntmps28;go_wp2_with fail;generalize hx:w.alloc _=x;obtain⟨bx,k1⟩:=Bx.alloc hx;clear hx;refine(HD.out x).mono ?_;rintro e w1 ⟨rfl,b1⟩;go_wp2;go_ret;exact⟨rfl,bx.trans (b1.mono bx.size)⟩
 |N+1,.fn a1 a2 a3 a4,kv,w,hN,hc,hl,hg,hr=>by
  obtain⟨a,c,rfl⟩:=hr.form;clear hr hg hN hc hl
  show Calls Pq 28 #[.agg #[.int .i64 3,.int .i64 0,.string eS,.slice a 0 c]] w _
  go_enter Tryz.func28,Tryz.ntmps28;go_wp2;generalize hx:w.alloc _=x;obtain⟨bx,k1⟩:=Bx.alloc hx;clear hx;go_ret;exact⟨rfl,bx⟩
 |N+1,.con s ks,kv,w,hN,hc,hl,hg,hr=>by
  have IH:=Aa (fun(j:Nat) (hj:j < ks.length) (kv2:Value) (W:World) (h:RdTv A W ks[j] (vlC ks[j] kv2))=>(by
   have:=Gj (An hj);have:=EA (.con s ks);have:=J2 (An hj);have:=Oa (.con s ks);simp only[ksV]at*;exact J4 A N ks[j] kv2 W (by omega) (by omega) (by omega) (hg.inv_con _ (An hj)) h:Calls Pq 28 #[.agg (vlC ks[j] kv2)] W (VtR W ks[j])))
  obtain⟨cs,hrw,hks⟩:=hr.inv;have HR:=Aa (fun(W:World) (b:Below w.heap.size w W)=>(hr.all b).inv);obtain⟨a,c,rfl⟩:=hr.form;have hlj:(BR s ks).size+2≤4611686018427387904:=by have:=Ix ks s;unfold lnV at hl;omega
  have HTX:=Aa (show txV (.con s ks)=if ks.isEmpty then s else(⟨#[40]⟩++BR s ks)++ ⟨#[41]⟩by unfold txV;rfl);have hln:ks.length≤4000:=by have:=EA (.con s ks);have:=Ir ks;simp only[ksV]at*;omega
  clear hrw hks cs hr hg hN hc hl
  show Calls Pq 28 #[.agg #[.int .i64 2,.int .i64 0,.string s,.slice a ks.length c]] w _
  simp only[ksV]at HR;obtain⟨tot,htot⟩:∃t,BR s ks=t:=⟨_,rfl⟩;rw[htot]at hlj HTX;have HTOT:=Aa htot;clear htot;go_enter Tryz.func28,Tryz.ntmps28;go_wp2
  go_loopw [3,4] (fun sx i wr=>∃ (k:Nat) (p:ByteArray),k≤ks.length∧i= .int .i64 k∧sx= .string p∧Hid (BR p (ks.drop k)=tot)∧Below w.heap.size w wr∧Bx wr w.heap.size #[.int .i64 2,.int .i64 0,.string s,.slice a ks.length c]) (fun _ i _=>ks.length - (intOf i).toNat)
  case atStart=>
   generalize hx:w.alloc _=x;obtain⟨bx,k1⟩:=Bx.alloc hx;exact⟨0,s,Ao _,rfl,rfl,Aa HTOT.out,bx,k1⟩
  case round=>
   obtain⟨k,p,hk,rfl,rfl,hj,bb,k1⟩:=hrel;by_cases hlt:k < ks.length
   ·obtain⟨cs,hrw,hks⟩:=HR.out wr bb;have hki:(k:Int) < (ks.length:Int):=by omega
    obtain⟨b,off,cap,hv,hb,hm,hcp,q0,q1,q2,q3⟩:=hrw.at_ hlt;cases hv
    have hkk:=hks k hlt;obtain⟨kv2,hkv⟩:=hkk.cells;rw[hkv]at q0 q1 q2 q3 hkk;obtain⟨ka2,kc2,rfl⟩:=hkk.form;have HKK:=Aa hkk;unfold vlC at q0 q1 q2 q3;have hj2:=Aa ((show BR p (ks.drop k)=BR (p++ (⟨#[32]⟩++txV ks[k])) (ks.drop (k+1))by rw[List.drop_eq_getElem_cons hlt,BR]).symm.trans hj.out);have hsz:(p++ (⟨#[32]⟩++txV ks[k])).size≤tot.size:=by rw[←hj2.out];exact J1 _ _
    have IHk:=Aa (fun(W:World) (bW:Below wr.heap.size wr W)=>IH.out k hlt _ W (HKK.out.all bW));obtain⟨T,hT⟩:∃T,txV ks[k]=T:=⟨_,rfl⟩;rw[hT]at hj2 hsz;have HT:=Aa hT;clear hrw hks hkk hkv hj hT;have e1:(⟨#[32]⟩:ByteArray).size=1:=rfl;simp only[Fg,e1]at hsz;have s1:p.size+ (⟨#[32]⟩:ByteArray).size≤9223372036854775807:=by rw[e1];omega
    have s2:(p++ (⟨#[32]⟩:ByteArray)).size+T.size≤9223372036854775807:=by rw[Fg,e1];omega
    clear e1 hsz;have BB:=Aa bb;have K1:=Aa k1;have ck1:=k1.2.1;have yk1:=k1.1;clear bb k1;go_wp2_with fail;refine(IHk.out wr (Ab _ _)).mono ?_;rintro e w2 ⟨rfl,b2⟩;rw[HT.out];clear IHk IH HKK HT HR HTX;have NB:=Aa (BB.out.trans (b2.mono BB.out.size));have NK:=Aa (K1.out.below b2 K1.out.1);clear b2 q0 q1 q2 q3 ck1 yk1;go_wp2;go_roundw
    case rel=>exact⟨k+1,p++ (⟨#[32]⟩++T),hlt,by go_num,by rw[←ByteArray.append_assoc],hj2,NB.out,NK.out⟩
    case measure=>simp[intOf];omega
   ·obtain rfl:k=ks.length:=by omega
    have hki:¬((ks.length:Int) < (ks.length:Int)):=by omega
    obtain rfl:p=tot:=by have:=hj.out;rw[EO]at this;simpa [BR] using this
    have BB:=Aa bb;clear bb hj;have ck1:=k1.2.1;have yk1:=k1.1;by_cases he:ks.length=0
    ·have hgt:¬((0:Int) < (ks.length:Int)):=by omega
     have HP:Hid (p=s):=Aa (by
      have h0:=List.eq_nil_of_length_eq_zero he;have:=HTOT.out;rw[h0]at this
      simpa [BR] using this.symm)
     have HY:Hid (txV (.con s ks)=s):=Aa (by rw[HTX.out,List.eq_nil_of_length_eq_zero he];rfl);clear he;go_wp2;go_ret;exact⟨by rw[HY.out,HP.out];rfl,BB.out⟩
    ·have hgt:(0:Int) < (ks.length:Int):=by omega
     have HY:Hid (txV (.con s ks)= (⟨#[40]⟩++p)++ ⟨#[41]⟩):=Aa (by
      rw[HTX.out];cases ks with
      |nil=>exact absurd rfl he
      |cons=>rfl)
     have e1:(⟨#[40]⟩:ByteArray).size=1:=rfl;have e2:(⟨#[41]⟩:ByteArray).size=1:=rfl;have s3:(⟨#[40]⟩:ByteArray).size+p.size≤9223372036854775807:=by rw[e1];omega
     have s4:((⟨#[40]⟩:ByteArray)++p).size+ (⟨#[41]⟩:ByteArray).size≤9223372036854775807:=by rw[Fg,e1,e2];omega
     clear e1 e2 he;go_wp2;go_ret;exact⟨by rw[HY.out];rfl,BB.out⟩
end Go.Proofs.YtifhcbeaiijkcaaGreat
