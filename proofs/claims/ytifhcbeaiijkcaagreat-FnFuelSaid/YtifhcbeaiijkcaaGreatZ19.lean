/- Parts of the proof of FnFuel. -/
import Derived.Test.YtifhcbeaiijkcaaGreatZ18
import Derived.Test.YtifhcbeaiijkcaaGreatZ17
import Derived.Test.YtifhcbeaiijkcaaGreatZ15
import Derived.Test.YtifhcbeaiijkcaaGreatZ09
import Derived.Test.YtifhcbeaiijkcaaGreatZ05
import Derived.Test.YtifhcbeaiijkcaaGreatRows
import Derived.Laws.BytesArg
import Derived.Test.YtifhcbeaiijkcaaGreatZ11
import Derived.Test.YtifhcbeaiijkcaaGreatZ07
import Derived.Test.YtifhcbeaiijkcaaGreatZ14
import Derived.Deep.QuietTactic
import Derived.BigQuiet
set_option linter.unusedVariables false
set_option linter.unusedSimpArgs false
set_option maxRecDepth 1000000
set_option maxHeartbeats 16000000
section
namespace Go.Proofs.YtifhcbeaiijkcaaGreat
open Go.RowKit
open _root_.Go.World renaming alloc→Wa,setCell→Ws
open _root_.Go.Proofs.Tryz renaming prog→Pq
theorem Vv {B g:Nat}{X:Nat→Prop}{lv:Value}{ds:List Dt}{ar:Str→Option Nat}{m f:Nat}{x:Nd}{kv ev:Value}{env:Env}{s:Es}{w:World}{r:Option Nat}(hf:s.fuel=f+1) (hm:f≤m) (P:SPre B X g lv ds x kv ev env s w r) (ho:x.op=10) (IH:B8 B g lv ds ar m):
  Calls Pq 56 #[.pointer (some ⟨g,0,none⟩),ndV x kv,ev] w (BA B X g lv (Ai ar (m+1) x env s) r w):=by
 have HE:=Aa (Bp (ar:=ar) (m:=m) (x:=x) (env:=env) hf);have IH:=Aa IH;have HF:=Aa hf;have PP:=Aa P;have HO:=Aa ho;have SZ:Hid (s.out.length+f+1≤4000):=Aa (by have:=P.sz;omega);obtain⟨ka,kc,rfl⟩:=P.rk.form;obtain⟨ea,ec,rfl⟩:=P.re.sc_form;have hsz:=P.sz;rw[hf]at hsz;have hfl:f≤4000:=by omega
 have hx:=P.ev;have hBw:=P.ev.gB.2;have hel:env.length≤4194304000:=Ar P.lm.inv_sc.1 (Cz _);rw[hf]at hx;obtain⟨ov,hb, -, -⟩:=hx.bx;have q1:∀ (o1 o2:Obj),((w.alloc o1).alloc o2).cell? ⟨g,1,none⟩=some (.int .i64 ((f+1:Nat):Int)):=fun o1 o2=>((AI o1 o2).cell (p:=⟨g,1,none⟩) hb.1).trans (hb.2.1 1);have q2:∀ (o1 o2:Obj),((w.alloc o1).alloc o2).cell? ⟨g,2,none⟩=some (.int .i64 0):=fun o1 o2=>((AI o1 o2).cell (p:=⟨g,2,none⟩) hb.1).trans (hb.2.1 2);have f1:∀ (o1 o2:Obj),((w.alloc o1).alloc o2).frozen? ⟨g,1,none⟩=false:=fun o1 o2=>((AI o1 o2).frozen (p:=⟨g,1,none⟩) hb.1).trans (hb.2.2 1);have hgw:g < w.heap.size:=hb.1;have hwg:w.heap.size≠g:=by omega
 have hwg1:w.heap.size+1≠g:=by omega
 unfold ndV;rw[ho];clear P hx hb ho hf;go_enter Tryz.func56,Tryz.ntmps56;go_wp2_with fail;generalize hW:Wa (Wa _ _) _=W1;have N1:=Aa (PP.out.start (f:=f) rfl hW);clear hW q1 q2 f1;have P1:SPre B (Xq X (w.heap.size+1)) g lv ds x (.slice ka x.kids.length kc) (.slice ea env.length ec) env ⟨f,s.out⟩ W1 r:=
  ⟨PP.out.np,PP.out.wg,PP.out.gd,PP.out.lm.fuel (by have:=HF.out;dsimp only;omega),by have:=SZ.out;dsimp only;omega,PP.out.rkW N1.out.tw,PP.out.reW N1.out.tw (Nat.le_succ _),N1.out.ev,PP.out.dtW N1.out.tw,fun k e=>e.elim (fun e=>Nat.lt_of_lt_of_le (PP.out.hx k e) N1.out.tw.size) (fun e=>by have:=N1.out.rx.1;omega)⟩
 have HC:=Lib.hid (G7 (ar:=ar) (s:=⟨f,s.out⟩) hm (by have:=SZ.out;dsimp only;omega) P1 (by have:=HO.out;omega) IH.out);unfold ndV at HC;rw[HO.out]at HC;clear P1;refine HC.out.mono ?_;rintro e W2 ⟨c2,r2,rfl,t2,h2⟩;have N2:=Aa (N1.out.step t2 h2.evS);have H2:=Aa h2;obtain⟨kd2,nn2,ss2,a12,l12,c12,xx2,a22,l22,c22,arg2,self2,a32,l32,c32,rfl⟩:=h2.formS;clear t2 h2 HC;unfold svC;have K9:=Aa N2.out.rx;have ck:=K9.out.2.1;have fk:=K9.out.2.2;have yk:=K9.out.1;unfold sv0 at ck;go_wp2;generalize hz:Ws (Ws _ _ _) _ _=z;obtain⟨k9,g9⟩:=Bx.set12 K9.out (.int .i64 kd2) (.int .i64 nn2) (.string ss2) (.slice a12 l12 c12) (.int .i64 xx2.op) (.int .i64 xx2.n) (.string xx2.s) (.string xx2.t) (.slice a22 l22 c22) (.string arg2) (.string self2) (.slice a32 l32 c32);rw[hz]at k9 g9;have c9:=k9.2.1;refine AA (v:= .agg (svC kd2 nn2 ss2 (.slice a12 l12 c12) xx2 (.slice a22 l22 c22) arg2 self2 (.slice a32 l32 c32))) ?_ rfl ?_
 ·simp[results,Tryz.results56,go_sem,c9,svC]
 ·rw[HE.out];exact Sw.fin (res:=AF ar (Ai ar m) x env ⟨f,s.out⟩) N2.out H2.out hBw g9
theorem Vw {B g:Nat}{X:Nat→Prop}{lv:Value}{ds:List Dt}{ar:Str→Option Nat}{m f:Nat}{x:Nd}{kv ev:Value}{env:Env}{s:Es}{w:World}{r:Option Nat}(hf:s.fuel=f+1) (hm:f≤m) (P:SPre B X g lv ds x kv ev env s w r) (ho:x.op=11) (IH:B8 B g lv ds ar m):
  Calls Pq 56 #[.pointer (some ⟨g,0,none⟩),ndV x kv,ev] w (BA B X g lv (Ai ar (m+1) x env s) r w):=by
 have HE:=Aa (Bp (ar:=ar) (m:=m) (x:=x) (env:=env) hf);have IH:=Aa IH;have HF:=Aa hf;have PP:=Aa P;have HO:=Aa ho;have SZ:Hid (s.out.length+f+1≤4000):=Aa (by have:=P.sz;omega);obtain⟨ka,kc,rfl⟩:=P.rk.form;obtain⟨ea,ec,rfl⟩:=P.re.sc_form;have hsz:=P.sz;rw[hf]at hsz;have hfl:f≤4000:=by omega
 have hx:=P.ev;have hBw:=P.ev.gB.2;have hel:env.length≤4194304000:=Ar P.lm.inv_sc.1 (Cz _);rw[hf]at hx;obtain⟨ov,hb, -, -⟩:=hx.bx;have q1:∀ (o1 o2:Obj),((w.alloc o1).alloc o2).cell? ⟨g,1,none⟩=some (.int .i64 ((f+1:Nat):Int)):=fun o1 o2=>((AI o1 o2).cell (p:=⟨g,1,none⟩) hb.1).trans (hb.2.1 1);have q2:∀ (o1 o2:Obj),((w.alloc o1).alloc o2).cell? ⟨g,2,none⟩=some (.int .i64 0):=fun o1 o2=>((AI o1 o2).cell (p:=⟨g,2,none⟩) hb.1).trans (hb.2.1 2);have f1:∀ (o1 o2:Obj),((w.alloc o1).alloc o2).frozen? ⟨g,1,none⟩=false:=fun o1 o2=>((AI o1 o2).frozen (p:=⟨g,1,none⟩) hb.1).trans (hb.2.2 1);have hgw:g < w.heap.size:=hb.1;have hwg:w.heap.size≠g:=by omega
 have hwg1:w.heap.size+1≠g:=by omega
 unfold ndV;rw[ho];clear P hx hb ho hf;go_enter Tryz.func56,Tryz.ntmps56;go_wp2_with fail;generalize hW:Wa (Wa _ _) _=W1;have N1:=Aa (PP.out.start (f:=f) rfl hW);clear hW q1 q2 f1;have P1:SPre B (Xq X (w.heap.size+1)) g lv ds x (.slice ka x.kids.length kc) (.slice ea env.length ec) env ⟨f,s.out⟩ W1 r:=
  ⟨PP.out.np,PP.out.wg,PP.out.gd,PP.out.lm.fuel (by have:=HF.out;dsimp only;omega),by have:=SZ.out;dsimp only;omega,PP.out.rkW N1.out.tw,PP.out.reW N1.out.tw (Nat.le_succ _),N1.out.ev,PP.out.dtW N1.out.tw,fun k e=>e.elim (fun e=>Nat.lt_of_lt_of_le (PP.out.hx k e) N1.out.tw.size) (fun e=>by have:=N1.out.rx.1;omega)⟩
 have HC:=Lib.hid (G7 (ar:=ar) (s:=⟨f,s.out⟩) hm (by have:=SZ.out;dsimp only;omega) P1 (by have:=HO.out;omega) IH.out);unfold ndV at HC;rw[HO.out]at HC;clear P1;refine HC.out.mono ?_;rintro e W2 ⟨c2,r2,rfl,t2,h2⟩;have N2:=Aa (N1.out.step t2 h2.evS);have H2:=Aa h2;obtain⟨kd2,nn2,ss2,a12,l12,c12,xx2,a22,l22,c22,arg2,self2,a32,l32,c32,rfl⟩:=h2.formS;clear t2 h2 HC;unfold svC;have K9:=Aa N2.out.rx;have ck:=K9.out.2.1;have fk:=K9.out.2.2;have yk:=K9.out.1;unfold sv0 at ck;go_wp2;generalize hz:Ws (Ws _ _ _) _ _=z;obtain⟨k9,g9⟩:=Bx.set12 K9.out (.int .i64 kd2) (.int .i64 nn2) (.string ss2) (.slice a12 l12 c12) (.int .i64 xx2.op) (.int .i64 xx2.n) (.string xx2.s) (.string xx2.t) (.slice a22 l22 c22) (.string arg2) (.string self2) (.slice a32 l32 c32);rw[hz]at k9 g9;have c9:=k9.2.1;refine AA (v:= .agg (svC kd2 nn2 ss2 (.slice a12 l12 c12) xx2 (.slice a22 l22 c22) arg2 self2 (.slice a32 l32 c32))) ?_ rfl ?_
 ·simp[results,Tryz.results56,go_sem,c9,svC]
 ·rw[HE.out];exact Sw.fin (res:=AF ar (Ai ar m) x env ⟨f,s.out⟩) N2.out H2.out hBw g9
theorem Vx {B g:Nat}{X:Nat→Prop}{lv:Value}{ds:List Dt}{ar:Str→Option Nat}{m f:Nat}{x:Nd}{kv ev:Value}{env:Env}{s:Es}{w:World}{r:Option Nat}(hf:s.fuel=f+1) (hm:f≤m) (P:SPre B X g lv ds x kv ev env s w r) (ho:x.op=12) (IH:B8 B g lv ds ar m):
  Calls Pq 56 #[.pointer (some ⟨g,0,none⟩),ndV x kv,ev] w (BA B X g lv (Ai ar (m+1) x env s) r w):=by
 have HE:=Aa (Bp (ar:=ar) (m:=m) (x:=x) (env:=env) hf);have IH:=Aa IH;have HF:=Aa hf;have PP:=Aa P;have HO:=Aa ho;have SZ:Hid (s.out.length+f+1≤4000):=Aa (by have:=P.sz;omega);obtain⟨ka,kc,rfl⟩:=P.rk.form;obtain⟨ea,ec,rfl⟩:=P.re.sc_form;have hsz:=P.sz;rw[hf]at hsz;have hfl:f≤4000:=by omega
 have hx:=P.ev;have hBw:=P.ev.gB.2;have hel:env.length≤4194304000:=Ar P.lm.inv_sc.1 (Cz _);rw[hf]at hx;obtain⟨ov,hb, -, -⟩:=hx.bx;have q1:∀ (o1 o2:Obj),((w.alloc o1).alloc o2).cell? ⟨g,1,none⟩=some (.int .i64 ((f+1:Nat):Int)):=fun o1 o2=>((AI o1 o2).cell (p:=⟨g,1,none⟩) hb.1).trans (hb.2.1 1);have q2:∀ (o1 o2:Obj),((w.alloc o1).alloc o2).cell? ⟨g,2,none⟩=some (.int .i64 0):=fun o1 o2=>((AI o1 o2).cell (p:=⟨g,2,none⟩) hb.1).trans (hb.2.1 2);have f1:∀ (o1 o2:Obj),((w.alloc o1).alloc o2).frozen? ⟨g,1,none⟩=false:=fun o1 o2=>((AI o1 o2).frozen (p:=⟨g,1,none⟩) hb.1).trans (hb.2.2 1);have hgw:g < w.heap.size:=hb.1;have hwg:w.heap.size≠g:=by omega
 have hwg1:w.heap.size+1≠g:=by omega
 unfold ndV;rw[ho];clear P hx hb ho hf;go_enter Tryz.func56,Tryz.ntmps56;go_wp2_with fail;generalize hW:Wa (Wa _ _) _=W1;have N1:=Aa (PP.out.start (f:=f) rfl hW);clear hW q1 q2 f1;have P1:SPre B (Xq X (w.heap.size+1)) g lv ds x (.slice ka x.kids.length kc) (.slice ea env.length ec) env ⟨f,s.out⟩ W1 r:=
  ⟨PP.out.np,PP.out.wg,PP.out.gd,PP.out.lm.fuel (by have:=HF.out;dsimp only;omega),by have:=SZ.out;dsimp only;omega,PP.out.rkW N1.out.tw,PP.out.reW N1.out.tw (Nat.le_succ _),N1.out.ev,PP.out.dtW N1.out.tw,fun k e=>e.elim (fun e=>Nat.lt_of_lt_of_le (PP.out.hx k e) N1.out.tw.size) (fun e=>by have:=N1.out.rx.1;omega)⟩
 have HC:=Lib.hid (G7 (ar:=ar) (s:=⟨f,s.out⟩) hm (by have:=SZ.out;dsimp only;omega) P1 (by have:=HO.out;omega) IH.out);unfold ndV at HC;rw[HO.out]at HC;clear P1;refine HC.out.mono ?_;rintro e W2 ⟨c2,r2,rfl,t2,h2⟩;have N2:=Aa (N1.out.step t2 h2.evS);have H2:=Aa h2;obtain⟨kd2,nn2,ss2,a12,l12,c12,xx2,a22,l22,c22,arg2,self2,a32,l32,c32,rfl⟩:=h2.formS;clear t2 h2 HC;unfold svC;have K9:=Aa N2.out.rx;have ck:=K9.out.2.1;have fk:=K9.out.2.2;have yk:=K9.out.1;unfold sv0 at ck;go_wp2;generalize hz:Ws (Ws _ _ _) _ _=z;obtain⟨k9,g9⟩:=Bx.set12 K9.out (.int .i64 kd2) (.int .i64 nn2) (.string ss2) (.slice a12 l12 c12) (.int .i64 xx2.op) (.int .i64 xx2.n) (.string xx2.s) (.string xx2.t) (.slice a22 l22 c22) (.string arg2) (.string self2) (.slice a32 l32 c32);rw[hz]at k9 g9;have c9:=k9.2.1;refine AA (v:= .agg (svC kd2 nn2 ss2 (.slice a12 l12 c12) xx2 (.slice a22 l22 c22) arg2 self2 (.slice a32 l32 c32))) ?_ rfl ?_
 ·simp[results,Tryz.results56,go_sem,c9,svC]
 ·rw[HE.out];exact Sw.fin (res:=AF ar (Ai ar m) x env ⟨f,s.out⟩) N2.out H2.out hBw g9
theorem Vy {B g:Nat}{X:Nat→Prop}{lv:Value}{ds:List Dt}{ar:Str→Option Nat}{m f:Nat}{x:Nd}{kv ev:Value}{env:Env}{s:Es}{w:World}{r:Option Nat}(hf:s.fuel=f+1) (hm:f≤m) (P:SPre B X g lv ds x kv ev env s w r) (ho:x.op=13) (IH:B8 B g lv ds ar m):
  Calls Pq 56 #[.pointer (some ⟨g,0,none⟩),ndV x kv,ev] w (BA B X g lv (Ai ar (m+1) x env s) r w):=by
 have HE:=Aa (Bp (ar:=ar) (m:=m) (x:=x) (env:=env) hf);have IH:=Aa IH;have HF:=Aa hf;have PP:=Aa P;have HO:=Aa ho;have SZ:Hid (s.out.length+f+1≤4000):=Aa (by have:=P.sz;omega);obtain⟨ka,kc,rfl⟩:=P.rk.form;obtain⟨ea,ec,rfl⟩:=P.re.sc_form;have hsz:=P.sz;rw[hf]at hsz;have hfl:f≤4000:=by omega
 have hx:=P.ev;have hBw:=P.ev.gB.2;have hel:env.length≤4194304000:=Ar P.lm.inv_sc.1 (Cz _);rw[hf]at hx;obtain⟨ov,hb, -, -⟩:=hx.bx;have q1:∀ (o1 o2:Obj),((w.alloc o1).alloc o2).cell? ⟨g,1,none⟩=some (.int .i64 ((f+1:Nat):Int)):=fun o1 o2=>((AI o1 o2).cell (p:=⟨g,1,none⟩) hb.1).trans (hb.2.1 1);have q2:∀ (o1 o2:Obj),((w.alloc o1).alloc o2).cell? ⟨g,2,none⟩=some (.int .i64 0):=fun o1 o2=>((AI o1 o2).cell (p:=⟨g,2,none⟩) hb.1).trans (hb.2.1 2);have f1:∀ (o1 o2:Obj),((w.alloc o1).alloc o2).frozen? ⟨g,1,none⟩=false:=fun o1 o2=>((AI o1 o2).frozen (p:=⟨g,1,none⟩) hb.1).trans (hb.2.2 1);have hgw:g < w.heap.size:=hb.1;have hwg:w.heap.size≠g:=by omega
 have hwg1:w.heap.size+1≠g:=by omega
 unfold ndV;rw[ho];clear P hx hb ho hf;go_enter Tryz.func56,Tryz.ntmps56;go_wp2_with fail;generalize hW:Wa (Wa _ _) _=W1;have N1:=Aa (PP.out.start (f:=f) rfl hW);clear hW q1 q2 f1;have P1:SPre B (Xq X (w.heap.size+1)) g lv ds x (.slice ka x.kids.length kc) (.slice ea env.length ec) env ⟨f,s.out⟩ W1 r:=
  ⟨PP.out.np,PP.out.wg,PP.out.gd,PP.out.lm.fuel (by have:=HF.out;dsimp only;omega),by have:=SZ.out;dsimp only;omega,PP.out.rkW N1.out.tw,PP.out.reW N1.out.tw (Nat.le_succ _),N1.out.ev,PP.out.dtW N1.out.tw,fun k e=>e.elim (fun e=>Nat.lt_of_lt_of_le (PP.out.hx k e) N1.out.tw.size) (fun e=>by have:=N1.out.rx.1;omega)⟩
 have HC:=Lib.hid (G7 (ar:=ar) (s:=⟨f,s.out⟩) hm (by have:=SZ.out;dsimp only;omega) P1 (by have:=HO.out;omega) IH.out);unfold ndV at HC;rw[HO.out]at HC;clear P1;refine HC.out.mono ?_;rintro e W2 ⟨c2,r2,rfl,t2,h2⟩;have N2:=Aa (N1.out.step t2 h2.evS);have H2:=Aa h2;obtain⟨kd2,nn2,ss2,a12,l12,c12,xx2,a22,l22,c22,arg2,self2,a32,l32,c32,rfl⟩:=h2.formS;clear t2 h2 HC;unfold svC;have K9:=Aa N2.out.rx;have ck:=K9.out.2.1;have fk:=K9.out.2.2;have yk:=K9.out.1;unfold sv0 at ck;go_wp2;generalize hz:Ws (Ws _ _ _) _ _=z;obtain⟨k9,g9⟩:=Bx.set12 K9.out (.int .i64 kd2) (.int .i64 nn2) (.string ss2) (.slice a12 l12 c12) (.int .i64 xx2.op) (.int .i64 xx2.n) (.string xx2.s) (.string xx2.t) (.slice a22 l22 c22) (.string arg2) (.string self2) (.slice a32 l32 c32);rw[hz]at k9 g9;have c9:=k9.2.1;refine AA (v:= .agg (svC kd2 nn2 ss2 (.slice a12 l12 c12) xx2 (.slice a22 l22 c22) arg2 self2 (.slice a32 l32 c32))) ?_ rfl ?_
 ·simp[results,Tryz.results56,go_sem,c9,svC]
 ·rw[HE.out];exact Sw.fin (res:=AF ar (Ai ar m) x env ⟨f,s.out⟩) N2.out H2.out hBw g9
theorem Vz {B g:Nat}{X:Nat→Prop}{lv:Value}{ds:List Dt}{ar:Str→Option Nat}{m f:Nat}{x:Nd}{kv ev:Value}{env:Env}{s:Es}{w:World}{r:Option Nat}(hf:s.fuel=f+1) (hm:f≤m) (P:SPre B X g lv ds x kv ev env s w r) (ho:x.op=14) (IH:B8 B g lv ds ar m):
  Calls Pq 56 #[.pointer (some ⟨g,0,none⟩),ndV x kv,ev] w (BA B X g lv (Ai ar (m+1) x env s) r w):=by
 have HE:=Aa (Bp (ar:=ar) (m:=m) (x:=x) (env:=env) hf);have IH:=Aa IH;have HF:=Aa hf;have PP:=Aa P;have HO:=Aa ho;have SZ:Hid (s.out.length+f+1≤4000):=Aa (by have:=P.sz;omega);obtain⟨ka,kc,rfl⟩:=P.rk.form;obtain⟨ea,ec,rfl⟩:=P.re.sc_form;have hsz:=P.sz;rw[hf]at hsz;have hfl:f≤4000:=by omega
 have hx:=P.ev;have hBw:=P.ev.gB.2;have hel:env.length≤4194304000:=Ar P.lm.inv_sc.1 (Cz _);rw[hf]at hx;obtain⟨ov,hb, -, -⟩:=hx.bx;have q1:∀ (o1 o2:Obj),((w.alloc o1).alloc o2).cell? ⟨g,1,none⟩=some (.int .i64 ((f+1:Nat):Int)):=fun o1 o2=>((AI o1 o2).cell (p:=⟨g,1,none⟩) hb.1).trans (hb.2.1 1);have q2:∀ (o1 o2:Obj),((w.alloc o1).alloc o2).cell? ⟨g,2,none⟩=some (.int .i64 0):=fun o1 o2=>((AI o1 o2).cell (p:=⟨g,2,none⟩) hb.1).trans (hb.2.1 2);have f1:∀ (o1 o2:Obj),((w.alloc o1).alloc o2).frozen? ⟨g,1,none⟩=false:=fun o1 o2=>((AI o1 o2).frozen (p:=⟨g,1,none⟩) hb.1).trans (hb.2.2 1);have hgw:g < w.heap.size:=hb.1;have hwg:w.heap.size≠g:=by omega
 have hwg1:w.heap.size+1≠g:=by omega
 unfold ndV;rw[ho];clear P hx hb ho hf;go_enter Tryz.func56,Tryz.ntmps56;go_wp2_with fail;generalize hW:Wa (Wa _ _) _=W1;have N1:=Aa (PP.out.start (f:=f) rfl hW);clear hW q1 q2 f1;have P1:SPre B (Xq X (w.heap.size+1)) g lv ds x (.slice ka x.kids.length kc) (.slice ea env.length ec) env ⟨f,s.out⟩ W1 r:=
  ⟨PP.out.np,PP.out.wg,PP.out.gd,PP.out.lm.fuel (by have:=HF.out;dsimp only;omega),by have:=SZ.out;dsimp only;omega,PP.out.rkW N1.out.tw,PP.out.reW N1.out.tw (Nat.le_succ _),N1.out.ev,PP.out.dtW N1.out.tw,fun k e=>e.elim (fun e=>Nat.lt_of_lt_of_le (PP.out.hx k e) N1.out.tw.size) (fun e=>by have:=N1.out.rx.1;omega)⟩
 have HC:=Lib.hid (G7 (ar:=ar) (s:=⟨f,s.out⟩) hm (by have:=SZ.out;dsimp only;omega) P1 (by have:=HO.out;omega) IH.out);unfold ndV at HC;rw[HO.out]at HC;clear P1;refine HC.out.mono ?_;rintro e W2 ⟨c2,r2,rfl,t2,h2⟩;have N2:=Aa (N1.out.step t2 h2.evS);have H2:=Aa h2;obtain⟨kd2,nn2,ss2,a12,l12,c12,xx2,a22,l22,c22,arg2,self2,a32,l32,c32,rfl⟩:=h2.formS;clear t2 h2 HC;unfold svC;have K9:=Aa N2.out.rx;have ck:=K9.out.2.1;have fk:=K9.out.2.2;have yk:=K9.out.1;unfold sv0 at ck;go_wp2;generalize hz:Ws (Ws _ _ _) _ _=z;obtain⟨k9,g9⟩:=Bx.set12 K9.out (.int .i64 kd2) (.int .i64 nn2) (.string ss2) (.slice a12 l12 c12) (.int .i64 xx2.op) (.int .i64 xx2.n) (.string xx2.s) (.string xx2.t) (.slice a22 l22 c22) (.string arg2) (.string self2) (.slice a32 l32 c32);rw[hz]at k9 g9;have c9:=k9.2.1;refine AA (v:= .agg (svC kd2 nn2 ss2 (.slice a12 l12 c12) xx2 (.slice a22 l22 c22) arg2 self2 (.slice a32 l32 c32))) ?_ rfl ?_
 ·simp[results,Tryz.results56,go_sem,c9,svC]
 ·rw[HE.out];exact Sw.fin (res:=AF ar (Ai ar m) x env ⟨f,s.out⟩) N2.out H2.out hBw g9
theorem VA {B g:Nat}{X:Nat→Prop}{lv:Value}{ds:List Dt}{x:Nd}{kv ev:Value}{env:Env}{s:Es}{w:World}{r:Option Nat}(hf:s.fuel=0) (P:SPre B X g lv ds x kv ev env s w r):
  Calls Pq 56 #[.pointer (some ⟨g,0,none⟩),ndV x kv,ev] w (BA B X g lv (.bad 1 s.out) r w):=by
 have PP:=Aa P;obtain⟨ka,kc,rfl⟩:=P.rk.form;obtain⟨ea,ec,rfl⟩:=P.re.sc_form;have hx:=P.ev;rw[hf]at hx;have HX:=Aa hx;obtain⟨ov,hb, -, -⟩:=hx.bx;have q1:∀ (o1 o2:Obj),((w.alloc o1).alloc o2).cell? ⟨g,1,none⟩=some (.int .i64 0):=fun o1 o2=>((AI o1 o2).cell (p:=⟨g,1,none⟩) hb.1).trans (hb.2.1 1);have q2:∀ (o1 o2:Obj),((w.alloc o1).alloc o2).cell? ⟨g,2,none⟩=some (.int .i64 0):=fun o1 o2=>((AI o1 o2).cell (p:=⟨g,2,none⟩) hb.1).trans (hb.2.1 2);have f2:∀ (o1 o2:Obj),((w.alloc o1).alloc o2).frozen? ⟨g,2,none⟩=false:=fun o1 o2=>((AI o1 o2).frozen (p:=⟨g,2,none⟩) hb.1).trans (hb.2.2 2);have hgw:g < w.heap.size:=hb.1;have hwg:w.heap.size≠g:=by omega
 have hwg1:w.heap.size+1≠g:=by omega
 unfold ndV;clear P hx hb hf;go_enter Tryz.func56,Tryz.ntmps56;go_wp2_with fail;generalize hx:Wa (Wa _ _) _=z;obtain⟨e1,t1⟩:=HX.out.setC 1;obtain⟨b2,k2⟩:=Bx.alloc hx;simp only[BM,AS]at k2 b2;have bb:Below w.heap.size (w.setCell ⟨g,2,none⟩ (.int .i64 1)) z:=by rw[←hx];exact(((Ac _ _).alloc (by simp) _).alloc (by simp) _)
 have c9:=k2.2.1;obtain⟨e2,t2⟩:=e1.same (by rw[AS];exact bb);refine AA (v:= .agg sv0) ?_ rfl ⟨sv0,r,rfl,t1.trans t2,FormS.zero,.inl rfl,_,e2⟩;simp[results,Tryz.results56,go_sem,c9,sv0]
theorem OQ {B g:Nat}{lv:Value}{ds:List Dt}{ar:Str→Option Nat}{m:Nat}{X:Nat→Prop}{x:Nd}{kv ev:Value}{env:Env}{s:Es}{w:World}{r:Option Nat}(hf:s.fuel=0) (P:SPre B X g lv ds x kv ev env s w r):
  Calls Pq 56 #[.pointer (some ⟨g,0,none⟩),ndV x kv,ev] w (BA B X g lv (Ai ar m x env s) r w):=by
 rw[Ok hf];exact VA hf P
theorem OR {B g:Nat}{lv:Value}{ds:List Dt}{ar:Str→Option Nat}(har:ar=arP ds) (hlw:AR ds≤1048576):∀m,B8 B g lv ds ar m
 |0,X,x,kv,ev,env,s,w,r,hs,P=>OQ (by omega) P
 |m+1,X,x,kv,ev,env,s,w,r,hs,P=>by
  have IH:=OR (B:=B) (g:=g) (lv:=lv) har hlw m;cases hf:s.fuel with
  |zero=>exact OQ hf P
  |succ f=>
   have hm:f≤m:=by omega
   rcases Iy P.np with o |o |o |o |o |o |o |o |o |o |o
   ·exact U5 hf hm P o
   ·exact U7 hf hm P o
   ·exact U8 hf hm P o
   ·exact Vi hf hm P o IH
   ·exact U9 hf hm P o IH
   ·exact Va hf hm P o IH
   ·exact Vs hf hm P o IH
   ·exact Vb hf hm P o IH
   ·have h5:x.op=10∨x.op=11∨x.op=12∨x.op=13∨x.op=14:=by omega
    rcases h5 with o |o |o |o |o
    ·exact Vv hf hm P o IH
    ·exact Vw hf hm P o IH
    ·exact Vx hf hm P o IH
    ·exact Vy hf hm P o IH
    ·exact Vz hf hm P o IH
   ·exact Vt hf hm P o IH har hlw
   ·exact Vu hf hm P o IH
theorem Ln (ds:List Dt) (dv:Value) (B:Nat) (w:World) (hr:RdDts B w dv ds) (hl:AR ds≤1048576):
  Calls Pq 54 #[dv] w fun e w'=>e= .returned (.int .i64 (ckP ds))∧Below w.heap.size w w':=by
 have HR:=Aa hr;have hln:=De ds;have hds:ds.length≤1048576:=by omega
 have NC:=Aa (fun(k:Nat)=>(Ar (Gw ds k) (Ar (Hu ds) hl):Bu (ds.take k)≤1048576));have NT:=Aa (FT ds);have SZ:=Aa (EN hl);have DA:=Aa (fun(s:Str)=>Lj ds dv s _ w hr hds);have CO:=Aa (fun(s:Str)=>Lk ds dv s _ w hr hl);have A0:=Aa (Lm false ds dv _ w hr hl);have A1:=Aa (fun(W:World) (hb:Below w.heap.size w W)=>Lm true ds dv _ W (hr.later' hb) hl);have HAN:=Aa (show Bo (Bt ds true) ds= (Bo (Ch ds) ds&& Bo (Db ds) ds)by rw[Qb,P9]);rw[Qa]at A0;have HE:=Aa (LJ ds);obtain⟨ka,kc,rfl⟩:=hr.form;generalize ckP ds=cp at*;clear hr hln hl;go_enter Tryz.func54,Tryz.ntmps54;go_wp2
 go_loop [3,4] (fun c i=>∃k:Nat,k≤ds.length∧i= .int .i64 k∧c= .int .i64 (Bu (ds.take k))∧Hid (FU ds k)) (fun _ i=>ds.length - (intOf i).toNat)
 case atStart=>exact⟨0,Av _,rfl,rfl,Aa (LK ds)⟩
 case round=>
  obtain⟨i,hi,rfl,rfl,hu⟩:=hrel;by_cases hlt:i < ds.length
  ·obtain⟨b,off,cap,cv,hv,hB,hbs,hcap,c0,c1,c2,hkr⟩:=HR.out.at_ hlt;cases hv
   have hki:(i:Int) < (ds.length:Int):=by omega
   have HC:=Aa hkr;have hsz:=SZ.out i hlt;have HNT:=Aa (NT.out i hlt);have hnc:=NC.out (i+1);rw[HNT.out]at hnc;obtain⟨ca,cc,rfl⟩:=hkr.form;clear hkr;go_wp2_with fail;refine(DA.out ds[i].name).mono ?_;rintro e w2 ⟨rfl,rfl⟩;by_cases hdx:dIx ds ds[i].name=i
   ·have HDX:=Aa hdx;rw[hdx];clear hdx;go_wp2
    go_loop [3,5] (fun c v=>∃k:Nat,k≤ds[i].cons.length∧v= .int .i64 k∧c= .int .i64 (Bu (ds.take i)+k)∧Hid (Gx ds i k)) (fun _ v=>ds[i].cons.length - (intOf v).toNat)
    case atStart=>exact⟨0,Av _,rfl,by simp,Aa (fun h l hl hlt=>absurd hlt (Ay l))⟩
    case round=>
     obtain⟨k,hk,rfl,rfl,hur⟩:=hrel;by_cases hlk:k < ds[i].cons.length
     ·obtain⟨b',off',cap',av,hv',hB',hbs',hcap',d0,d1, -⟩:=HC.out.at_ hlk;cases hv'
      have hkk:(k:Int) < (ds[i].cons.length:Int):=by omega
      have HUN:=Aa (fun e=>LM hlt hlk hur.out e);have HUB:=Aa (fun(e:Bg ds ds[i].cons[k].name≠ ((i:Int),(k:Int)))=>Ht (ds:=ds) (fun h=>e (h.2 i hlt k hlk)));have COk:=Aa (CO.out ds[i].cons[k].name);generalize Bg ds ds[i].cons[k].name=co at*;generalize ds[i].cons[k].name=cn at*;obtain⟨ca,cb⟩:=co;go_wp2_with fail;refine COk.out.mono ?_;rintro e w3 ⟨rfl,rfl⟩;dsimp only;by_cases ha:ca= (i:Int)
      ·subst ha;by_cases hb:cb= (k:Int)
       ·subst hb;have hy:=Aa (HUN.out rfl);go_wp2
        go_round
        case rel=>exact⟨k+1,hlk,by go_num,by go_num,hy⟩
        case measure=>simp[intOf];omega
       ·have hy:=Aa (HUB.out (fun e=>hb (AX Prod.snd e)));have hbb:(cb !=(k:Int))=true:=by simpa using hb
        go_wp2;go_ret;exact⟨AK (by rw[HE.out,hy.out];rfl),Ac _ _⟩
      ·have hy:=Aa (HUB.out (fun e=>ha (AX Prod.fst e)));have hab:(ca !=(i:Int))=true:=by simpa using ha
       go_wp2;go_ret;exact⟨AK (by rw[HE.out,hy.out];rfl),Ac _ _⟩
     ·obtain rfl:k=ds[i].cons.length:=by omega
      have hu2:=Aa (LN hlt hu.out HDX.out hur.out);go_wp2
      go_round
      case rel=>exact⟨i+1,hlt,by go_num,by rw[HNT.out];rfl,hu2⟩
      case measure=>simp[intOf];omega
   ·have hy:=Aa (Ht (fun h=>hdx (h.1 i hlt)));have hdb:(dIx ds ds[i].name !=(i:Int))=true:=by simpa using hdx
    go_wp2;go_ret;exact⟨AK (by rw[HE.out,hy.out];rfl),Ac _ _⟩
  ·obtain rfl:i=ds.length:=by omega
   rw[CL];have hnn:=NC.out ds.length;rw[CL]at hnn;have hy:=Aa (LI (LL hu.out));go_wp2_with fail;refine A0.out.mono ?_;rintro e w2 ⟨rfl,bb⟩;cases hn:Bo (Ch ds) ds with
   |false=>
    have hn:=Aa hn;go_wp2;go_ret;exact⟨AK (by rw[HE.out,hy.out,hn.out];rfl),bb⟩
   |true=>
    have hn:=Aa hn;go_wp2_with fail;refine(A1.out _ bb).mono ?_;rintro e w3 ⟨rfl,b3⟩;replace bb:=bb.trans (b3.mono bb.size);rw[HAN.out,hn.out,Hb];cases hm:Bo (Db ds) ds with
    |false=>
     have hm:=Aa hm;go_wp2;go_ret;exact⟨AK (by rw[HE.out,hy.out,hn.out,hm.out];simp),bb⟩
    |true=>
     have hm:=Aa hm;by_cases h60:Bu ds≤60
     ·have h60i:¬((Bu ds:Int) > 60):=by omega
      have h60':=Aa h60;clear h60;go_wp2;go_ret;exact⟨AK (by rw[HE.out,hy.out,hn.out,hm.out];simp[h60'.out]),bb⟩
     ·have h60i:(Bu ds:Int) > 60:=by omega
      have h60':=Aa h60;clear h60;go_wp2;go_ret;exact⟨AK (by rw[HE.out,hy.out,hn.out];simp[h60'.out]),bb⟩
theorem Wn {B:Nat}{ds:List Dt}{x:Nd}{dv kv:Value}{w:World}(F:Int) (hz:SzP ds x) (hr:RdDts B w dv ds) (hk:RdNs B w kv x.kids) (hv:∀d∈ds, -9223372036854775807≤d.vars∧d.vars≤9223372036854775807)
  (hs:¬(By ds x=true∧ckP ds=0)):
  Calls Pq 16 #[pgV dv x kv,.int .i64 F] w (EvR w ds x F):=by
 have HT:=Aa (fun(W:World) (b:Below w.heap.size w W)=>O7 ds x dv kv _ _ W hz (hr.later' b) (hk.later' b) hv);have HC:=Aa (fun(W:World) (b:Below w.heap.size w W)=>Ln ds dv _ W (hr.later' b) hz.1);have HE:Hid (BX ds x F= (2,none,[])):=Aa (by unfold BX;rw[Ab hs]);have HS:=Aa hs;obtain⟨da,dc,rfl⟩:=hr.form;obtain⟨ka,kc,rfl⟩:=hk.form;clear hr hk hv hs hz;unfold pgV at HT ⊢;go_enter Tryz.func16,Tryz.ntmps16;go_wp2_with fail;generalize hxx:(w.alloc _).alloc _=x0;obtain⟨bx,k1,k2,sx⟩:=Iu hxx;clear hxx;refine(HT.out x0 bx).mono ?_;rintro e w1 ⟨rfl,b1⟩;replace k1:=k1.below b1 k1.1;replace k2:=k2.below b1 k2.1;have c1:=k1.2.1;have c2:=k2.2.1;have f2:=k2.2.2;have y2:=k2.1;have B1:=Aa (bx.trans (b1.mono bx.size));clear k1 bx b1 HT;by_cases ht:By ds x=true
 ·rw[ht];have hcne:ckP ds≠0:=fun h=>HS.out ⟨ht,h⟩;have hcb:(ckP ds !=0)=true:=by simpa using hcne
  generalize ckP ds=cc at*;clear ht hcne;go_wp2_with fail;refine(HC.out w1 B1.out).mono ?_;rintro e w2 ⟨rfl,b2⟩;have KK:=Aa (k2.below b2 k2.1);have BB:=Aa (B1.out.trans (b2.mono B1.out.size));have c3:=KK.out.2.1;have f3:=KK.out.2.2;have y3:=KK.out.1;clear k2 c1 c2 f2 y2 b2 HC;go_wp2;obtain⟨k9,g9⟩:=KK.out.set6 (.int .i64 2) (.int .i64 0) (.int .i64 0) (.string ⟨#[]⟩) (.slice none 0 0) (.slice none 0 0);have c9:=k9.2.1;refine AA (v:= .agg #[.int .i64 2,.int .i64 0,.int .i64 0,.string ⟨#[]⟩,.slice none 0 0,.slice none 0 0]) ?_ rfl ⟨_,rfl,grown_at BB.out g9 (by omega),?_⟩
  ·simp[results,Tryz.results16,go_sem,c9]
  ·rw[HE.out];exact⟨_,_,_,_,_,rfl,.inl ⟨rfl,_,_,rfl⟩,rfl,rfl,rfl,rfl⟩
 ·obtain ht:By ds x=false:=by simpa using ht
  rw[ht];have KK:=Aa k2;have BB:=B1;clear ht k2;go_wp2;obtain⟨k9,g9⟩:=KK.out.set6 (.int .i64 2) (.int .i64 0) (.int .i64 0) (.string ⟨#[]⟩) (.slice none 0 0) (.slice none 0 0);have c9:=k9.2.1;refine AA (v:= .agg #[.int .i64 2,.int .i64 0,.int .i64 0,.string ⟨#[]⟩,.slice none 0 0,.slice none 0 0]) ?_ rfl ⟨_,rfl,grown_at BB.out g9 (by omega),?_⟩
  ·simp[results,Tryz.results16,go_sem,c9]
  ·rw[HE.out];exact⟨_,_,_,_,_,rfl,.inl ⟨rfl,_,_,rfl⟩,rfl,rfl,rfl,rfl⟩
theorem Wo {B g:Nat}{X:Nat→Prop}{lv:Value}{x:Nd}{kv ev:Value}{w:World}{r:Option Nat}{fu:Int}{o:List Int}(hf:fu≤0) (hx:Ev B g lv w fu 0 o r) (hk:RdNs B w kv x.kids) (he:∃a l c,ev= .slice a l c):
  Calls Pq 56 #[.pointer (some ⟨g,0,none⟩),ndV x kv,ev] w (BA B X g lv (.bad 1 o) r w):=by
 obtain⟨ka,kc,rfl⟩:=hk.form;obtain⟨ea,el,ec,rfl⟩:=he;have HX:=Aa hx;obtain⟨ov,hb, -, -⟩:=hx.bx;have q1:∀ (o1 o2:Obj),((w.alloc o1).alloc o2).cell? ⟨g,1,none⟩=some (.int .i64 fu):=fun o1 o2=>((AI o1 o2).cell (p:=⟨g,1,none⟩) hb.1).trans (hb.2.1 1);have q2:∀ (o1 o2:Obj),((w.alloc o1).alloc o2).cell? ⟨g,2,none⟩=some (.int .i64 0):=fun o1 o2=>((AI o1 o2).cell (p:=⟨g,2,none⟩) hb.1).trans (hb.2.1 2);have f2:∀ (o1 o2:Obj),((w.alloc o1).alloc o2).frozen? ⟨g,2,none⟩=false:=fun o1 o2=>((AI o1 o2).frozen (p:=⟨g,2,none⟩) hb.1).trans (hb.2.2 2);have hgw:g < w.heap.size:=hb.1;have hwg:w.heap.size≠g:=by omega
 have hwg1:w.heap.size+1≠g:=by omega
 unfold ndV;clear hk hx hb;go_enter Tryz.func56,Tryz.ntmps56;go_wp2_with fail;generalize hx:Wa (Wa _ _) _=z;obtain⟨e1,t1⟩:=HX.out.setC 1;obtain⟨b2,k2⟩:=Bx.alloc hx;simp only[BM,AS]at k2 b2;have bb:Below w.heap.size (w.setCell ⟨g,2,none⟩ (.int .i64 1)) z:=by rw[←hx];exact(((Ac _ _).alloc (by simp) _).alloc (by simp) _)
 have c9:=k2.2.1;obtain⟨e2,t2⟩:=e1.same (by rw[AS];exact bb);refine AA (v:= .agg sv0) ?_ rfl ⟨sv0,r,rfl,t1.trans t2,FormS.zero,.inl rfl,_,e2⟩;simp[results,Tryz.results56,go_sem,c9,sv0]
theorem Wp {ds:List Dt}{x:Nd}{dv kv:Value}{w2 w3:World}{f:Nat}{e:TypeId}(hz:SzP ds x) (ht:By ds x=true) (hf:f≤4000) (hd:RdDts w2.heap.size w2 dv ds) (hk:RdNs w2.heap.size w2 kv x.kids)
  (h:w2.alloc (.cells #[dv,.int .i64 f,.int .i64 0,.slice none 0 0] e)=w3):SPre w2.heap.size (fun _=>False) w2.heap.size dv ds x kv (.slice none 0 0) [] ⟨f,[]⟩ w3 none:=by
 obtain⟨b,k⟩:=Bx.alloc h;unfold By at ht;rw[AH,AH]at ht;exact⟨ht.2.2,hz.2.1,.nil,.sc [] (Av _) (by simp),by simpa using hf,hk.later b (Ad _),.sc [] _ (fun _=> #[]) (.inl ⟨rfl,_,_,rfl⟩) (fun j hj=>absurd hj (Ay j)),⟨⟨_,k,⟨by simp,.inl ⟨rfl,rfl⟩⟩,rfl⟩,⟨Ad _,b.size⟩,by simp⟩,hd.later b (Ad _),fun b h=>h.elim⟩
theorem Wq (a b:Int) (w:World):Calls Pq 55 #[.int .i64 a,.int .i64 b] w fun e w'=>e= .returned (.int .i64 (min a b))∧w'=w:=by
 by_cases h:a < b
 ·have hm:=Aa (show min a b=a by omega);go_enter Tryz.func55,Tryz.ntmps55;go_wp2;go_ret;exact⟨AK hm.out.symm,rfl⟩
 ·have hm:=Aa (show min a b=b by omega);go_enter Tryz.func55,Tryz.ntmps55;go_wp2;go_ret;exact⟨AK hm.out.symm,rfl⟩
theorem Wr {B:Nat}{ds:List Dt}{x:Nd}{dv kv:Value}{w:World}(F:Int) (hz:SzP ds x) (hr:RdDts B w dv ds) (hk:RdNs B w kv x.kids) (hv:∀d∈ds, -9223372036854775807≤d.vars∧d.vars≤9223372036854775807)
  (hF:-9223372036854775808≤F∧F≤9223372036854775807) (hs:By ds x=true∧ckP ds=0):
  Calls Pq 16 #[pgV dv x kv,.int .i64 F] w (EvR w ds x F):=by
 have HT:=Aa (fun(W:World) (b:Below w.heap.size w W)=>O7 ds x dv kv _ _ W hz (hr.later' b) (hk.later' b) hv);have HC:=Aa (fun(W:World) (b:Below w.heap.size w W)=>Ln ds dv _ W (hr.later' b) hz.1);have HE:Hid (BX ds x F=CU (Ai (arP ds) (A9 F) x [] ⟨A9 F,[]⟩)):=Aa (by unfold BX;rw[Ag hs]);have HS:=Aa hs;have HZ:=Aa hz;have HD:=Aa (fun(W:World) (b:Below w.heap.size w W)=>hr.later' b);have HK:=Aa (fun(W:World) (b:Below w.heap.size w W)=>hk.later' b);obtain⟨da,dc,rfl⟩:=hr.form;obtain⟨ka,kc,rfl⟩:=hk.form;obtain⟨ht,hc⟩:=hs;have HFU:=Aa (Nc F);have HF:=Aa hF;clear hr hk hv hz hF;unfold pgV at HT ⊢;go_enter Tryz.func16,Tryz.ntmps16;go_wp2_with fail;generalize hxx:(w.alloc _).alloc _=x0;obtain⟨bx,k1,k2,sx⟩:=Iu hxx;clear hxx;refine(HT.out x0 bx).mono ?_;rintro e w1 ⟨rfl,b1⟩;replace k1:=k1.below b1 k1.1;replace k2:=k2.below b1 k2.1;have c1:=k1.2.1;have hl1:=k1.1;have B1:=Aa (bx.trans (b1.mono bx.size));rw[ht];have HB1:=b1.size;clear bx b1 HT ht;go_wp2_with fail;refine(HC.out w1 B1.out).mono ?_;rintro e w2 ⟨rfl,b2⟩;rw[hc];replace k1:=k1.below b2 k1.1;have K1:=Aa k1;have K2:=Aa (k2.below b2 k2.1);have B2:=Aa (B1.out.trans (b2.mono B1.out.size));have hs2:w.heap.size+2≤w2.heap.size:=by have:=b2.size;omega
 have S0:=Aa (fun(W:World) (h:Below w2.heap.size w2 W)=>((k1.below h k1.1).2.1 0:W.cell? ⟨w.heap.size,0,none⟩=some (.slice da ds.length dc)));clear c1 k1 k2 b2 HC hc hl1 HB1;go_wp2_with fail;refine wp_region_held_drew (S:=(fun W=>W.cell? ⟨w.heap.size,0,none⟩=some (.slice da ds.length dc))) (by kernel_rfl) (by first | (dsimp only;exact S0.out _ (Below.refl _ _).drew) | (exact S0.out _ (Below.refl _ _).drew)) (fun hHeld=> ?_);generalize hxd:World.drew _=x1 at hHeld ⊢;have hd1:Below w2.heap.size w2 x1:=by rw[←hxd];exact(Ac _ _).drew
 clear hxd;refine tkH (i:=0) ?_;refine tkH (i:=1) ?_;refine tkH (i:=2) ?_;refine rdH (i:=3) (fun K hK=> ?_);go_simp;refine(Wq F 4000 x1).mono ?_;rintro e W6 ⟨rfl,rfl⟩;refine bkH hK (by first | (dsimp only;exact S0.out _ hd1) | (exact S0.out _ hd1)) (fun hHeld=> ?_);clear hK K;refine tkH (i:=4) ?_;refine rdH (i:=5) (fun K hK=> ?_);go_simp;generalize hy:Wa _ _=w3;refine bkH hK (by first | (dsimp only;(have hb3:Below w2.heap.size w2 w3:=hd1.trans ((Bx.alloc hy).1.mono hd1.size);exact S0.out _ hb3)) | ((have hb3:Below w2.heap.size w2 w3:=hd1.trans ((Bx.alloc hy).1.mono hd1.size);exact S0.out _ hb3))) (fun hHeld=> ?_);clear hK K;refine tkH (i:=6) ?_;refine Bs (by kernel_rfl) ?_ _;obtain⟨b3,k3⟩:=Bx.alloc hy;have B6:=Aa (B2.out.trans (hd1.mono B2.out.size));have BB:=Aa (B6.out.trans (b3.mono B6.out.size));have KR:=Aa ((K2.out.below hd1 K2.out.1).below b3 (Aj K2.out.1 hd1.size));have KP:=Aa ((K1.out.below hd1 K1.out.1).below b3 (Aj K1.out.1 hd1.size));have HFM:=Aa (show min F 4000≤0∧A9 F=0∨min F 4000= (A9 F:Int)by have:=HFU.out;omega);have HCALL:=Aa (show Calls Pq 56 #[.pointer (some ⟨W6.heap.size,0,none⟩),ndV x (.slice ka x.kids.length kc),.slice none 0 0] w3 (BA W6.heap.size (fun _=>False) W6.heap.size (.slice da ds.length dc) (Ai (arP ds) (A9 F) x [] ⟨A9 F,[]⟩) none w3)by
  have hsz6:=hd1.size;have hk6:=HK.out W6 B6.out;have hd6:=HD.out W6 B6.out;have hwl:w.heap.size≤W6.heap.size:=B6.out.size;rcases HFM.out with ⟨h1,h2⟩ |h1
  ·have hb:=(Wo (X:=fun _=>False) (fu:=min F 4000) (o:=[]) (r:=none) h1 (⟨⟨_,k3,⟨by simp,.inl ⟨rfl,rfl⟩⟩,rfl⟩,⟨Ad _,b3.size⟩,by simp⟩:Ev W6.heap.size W6.heap.size (.slice da ds.length dc) w3 (min F 4000) 0 [] none) ((hk6.later' (Ac _ _)).later b3 (Ad _)) ⟨none,0,0,rfl⟩);rw[h2];exact hb
  ·rw[h1]at hy;exact OR rfl HZ.out.1 (A9 F) _ x _ _ [] _ w3 none (Ad _) (Wp HZ.out HS.out.1 (Nf F) (hd6.later' (Ac _ _)) (hk6.later' (Ac _ _)) hy))
 have qp:=KP.out.2.1;have lp:=KP.out.1;have HX3:=Aa b3;have hs6:w.heap.size+2≤W6.heap.size:=Ar hs2 hd1.size;have h36:=b3.size;clear hHeld hd1 b3 k3 hy;unfold ndV at HCALL;go_wp2_with fail;refine HCALL.out.mono ?_;rintro e W4 ⟨c4,r4,rfl,t4,h4⟩;have KR4:=Aa (KR.out.tw t4 (by omega) (by simp));have BB4:=Aa (BB.out.trans (t4.below (B:=w.heap.size) BB.out.size (by omega) (fun k e=>by cases e)));have HES:=Aa h4.evS;have H4:=Aa h4;have lg:=h4.evS.lt;obtain⟨res,hres⟩:∃R,Ai (arP ds) (A9 F) x [] ⟨A9 F,[]⟩=R:=⟨_,rfl⟩;rw[hres]at HE HES H4;have HR:=Aa hres;have HB4:=BB4.out.size;obtain⟨kd4,nn4,ss4,a14,l14,c14,xx4,a24,l24,c24,arg4,self4,a34,l34,c34,rfl⟩:=h4.formS;clear h4 t4 HCALL hres qp lp;unfold svC;cases res with
 |bad cd o=>
  obtain⟨hcd,f4,e4⟩:=HES.out;have hcb:(cd !=0)=true:=by rcases hcd with rfl |rfl <;> rfl
  obtain⟨ov,hb,how,hrv⟩:=e4.bx;obtain⟨oa,oc,rfl⟩:=A2 how;have q2:W4.cell? ⟨W6.heap.size,2,none⟩=some (.int .i64 cd):=hb.2.1 2;have HB:=Aa hb;have HOW:=Aa how;clear hb how hrv e4;go_wp2_with fail;generalize hW5:Wa _ _=W5;obtain⟨b5, -⟩:=Bx.alloc hW5;have HQ:=Aa (fun(W':World) (h:Below W5.heap.size W5 W')=>(And.intro (((HB.out.below b5 HB.out.1).below h (Aj HB.out.1 b5.size)).2.1 2) (((HB.out.below b5 HB.out.1).below h (Aj HB.out.1 b5.size)).2.1 3):W'.cell? ⟨W6.heap.size,2,none⟩=some (.int .i64 cd)∧W'.cell? ⟨W6.heap.size,3,none⟩=some (.slice oa o.length oc)));have B5:=Aa b5;clear q2 hW5 b5;refine BP 9 (S:=(fun W'=>W'.cell? ⟨W6.heap.size,2,none⟩=some (.int .i64 cd)∧W'.cell? ⟨W6.heap.size,3,none⟩=some (.slice oa o.length oc))) (by kernel_rfl) (by kernel_rfl) (by first | (dsimp only;exact HQ.out _ (Below.refl _ _).drew) | (exact HQ.out _ (Below.refl _ _).drew)) (fun hHeld=> ?_);generalize hxd:World.drew _=x2 at hHeld ⊢;have hd2:Below W5.heap.size W5 x2:=by rw[←hxd];exact(Ac _ _).drew
  have hd4:Below W4.heap.size W4 x2:=B5.out.trans (hd2.mono B5.out.size);clear hxd;refine tkT (i:=0) ?_;refine tkT (i:=1) ?_;refine tkT (i:=2) ?_;refine tkT (i:=3) ?_;refine tkT (i:=4) ?_;refine tkT (i:=5) ?_;refine tkT (i:=6) ?_;refine tkT (i:=7) ?_;refine tkT (i:=8) ?_;refine BO (by kernel_rfl) ?_;dsimp only[List.drop];have KR5:=Aa (KR4.out.below hd4 KR4.out.1);have BB5:=Aa (BB4.out.trans (hd4.mono BB4.out.size));have HO5:=Aa (CE HOW.out hd4 (Cj HOW.out));have ck:=KR5.out.2.1;have fk:=KR5.out.2.2;have yk:=KR5.out.1;clear hHeld hd2 hd4;go_wp2;generalize hz:Ws (Ws _ _ _) _ _=z;obtain⟨e1,e2,e3⟩:=Iv KR5.out BB5.out HO5.out hs6 hz;refine AA (v:= .agg #[.int .i64 cd,.int .i64 0,.int .i64 0,.string ⟨#[]⟩,.slice none 0 0,.slice oa o.length oc]) ?_ rfl ⟨_,rfl,e1,by rw[HE.out];exact e2⟩;simp[results,Tryz.results16,go_sem,e3]
 |ok v s4=>
  obtain⟨ov,hb,how,hrv⟩:=(show Ev W6.heap.size W6.heap.size (.slice da ds.length dc) W4 s4.fuel 0 s4.out r4 from HES.out).bx;obtain⟨oa,oc,rfl⟩:=A2 how;have hb:Bx W4 W6.heap.size #[.slice da ds.length dc,.int .i64 s4.fuel,.int .i64 0,.slice oa s4.out.length oc]:=hb;have q2:W4.cell? ⟨W6.heap.size,2,none⟩=some (.int .i64 0):=hb.2.1 2;have HB:=Aa hb;have HOW:=Aa how;have HROW:=Aa HES.out.row;clear hb how hrv;go_wp2_with fail;generalize hW5:Wa _ _=W5;obtain⟨b5,k5⟩:=Bx.alloc hW5;have B5:=Aa b5;have K5:=Aa k5;have h5s:=b5.size;have h45:=k5.1;obtain⟨T,hT⟩:∃T,W4.heap.size=T:=⟨_,rfl⟩;rw[hT]at K5 ⊢;have RD5:=Aa (RdS.later H4.out.1 (Tw.of_below b5 (fun k e=>(HROW.out k e).2)) (b5.mono HES.out.gB.2));have HBD:=Aa (OL v 4000 (by omega));have HPV:=Aa (show 1≤Au v by cases v <;> (unfold Au;omega));clear q2 hW5 b5 k5;refine(ON W6.heap.size (fun _=>False) W6.heap.size r4 (Au v+1) v _ W5 4000 (CM _) (by omega) (by omega) (Ar HES.out.gB.2 B5.out.size) (fun k e=>Aj (HROW.out k e).2 B5.out.size) RD5.out).mono ?_;rintro e W7 ⟨rfl,b7⟩;have hd7:Below W4.heap.size W4 W7:=B5.out.trans (b7.mono B5.out.size);have KR7:=Aa (KR4.out.below hd7 KR4.out.1);have BB7:=Aa (BB4.out.trans (hd7.mono BB4.out.size));have HO7:=Aa (CE HOW.out hd7 (Cj HOW.out));have HB7:=Aa (HB.out.below hd7 HB.out.1);have K7:=Aa (K5.out.below b7 K5.out.1);have RD7:=Aa (RdS.later H4.out.1 (Tw.of_below hd7 (fun k e=>(HROW.out k e).2)) (hd7.mono HES.out.gB.2));have HROW7:=Aa (fun k e=>Aj (HROW.out k e).2 hd7.size);have HGB7:=Aa (Ar HES.out.gB.2 hd7.size);have q3:=HB7.out.2.1;have l3:=HB7.out.1;by_cases hbig:Au v > 4000
  ·have hrm:=HBD.out.2 (by omega);rw[hrm];have HBG:=Aa hbig;have ck:=KR7.out.2.1;have fk:=KR7.out.2.2;have yk:=KR7.out.1;clear hrm hbig b7 hd7;go_wp2;generalize hz:Ws (Ws _ _ _) _ _=z;obtain⟨e1,e2,e3⟩:=Iv KR7.out BB7.out HO7.out hs6 hz;refine AA (v:= .agg #[.int .i64 1,.int .i64 0,.int .i64 0,.string ⟨#[]⟩,.slice none 0 0,.slice oa s4.out.length oc]) ?_ rfl ⟨_,rfl,e1,by rw[HE.out,Ni (v:=v) rfl HBG.out];exact e2⟩;simp[results,Tryz.results16,go_sem,e3]
  ·obtain⟨rm,hrm⟩:∃z,CK v 4000=z:=⟨_,rfl⟩;have hr0:0≤rm:=by rw[←hrm,HBD.out.1 (by omega)];omega
   have hr1:rm≤4000:=by rw[←hrm,HBD.out.1 (by omega)];omega
   rw[hrm];have HSM:=Aa (show Au v≤4000 by omega);have HQ:=Aa (fun(W':World) (h:Below W7.heap.size W7 W')=>(by
    have j1:=(K7.out.below h K7.out.1).2.1;have j2:=(HB7.out.below h HB7.out.1).2.1;exact⟨j1 0,j1 1,j1 2,j1 3,j1 4,j1 5,j1 6,j1 7,j1 8,j1 9,j1 10,j1 11,j2 3⟩:W'.cell? ⟨T,0,none⟩=some (.int .i64 kd4)∧W'.cell? ⟨T,1,none⟩=some (.int .i64 nn4)∧W'.cell? ⟨T,2,none⟩=some (.string ss4)∧W'.cell? ⟨T,3,none⟩=some (.slice a14 l14 c14)∧W'.cell? ⟨T,4,none⟩=some (.int .i64 xx4.op)∧W'.cell? ⟨T,5,none⟩=some (.int .i64 xx4.n)∧W'.cell? ⟨T,6,none⟩=some (.string xx4.s)∧W'.cell? ⟨T,7,none⟩=some (.string xx4.t)∧W'.cell? ⟨T,8,none⟩=some (.slice a24 l24 c24)∧W'.cell? ⟨T,9,none⟩=some (.string arg4)∧W'.cell? ⟨T,10,none⟩=some (.string self4)∧W'.cell? ⟨T,11,none⟩=some (.slice a34 l34 c34)∧W'.cell? ⟨W6.heap.size,3,none⟩=some (.slice oa s4.out.length oc)))
   clear hrm hbig b7 hd7;go_wp2_with fail;clear q3 l3;refine BP 7 (S:=(fun W'=>W'.cell? ⟨T,0,none⟩=some (.int .i64 kd4)∧W'.cell? ⟨T,1,none⟩=some (.int .i64 nn4)∧W'.cell? ⟨T,2,none⟩=some (.string ss4)∧W'.cell? ⟨T,3,none⟩=some (.slice a14 l14 c14)∧W'.cell? ⟨T,4,none⟩=some (.int .i64 xx4.op)∧W'.cell? ⟨T,5,none⟩=some (.int .i64 xx4.n)∧W'.cell? ⟨T,6,none⟩=some (.string xx4.s)∧W'.cell? ⟨T,7,none⟩=some (.string xx4.t)∧W'.cell? ⟨T,8,none⟩=some (.slice a24 l24 c24)∧W'.cell? ⟨T,9,none⟩=some (.string arg4)∧W'.cell? ⟨T,10,none⟩=some (.string self4)∧W'.cell? ⟨T,11,none⟩=some (.slice a34 l34 c34)∧W'.cell? ⟨W6.heap.size,3,none⟩=some (.slice oa s4.out.length oc))) (by kernel_rfl) (by kernel_rfl) (by first | (dsimp only;exact HQ.out _ (Below.refl _ _).drew) | (exact HQ.out _ (Below.refl _ _).drew)) (fun hHeld=> ?_);generalize hxd:World.drew _=x2 at hHeld ⊢;have hd2:Below W7.heap.size W7 x2:=by rw[←hxd];exact(Ac _ _).drew
   clear hxd;have RD8:=Aa (RD7.out.lat hd2 HGB7.out HROW7.out);refine tkT (i:=0) ?_;refine tkT (i:=2) ?_;refine tkT (i:=3) ?_;refine tkT (i:=4) ?_;refine tkT (i:=5) ?_;refine rdT (i:=1) (fun K hK=> ?_);go_simp;refine(O5 W6.heap.size (fun _=>False) W6.heap.size r4 (Au v+1) v _ x2 (CM _) HSM.out (Ar HGB7.out hd2.size) (fun k e=>Aj (HROW7.out k e) hd2.size) RD8.out).mono ?_;rintro e W8 ⟨b8,kv8,rfl,tv8⟩;obtain⟨ka8,kc8,rfl⟩:=tv8.form;unfold vlC;refine bkT hK (by first | (dsimp only;exact HQ.out _ (hd2.trans (b8.mono hd2.size))) | (exact HQ.out _ (hd2.trans (b8.mono hd2.size)))) (fun hHeld=> ?_);clear hK K;refine tkT (i:=6) ?_;refine BO (by kernel_rfl) ?_;dsimp only[List.drop];have hd8:Below W7.heap.size W7 W8:=hd2.trans (b8.mono hd2.size);have KR8:=Aa (KR7.out.below hd8 KR7.out.1);have BB8:=Aa (BB7.out.trans (hd8.mono BB7.out.size));have HO8:=Aa (CE HO7.out hd8 (Cj HO7.out));have TV8:=Aa tv8;have hM:=Aa (show w.heap.size+2≤x2.heap.size by have:=hd2.size;have:=B5.out.size;have:=HGB7.out;omega);have ck:=KR8.out.2.1;have fk:=KR8.out.2.2;have yk:=KR8.out.1;have q8:=(HQ.out _ hd8).2.2.2.2.2.2.2.2.2.2.2.2;have l8:=Aj HB7.out.1 hd8.size;clear hHeld hd2 b8 tv8 hd8;go_wp2;generalize hz:Ws (Ws _ _ _) _ _=z;obtain⟨e1,e2,e3⟩:=Ng KR8.out BB8.out HO8.out hs6 TV8.out hM.out hz;refine AA (v:= .agg #[.int .i64 0,.int .i64 (kdV v),.int .i64 (nmV v),.string (tgV v),.slice ka8 (ksV v).length kc8,.slice oa s4.out.length oc]) ?_ rfl ⟨_,rfl,e1,by rw[HE.out,Nh (v:=v) rfl HSM.out];exact e2⟩;simp[results,Tryz.results16,go_sem,e3]
theorem Wt {B:Nat}{ds:List Dt}{x:Nd}{dv kv:Value}{w:World}(F:Int) (hz:SzP ds x) (hr:RdDts B w dv ds) (hk:RdNs B w kv x.kids) (hv:∀d∈ds, -9223372036854775807≤d.vars∧d.vars≤9223372036854775807)
  (hF:-9223372036854775808≤F∧F≤9223372036854775807):Calls Pq 16 #[pgV dv x kv,.int .i64 F] w (EvR w ds x F):=by
 by_cases hs:By ds x=true∧ckP ds=0
 ·exact Wr F hz hr hk hv hF hs
 ·exact Wn F hz hr hk hv hs
def dig (n:Nat):UInt8:=UInt8.ofNat (48+n)
def A8:Nat→Nat→List UInt8
 |0,_=> []
 |f+1,n=>if n < 10 then [dig n]else A8 f (n/10)++ [dig (n%10)]
theorem FV {f n:Nat}(h:n < 10):A8 (f+1) n=[dig n]:=by rw[A8,Ag h]
theorem Jl {f n:Nat}(h:¬n < 10):A8 (f+1) n=A8 f (n/10)++ [dig (n%10)]:=by rw[A8,Ab h]
theorem FW:∀ (f n:Nat),(A8 f n).length≤f:=by
 intro f;induction f with
 |zero=>intro n;simp[A8]
 |succ f ih=>
  intro n;by_cases h:n < 10
  ·rw[FV h];simp
  ·rw[Jl h];have:=ih (n/10);simp;omega
def Fl (n:Int):List UInt8:=if n < 0 then 45::A8 20 n.natAbs else A8 20 n.natAbs
def st (l:List UInt8):ByteArray:=⟨l.toArray⟩
def FX (n:Int):ByteArray:=st (Fl n)
theorem Fm (l:List UInt8):(st l).size=l.length:=by simp[st,ByteArray.size]
theorem Jm (a b:List UInt8):st a++st b=st (a++b):=by
 unfold st;rw[ByteArray.mk_append_mk]
theorem Qy (n:Int):(Fl n).length≤21:=by
 unfold Fl;have:=FW 20 n.natAbs;split
 ·simp;omega
 ·omega
theorem Qz (n:Int):(FX n).size≤21:=by unfold FX;rw[Fm];exact Qy n
theorem QA {n:Nat}:Fl (n:Int)=A8 20 n:=by unfold Fl;rw[Ab (by omega)];rfl
theorem QB {n:Nat}(h:0 < n):Fl (-(n:Int))=45::A8 20 n:=by unfold Fl;rw[Ag (by omega),show(-(n:Int)).natAbs=n by omega]
theorem LV (l:List UInt8):(⟨#[45]⟩:ByteArray)++st l=st (45::l):=Jm [45] l
theorem Jn {n:Nat}(h:n < 10):Utf8.encode (48+ (n:Int))=st [dig n]:=by
 obtain rfl |rfl |rfl |rfl |rfl |rfl |rfl |rfl |rfl |rfl:n=0∨n=1∨n=2∨n=3∨n=4∨n=5∨n=6∨n=7∨n=8∨n=9:=by omega
 all_goals rfl
theorem Hx:∀ (f n:Nat) (w:World),n < 10^ (f+1)→f≤30→n≤9223372036854775807→
  Calls Pq 59 #[.int .i64 n] w fun e w'=>e= .returned (.string (st (A8 (f+1) n)))∧w=w':=by
 intro f;induction f with
 |zero=>
  intro n w h1 h2 h3;have h1':n < 10:=by simpa using h1
  have HD:=Aa (show Utf8.encode (48+ (n:Int))=st (A8 (0+1) n)by rw[FV h1',Jn h1']);clear h1;have e0:decide ((n:Int) < 0)=false:=by simp
  have e1:decide ((n:Int) < 10)=true:=by simp;omega
  go_enter Tryz.func59,Tryz.ntmps59;go_wp2;go_ret;exact⟨by rw[←HD.out];rfl,rfl⟩
 |succ f ih=>
  intro n w h1 h2 h3;by_cases h10:n < 10
  ·have HD:=Aa (show Utf8.encode (48+ (n:Int))=st (A8 (f+1+1) n)by rw[FV h10,Jn h10]);clear h1 ih;have e0:decide ((n:Int) < 0)=false:=by simp
   have e1:decide ((n:Int) < 10)=true:=by simp;omega
   go_enter Tryz.func59,Tryz.ntmps59;go_wp2;go_ret;exact⟨by rw[←HD.out];rfl,rfl⟩
  ·have HC:=Aa (ih (n/10) w (by rw[Nat.pow_succ]at h1;omega) (by omega) (by omega));have hs:(st (A8 (f+1) (n/10))).size≤31:=by rw[Fm];have:=FW (f+1) (n/10);omega
   obtain⟨m,hm⟩:∃m,n/10=m:=⟨_,rfl⟩;obtain⟨d,hd⟩:∃d,n%10=d:=⟨_,rfl⟩;have hd10:d < 10:=by omega
   have he:=Jn hd10;have hst:st (A8 (f+1) m)++Utf8.encode (48+ (d:Int))=st (A8 (f+1+1) n):=by rw[he,Jm,Jl h10,hm,hd]
   have hes:(Utf8.encode (48+ (d:Int))).size≤1:=by rw[he,Fm];simp
   have hq:(n:Int)/10= (m:Int):=by omega
   have hr:(n:Int)%10= (d:Int):=by omega
   rw[hm]at HC hs;obtain⟨S,hS⟩:∃S,st (A8 (f+1) m)=S:=⟨_,rfl⟩;rw[hS]at HC hs hst;have HST:=Aa hst;have HQ:=Aa hq;clear h1 ih hm hd he hst hS hq;have e0:decide ((n:Int) < 0)=false:=by simp
   have e1:decide ((n:Int) < 10)=false:=by simp;omega
   have HR:=Aa hr;clear hr;go_enter Tryz.func59,Tryz.ntmps59;go_wp2_with fail;rw[HQ.out];refine HC.out.mono ?_;rintro e w' ⟨rfl,rfl⟩;have hr:=HR.out;go_wp2;go_ret;exact⟨by rw[←HST.out];rfl,rfl⟩
theorem QC:∀ (f m:Nat) (w:World),m < 10^ (f+1)→f≤30→0 < m→m≤9223372036854775808→
  Calls Pq 59 #[.int .i64 (-(m:Int))] w fun e w'=>e= .returned (.string (st (45::A8 (f+1) m)))∧w=w':=by
 intro f;induction f with
 |zero=>
  intro m w h1 h2 hm0 h3;have h10:m < 10:=by simpa using h1
  have HC:=Aa (Hx 0 m w h1 (by omega) (by omega));have hs:(st (A8 (0+1) m)).size≤31:=by rw[Fm];have:=FW (0+1) m;omega
  have hst:(⟨#[45]⟩:ByteArray)++st (A8 (0+1) m)=st (45::A8 (0+1) m):=LV _;obtain⟨S,hS⟩:∃S,st (A8 (0+1) m)=S:=⟨_,rfl⟩;rw[hS]at HC hs hst;have HST:=Aa hst;clear hS hst h1;have e1:decide ((m:Int) < 10)=true:=by simp;omega
  have hsz:(⟨#[45]⟩:ByteArray).size+S.size≤9223372036854775807:=by show 1+S.size≤_;omega
  go_enter Tryz.func59,Tryz.ntmps59;go_wp2_with fail;refine HC.out.mono ?_;rintro e w' ⟨rfl,rfl⟩;go_wp2;go_ret;exact⟨by rw[←HST.out];rfl,rfl⟩
 |succ f ih=>
  intro m w h1 h2 hm0 h3;by_cases h10:m < 10
  ·have HC:=Aa (Hx 0 m w (by simpa using h10) (by omega) (by omega));have hs:(st (A8 (0+1) m)).size≤31:=by rw[Fm];have:=FW (0+1) m;omega
   have hst:(⟨#[45]⟩:ByteArray)++st (A8 (0+1) m)=st (45::A8 (f+1+1) m):=by rw[LV,FV h10,FV h10]
   obtain⟨S,hS⟩:∃S,st (A8 (0+1) m)=S:=⟨_,rfl⟩;rw[hS]at HC hs hst;have HST:=Aa hst;clear hS hst h1 ih;have e1:decide ((m:Int) < 10)=true:=by simp;omega
   have hsz:(⟨#[45]⟩:ByteArray).size+S.size≤9223372036854775807:=by show 1+S.size≤_;omega
   go_enter Tryz.func59,Tryz.ntmps59;go_wp2_with fail;refine HC.out.mono ?_;rintro e w' ⟨rfl,rfl⟩;go_wp2;go_ret;exact⟨by rw[←HST.out];rfl,rfl⟩
  ·have HC:=Aa (ih (m/10) w (by rw[Nat.pow_succ]at h1;omega) (by omega) (by omega) (by omega));have HN:=Aa (Hx 0 (m%10) w (by simp;omega) (by omega) (by omega));have hs:(st (45::A8 (f+1) (m/10))).size≤32:=by rw[Fm];have:=FW (f+1) (m/10);simp;omega
   have hs2:(st (A8 (0+1) (m%10))).size≤32:=by rw[Fm];have:=FW (0+1) (m%10);omega
   have hst:st (45::A8 (f+1) (m/10))++st (A8 (0+1) (m%10))=st (45::A8 (f+1+1) m):=by rw[Jm,Jl h10,FV (f:=0) (n:=m%10) (by omega)];rfl
   obtain⟨S,hS⟩:∃S,st (45::A8 (f+1) (m/10))=S:=⟨_,rfl⟩;obtain⟨T,hT⟩:∃T,st (A8 (0+1) (m%10))=T:=⟨_,rfl⟩;rw[hS]at HC hs hst;rw[hT]at HN hs2 hst;have HST:=Aa hst;have HQ:=Aa (show(m:Int)/10= ((m/10:Nat):Int)by omega);have HR:=Aa (show(m:Int)%10= ((m%10:Nat):Int)by omega);clear hS hT hst h1 ih;have e1:decide ((m:Int) < 10)=false:=by simp;omega
   go_enter Tryz.func59,Tryz.ntmps59;go_wp2_with fail;rw[HQ.out];refine HC.out.mono ?_;rintro e w' ⟨rfl,rfl⟩;go_wp2_with fail;rw[HR.out];refine HN.out.mono ?_;rintro e w' ⟨rfl,rfl⟩;go_wp2;go_ret;exact⟨by rw[←HST.out];rfl,rfl⟩
theorem QD (n:Int) (w:World) (h0:-9223372036854775808≤n) (h1:n≤9223372036854775807):
  Calls Pq 59 #[.int .i64 n] w fun e w'=>e= .returned (.string (FX n))∧w=w':=by
 by_cases hn:0≤n
 ·obtain⟨m,rfl⟩:=Pp hn;have:=Hx 19 m w (by omega) (by omega) (by omega);unfold FX;rw[QA];exact this
 ·obtain⟨m,hm⟩:∃m:Nat,n= -(m:Int):=⟨n.natAbs,by omega⟩;subst hm;have:=QC 19 m w (by omega) (by omega) (by omega) (by omega);unfold FX;rw[QB (by omega)];exact this
mutual
def txV:Vl→ByteArray
 | .int n=>FX n
 | .con s ks=>if ks.isEmpty then s else(⟨#[40]⟩++CB s ks)++ ⟨#[41]⟩
 | .fn _ _ _ _=>⟨#[102,117,110]⟩
def CB (s:ByteArray):List Vl→ByteArray
 | []=>s
 |k::ks=>CB (s++ (⟨#[32]⟩++txV k)) ks
end
mutual
def lnV:Vl→Nat
 | .int n=>21
 | .con s ks=>s.size+Dz ks+2
 | .fn _ _ _ _=>3
def Dz:List Vl→Nat
 | []=>0
 |k::ks=>lnV k+1+Dz ks
end
mutual
theorem Wf:∀u:Vl,(txV u).size≤lnV u
 | .int n=>by unfold txV lnV;exact Qz n
 | .con s ks=>by
  have:=Kz ks s;unfold txV lnV;split
  ·omega
  ·simp only[Hm]
   show 1+_+1≤_
   omega
 | .fn _ _ _ _=>by unfold txV lnV;exact Ad 3
theorem Kz:∀ (ks:List Vl) (s:ByteArray),(CB s ks).size≤s.size+Dz ks
 | [],s=>by unfold CB Dz;omega
 |k::ks,s=>by
  have:=Kz ks (s++ (⟨#[32]⟩++txV k));have:=Wf k;unfold CB Dz;simp only[Hm]at*;have:(⟨#[32]⟩:ByteArray).size=1:=rfl;omega
end
theorem Pc:∀ (ks:List Vl) (s:ByteArray),s.size≤ (CB s ks).size
 | [],s=>by unfold CB;omega
 |k::ks,s=>by
  have:=Pc ks (s++ (⟨#[32]⟩++txV k));unfold CB;simp only[Hm]at*;omega
theorem Pe {v:Vl}:∀ {ks:List Vl},v∈ks→lnV v+1≤Dz ks
 |x::xs,h=>by
  unfold Dz;rcases List.mem_cons.1 h with rfl |h
  ·omega
  ·have:=Pe h;omega
theorem Wg (u:Vl):Dz (ksV u)≤lnV u:=by cases u <;> (unfold lnV ksV;simp[Dz];try omega)
theorem RdTv.inv {A:Nat→Prop}{w:World}{u:Vl}{kv:Value}(h:RdTv A w u (vlC u kv)):∃cs,RwV A w kv (ksV u).length cs∧ ∀j (h:j < (ksV u).length),RdTv A w (ksV u)[j] (cs j):=by
 obtain⟨c,hc⟩:∃c,vlC u kv=c:=⟨_,rfl⟩;rw[hc]at h;cases h with
 |mk _ kv2 cs hk hv=>
  have:kv=kv2:=by have:=AX (fun a:Array Value=>a[3]?) hc;exact Ah this
  subst this;exact⟨cs,hk,hv⟩
theorem RdTv.all {A:Nat→Prop}{w w':World}{u:Vl}{c:Array Value}(h:RdTv A w u c) (b:Below w.heap.size w w'):RdTv A w' u c:=h.later fun q hq hl=>⟨hq,Aj hl b.size,b.block q hl⟩
theorem RwV.at_ {A:Nat→Prop}{w:World}{v:Value}{n:Nat}{cs:Nat→Array Value}(h:RwV A w v n cs) {k:Nat}(hk:k < n):∃b off cap,v= .slice (some ⟨b,off,none⟩) n cap∧b < w.heap.size∧n≤maxLen∧n≤cap∧
  w.cell? ⟨b,off+k*4,none⟩= (cs k)[0]?∧w.cell? ⟨b,off+k*4+1,none⟩= (cs k)[1]?∧w.cell? ⟨b,off+k*4+2,none⟩= (cs k)[2]?∧w.cell? ⟨b,off+k*4+3,none⟩= (cs k)[3]?:=by
 rcases h with ⟨h0,_⟩ |⟨b,off,cap,rfl,h2,h3,h4⟩
 ·omega
 ·exact⟨b,off,cap,rfl,h2.2,h3.1,h3.2,h4 k hk 0 (by omega),h4 k hk 1 (by omega),h4 k hk 2 (by omega),h4 k hk 3 (by omega)⟩
def VtR (w:World) (u:Vl) (e:Ending) (w':World):Prop:=e= .returned (.string (txV u))∧Below w.heap.size w w'
theorem Pf (A:Nat→Prop):∀ (N:Nat) (u:Vl) (kv:Value) (w:World),Au u < N→Au u≤4000→lnV u≤4611686018427387904→Good (.th u)→RdTv A w u (vlC u kv)→
  Calls Pq 18 #[.agg (vlC u kv)] w (VtR w u)
 |0,u,kv,w,hN,hc,hl,hg,hr=>by omega
 |N+1,.int n,kv,w,hN,hc,hl,hg,hr=>by
  obtain⟨a,c,rfl⟩:=hr.form;have hw:=(J2 n).1 hg.inv_int;have HD:=Aa (fun(W:World)=>QD n W (by omega) (by omega));clear hr hg hw hN hc hl
  show Calls Pq 18 #[.agg #[.int .i64 1,.int .i64 n,.string eS,.slice a 0 c]] w _
  go_enter Tryz.func18,Tryz.ntmps18;go_wp2_with fail;generalize hx:w.alloc _=x;obtain⟨bx,k1⟩:=Bx.alloc hx;clear hx;refine(HD.out x).mono ?_;rintro e w1 ⟨rfl,rfl⟩;go_wp2;go_ret;exact⟨rfl,bx⟩
 |N+1,.fn a1 a2 a3 a4,kv,w,hN,hc,hl,hg,hr=>by
  obtain⟨a,c,rfl⟩:=hr.form;clear hr hg hN hc hl
  show Calls Pq 18 #[.agg #[.int .i64 3,.int .i64 0,.string eS,.slice a 0 c]] w _
  go_enter Tryz.func18,Tryz.ntmps18;go_wp2;generalize hx:w.alloc _=x;obtain⟨bx,k1⟩:=Bx.alloc hx;clear hx;go_ret;exact⟨rfl,bx⟩
 |N+1,.con s ks,kv,w,hN,hc,hl,hg,hr=>by
  have IH:=Aa (fun(j:Nat) (hj:j < ks.length) (kv2:Value) (W:World) (h:RdTv A W ks[j] (vlC ks[j] kv2))=>(by
   have:=Hr (As hj);have:=Fh (.con s ks);have:=Pe (As hj);have:=Wg (.con s ks);simp only[ksV]at*;exact Pf A N ks[j] kv2 W (by omega) (by omega) (by omega) (hg.inv_con _ (As hj)) h:Calls Pq 18 #[.agg (vlC ks[j] kv2)] W (VtR W ks[j])))
  obtain⟨cs,hrw,hks⟩:=hr.inv;have HR:=Aa (fun(W:World) (b:Below w.heap.size w W)=>(hr.all b).inv);obtain⟨a,c,rfl⟩:=hr.form;have hlj:(CB s ks).size+2≤4611686018427387904:=by have:=Kz ks s;unfold lnV at hl;omega
  have HTX:=Aa (show txV (.con s ks)=if ks.isEmpty then s else(⟨#[40]⟩++CB s ks)++ ⟨#[41]⟩by unfold txV;rfl);have hln:ks.length≤4000:=by have:=Fh (.con s ks);have:=Ks ks;simp only[ksV]at*;omega
  clear hrw hks cs hr hg hN hc hl
  show Calls Pq 18 #[.agg #[.int .i64 2,.int .i64 0,.string s,.slice a ks.length c]] w _
  simp only[ksV]at HR;obtain⟨tot,htot⟩:∃t,CB s ks=t:=⟨_,rfl⟩;rw[htot]at hlj HTX;have HTOT:=Aa htot;clear htot;go_enter Tryz.func18,Tryz.ntmps18;go_wp2
  go_loopw [3,20] (fun sx i wr=>∃ (k:Nat) (p:ByteArray),k≤ks.length∧i= .int .i64 k∧sx= .string p∧Hid (CB p (ks.drop k)=tot)∧Below w.heap.size w wr∧Bx wr w.heap.size #[.int .i64 2,.int .i64 0,.string s,.slice a ks.length c]) (fun _ i _=>ks.length - (intOf i).toNat)
  case atStart=>
   generalize hx:w.alloc _=x;obtain⟨bx,k1⟩:=Bx.alloc hx;exact⟨0,s,Av _,rfl,rfl,Aa HTOT.out,bx,k1⟩
  case round=>
   obtain⟨k,p,hk,rfl,rfl,hj,bb,k1⟩:=hrel;by_cases hlt:k < ks.length
   ·obtain⟨cs,hrw,hks⟩:=HR.out wr bb;have hki:(k:Int) < (ks.length:Int):=by omega
    obtain⟨b,off,cap,hv,hb,hm,hcp,q0,q1,q2,q3⟩:=hrw.at_ hlt;cases hv
    have hkk:=hks k hlt;obtain⟨kv2,hkv⟩:=hkk.cells;rw[hkv]at q0 q1 q2 q3 hkk;obtain⟨ka2,kc2,rfl⟩:=hkk.form;have HKK:=Aa hkk;unfold vlC at q0 q1 q2 q3;have hj2:=Aa ((show CB p (ks.drop k)=CB (p++ (⟨#[32]⟩++txV ks[k])) (ks.drop (k+1))by rw[List.drop_eq_getElem_cons hlt,CB]).symm.trans hj.out);have hsz:(p++ (⟨#[32]⟩++txV ks[k])).size≤tot.size:=by rw[←hj2.out];exact Pc _ _
    have IHk:=Aa (fun(W:World) (bW:Below wr.heap.size wr W)=>IH.out k hlt _ W (HKK.out.all bW));obtain⟨T,hT⟩:∃T,txV ks[k]=T:=⟨_,rfl⟩;rw[hT]at hj2 hsz;have HT:=Aa hT;clear hrw hks hkk hkv hj hT;have e1:(⟨#[32]⟩:ByteArray).size=1:=rfl;simp only[Hm,e1]at hsz;have s1:(⟨#[32]⟩:ByteArray).size+T.size≤9223372036854775807:=by rw[e1];omega
    have s2:p.size+ ((⟨#[32]⟩:ByteArray)++T).size≤9223372036854775807:=by rw[Hm,e1];omega
    clear e1 hsz;have BB:=Aa bb;have K1:=Aa k1;clear bb k1;go_wp2_with fail;generalize hx:wr.alloc _=x;obtain⟨bx,k5⟩:=Bx.alloc hx;clear hx;refine(IHk.out x bx).mono ?_;rintro e w2 ⟨rfl,b2⟩;rw[HT.out];clear IHk IH HKK HT HR HTX;have NB:=Aa (BB.out.trans ((bx.trans (b2.mono bx.size)).mono BB.out.size));have NK:=Aa ((K1.out.below bx K1.out.1).below b2 (Aj K1.out.1 bx.size));clear bx b2 k5 q0 q1 q2 q3;go_wp2;go_roundw
    case rel=>exact⟨k+1,_,hlt,by go_num,rfl,hj2,NB.out,NK.out⟩
    case measure=>simp[intOf];omega
   ·obtain rfl:k=ks.length:=by omega
    have hki:¬((ks.length:Int) < (ks.length:Int)):=by omega
    obtain rfl:p=tot:=by have:=hj.out;rw[Ff]at this;simpa [CB] using this
    have BB:=Aa bb;clear bb hj;have ck1:=k1.2.1;have yk1:=k1.1;by_cases he:ks.length=0
    ·have hgt:¬((0:Int) < (ks.length:Int)):=by omega
     have HP:Hid (p=s):=Aa (by
      have h0:=List.eq_nil_of_length_eq_zero he;have:=HTOT.out;rw[h0]at this
      simpa [CB] using this.symm)
     have HY:Hid (txV (.con s ks)=s):=Aa (by rw[HTX.out,List.eq_nil_of_length_eq_zero he];rfl);clear he;go_wp2;go_ret;exact⟨by rw[HY.out,HP.out];rfl,BB.out⟩
    ·have hgt:(0:Int) < (ks.length:Int):=by omega
     have HY:Hid (txV (.con s ks)= (⟨#[40]⟩++p)++ ⟨#[41]⟩):=Aa (by
      rw[HTX.out];cases ks with
      |nil=>exact absurd rfl he
      |cons=>rfl)
     have e1:(⟨#[40]⟩:ByteArray).size=1:=rfl;have e2:(⟨#[41]⟩:ByteArray).size=1:=rfl;have s3:(⟨#[40]⟩:ByteArray).size+p.size≤9223372036854775807:=by rw[e1];omega
     have s4:((⟨#[40]⟩:ByteArray)++p).size+ (⟨#[41]⟩:ByteArray).size≤9223372036854775807:=by rw[Hm,e1,e2];omega
     clear e1 e2 he;go_wp2;go_ret;exact⟨by rw[HY.out];rfl,BB.out⟩
end Go.Proofs.YtifhcbeaiijkcaaGreat
end
section
namespace Go.Proofs.YtifhcbeaiijkcaaGreat
open _root_.Go.World renaming alloc→Wa,setCell→Ws
open _root_.Go.Proofs.Tryz renaming prog→Pq
inductive TagG (p:Str→Prop):Xl→Prop
 |int (n:Int):TagG p (.th (.int n))
 |con (s:Str) (vs:List Vl) (hs:p s) (h:∀v∈vs,TagG p (.th v)):TagG p (.th (.con s vs))
 |fn (arg self:Str) (body:Nd) (env:Env) (h3:TagG p (.sc env)):TagG p (.th (.fn arg self body env))
 |nil:TagG p (.sc [])
 |cons (s:Str) (v:Vl) (e:Env) (h1:TagG p (.th v)) (h2:TagG p (.sc e)):TagG p (.sc ((s,v)::e))
section
variable {p:Str→Prop}
theorem TagG.inv_con {s:Str}{vs:List Vl}(h:TagG p (.th (.con s vs))):p s∧ ∀v∈vs,TagG p (.th v):=by cases h with |con _ _ hs h=>exact⟨hs,h⟩
theorem TagG.inv_cons {s:Str}{v:Vl}{e:Env}(h:TagG p (.sc ((s,v)::e))):TagG p (.th v)∧TagG p (.sc e):=by cases h with |cons _ _ _ h1 h2=>exact⟨h1,h2⟩
theorem TagG.look {s:Str}{v:Vl}:∀ {e:Env},TagG p (.sc e)→Go.Proofs.YtifhcbeaiijkcaaGreat.look e s=some v→TagG p (.th v)
 | [],_,h=>by simp[Go.Proofs.YtifhcbeaiijkcaaGreat.look]at h
 | (a,u)::e,hg,h=>by
  obtain⟨h1,h2⟩:=hg.inv_cons;unfold Go.Proofs.YtifhcbeaiijkcaaGreat.look at h;split at h
  ·cases h;exact h1
  ·exact TagG.look h2 h
mutual
theorem OW:∀ (x:Nd) (v:Vl) (e e':Env),TagG p (.th v)→TagG p (.sc e)→Br x v e=some e'→TagG p (.sc e')
 | .mk op n s _ ks,v,e,e',hv,he,h=>by
  unfold Br at h;split at h
  ·cases h;exact he
  ·split at h
   ·cases h;exact .cons _ _ _ hv he
   ·split at h
    ·split at h
     ·split at h
      ·cases h;exact he
      ·cases h
     ·cases h
    ·split at h
     ·rename_i c vs;split at h
      ·exact OX ks vs e e' hv.inv_con.2 he h
      ·cases h
     ·cases h
theorem OX:∀ (ks:List Nd) (vs:List Vl) (e e':Env),(∀v∈vs,TagG p (.th v))→TagG p (.sc e)→Bc ks vs e=some e'→TagG p (.sc e')
 | [],vs,e,e',hv,he,h=>by unfold Bc at h;cases h;exact he
 |k::ks,[],e,e',hv,he,h=>by unfold Bc at h;cases h
 |k::ks,v::vs,e,e',hv,he,h=>by
  unfold Bc at h;split at h
  ·rename_i e1 h1;exact OX ks vs e1 e' (fun u hu=>hv u (List.mem_cons_of_mem _ hu)) (OW k v e e1 (hv v (List.mem_cons_self ..)) he h1) h
  ·cases h
end
def TagR (p:Str→Prop) (r:Rs Vl):Prop:=∀v s,r= .ok v s→TagG p (.th v)
theorem OY {E:Nd→Env→Es→Rs Vl}{env:Env}:∀ (ks:List Nd) (s:Es),(∀k s,TagR p (E k env s))→ ∀vs s',Bd E env ks s= .ok vs s'→ ∀v∈vs,TagG p (.th v)
 | [],s,hE,vs,s',h=>by unfold Bd at h;cases h;simp
 |k::ks,s,hE,vs,s',h=>by
  unfold Bd at h;cases h1:E k env s with
  |bad c o=>rw[h1]at h;cases h
  |ok v s1=>
   rw[h1]at h;dsimp only[Rs.bind]at h;cases h2:Bd E env ks s1 with
   |bad c o=>rw[h2]at h;cases h
   |ok us s2=>
    rw[h2]at h;dsimp only[Rs.bind]at h;cases h
    intro u hu;rcases List.mem_cons.1 hu with rfl |hu
    ·exact hE k s _ _ h1
    ·exact OY ks s1 hE us _ h2 u hu
theorem OZ {E:Nd→Env→Es→Rs Vl}{env:Env}{v:Vl}(hv:TagG p (.th v)) (he:TagG p (.sc env)):∀ (az:List Nd) (s:Es),(∀k e s,TagG p (.sc e)→TagR p (E k e s))→TagR p (A5 E env v az s)
 | [],s,hE=>fun u t h=>by unfold A5 at h;cases h
 |a::az,s,hE=>by
  unfold A5;split
  ·rename_i e h1;exact hE _ e s (OW _ _ _ _ hv he h1)
  ·exact OZ hv he az s hE
theorem TagR.bind {α:Type}{r:Rs α}{k:α→Es→Rs Vl}(h:∀a s,r= .ok a s→TagR p (k a s)):TagR p (r.bind k):=by
 cases r with
 |ok a s=>exact h a s rfl
 |bad c o=>exact fun v s h=>by cases h
theorem TagR.ok {v:Vl}{s:Es}(h:TagG p (.th v)):TagR p (.ok v s):=fun u s' e=>by cases e;exact h
theorem TagR.bad {c:Int}{o:List Int}:TagR p (.bad c o):=fun u s' e=>by cases e
theorem O0 {ar:Str→Option Nat}(hp:∀s n,ar s=some n→p s):∀ (m:Nat) (x:Nd) (env:Env) (s:Es),TagG p (.sc env)→TagR p (Ai ar m x env s)
 |0,x,env,s,he=>TagR.bad
 |m+1,x,env,s,he=>by
  unfold Ai;split
  ·exact TagR.bad
  rename_i f hf;have ih:=O0 hp m;unfold AF;by_cases h1:x.op=1
  ·rw[Ag h1];exact TagR.ok (.int _)
  rw[Ab h1];by_cases h2:x.op=2
  ·rw[Ag h2];cases hlk:look env x.s with
   |some v=>exact TagR.ok (he.look hlk)
   |none=>exact TagR.bad
  rw[Ab h2];by_cases h3:x.op=3
  ·rw[Ag h3];exact TagR.ok (.fn _ _ _ _ he)
  rw[Ab h3];by_cases h4:x.op=4
  ·rw[Ag h4];refine TagR.bind fun v s1 h=>TagR.bind fun u s2 h'=> ?_;have gv:=ih _ _ _ he _ _ h;have gu:=ih _ _ _ he _ _ h';cases v with
   |fn arg self body env'=>
    unfold Cd;dsimp only;have g3:TagG p (.sc env'):=by cases gv;assumption
    refine ih _ _ _ (.cons _ _ _ gu ?_);by_cases hs:self=ByteArray.empty
    ·rw[Ag hs];exact g3
    ·rw[Ab hs];exact .cons _ _ _ gv g3
   |int n=>exact TagR.bad
   |con a b=>exact TagR.bad
  rw[Ab h4];by_cases h6:x.op=6
  ·rw[Ag h6];exact ih _ _ _ (.cons _ _ _ (.fn _ _ _ _ he) he)
  rw[Ab h6];by_cases h7:x.op=7
  ·rw[Ag h7];exact TagR.bind fun v s1 h=>OZ (ih _ _ _ he _ _ h) he _ _ (fun k e s h=>ih k e s h)
  rw[Ab h7];by_cases h15:x.op=15
  ·rw[Ag h15];refine TagR.bind fun vs s1 h=> ?_;by_cases har:ar x.s=some x.kids.length
   ·rw[Ag har];exact TagR.ok (.con _ _ (hp _ _ har) (OY _ _ (fun k s=>ih k env s he) _ _ h))
   ·rw[Ab har];exact TagR.bad
  rw[Ab h15];refine TagR.bind fun v s1 h=> ?_;have gv:=ih _ _ _ he _ _ h;by_cases h5:x.op=5
  ·rw[Ag h5];exact ih _ _ _ (.cons _ _ _ gv he)
  rw[Ab h5];refine TagR.bind fun a s2 h2=> ?_;by_cases h16:x.op=16
  ·rw[Ag h16];exact TagR.ok gv
  rw[Ab h16];by_cases h9:x.op=9
  ·rw[Ag h9];by_cases ha:a≠0
   ·rw[Ag ha];exact ih _ _ _ he
   ·rw[Ab ha];exact ih _ _ _ he
  rw[Ab h9];exact TagR.bind fun v2 s3 _=>TagR.bind fun b s4 _=>TagR.ok (.int _)
end
mutual
theorem O2 {M:Nat}:∀u:Vl,TagG (fun s=>s.size≤M) (.th u)→lnV u+2≤Au u* (M+24)
 | .int n,h=>by unfold lnV Au;omega
 | .con s ks,h=>by
  have h1:=O3 ks h.inv_con.2;have h2:=h.inv_con.1;have e:Au (.con s ks)=1+Au.countVs ks:=rfl;rw[e,Dg];unfold lnV;omega
 | .fn _ _ _ _,h=>by unfold lnV Au;omega
theorem O3 {M:Nat}:∀ks:List Vl,(∀v∈ks,TagG (fun s=>s.size≤M) (.th v))→Dz ks+ks.length≤Au.countVs ks* (M+24)
 | [],h=>by unfold Dz;simp
 |k::ks,h=>by
  have h1:=O2 k (h k (List.mem_cons_self ..));have h2:=O3 ks (fun v hv=>h v (List.mem_cons_of_mem _ hv));have e:Au.countVs (k::ks)=Au k+Au.countVs ks:=rfl;rw[e,Dg];unfold Dz;simp only[List.length_cons];omega
end
theorem VH {ds:List Dt}{s:Str}{n:Nat}(h:arP ds s=some n):∃d∈ds,∃c∈d.cons,c.name=s:=by
 unfold arP Bg at h;cases hf:ds.findIdx? (EO s)with
 |none=>rw[hf]at h;simp at h
 |some k=>
  obtain⟨hk,h1, -⟩:=KO.1 hf;refine⟨ds[k],As hk,?_⟩;unfold EO at h1;have h1:=of_decide_eq_true h1;unfold cIx at h1;rcases Gu (isC s) ds[k].cons with ⟨h2, -⟩ |⟨j,hj,h2,h3, -⟩
  ·rw[h2]at h1;omega
  ·exact⟨ds[k].cons[j],As hj,of_decide_eq_true h3⟩
theorem VI {ds:List Dt}(hl:AR ds≤1048576) {s:Str}{n:Nat}(h:arP ds s=some n):s.size≤1048576:=by
 obtain⟨d,hd,c,hc,rfl⟩:=VH h;have h1:=Dx hd;have h2:=Eh hc;unfold wgD at h1;unfold wgC at h2;omega
theorem VJ {ds:List Dt}{x:Nd}{F:Int}(hz:AR ds≤1048576∧wgN x≤1048576) {u:Vl}(h:(BX ds x F).2.1=some u):Au u≤4000∧lnV u≤4611686018427387904∧Good (.th u):=by
 unfold BX at h;by_cases hs:By ds x=true∧ckP ds=0
 ·rw[Ag hs]at h;have ht:=hs.1;unfold By at ht;rw[AH,AH]at ht;cases hr:Ai (arP ds) (A9 F) x [] ⟨A9 F,[]⟩with
  |bad c o=>rw[hr]at h;cases h
  |ok v s=>
   rw[hr]at h;unfold CU at h;dsimp only at h;by_cases hc:Au v > 4000
   ·rw[Ag hc]at h;cases h
   ·rw[Ab hc]at h;cases h
    have hg:=Iz (arP ds) _ x [] _ ht.2.2 hz.2 .nil _ _ hr;have htg:=O0 (p:=fun s=>s.size≤1048576) (fun s n h=>VI hz.1 h) _ x [] _ .nil _ _ hr;have hln:=O2 _ htg;have:Au u* (1048576+24)≤4000* (1048576+24):=Dq _ (by omega);exact⟨by omega,by omega,hg⟩
 ·rw[Ab hs]at h;cases h
theorem VK (r:Rs Vl):(CU r).2.2=r.out:=by
 cases r with
 |bad c o=>rfl
 |ok v s=>unfold CU;dsimp only;split <;> rfl
theorem VL {d:Nat}{r r':Rs Vl}(h:Up d r r'):((CU r).1≠1→CU r'=CU r)∧(CU r).2.2 <+:(CU r').2.2:=by
 cases r with
 |ok v s=>
  have h:r'= .ok v (s.more d):=h;subst h;have e:CU (.ok v (s.more d))=CU (.ok v s):=rfl;rw[e];exact⟨fun _=>rfl,I5 _⟩
 |bad c o=>
  unfold Up at h;dsimp only at h;by_cases hc:c=1
  ·rw[Ag hc]at h;rw[VK r'];exact⟨fun hn=>absurd hc hn,h⟩
  ·rw[Ab hc]at h;subst h;exact⟨fun _=>rfl,I5 _⟩
theorem VM (ds:List Dt) (x:Nd) (F:Int):((BX ds x F).1≠1→BX ds x 4000=BX ds x F)∧(BX ds x F).2.2 <+:(BX ds x 4000).2.2:=by
 unfold BX;by_cases hs:By ds x=true∧ckP ds=0
 ·rw[Ag hs,Ag hs];have h4:A9 F≤A9 4000:=by unfold A9;omega
  exact VL (Wm (arP ds) x [] (A9 F) (A9 4000) h4)
 ·rw[Ab hs,Ab hs];exact⟨fun _=>rfl,I5 _⟩
end Go.Proofs.YtifhcbeaiijkcaaGreat
end
section
namespace Go.Proofs.YtifhcbeaiijkcaaGreat
open Go.RowKit
open _root_.Go.World renaming alloc→Wa,setCell→Ws
open _root_.Go.Proofs.Tryz renaming prog→Pq
def hv (v:Value) (h b n:Int):Value:= .agg #[v,.int .i64 h,.int .i64 b,.int .i64 n]
theorem U4 {B1 B2:Nat}(va vb:Value) (xs ys:List Int) (w:World) (ha:Rd B1 .i64 w va xs) (hb:Rd B2 .i64 w vb ys):
  Calls Pq 17 #[va,vb] w fun e w'=>e= .returned (.bool (decide (xs=ys)))∧Still w w':=by
 have hx:=ha.len;have hy:=hb.len;unfold maxLen at hx hy;by_cases hl:xs.length=ys.length
 ·rcases ha with ⟨rfl,a,cap,rfl⟩ |⟨b,off,cap,rfl,hB,hbs,hm,hc⟩
  ·have hy0:ys=[]:=List.eq_nil_of_length_eq_zero (by simpa using hl.symm);subst hy0;rcases hb with ⟨_,a',cap',rfl⟩ |⟨b',off',cap',rfl,hB',hbs',hm',hc'⟩
   all_goals
    go_enter Tryz.func17,Tryz.ntmps17;go_wp2;refine wp_loop_rounds 1 ?_;rw[rounds_succ];go_wp2;go_ret;exact⟨Ae (by simp),Still.refl _⟩
  ·rcases hb with ⟨rfl,a',cap',rfl⟩ |⟨b',off',cap',rfl,hB',hbs',hm',hc'⟩
   ·have hx0:xs=[]:=List.eq_nil_of_length_eq_zero (by simpa using hl);subst hx0;go_enter Tryz.func17,Tryz.ntmps17;go_wp2;refine wp_loop_rounds 1 ?_;rw[rounds_succ];go_wp2;go_ret;exact⟨Ae (by simp),Still.refl _⟩
   ·have hne:((xs.length:Int) !=(ys.length:Int))=false:=by simp[hl]
    have HL:=Aa hl;clear hl;go_enter Tryz.func17,Tryz.ntmps17;go_wp2
    go_loopw [5] (fun i wr=>∃k n:Nat,k≤xs.length∧i= .int .i64 k∧wr=w.drewN n∧Hid (∀j,j < k→xs.getD j 0=ys.getD j 0)) (fun i _=>xs.length - (intOf i).toNat)
    case atStart=>exact⟨0,0,Av _,rfl,rfl,fun j hj=>by omega⟩
    case round=>
     obtain⟨k,n,hk,rfl,rfl,hd⟩:=hrel;by_cases hlt:k < xs.length
     ·have c1:=hc k hlt;have c2:=hc' k (by rw[←HL.out];exact hlt);have hlt2:k < ys.length:=by rw[←HL.out];exact hlt
      clear hc hc';go_wp2;go_quiet (fail);go_wp2
      ·have h:(xs[k] !=ys[k])=true:=by assumption
       go_ret;exact⟨Ae (by simp only[bne_iff_ne]at h;symm;rw[KU];rintro rfl;exact h rfl),⟨n+nq,by simp⟩⟩
      ·have h:(xs[k] !=ys[k])=false:=by assumption
       go_roundw
       case rel=>exact⟨k+1,n+nq,hlt,by go_num,rfl,Tv HL.out hlt hd (by simp only[bne_eq_false_iff_eq]at h;simpa [List.getD,Bl hlt,Bl hlt2] using h)⟩
       case measure=>simp[intOf];omega
     ·go_wp2;go_ret;exact⟨Ae (by rw[Tx HL.out (fun j hj=>hd j (by omega))];simp),⟨_,rfl⟩⟩
 ·have hne:((xs.length:Int) !=(ys.length:Int))=true:=by simp;omega
  have hv:(∃a n cap,va= .slice a n cap∧n=xs.length)∧(∃a n cap,vb= .slice a n cap∧n=ys.length):=by
   constructor
   ·rcases ha with ⟨rfl,a,cap,rfl⟩ |⟨b,off,cap,rfl,_⟩
    ·exact⟨_,_,_,rfl,rfl⟩
    ·exact⟨_,_,_,rfl,rfl⟩
   ·rcases hb with ⟨rfl,a,cap,rfl⟩ |⟨b,off,cap,rfl,_⟩
    ·exact⟨_,_,_,rfl,rfl⟩
    ·exact⟨_,_,_,rfl,rfl⟩
  obtain⟨⟨a1,n1,c1,rfl,rfl⟩,⟨a2,n2,c2,rfl,rfl⟩⟩:=hv;have hf:decide (xs=ys)=false:=by simp;intro h;exact hl (by rw[h])
  have HF:=Aa hf;clear hf ha hb hl;go_enter Tryz.func17,Tryz.ntmps17;go_wp2;go_ret;exact⟨Ae HF.out.symm,Still.refl _⟩
theorem Kr {B1 B2:Nat}(va vb:Value) (xs:List Int) (w:World) (ra:Rd B1 .i64 w va xs) (rb:Rd B2 .i64 w vb xs):
  Calls Pq 17 #[va,vb] w fun e w'=>e= .returned (.bool true)∧Below w.heap.size w w':=
 (U4 va vb xs xs w ra rb).mono fun e w' h=>⟨by have q:=h.1;rw[AN rfl]at q;exact q,h.2.below _⟩
end Go.Proofs.YtifhcbeaiijkcaaGreat
end
