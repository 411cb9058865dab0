/- Parts of the proof of FnExactJudgeSame. -/
import Derived.Test.YtifhcbeaiijkcaaGreatJ05
set_option linter.unusedVariables false
set_option linter.unusedSimpArgs false
set_option maxRecDepth 1000000
set_option maxHeartbeats 16000000
namespace Go.Proofs.YtifhcbeaiijkcaaGreat
open Go.RowKit
open _root_.Go.World renaming alloc→Wa,setCell→Ws
open _root_.Go.Proofs.Tryz renaming prog→Pq
def dtV (d:Dt) (cv:Value):Value:= .agg #[.string d.name,.int .i64 d.vars,cv]
def cnV (c:Cn) (av:Value):Value:= .agg #[.string c.name,av]
theorem Fi {α:Type}(q:α→Bool) (l:List α):decide (0≤Bt q l)=l.any q:=by
 rcases Gp q l with ⟨h1,h2⟩ |⟨k,hk,h1,h2, -⟩
 ·rw[h1,AF (by decide),eq_comm,List.any_eq_false];intro x hx;obtain⟨j,hj,rfl⟩:=DG hx;rw[h2 j hj];simp
 ·rw[h1,Ax (Kb k),eq_comm,Kc];exact⟨_,An hk,h2⟩
theorem OS (p:Value) (q:Nd→Bool) (ks:List Nd) (v:Value) (B:Nat) (w:World) (hr:RdNs B w v ks) (hl:ks.length≤1048576)
  (HF:∀j (hj:j < ks.length) (kv:Value) (W:World),Below w.heap.size w W→RdNs w.heap.size W kv ks[j].kids→Calls Pq 208 #[ndV ks[j] kv,p] W fun e w'=>e= .returned (.bool (q ks[j]))∧Below W.heap.size W w'):
  Calls Pq 239 #[v,.func (.func 208) #[] #[p]] w fun e w'=>e= .returned (.int .i64 (Bt q ks))∧Below w.heap.size w w':=by
 have HR:=Aa (fun(W:World) (hb:Below w.heap.size w W)=>hr.later' hb);obtain⟨ka,kc,rfl⟩:=hr.form;unfold ndV at HF;have HF:=Aa HF;clear hr;go_enter Tryz.func239,Tryz.ntmps239;go_wp2
 go_loopw [5,8] (fun _ i wr=>∃k:Nat,k≤ks.length∧i= .int .i64 k∧Below w.heap.size w wr∧Hid (∀j (h:j < ks.length),j < k→q ks[j]=false)) (fun _ i _=>ks.length - (intOf i).toNat)
 case atStart=>exact⟨0,Ao _,rfl,Ab _ _,Aa (fun j h hk=>absurd hk (Aw j))⟩
 case round=>
  obtain⟨k,hk,rfl,bb,hd⟩:=hrel;by_cases hlt:k < ks.length
  ·obtain⟨b,off,cap,kv,hv,hB,hbs,hcap,⟨c0,c1,c2,c3,c4⟩,hkr⟩:=(HR.out wr bb).at_ hlt;cases hv
   have hki:(k:Int) < (ks.length:Int):=by omega
   have hk0:(0:Int)≤ (k:Int):=by omega
   obtain⟨kva,kvc,rfl⟩:=hkr.form;have HK:=Aa hkr;clear hkr;go_wp2_with fail;clear c0 c1 c2 c3 c4;refine(HF.out k hlt _ wr bb HK.out).mono ?_;rintro e w2 ⟨rfl,b2⟩;replace bb:=bb.trans (b2.mono bb.size);clear b2 HK;cases hp:q ks[k]with
   |false=>
    have hp':=Aa hp;clear hp;go_wp2;go_roundw
    case rel=>exact⟨k+1,hlt,by go_num,bb,Aa (fun j h hj=>by
     by_cases e:j=k
     ·subst e;exact hp'.out
     ·exact hd.out j h (by omega))⟩
    case measure=>simp[intOf];omega
   |true=>
    have hp':=Aa (Ef hlt hp hd.out);clear hp;go_wp2;go_ret;exact⟨Ap hp'.out.symm,bb⟩
  ·obtain rfl:k=ks.length:=by omega
   have hp':=Aa (Eg (q:=q) (l:=ks) fun j h=>hd.out j h h);go_wp2;go_ret;exact⟨Ap hp'.out.symm,bb⟩
theorem IW (p:Value) (q:Nd→Bool) (ks:List Nd) (v:Value) (B:Nat) (w:World) (hr:RdNs B w v ks) (hl:ks.length≤1048576)
  (HF:∀j (hj:j < ks.length) (kv:Value) (W:World),Below w.heap.size w W→RdNs w.heap.size W kv ks[j].kids→Calls Pq 208 #[ndV ks[j] kv,p] W fun e w'=>e= .returned (.bool (q ks[j]))∧Below W.heap.size W w'):
  Calls Pq 207 #[v,.func (.func 208) #[] #[p]] w fun e w'=>e= .returned (.bool (ks.any q))∧Below w.heap.size w w':=by
 have HI:=Aa (OS p q ks v B w hr hl HF);have HA:=Aa (Fi q ks);obtain⟨ka,kc,rfl⟩:=hr.form;clear hr HF;generalize ks.any q=an at*;generalize Bt q ks=ix at*;go_enter Tryz.func207,Tryz.ntmps207;go_wp2_with fail;refine HI.out.mono ?_;rintro e w' ⟨rfl,bb⟩;go_wp2
 all_goals go_ret
 all_goals exact⟨Ac (by rw[←HA.out]),bb⟩
theorem OT (q:Dt→Bool) (ks:List Dt) (v:Value) (B:Nat) (w:World) (hr:RdDts B w v ks) (hl:ks.length≤1048576)
  (HF:∀j (hj:j < ks.length) (kv:Value) (W:World),Below w.heap.size w W→RdCns w.heap.size W kv ks[j].cons→Calls Pq 95 #[dtV ks[j] kv] W fun e w'=>e= .returned (.bool (q ks[j]))∧Below W.heap.size W w'):
  Calls Pq 160 #[v,.func (.func 95) #[] #[]] w fun e w'=>e= .returned (.int .i64 (Bt q ks))∧Below w.heap.size w w':=by
 have HR:=Aa (fun(W:World) (hb:Below w.heap.size w W)=>hr.later' hb);obtain⟨ka,kc,rfl⟩:=hr.form;unfold dtV at HF;have HF:=Aa HF;clear hr;go_enter Tryz.func160,Tryz.ntmps160;go_wp2
 go_loopw [5,8] (fun _ i wr=>∃k:Nat,k≤ks.length∧i= .int .i64 k∧Below w.heap.size w wr∧Hid (∀j (h:j < ks.length),j < k→q ks[j]=false)) (fun _ i _=>ks.length - (intOf i).toNat)
 case atStart=>exact⟨0,Ao _,rfl,Ab _ _,Aa (fun j h hk=>absurd hk (Aw j))⟩
 case round=>
  obtain⟨k,hk,rfl,bb,hd⟩:=hrel;by_cases hlt:k < ks.length
  ·obtain⟨b,off,cap,kv,hv,hB,hbs,hcap,c0,c1,c2,hkr⟩:=(HR.out wr bb).at_ hlt;cases hv
   have hki:(k:Int) < (ks.length:Int):=by omega
   have hk0:(0:Int)≤ (k:Int):=by omega
   obtain⟨kva,kvc,rfl⟩:=hkr.form;have HK:=Aa hkr;clear hkr;go_wp2_with fail;clear c0 c1 c2;refine(HF.out k hlt _ wr bb HK.out).mono ?_;rintro e w2 ⟨rfl,b2⟩;replace bb:=bb.trans (b2.mono bb.size);clear b2 HK;cases hp:q ks[k]with
   |false=>
    have hp':=Aa hp;clear hp;go_wp2;go_roundw
    case rel=>exact⟨k+1,hlt,by go_num,bb,Aa (fun j h hj=>by
     by_cases e:j=k
     ·subst e;exact hp'.out
     ·exact hd.out j h (by omega))⟩
    case measure=>simp[intOf];omega
   |true=>
    have hp':=Aa (Ef hlt hp hd.out);clear hp;go_wp2;go_ret;exact⟨Ap hp'.out.symm,bb⟩
  ·obtain rfl:k=ks.length:=by omega
   have hp':=Aa (Eg (q:=q) (l:=ks) fun j h=>hd.out j h h);go_wp2;go_ret;exact⟨Ap hp'.out.symm,bb⟩
theorem OU (q:Dt→Bool) (ks:List Dt) (v:Value) (B:Nat) (w:World) (hr:RdDts B w v ks) (hl:ks.length≤1048576)
  (HF:∀j (hj:j < ks.length) (kv:Value) (W:World),Below w.heap.size w W→RdCns w.heap.size W kv ks[j].cons→Calls Pq 95 #[dtV ks[j] kv] W fun e w'=>e= .returned (.bool (q ks[j]))∧Below W.heap.size W w'):
  Calls Pq 94 #[v,.func (.func 95) #[] #[]] w fun e w'=>e= .returned (.bool (ks.any q))∧Below w.heap.size w w':=by
 have HI:=Aa (OT q ks v B w hr hl HF);have HA:=Aa (Fi q ks);obtain⟨ka,kc,rfl⟩:=hr.form;clear hr HF;generalize ks.any q=an at*;generalize Bt q ks=ix at*;go_enter Tryz.func94,Tryz.ntmps94;go_wp2_with fail;refine HI.out.mono ?_;rintro e w' ⟨rfl,bb⟩;go_wp2
 all_goals go_ret
 all_goals exact⟨Ac (by rw[←HA.out]),bb⟩
theorem OV (p:Value) (q:Tp→Bool) (ks:List Tp) (v:Value) (B:Nat) (w:World) (hr:RdTps B w v ks) (hl:ks.length≤1048576)
  (HF:∀j (hj:j < ks.length) (kv:Value) (W:World),Below w.heap.size w W→RdTps w.heap.size W kv ks[j].kids→Calls Pq 210 #[tpV ks[j] kv,p] W fun e w'=>e= .returned (.bool (q ks[j]))∧Below W.heap.size W w'):
  Calls Pq 202 #[v,.func (.func 210) #[] #[p]] w fun e w'=>e= .returned (.int .i64 (Bt q ks))∧Below w.heap.size w w':=by
 have HR:=Aa (fun(W:World) (hb:Below w.heap.size w W)=>hr.later' hb);obtain⟨ka,kc,rfl⟩:=hr.form;unfold tpV at HF;have HF:=Aa HF;clear hr;go_enter Tryz.func202,Tryz.ntmps202;go_wp2
 go_loopw [5,8] (fun _ i wr=>∃k:Nat,k≤ks.length∧i= .int .i64 k∧Below w.heap.size w wr∧Hid (∀j (h:j < ks.length),j < k→q ks[j]=false)) (fun _ i _=>ks.length - (intOf i).toNat)
 case atStart=>exact⟨0,Ao _,rfl,Ab _ _,Aa (fun j h hk=>absurd hk (Aw j))⟩
 case round=>
  obtain⟨k,hk,rfl,bb,hd⟩:=hrel;by_cases hlt:k < ks.length
  ·obtain⟨b,off,cap,kv,hv,hB,hbs,hcap,⟨c0,c1,c2,c3⟩,hkr⟩:=(HR.out wr bb).at_ hlt;cases hv
   have hki:(k:Int) < (ks.length:Int):=by omega
   have hk0:(0:Int)≤ (k:Int):=by omega
   obtain⟨kva,kvc,rfl⟩:=hkr.form;have HK:=Aa hkr;clear hkr;go_wp2_with fail;clear c0 c1 c2 c3;refine(HF.out k hlt _ wr bb HK.out).mono ?_;rintro e w2 ⟨rfl,b2⟩;replace bb:=bb.trans (b2.mono bb.size);clear b2 HK;cases hp:q ks[k]with
   |false=>
    have hp':=Aa hp;clear hp;go_wp2;go_roundw
    case rel=>exact⟨k+1,hlt,by go_num,bb,Aa (fun j h hj=>by
     by_cases e:j=k
     ·subst e;exact hp'.out
     ·exact hd.out j h (by omega))⟩
    case measure=>simp[intOf];omega
   |true=>
    have hp':=Aa (Ef hlt hp hd.out);clear hp;go_wp2;go_ret;exact⟨Ap hp'.out.symm,bb⟩
  ·obtain rfl:k=ks.length:=by omega
   have hp':=Aa (Eg (q:=q) (l:=ks) fun j h=>hd.out j h h);go_wp2;go_ret;exact⟨Ap hp'.out.symm,bb⟩
theorem OW (p:Value) (q:Tp→Bool) (ks:List Tp) (v:Value) (B:Nat) (w:World) (hr:RdTps B w v ks) (hl:ks.length≤1048576)
  (HF:∀j (hj:j < ks.length) (kv:Value) (W:World),Below w.heap.size w W→RdTps w.heap.size W kv ks[j].kids→Calls Pq 210 #[tpV ks[j] kv,p] W fun e w'=>e= .returned (.bool (q ks[j]))∧Below W.heap.size W w'):
  Calls Pq 152 #[v,.func (.func 210) #[] #[p]] w fun e w'=>e= .returned (.bool (ks.any q))∧Below w.heap.size w w':=by
 have HI:=Aa (OV p q ks v B w hr hl HF);have HA:=Aa (Fi q ks);obtain⟨ka,kc,rfl⟩:=hr.form;clear hr HF;generalize ks.any q=an at*;generalize Bt q ks=ix at*;go_enter Tryz.func152,Tryz.ntmps152;go_wp2_with fail;refine HI.out.mono ?_;rintro e w' ⟨rfl,bb⟩;go_wp2
 all_goals go_ret
 all_goals exact⟨Ac (by rw[←HA.out]),bb⟩
theorem OX (p:Value) (q:Tp→Bool) (ks:List Tp) (v:Value) (B:Nat) (w:World) (hr:RdTps B w v ks) (hl:ks.length≤1048576)
  (HF:∀j (hj:j < ks.length) (kv:Value) (W:World),Below w.heap.size w W→RdTps w.heap.size W kv ks[j].kids→Calls Pq 161 #[tpV ks[j] kv,p] W fun e w'=>e= .returned (.bool (q ks[j]))∧Below W.heap.size W w'):
  Calls Pq 202 #[v,.func (.func 161) #[] #[p]] w fun e w'=>e= .returned (.int .i64 (Bt q ks))∧Below w.heap.size w w':=by
 have HR:=Aa (fun(W:World) (hb:Below w.heap.size w W)=>hr.later' hb);obtain⟨ka,kc,rfl⟩:=hr.form;unfold tpV at HF;have HF:=Aa HF;clear hr;go_enter Tryz.func202,Tryz.ntmps202;go_wp2
 go_loopw [5,8] (fun _ i wr=>∃k:Nat,k≤ks.length∧i= .int .i64 k∧Below w.heap.size w wr∧Hid (∀j (h:j < ks.length),j < k→q ks[j]=false)) (fun _ i _=>ks.length - (intOf i).toNat)
 case atStart=>exact⟨0,Ao _,rfl,Ab _ _,Aa (fun j h hk=>absurd hk (Aw j))⟩
 case round=>
  obtain⟨k,hk,rfl,bb,hd⟩:=hrel;by_cases hlt:k < ks.length
  ·obtain⟨b,off,cap,kv,hv,hB,hbs,hcap,⟨c0,c1,c2,c3⟩,hkr⟩:=(HR.out wr bb).at_ hlt;cases hv
   have hki:(k:Int) < (ks.length:Int):=by omega
   have hk0:(0:Int)≤ (k:Int):=by omega
   obtain⟨kva,kvc,rfl⟩:=hkr.form;have HK:=Aa hkr;clear hkr;go_wp2_with fail;clear c0 c1 c2 c3;refine(HF.out k hlt _ wr bb HK.out).mono ?_;rintro e w2 ⟨rfl,b2⟩;replace bb:=bb.trans (b2.mono bb.size);clear b2 HK;cases hp:q ks[k]with
   |false=>
    have hp':=Aa hp;clear hp;go_wp2;go_roundw
    case rel=>exact⟨k+1,hlt,by go_num,bb,Aa (fun j h hj=>by
     by_cases e:j=k
     ·subst e;exact hp'.out
     ·exact hd.out j h (by omega))⟩
    case measure=>simp[intOf];omega
   |true=>
    have hp':=Aa (Ef hlt hp hd.out);clear hp;go_wp2;go_ret;exact⟨Ap hp'.out.symm,bb⟩
  ·obtain rfl:k=ks.length:=by omega
   have hp':=Aa (Eg (q:=q) (l:=ks) fun j h=>hd.out j h h);go_wp2;go_ret;exact⟨Ap hp'.out.symm,bb⟩
theorem OY (p:Value) (q:Tp→Bool) (ks:List Tp) (v:Value) (B:Nat) (w:World) (hr:RdTps B w v ks) (hl:ks.length≤1048576)
  (HF:∀j (hj:j < ks.length) (kv:Value) (W:World),Below w.heap.size w W→RdTps w.heap.size W kv ks[j].kids→Calls Pq 161 #[tpV ks[j] kv,p] W fun e w'=>e= .returned (.bool (q ks[j]))∧Below W.heap.size W w'):
  Calls Pq 152 #[v,.func (.func 161) #[] #[p]] w fun e w'=>e= .returned (.bool (ks.any q))∧Below w.heap.size w w':=by
 have HI:=Aa (OX p q ks v B w hr hl HF);have HA:=Aa (Fi q ks);obtain⟨ka,kc,rfl⟩:=hr.form;clear hr HF;generalize ks.any q=an at*;generalize Bt q ks=ix at*;go_enter Tryz.func152,Tryz.ntmps152;go_wp2_with fail;refine HI.out.mono ?_;rintro e w' ⟨rfl,bb⟩;go_wp2
 all_goals go_ret
 all_goals exact⟨Ac (by rw[←HA.out]),bb⟩
theorem OZ (q:Tp→Bool) (ks:List Tp) (v:Value) (B:Nat) (w:World) (hr:RdTps B w v ks) (hl:ks.length≤1048576)
  (HF:∀j (hj:j < ks.length) (kv:Value) (W:World),Below w.heap.size w W→RdTps w.heap.size W kv ks[j].kids→Calls Pq 153 #[tpV ks[j] kv] W fun e w'=>e= .returned (.bool (q ks[j]))∧Below W.heap.size W w'):
  Calls Pq 202 #[v,.func (.func 153) #[] #[]] w fun e w'=>e= .returned (.int .i64 (Bt q ks))∧Below w.heap.size w w':=by
 have HR:=Aa (fun(W:World) (hb:Below w.heap.size w W)=>hr.later' hb);obtain⟨ka,kc,rfl⟩:=hr.form;unfold tpV at HF;have HF:=Aa HF;clear hr;go_enter Tryz.func202,Tryz.ntmps202;go_wp2
 go_loopw [5,8] (fun _ i wr=>∃k:Nat,k≤ks.length∧i= .int .i64 k∧Below w.heap.size w wr∧Hid (∀j (h:j < ks.length),j < k→q ks[j]=false)) (fun _ i _=>ks.length - (intOf i).toNat)
 case atStart=>exact⟨0,Ao _,rfl,Ab _ _,Aa (fun j h hk=>absurd hk (Aw j))⟩
 case round=>
  obtain⟨k,hk,rfl,bb,hd⟩:=hrel;by_cases hlt:k < ks.length
  ·obtain⟨b,off,cap,kv,hv,hB,hbs,hcap,⟨c0,c1,c2,c3⟩,hkr⟩:=(HR.out wr bb).at_ hlt;cases hv
   have hki:(k:Int) < (ks.length:Int):=by omega
   have hk0:(0:Int)≤ (k:Int):=by omega
   obtain⟨kva,kvc,rfl⟩:=hkr.form;have HK:=Aa hkr;clear hkr;go_wp2_with fail;clear c0 c1 c2 c3;refine(HF.out k hlt _ wr bb HK.out).mono ?_;rintro e w2 ⟨rfl,b2⟩;replace bb:=bb.trans (b2.mono bb.size);clear b2 HK;cases hp:q ks[k]with
   |false=>
    have hp':=Aa hp;clear hp;go_wp2;go_roundw
    case rel=>exact⟨k+1,hlt,by go_num,bb,Aa (fun j h hj=>by
     by_cases e:j=k
     ·subst e;exact hp'.out
     ·exact hd.out j h (by omega))⟩
    case measure=>simp[intOf];omega
   |true=>
    have hp':=Aa (Ef hlt hp hd.out);clear hp;go_wp2;go_ret;exact⟨Ap hp'.out.symm,bb⟩
  ·obtain rfl:k=ks.length:=by omega
   have hp':=Aa (Eg (q:=q) (l:=ks) fun j h=>hd.out j h h);go_wp2;go_ret;exact⟨Ap hp'.out.symm,bb⟩
theorem O0 (q:Tp→Bool) (ks:List Tp) (v:Value) (B:Nat) (w:World) (hr:RdTps B w v ks) (hl:ks.length≤1048576)
  (HF:∀j (hj:j < ks.length) (kv:Value) (W:World),Below w.heap.size w W→RdTps w.heap.size W kv ks[j].kids→Calls Pq 153 #[tpV ks[j] kv] W fun e w'=>e= .returned (.bool (q ks[j]))∧Below W.heap.size W w'):
  Calls Pq 152 #[v,.func (.func 153) #[] #[]] w fun e w'=>e= .returned (.bool (ks.any q))∧Below w.heap.size w w':=by
 have HI:=Aa (OZ q ks v B w hr hl HF);have HA:=Aa (Fi q ks);obtain⟨ka,kc,rfl⟩:=hr.form;clear hr HF;generalize ks.any q=an at*;generalize Bt q ks=ix at*;go_enter Tryz.func152,Tryz.ntmps152;go_wp2_with fail;refine HI.out.mono ?_;rintro e w' ⟨rfl,bb⟩;go_wp2
 all_goals go_ret
 all_goals exact⟨Ac (by rw[←HA.out]),bb⟩
theorem O6 (p:Value) (q:Tp→Bool) (ks:List Tp) (v:Value) (B:Nat) (w:World) (hr:RdTps B w v ks) (hl:ks.length≤1048576)
  (HF:∀j (hj:j < ks.length) (kv:Value) (W:World),Below w.heap.size w W→RdTps w.heap.size W kv ks[j].kids→Calls Pq 164 #[tpV ks[j] kv,p] W fun e w'=>e= .returned (.bool (q ks[j]))∧Below W.heap.size W w'):
  Calls Pq 202 #[v,.func (.func 164) #[] #[p]] w fun e w'=>e= .returned (.int .i64 (Bt q ks))∧Below w.heap.size w w':=by
 have HR:=Aa (fun(W:World) (hb:Below w.heap.size w W)=>hr.later' hb);obtain⟨ka,kc,rfl⟩:=hr.form;unfold tpV at HF;have HF:=Aa HF;clear hr;go_enter Tryz.func202,Tryz.ntmps202;go_wp2
 go_loopw [5,8] (fun _ i wr=>∃k:Nat,k≤ks.length∧i= .int .i64 k∧Below w.heap.size w wr∧Hid (∀j (h:j < ks.length),j < k→q ks[j]=false)) (fun _ i _=>ks.length - (intOf i).toNat)
 case atStart=>exact⟨0,Ao _,rfl,Ab _ _,Aa (fun j h hk=>absurd hk (Aw j))⟩
 case round=>
  obtain⟨k,hk,rfl,bb,hd⟩:=hrel;by_cases hlt:k < ks.length
  ·obtain⟨b,off,cap,kv,hv,hB,hbs,hcap,⟨c0,c1,c2,c3⟩,hkr⟩:=(HR.out wr bb).at_ hlt;cases hv
   have hki:(k:Int) < (ks.length:Int):=by omega
   have hk0:(0:Int)≤ (k:Int):=by omega
   obtain⟨kva,kvc,rfl⟩:=hkr.form;have HK:=Aa hkr;clear hkr;go_wp2_with fail;clear c0 c1 c2 c3;refine(HF.out k hlt _ wr bb HK.out).mono ?_;rintro e w2 ⟨rfl,b2⟩;replace bb:=bb.trans (b2.mono bb.size);clear b2 HK;cases hp:q ks[k]with
   |false=>
    have hp':=Aa hp;clear hp;go_wp2;go_roundw
    case rel=>exact⟨k+1,hlt,by go_num,bb,Aa (fun j h hj=>by
     by_cases e:j=k
     ·subst e;exact hp'.out
     ·exact hd.out j h (by omega))⟩
    case measure=>simp[intOf];omega
   |true=>
    have hp':=Aa (Ef hlt hp hd.out);clear hp;go_wp2;go_ret;exact⟨Ap hp'.out.symm,bb⟩
  ·obtain rfl:k=ks.length:=by omega
   have hp':=Aa (Eg (q:=q) (l:=ks) fun j h=>hd.out j h h);go_wp2;go_ret;exact⟨Ap hp'.out.symm,bb⟩
theorem Ku (p:Value) (q:Tp→Bool) (ks:List Tp) (v:Value) (B:Nat) (w:World) (hr:RdTps B w v ks) (hl:ks.length≤1048576)
  (HF:∀j (hj:j < ks.length) (kv:Value) (W:World),Below w.heap.size w W→RdTps w.heap.size W kv ks[j].kids→Calls Pq 164 #[tpV ks[j] kv,p] W fun e w'=>e= .returned (.bool (q ks[j]))∧Below W.heap.size W w'):
  Calls Pq 152 #[v,.func (.func 164) #[] #[p]] w fun e w'=>e= .returned (.bool (ks.any q))∧Below w.heap.size w w':=by
 have HI:=Aa (O6 p q ks v B w hr hl HF);have HA:=Aa (Fi q ks);obtain⟨ka,kc,rfl⟩:=hr.form;clear hr HF;generalize ks.any q=an at*;generalize Bt q ks=ix at*;go_enter Tryz.func152,Tryz.ntmps152;go_wp2_with fail;refine HI.out.mono ?_;rintro e w' ⟨rfl,bb⟩;go_wp2
 all_goals go_ret
 all_goals exact⟨Ac (by rw[←HA.out]),bb⟩
theorem O7 (p:Value) (q:Tp→Bool) (ks:List Tp) (v:Value) (B:Nat) (w:World) (hr:RdTps B w v ks) (hl:ks.length≤1048576)
  (HF:∀j (hj:j < ks.length) (kv:Value) (W:World),Below w.heap.size w W→RdTps w.heap.size W kv ks[j].kids→Calls Pq 212 #[tpV ks[j] kv,p] W fun e w'=>e= .returned (.bool (q ks[j]))∧Below W.heap.size W w'):
  Calls Pq 202 #[v,.func (.func 212) #[] #[p]] w fun e w'=>e= .returned (.int .i64 (Bt q ks))∧Below w.heap.size w w':=by
 have HR:=Aa (fun(W:World) (hb:Below w.heap.size w W)=>hr.later' hb);obtain⟨ka,kc,rfl⟩:=hr.form;unfold tpV at HF;have HF:=Aa HF;clear hr;go_enter Tryz.func202,Tryz.ntmps202;go_wp2
 go_loopw [5,8] (fun _ i wr=>∃k:Nat,k≤ks.length∧i= .int .i64 k∧Below w.heap.size w wr∧Hid (∀j (h:j < ks.length),j < k→q ks[j]=false)) (fun _ i _=>ks.length - (intOf i).toNat)
 case atStart=>exact⟨0,Ao _,rfl,Ab _ _,Aa (fun j h hk=>absurd hk (Aw j))⟩
 case round=>
  obtain⟨k,hk,rfl,bb,hd⟩:=hrel;by_cases hlt:k < ks.length
  ·obtain⟨b,off,cap,kv,hv,hB,hbs,hcap,⟨c0,c1,c2,c3⟩,hkr⟩:=(HR.out wr bb).at_ hlt;cases hv
   have hki:(k:Int) < (ks.length:Int):=by omega
   have hk0:(0:Int)≤ (k:Int):=by omega
   obtain⟨kva,kvc,rfl⟩:=hkr.form;have HK:=Aa hkr;clear hkr;go_wp2_with fail;clear c0 c1 c2 c3;refine(HF.out k hlt _ wr bb HK.out).mono ?_;rintro e w2 ⟨rfl,b2⟩;replace bb:=bb.trans (b2.mono bb.size);clear b2 HK;cases hp:q ks[k]with
   |false=>
    have hp':=Aa hp;clear hp;go_wp2;go_roundw
    case rel=>exact⟨k+1,hlt,by go_num,bb,Aa (fun j h hj=>by
     by_cases e:j=k
     ·subst e;exact hp'.out
     ·exact hd.out j h (by omega))⟩
    case measure=>simp[intOf];omega
   |true=>
    have hp':=Aa (Ef hlt hp hd.out);clear hp;go_wp2;go_ret;exact⟨Ap hp'.out.symm,bb⟩
  ·obtain rfl:k=ks.length:=by omega
   have hp':=Aa (Eg (q:=q) (l:=ks) fun j h=>hd.out j h h);go_wp2;go_ret;exact⟨Ap hp'.out.symm,bb⟩
theorem Kv (p:Value) (q:Tp→Bool) (ks:List Tp) (v:Value) (B:Nat) (w:World) (hr:RdTps B w v ks) (hl:ks.length≤1048576)
  (HF:∀j (hj:j < ks.length) (kv:Value) (W:World),Below w.heap.size w W→RdTps w.heap.size W kv ks[j].kids→Calls Pq 212 #[tpV ks[j] kv,p] W fun e w'=>e= .returned (.bool (q ks[j]))∧Below W.heap.size W w'):
  Calls Pq 152 #[v,.func (.func 212) #[] #[p]] w fun e w'=>e= .returned (.bool (ks.any q))∧Below w.heap.size w w':=by
 have HI:=Aa (O7 p q ks v B w hr hl HF);have HA:=Aa (Fi q ks);obtain⟨ka,kc,rfl⟩:=hr.form;clear hr HF;generalize ks.any q=an at*;generalize Bt q ks=ix at*;go_enter Tryz.func152,Tryz.ntmps152;go_wp2_with fail;refine HI.out.mono ?_;rintro e w' ⟨rfl,bb⟩;go_wp2
 all_goals go_ret
 all_goals exact⟨Ac (by rw[←HA.out]),bb⟩
theorem O8 (p:Value) (q:Dt→Bool) (ks:List Dt) (v:Value) (B:Nat) (w:World) (hr:RdDts B w v ks) (hl:ks.length≤1048576)
  (HF:∀j (hj:j < ks.length) (kv:Value) (W:World),Below w.heap.size w W→RdCns w.heap.size W kv ks[j].cons→Calls Pq 166 #[dtV ks[j] kv,p] W fun e w'=>e= .returned (.bool (q ks[j]))∧Below W.heap.size W w'):
  Calls Pq 160 #[v,.func (.func 166) #[] #[p]] w fun e w'=>e= .returned (.int .i64 (Bt q ks))∧Below w.heap.size w w':=by
 have HR:=Aa (fun(W:World) (hb:Below w.heap.size w W)=>hr.later' hb);obtain⟨ka,kc,rfl⟩:=hr.form;unfold dtV at HF;have HF:=Aa HF;clear hr;go_enter Tryz.func160,Tryz.ntmps160;go_wp2
 go_loopw [5,8] (fun _ i wr=>∃k:Nat,k≤ks.length∧i= .int .i64 k∧Below w.heap.size w wr∧Hid (∀j (h:j < ks.length),j < k→q ks[j]=false)) (fun _ i _=>ks.length - (intOf i).toNat)
 case atStart=>exact⟨0,Ao _,rfl,Ab _ _,Aa (fun j h hk=>absurd hk (Aw j))⟩
 case round=>
  obtain⟨k,hk,rfl,bb,hd⟩:=hrel;by_cases hlt:k < ks.length
  ·obtain⟨b,off,cap,kv,hv,hB,hbs,hcap,c0,c1,c2,hkr⟩:=(HR.out wr bb).at_ hlt;cases hv
   have hki:(k:Int) < (ks.length:Int):=by omega
   have hk0:(0:Int)≤ (k:Int):=by omega
   obtain⟨kva,kvc,rfl⟩:=hkr.form;have HK:=Aa hkr;clear hkr;go_wp2_with fail;clear c0 c1 c2;refine(HF.out k hlt _ wr bb HK.out).mono ?_;rintro e w2 ⟨rfl,b2⟩;replace bb:=bb.trans (b2.mono bb.size);clear b2 HK;cases hp:q ks[k]with
   |false=>
    have hp':=Aa hp;clear hp;go_wp2;go_roundw
    case rel=>exact⟨k+1,hlt,by go_num,bb,Aa (fun j h hj=>by
     by_cases e:j=k
     ·subst e;exact hp'.out
     ·exact hd.out j h (by omega))⟩
    case measure=>simp[intOf];omega
   |true=>
    have hp':=Aa (Ef hlt hp hd.out);clear hp;go_wp2;go_ret;exact⟨Ap hp'.out.symm,bb⟩
  ·obtain rfl:k=ks.length:=by omega
   have hp':=Aa (Eg (q:=q) (l:=ks) fun j h=>hd.out j h h);go_wp2;go_ret;exact⟨Ap hp'.out.symm,bb⟩
theorem O9 (p:Value) (q:Cn→Bool) (ks:List Cn) (v:Value) (B:Nat) (w:World) (hr:RdCns B w v ks) (hl:ks.length≤1048576)
  (HF:∀j (hj:j < ks.length) (kv:Value) (W:World),Below w.heap.size w W→RdTps w.heap.size W kv ks[j].args→Calls Pq 214 #[cnV ks[j] kv,p] W fun e w'=>e= .returned (.bool (q ks[j]))∧Below W.heap.size W w'):
  Calls Pq 213 #[v,.func (.func 214) #[] #[p]] w fun e w'=>e= .returned (.int .i64 (Bt q ks))∧Below w.heap.size w w':=by
 have HR:=Aa (fun(W:World) (hb:Below w.heap.size w W)=>hr.later' hb);obtain⟨ka,kc,rfl⟩:=hr.form;unfold cnV at HF;have HF:=Aa HF;clear hr;go_enter Tryz.func213,Tryz.ntmps213;go_wp2
 go_loopw [5,8] (fun _ i wr=>∃k:Nat,k≤ks.length∧i= .int .i64 k∧Below w.heap.size w wr∧Hid (∀j (h:j < ks.length),j < k→q ks[j]=false)) (fun _ i _=>ks.length - (intOf i).toNat)
 case atStart=>exact⟨0,Ao _,rfl,Ab _ _,Aa (fun j h hk=>absurd hk (Aw j))⟩
 case round=>
  obtain⟨k,hk,rfl,bb,hd⟩:=hrel;by_cases hlt:k < ks.length
  ·obtain⟨b,off,cap,kv,hv,hB,hbs,hcap,c0,c1,hkr⟩:=(HR.out wr bb).at_ hlt;cases hv
   have hki:(k:Int) < (ks.length:Int):=by omega
   have hk0:(0:Int)≤ (k:Int):=by omega
   obtain⟨kva,kvc,rfl⟩:=hkr.form;have HK:=Aa hkr;clear hkr;go_wp2_with fail;clear c0 c1;refine(HF.out k hlt _ wr bb HK.out).mono ?_;rintro e w2 ⟨rfl,b2⟩;replace bb:=bb.trans (b2.mono bb.size);clear b2 HK;cases hp:q ks[k]with
   |false=>
    have hp':=Aa hp;clear hp;go_wp2;go_roundw
    case rel=>exact⟨k+1,hlt,by go_num,bb,Aa (fun j h hj=>by
     by_cases e:j=k
     ·subst e;exact hp'.out
     ·exact hd.out j h (by omega))⟩
    case measure=>simp[intOf];omega
   |true=>
    have hp':=Aa (Ef hlt hp hd.out);clear hp;go_wp2;go_ret;exact⟨Ap hp'.out.symm,bb⟩
  ·obtain rfl:k=ks.length:=by omega
   have hp':=Aa (Eg (q:=q) (l:=ks) fun j h=>hd.out j h h);go_wp2;go_ret;exact⟨Ap hp'.out.symm,bb⟩
theorem PN (d:Dt) (cv:Value) (g:Nat) (s:Str) (w:World) (hg:w.cell? ⟨g,0,none⟩=some (.string s)) (hlt:g < w.heap.size):
  Calls Pq 166 #[dtV d cv,.pointer (some ⟨g,0,none⟩)] w fun e w'=>e= .returned (.bool (isD s d))∧Below w.heap.size w w':=by
 have hE:=Aa (FT d.name s);unfold dtV;unfold isD;generalize d.name=dn at*;generalize d.vars=dvs at*;go_enter Tryz.func166,Tryz.ntmps166;have hg2:=(((Ab w.heap.size w).alloc (Ad _) (.cells #[.string dn,.int .i64 dvs,cv] 135)).cell (p:=⟨g,0,none⟩) hlt).trans hg;go_wp2;go_ret;exact⟨Ac hE.out,(Ab _ _).alloc (Ad _) _⟩
theorem I3 (ds:List Dt) (dv:Value) (s:Str) (B:Nat) (w:World) (hr:RdDts B w dv ds) (hl:ds.length≤1048576):
  Calls Pq 100 #[dv,.string s] w fun e w'=>e= .returned (.int .i64 (dIx ds s))∧Below w.heap.size w w':=by
 have HR:=Aa (fun(W:World) (hb:Below w.heap.size w W)=>hr.later' hb);have HD:=Aa (show Bt (isD s) ds=dIx ds s from rfl);obtain⟨ka,kc,rfl⟩:=hr.form;clear hr;go_enter Tryz.func100,Tryz.ntmps100;go_wp2_with fail;generalize hxx:Wa _ _=x0;obtain⟨bb,k1⟩:=Bx.alloc hxx;clear hxx;refine(O8 (.pointer (some ⟨w.heap.size,0,none⟩)) (isD s) ds _ _ x0 (HR.out x0 bb) hl (fun j hj kv W hb hk=>PN ds[j] kv w.heap.size s W ((k1.below hb k1.1).2.1 0) (k1.below hb k1.1).1)).mono ?_;rintro e w2 ⟨rfl,b2⟩;replace bb:=bb.trans (b2.mono bb.size);go_wp2;go_ret;exact⟨Ap HD.out,bb⟩
theorem PO (c:Cn) (av:Value) (g:Nat) (s:Str) (w:World) (hg:w.cell? ⟨g,0,none⟩=some (.string s)) (hlt:g < w.heap.size):
  Calls Pq 214 #[cnV c av,.pointer (some ⟨g,0,none⟩)] w fun e w'=>e= .returned (.bool (isC s c))∧Below w.heap.size w w':=by
 have hE:=Aa (FT c.name s);unfold cnV;unfold isC;generalize c.name=dn at*;go_enter Tryz.func214,Tryz.ntmps214;have hg2:=(((Ab w.heap.size w).alloc (Ad _) (.cells #[.string dn,av] 160)).cell (p:=⟨g,0,none⟩) hlt).trans hg;go_wp2;go_ret;exact⟨Ac hE.out,(Ab _ _).alloc (Ad _) _⟩
theorem PQ (ds:List Dt) (dv:Value) (s:Str) (B:Nat) (w:World) (hr:RdDts B w dv ds) (hl:AN ds≤1048576):
  Calls Pq 168 #[dv,.string s] w fun e w'=>e= .returned (.tuple #[.int .i64 (Bp ds s).1,.int .i64 (Bp ds s).2])∧Below w.heap.size w w':=by
 have HR:=Aa (fun(W:World) (hb:Below w.heap.size w W)=>hr.later' hb);have hln:=Dn ds;have hds:ds.length≤1048576:=by omega
 have SZ:=Aa (fun(i:Nat) (hi:i < ds.length)=>(by
  have h1:=Dm (An hi);have h2:=E9 ds[i].cons;unfold wgD at h1;omega:ds[i].cons.length≤1048576))
 have HC:=Aa (fun(k:Nat) (hk:k < ds.length) (h:0≤cIx ds[k].cons s) (hj:∀j (h:j < ds.length),j < k→ ¬0≤cIx ds[j].cons s)=>K0 hk h hj);have HN:=Aa (fun(hj:∀j (h:j < ds.length),¬0≤cIx ds[j].cons s)=>La hj);have HD:=Aa (fun(cs:List Cn)=>(rfl:Bt (isC s) cs=cIx cs s));have HB:=Aa (fun(cs:List Cn) (h:cs.length≤1048576)=>(by
  rcases I4 cs s with ⟨h1, -⟩ |⟨k,hk,h1, -⟩
  ·omega
  ·omega:-1≤cIx cs s∧cIx cs s≤1048576))
 generalize Bp ds s=co at*;obtain⟨ka,kc,rfl⟩:=hr.form;clear hr hln hl;go_enter Tryz.func168,Tryz.ntmps168;go_wp2_with fail;generalize hxx:Wa _ _=x0;obtain⟨bb,k1⟩:=Bx.alloc hxx;clear hxx;go_wp2
 go_loopw [11] (fun i wr=>∃k:Nat,k≤ds.length∧i= .int .i64 k∧Below w.heap.size w wr∧Bx wr w.heap.size #[.string s]∧Hid (∀j (h:j < ds.length),j < k→ ¬0≤cIx ds[j].cons s)) (fun i _=>ds.length - (intOf i).toNat)
 case atStart=>exact⟨0,Ao _,rfl,bb,k1,Aa (fun j h hk=>absurd hk (Aw j))⟩
 case round=>
  clear bb k1;obtain⟨i,hi,rfl,bb,k1,hd⟩:=hrel;by_cases hlt:i < ds.length
  ·obtain⟨b,off,cap,cv,hv,hB,hbs,hcap,c0,c1,c2,hkr⟩:=(HR.out wr bb).at_ hlt;cases hv
   have hki:(i:Int) < (ds.length:Int):=by omega
   have hk0:(0:Int)≤ (i:Int):=by omega
   have HK:=Aa hkr;have hsz:=SZ.out i hlt;obtain⟨ca,cc,rfl⟩:=hkr.form;have hb2:=HB.out ds[i].cons hsz;clear hkr;go_wp2_with fail;generalize hyy:Wa _ _=wy;obtain⟨by_,k2⟩:=Bx.alloc hyy;clear hyy c0 c1 c2;have hs0:=bb.size;replace k1:=k1.below by_ k1.1;refine(O9 (.pointer (some ⟨w.heap.size,0,none⟩)) (isC s) ds[i].cons _ _ wy (HK.out.later by_ hs0) hsz (fun j hj kv W hb hk=>PO ds[i].cons[j] kv w.heap.size s W ((k1.below hb k1.1).2.1 0) (k1.below hb k1.1).1)).mono ?_;rintro e w2 ⟨rfl,b2⟩;rw[show Bt (isC s) ds[i].cons=cIx ds[i].cons s from rfl];replace k1:=k1.below b2 k1.1;replace b2:=by_.trans (b2.mono by_.size);replace bb:=bb.trans (b2.mono hs0);clear b2 by_ k2 HK;by_cases hn:0≤cIx ds[i].cons s
   ·have he:=Aa (HC.out i hlt hn hd.out);generalize cIx ds[i].cons s=cx at*;go_wp2;go_ret2;rw[he.out];exact⟨rfl,bb⟩
   ·have hn':=Aa hn;go_wp2;go_roundw
    case rel=>exact⟨i+1,hlt,by go_num,bb,k1,Aa (fun j h hj=>by
     by_cases e:j=i
     ·subst e;have:=hn'.out;omega
     ·have:=hd.out j h (by omega);omega)⟩
    case measure=>simp[intOf];omega
  ·obtain rfl:i=ds.length:=by omega
   have he:=Aa (HN.out fun j h=>by have:=hd.out j h h;omega);go_wp2;go_ret2;rw[he.out];exact⟨rfl,bb⟩
end Go.Proofs.YtifhcbeaiijkcaaGreat
