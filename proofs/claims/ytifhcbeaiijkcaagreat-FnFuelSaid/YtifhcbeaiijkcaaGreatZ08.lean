/- Parts of the proof of FnFuel. -/
import Derived.Test.YtifhcbeaiijkcaaGreatZ07
import Derived.Test.YtifhcbeaiijkcaaGreatZ05
import Derived.Test.YtifhcbeaiijkcaaGreatZ06
set_option linter.unusedVariables false
set_option linter.unusedSimpArgs false
set_option maxRecDepth 1000000
set_option maxHeartbeats 16000000
namespace Go.Proofs.YtifhcbeaiijkcaaGreat
open Go.RowKit
open _root_.Go.World renaming alloc→Wa,setCell→Ws
open _root_.Go.Proofs.Tryz renaming prog→Pq
def dtV (d:Dt) (cv:Value):Value:= .agg #[.string d.name,.int .i64 d.vars,cv]
def cnV (c:Cn) (av:Value):Value:= .agg #[.string c.name,av]
theorem Fg {α:Type}(q:α→Bool) (l:List α):decide (0≤Bn q l)=l.any q:=by
 rcases Gu q l with ⟨h1,h2⟩ |⟨k,hk,h1,h2, -⟩
 ·rw[h1,AG (by decide),eq_comm,List.any_eq_false];intro x hx;obtain⟨j,hj,rfl⟩:=EH hx;rw[h2 j hj];simp
 ·rw[h1,AN (Int.natCast_nonneg k),eq_comm,KM];exact⟨_,As hk,h2⟩
theorem PD (p:Value) (q:Nd→Bool) (ks:List Nd) (v:Value) (B:Nat) (w:World) (hr:RdNs B w v ks) (hl:ks.length≤1048576)
  (HF:∀j (hj:j < ks.length) (kv:Value) (W:World),Below w.heap.size w W→RdNs w.heap.size W kv ks[j].kids→Calls Pq 208 #[ndV ks[j] kv,p] W fun e w'=>e= .returned (.bool (q ks[j]))∧Below W.heap.size W w'):
  Calls Pq 239 #[v,.func (.func 208) #[] #[p]] w fun e w'=>e= .returned (.int .i64 (Bn q ks))∧Below w.heap.size w w':=by
 have HR:=Aa (fun(W:World) (hb:Below w.heap.size w W)=>hr.later' hb);obtain⟨ka,kc,rfl⟩:=hr.form;unfold ndV at HF;have HF:=Aa HF;clear hr;go_enter Tryz.func239,Tryz.ntmps239;go_wp2
 go_loopw [5,8] (fun _ i wr=>∃k:Nat,k≤ks.length∧i= .int .i64 k∧Below w.heap.size w wr∧Hid (∀j (h:j < ks.length),j < k→q ks[j]=false)) (fun _ i _=>ks.length - (intOf i).toNat)
 case atStart=>exact⟨0,Av _,rfl,Ac _ _,Aa (fun j h hk=>absurd hk (Ay j))⟩
 case round=>
  obtain⟨k,hk,rfl,bb,hd⟩:=hrel;by_cases hlt:k < ks.length
  ·obtain⟨b,off,cap,kv,hv,hB,hbs,hcap,⟨c0,c1,c2,c3,c4⟩,hkr⟩:=(HR.out wr bb).at_ hlt;cases hv
   have hki:(k:Int) < (ks.length:Int):=by omega
   have hk0:(0:Int)≤ (k:Int):=by omega
   obtain⟨kva,kvc,rfl⟩:=hkr.form;have HK:=Aa hkr;clear hkr;go_wp2_with fail;clear c0 c1 c2 c3 c4;refine(HF.out k hlt _ wr bb HK.out).mono ?_;rintro e w2 ⟨rfl,b2⟩;replace bb:=bb.trans (b2.mono bb.size);clear b2 HK;cases hp:q ks[k]with
   |false=>
    have hp':=Aa hp;clear hp;go_wp2;go_roundw
    case rel=>exact⟨k+1,hlt,by go_num,bb,Aa (fun j h hj=>by
     by_cases e:j=k
     ·subst e;exact hp'.out
     ·exact hd.out j h (by omega))⟩
    case measure=>simp[intOf];omega
   |true=>
    have hp':=Aa (DX hlt hp hd.out);clear hp;go_wp2;go_ret;exact⟨AK hp'.out.symm,bb⟩
  ·obtain rfl:k=ks.length:=by omega
   have hp':=Aa (DY (q:=q) (l:=ks) fun j h=>hd.out j h h);go_wp2;go_ret;exact⟨AK hp'.out.symm,bb⟩
theorem I9 (p:Value) (q:Nd→Bool) (ks:List Nd) (v:Value) (B:Nat) (w:World) (hr:RdNs B w v ks) (hl:ks.length≤1048576)
  (HF:∀j (hj:j < ks.length) (kv:Value) (W:World),Below w.heap.size w W→RdNs w.heap.size W kv ks[j].kids→Calls Pq 208 #[ndV ks[j] kv,p] W fun e w'=>e= .returned (.bool (q ks[j]))∧Below W.heap.size W w'):
  Calls Pq 207 #[v,.func (.func 208) #[] #[p]] w fun e w'=>e= .returned (.bool (ks.any q))∧Below w.heap.size w w':=by
 have HI:=Aa (PD p q ks v B w hr hl HF);have HA:=Aa (Fg q ks);obtain⟨ka,kc,rfl⟩:=hr.form;clear hr HF;generalize ks.any q=an at*;generalize Bn q ks=ix at*;go_enter Tryz.func207,Tryz.ntmps207;go_wp2_with fail;refine HI.out.mono ?_;rintro e w' ⟨rfl,bb⟩;go_wp2
 all_goals go_ret
 all_goals exact⟨Ae (by rw[←HA.out]),bb⟩
theorem PE (q:Dt→Bool) (ks:List Dt) (v:Value) (B:Nat) (w:World) (hr:RdDts B w v ks) (hl:ks.length≤1048576)
  (HF:∀j (hj:j < ks.length) (kv:Value) (W:World),Below w.heap.size w W→RdCns w.heap.size W kv ks[j].cons→Calls Pq 95 #[dtV ks[j] kv] W fun e w'=>e= .returned (.bool (q ks[j]))∧Below W.heap.size W w'):
  Calls Pq 160 #[v,.func (.func 95) #[] #[]] w fun e w'=>e= .returned (.int .i64 (Bn q ks))∧Below w.heap.size w w':=by
 have HR:=Aa (fun(W:World) (hb:Below w.heap.size w W)=>hr.later' hb);obtain⟨ka,kc,rfl⟩:=hr.form;unfold dtV at HF;have HF:=Aa HF;clear hr;go_enter Tryz.func160,Tryz.ntmps160;go_wp2
 go_loopw [5,8] (fun _ i wr=>∃k:Nat,k≤ks.length∧i= .int .i64 k∧Below w.heap.size w wr∧Hid (∀j (h:j < ks.length),j < k→q ks[j]=false)) (fun _ i _=>ks.length - (intOf i).toNat)
 case atStart=>exact⟨0,Av _,rfl,Ac _ _,Aa (fun j h hk=>absurd hk (Ay j))⟩
 case round=>
  obtain⟨k,hk,rfl,bb,hd⟩:=hrel;by_cases hlt:k < ks.length
  ·obtain⟨b,off,cap,kv,hv,hB,hbs,hcap,c0,c1,c2,hkr⟩:=(HR.out wr bb).at_ hlt;cases hv
   have hki:(k:Int) < (ks.length:Int):=by omega
   have hk0:(0:Int)≤ (k:Int):=by omega
   obtain⟨kva,kvc,rfl⟩:=hkr.form;have HK:=Aa hkr;clear hkr;go_wp2_with fail;clear c0 c1 c2;refine(HF.out k hlt _ wr bb HK.out).mono ?_;rintro e w2 ⟨rfl,b2⟩;replace bb:=bb.trans (b2.mono bb.size);clear b2 HK;cases hp:q ks[k]with
   |false=>
    have hp':=Aa hp;clear hp;go_wp2;go_roundw
    case rel=>exact⟨k+1,hlt,by go_num,bb,Aa (fun j h hj=>by
     by_cases e:j=k
     ·subst e;exact hp'.out
     ·exact hd.out j h (by omega))⟩
    case measure=>simp[intOf];omega
   |true=>
    have hp':=Aa (DX hlt hp hd.out);clear hp;go_wp2;go_ret;exact⟨AK hp'.out.symm,bb⟩
  ·obtain rfl:k=ks.length:=by omega
   have hp':=Aa (DY (q:=q) (l:=ks) fun j h=>hd.out j h h);go_wp2;go_ret;exact⟨AK hp'.out.symm,bb⟩
theorem PF (q:Dt→Bool) (ks:List Dt) (v:Value) (B:Nat) (w:World) (hr:RdDts B w v ks) (hl:ks.length≤1048576)
  (HF:∀j (hj:j < ks.length) (kv:Value) (W:World),Below w.heap.size w W→RdCns w.heap.size W kv ks[j].cons→Calls Pq 95 #[dtV ks[j] kv] W fun e w'=>e= .returned (.bool (q ks[j]))∧Below W.heap.size W w'):
  Calls Pq 94 #[v,.func (.func 95) #[] #[]] w fun e w'=>e= .returned (.bool (ks.any q))∧Below w.heap.size w w':=by
 have HI:=Aa (PE q ks v B w hr hl HF);have HA:=Aa (Fg q ks);obtain⟨ka,kc,rfl⟩:=hr.form;clear hr HF;generalize ks.any q=an at*;generalize Bn q ks=ix at*;go_enter Tryz.func94,Tryz.ntmps94;go_wp2_with fail;refine HI.out.mono ?_;rintro e w' ⟨rfl,bb⟩;go_wp2
 all_goals go_ret
 all_goals exact⟨Ae (by rw[←HA.out]),bb⟩
theorem PG (p:Value) (q:Tp→Bool) (ks:List Tp) (v:Value) (B:Nat) (w:World) (hr:RdTps B w v ks) (hl:ks.length≤1048576)
  (HF:∀j (hj:j < ks.length) (kv:Value) (W:World),Below w.heap.size w W→RdTps w.heap.size W kv ks[j].kids→Calls Pq 210 #[tpV ks[j] kv,p] W fun e w'=>e= .returned (.bool (q ks[j]))∧Below W.heap.size W w'):
  Calls Pq 202 #[v,.func (.func 210) #[] #[p]] w fun e w'=>e= .returned (.int .i64 (Bn q ks))∧Below w.heap.size w w':=by
 have HR:=Aa (fun(W:World) (hb:Below w.heap.size w W)=>hr.later' hb);obtain⟨ka,kc,rfl⟩:=hr.form;unfold tpV at HF;have HF:=Aa HF;clear hr;go_enter Tryz.func202,Tryz.ntmps202;go_wp2
 go_loopw [5,8] (fun _ i wr=>∃k:Nat,k≤ks.length∧i= .int .i64 k∧Below w.heap.size w wr∧Hid (∀j (h:j < ks.length),j < k→q ks[j]=false)) (fun _ i _=>ks.length - (intOf i).toNat)
 case atStart=>exact⟨0,Av _,rfl,Ac _ _,Aa (fun j h hk=>absurd hk (Ay j))⟩
 case round=>
  obtain⟨k,hk,rfl,bb,hd⟩:=hrel;by_cases hlt:k < ks.length
  ·obtain⟨b,off,cap,kv,hv,hB,hbs,hcap,⟨c0,c1,c2,c3⟩,hkr⟩:=(HR.out wr bb).at_ hlt;cases hv
   have hki:(k:Int) < (ks.length:Int):=by omega
   have hk0:(0:Int)≤ (k:Int):=by omega
   obtain⟨kva,kvc,rfl⟩:=hkr.form;have HK:=Aa hkr;clear hkr;go_wp2_with fail;clear c0 c1 c2 c3;refine(HF.out k hlt _ wr bb HK.out).mono ?_;rintro e w2 ⟨rfl,b2⟩;replace bb:=bb.trans (b2.mono bb.size);clear b2 HK;cases hp:q ks[k]with
   |false=>
    have hp':=Aa hp;clear hp;go_wp2;go_roundw
    case rel=>exact⟨k+1,hlt,by go_num,bb,Aa (fun j h hj=>by
     by_cases e:j=k
     ·subst e;exact hp'.out
     ·exact hd.out j h (by omega))⟩
    case measure=>simp[intOf];omega
   |true=>
    have hp':=Aa (DX hlt hp hd.out);clear hp;go_wp2;go_ret;exact⟨AK hp'.out.symm,bb⟩
  ·obtain rfl:k=ks.length:=by omega
   have hp':=Aa (DY (q:=q) (l:=ks) fun j h=>hd.out j h h);go_wp2;go_ret;exact⟨AK hp'.out.symm,bb⟩
theorem PH (p:Value) (q:Tp→Bool) (ks:List Tp) (v:Value) (B:Nat) (w:World) (hr:RdTps B w v ks) (hl:ks.length≤1048576)
  (HF:∀j (hj:j < ks.length) (kv:Value) (W:World),Below w.heap.size w W→RdTps w.heap.size W kv ks[j].kids→Calls Pq 210 #[tpV ks[j] kv,p] W fun e w'=>e= .returned (.bool (q ks[j]))∧Below W.heap.size W w'):
  Calls Pq 152 #[v,.func (.func 210) #[] #[p]] w fun e w'=>e= .returned (.bool (ks.any q))∧Below w.heap.size w w':=by
 have HI:=Aa (PG p q ks v B w hr hl HF);have HA:=Aa (Fg q ks);obtain⟨ka,kc,rfl⟩:=hr.form;clear hr HF;generalize ks.any q=an at*;generalize Bn q ks=ix at*;go_enter Tryz.func152,Tryz.ntmps152;go_wp2_with fail;refine HI.out.mono ?_;rintro e w' ⟨rfl,bb⟩;go_wp2
 all_goals go_ret
 all_goals exact⟨Ae (by rw[←HA.out]),bb⟩
theorem PI (p:Value) (q:Tp→Bool) (ks:List Tp) (v:Value) (B:Nat) (w:World) (hr:RdTps B w v ks) (hl:ks.length≤1048576)
  (HF:∀j (hj:j < ks.length) (kv:Value) (W:World),Below w.heap.size w W→RdTps w.heap.size W kv ks[j].kids→Calls Pq 161 #[tpV ks[j] kv,p] W fun e w'=>e= .returned (.bool (q ks[j]))∧Below W.heap.size W w'):
  Calls Pq 202 #[v,.func (.func 161) #[] #[p]] w fun e w'=>e= .returned (.int .i64 (Bn q ks))∧Below w.heap.size w w':=by
 have HR:=Aa (fun(W:World) (hb:Below w.heap.size w W)=>hr.later' hb);obtain⟨ka,kc,rfl⟩:=hr.form;unfold tpV at HF;have HF:=Aa HF;clear hr;go_enter Tryz.func202,Tryz.ntmps202;go_wp2
 go_loopw [5,8] (fun _ i wr=>∃k:Nat,k≤ks.length∧i= .int .i64 k∧Below w.heap.size w wr∧Hid (∀j (h:j < ks.length),j < k→q ks[j]=false)) (fun _ i _=>ks.length - (intOf i).toNat)
 case atStart=>exact⟨0,Av _,rfl,Ac _ _,Aa (fun j h hk=>absurd hk (Ay j))⟩
 case round=>
  obtain⟨k,hk,rfl,bb,hd⟩:=hrel;by_cases hlt:k < ks.length
  ·obtain⟨b,off,cap,kv,hv,hB,hbs,hcap,⟨c0,c1,c2,c3⟩,hkr⟩:=(HR.out wr bb).at_ hlt;cases hv
   have hki:(k:Int) < (ks.length:Int):=by omega
   have hk0:(0:Int)≤ (k:Int):=by omega
   obtain⟨kva,kvc,rfl⟩:=hkr.form;have HK:=Aa hkr;clear hkr;go_wp2_with fail;clear c0 c1 c2 c3;refine(HF.out k hlt _ wr bb HK.out).mono ?_;rintro e w2 ⟨rfl,b2⟩;replace bb:=bb.trans (b2.mono bb.size);clear b2 HK;cases hp:q ks[k]with
   |false=>
    have hp':=Aa hp;clear hp;go_wp2;go_roundw
    case rel=>exact⟨k+1,hlt,by go_num,bb,Aa (fun j h hj=>by
     by_cases e:j=k
     ·subst e;exact hp'.out
     ·exact hd.out j h (by omega))⟩
    case measure=>simp[intOf];omega
   |true=>
    have hp':=Aa (DX hlt hp hd.out);clear hp;go_wp2;go_ret;exact⟨AK hp'.out.symm,bb⟩
  ·obtain rfl:k=ks.length:=by omega
   have hp':=Aa (DY (q:=q) (l:=ks) fun j h=>hd.out j h h);go_wp2;go_ret;exact⟨AK hp'.out.symm,bb⟩
theorem PJ (p:Value) (q:Tp→Bool) (ks:List Tp) (v:Value) (B:Nat) (w:World) (hr:RdTps B w v ks) (hl:ks.length≤1048576)
  (HF:∀j (hj:j < ks.length) (kv:Value) (W:World),Below w.heap.size w W→RdTps w.heap.size W kv ks[j].kids→Calls Pq 161 #[tpV ks[j] kv,p] W fun e w'=>e= .returned (.bool (q ks[j]))∧Below W.heap.size W w'):
  Calls Pq 152 #[v,.func (.func 161) #[] #[p]] w fun e w'=>e= .returned (.bool (ks.any q))∧Below w.heap.size w w':=by
 have HI:=Aa (PI p q ks v B w hr hl HF);have HA:=Aa (Fg q ks);obtain⟨ka,kc,rfl⟩:=hr.form;clear hr HF;generalize ks.any q=an at*;generalize Bn q ks=ix at*;go_enter Tryz.func152,Tryz.ntmps152;go_wp2_with fail;refine HI.out.mono ?_;rintro e w' ⟨rfl,bb⟩;go_wp2
 all_goals go_ret
 all_goals exact⟨Ae (by rw[←HA.out]),bb⟩
theorem PK (q:Tp→Bool) (ks:List Tp) (v:Value) (B:Nat) (w:World) (hr:RdTps B w v ks) (hl:ks.length≤1048576)
  (HF:∀j (hj:j < ks.length) (kv:Value) (W:World),Below w.heap.size w W→RdTps w.heap.size W kv ks[j].kids→Calls Pq 153 #[tpV ks[j] kv] W fun e w'=>e= .returned (.bool (q ks[j]))∧Below W.heap.size W w'):
  Calls Pq 202 #[v,.func (.func 153) #[] #[]] w fun e w'=>e= .returned (.int .i64 (Bn q ks))∧Below w.heap.size w w':=by
 have HR:=Aa (fun(W:World) (hb:Below w.heap.size w W)=>hr.later' hb);obtain⟨ka,kc,rfl⟩:=hr.form;unfold tpV at HF;have HF:=Aa HF;clear hr;go_enter Tryz.func202,Tryz.ntmps202;go_wp2
 go_loopw [5,8] (fun _ i wr=>∃k:Nat,k≤ks.length∧i= .int .i64 k∧Below w.heap.size w wr∧Hid (∀j (h:j < ks.length),j < k→q ks[j]=false)) (fun _ i _=>ks.length - (intOf i).toNat)
 case atStart=>exact⟨0,Av _,rfl,Ac _ _,Aa (fun j h hk=>absurd hk (Ay j))⟩
 case round=>
  obtain⟨k,hk,rfl,bb,hd⟩:=hrel;by_cases hlt:k < ks.length
  ·obtain⟨b,off,cap,kv,hv,hB,hbs,hcap,⟨c0,c1,c2,c3⟩,hkr⟩:=(HR.out wr bb).at_ hlt;cases hv
   have hki:(k:Int) < (ks.length:Int):=by omega
   have hk0:(0:Int)≤ (k:Int):=by omega
   obtain⟨kva,kvc,rfl⟩:=hkr.form;have HK:=Aa hkr;clear hkr;go_wp2_with fail;clear c0 c1 c2 c3;refine(HF.out k hlt _ wr bb HK.out).mono ?_;rintro e w2 ⟨rfl,b2⟩;replace bb:=bb.trans (b2.mono bb.size);clear b2 HK;cases hp:q ks[k]with
   |false=>
    have hp':=Aa hp;clear hp;go_wp2;go_roundw
    case rel=>exact⟨k+1,hlt,by go_num,bb,Aa (fun j h hj=>by
     by_cases e:j=k
     ·subst e;exact hp'.out
     ·exact hd.out j h (by omega))⟩
    case measure=>simp[intOf];omega
   |true=>
    have hp':=Aa (DX hlt hp hd.out);clear hp;go_wp2;go_ret;exact⟨AK hp'.out.symm,bb⟩
  ·obtain rfl:k=ks.length:=by omega
   have hp':=Aa (DY (q:=q) (l:=ks) fun j h=>hd.out j h h);go_wp2;go_ret;exact⟨AK hp'.out.symm,bb⟩
theorem PL (q:Tp→Bool) (ks:List Tp) (v:Value) (B:Nat) (w:World) (hr:RdTps B w v ks) (hl:ks.length≤1048576)
  (HF:∀j (hj:j < ks.length) (kv:Value) (W:World),Below w.heap.size w W→RdTps w.heap.size W kv ks[j].kids→Calls Pq 153 #[tpV ks[j] kv] W fun e w'=>e= .returned (.bool (q ks[j]))∧Below W.heap.size W w'):
  Calls Pq 152 #[v,.func (.func 153) #[] #[]] w fun e w'=>e= .returned (.bool (ks.any q))∧Below w.heap.size w w':=by
 have HI:=Aa (PK q ks v B w hr hl HF);have HA:=Aa (Fg q ks);obtain⟨ka,kc,rfl⟩:=hr.form;clear hr HF;generalize ks.any q=an at*;generalize Bn q ks=ix at*;go_enter Tryz.func152,Tryz.ntmps152;go_wp2_with fail;refine HI.out.mono ?_;rintro e w' ⟨rfl,bb⟩;go_wp2
 all_goals go_ret
 all_goals exact⟨Ae (by rw[←HA.out]),bb⟩
theorem PM (p:Value) (q:Tp→Bool) (ks:List Tp) (v:Value) (B:Nat) (w:World) (hr:RdTps B w v ks) (hl:ks.length≤1048576)
  (HF:∀j (hj:j < ks.length) (kv:Value) (W:World),Below w.heap.size w W→RdTps w.heap.size W kv ks[j].kids→Calls Pq 164 #[tpV ks[j] kv,p] W fun e w'=>e= .returned (.bool (q ks[j]))∧Below W.heap.size W w'):
  Calls Pq 202 #[v,.func (.func 164) #[] #[p]] w fun e w'=>e= .returned (.int .i64 (Bn q ks))∧Below w.heap.size w w':=by
 have HR:=Aa (fun(W:World) (hb:Below w.heap.size w W)=>hr.later' hb);obtain⟨ka,kc,rfl⟩:=hr.form;unfold tpV at HF;have HF:=Aa HF;clear hr;go_enter Tryz.func202,Tryz.ntmps202;go_wp2
 go_loopw [5,8] (fun _ i wr=>∃k:Nat,k≤ks.length∧i= .int .i64 k∧Below w.heap.size w wr∧Hid (∀j (h:j < ks.length),j < k→q ks[j]=false)) (fun _ i _=>ks.length - (intOf i).toNat)
 case atStart=>exact⟨0,Av _,rfl,Ac _ _,Aa (fun j h hk=>absurd hk (Ay j))⟩
 case round=>
  obtain⟨k,hk,rfl,bb,hd⟩:=hrel;by_cases hlt:k < ks.length
  ·obtain⟨b,off,cap,kv,hv,hB,hbs,hcap,⟨c0,c1,c2,c3⟩,hkr⟩:=(HR.out wr bb).at_ hlt;cases hv
   have hki:(k:Int) < (ks.length:Int):=by omega
   have hk0:(0:Int)≤ (k:Int):=by omega
   obtain⟨kva,kvc,rfl⟩:=hkr.form;have HK:=Aa hkr;clear hkr;go_wp2_with fail;clear c0 c1 c2 c3;refine(HF.out k hlt _ wr bb HK.out).mono ?_;rintro e w2 ⟨rfl,b2⟩;replace bb:=bb.trans (b2.mono bb.size);clear b2 HK;cases hp:q ks[k]with
   |false=>
    have hp':=Aa hp;clear hp;go_wp2;go_roundw
    case rel=>exact⟨k+1,hlt,by go_num,bb,Aa (fun j h hj=>by
     by_cases e:j=k
     ·subst e;exact hp'.out
     ·exact hd.out j h (by omega))⟩
    case measure=>simp[intOf];omega
   |true=>
    have hp':=Aa (DX hlt hp hd.out);clear hp;go_wp2;go_ret;exact⟨AK hp'.out.symm,bb⟩
  ·obtain rfl:k=ks.length:=by omega
   have hp':=Aa (DY (q:=q) (l:=ks) fun j h=>hd.out j h h);go_wp2;go_ret;exact⟨AK hp'.out.symm,bb⟩
theorem Lc (p:Value) (q:Tp→Bool) (ks:List Tp) (v:Value) (B:Nat) (w:World) (hr:RdTps B w v ks) (hl:ks.length≤1048576)
  (HF:∀j (hj:j < ks.length) (kv:Value) (W:World),Below w.heap.size w W→RdTps w.heap.size W kv ks[j].kids→Calls Pq 164 #[tpV ks[j] kv,p] W fun e w'=>e= .returned (.bool (q ks[j]))∧Below W.heap.size W w'):
  Calls Pq 152 #[v,.func (.func 164) #[] #[p]] w fun e w'=>e= .returned (.bool (ks.any q))∧Below w.heap.size w w':=by
 have HI:=Aa (PM p q ks v B w hr hl HF);have HA:=Aa (Fg q ks);obtain⟨ka,kc,rfl⟩:=hr.form;clear hr HF;generalize ks.any q=an at*;generalize Bn q ks=ix at*;go_enter Tryz.func152,Tryz.ntmps152;go_wp2_with fail;refine HI.out.mono ?_;rintro e w' ⟨rfl,bb⟩;go_wp2
 all_goals go_ret
 all_goals exact⟨Ae (by rw[←HA.out]),bb⟩
theorem PN (p:Value) (q:Tp→Bool) (ks:List Tp) (v:Value) (B:Nat) (w:World) (hr:RdTps B w v ks) (hl:ks.length≤1048576)
  (HF:∀j (hj:j < ks.length) (kv:Value) (W:World),Below w.heap.size w W→RdTps w.heap.size W kv ks[j].kids→Calls Pq 212 #[tpV ks[j] kv,p] W fun e w'=>e= .returned (.bool (q ks[j]))∧Below W.heap.size W w'):
  Calls Pq 202 #[v,.func (.func 212) #[] #[p]] w fun e w'=>e= .returned (.int .i64 (Bn q ks))∧Below w.heap.size w w':=by
 have HR:=Aa (fun(W:World) (hb:Below w.heap.size w W)=>hr.later' hb);obtain⟨ka,kc,rfl⟩:=hr.form;unfold tpV at HF;have HF:=Aa HF;clear hr;go_enter Tryz.func202,Tryz.ntmps202;go_wp2
 go_loopw [5,8] (fun _ i wr=>∃k:Nat,k≤ks.length∧i= .int .i64 k∧Below w.heap.size w wr∧Hid (∀j (h:j < ks.length),j < k→q ks[j]=false)) (fun _ i _=>ks.length - (intOf i).toNat)
 case atStart=>exact⟨0,Av _,rfl,Ac _ _,Aa (fun j h hk=>absurd hk (Ay j))⟩
 case round=>
  obtain⟨k,hk,rfl,bb,hd⟩:=hrel;by_cases hlt:k < ks.length
  ·obtain⟨b,off,cap,kv,hv,hB,hbs,hcap,⟨c0,c1,c2,c3⟩,hkr⟩:=(HR.out wr bb).at_ hlt;cases hv
   have hki:(k:Int) < (ks.length:Int):=by omega
   have hk0:(0:Int)≤ (k:Int):=by omega
   obtain⟨kva,kvc,rfl⟩:=hkr.form;have HK:=Aa hkr;clear hkr;go_wp2_with fail;clear c0 c1 c2 c3;refine(HF.out k hlt _ wr bb HK.out).mono ?_;rintro e w2 ⟨rfl,b2⟩;replace bb:=bb.trans (b2.mono bb.size);clear b2 HK;cases hp:q ks[k]with
   |false=>
    have hp':=Aa hp;clear hp;go_wp2;go_roundw
    case rel=>exact⟨k+1,hlt,by go_num,bb,Aa (fun j h hj=>by
     by_cases e:j=k
     ·subst e;exact hp'.out
     ·exact hd.out j h (by omega))⟩
    case measure=>simp[intOf];omega
   |true=>
    have hp':=Aa (DX hlt hp hd.out);clear hp;go_wp2;go_ret;exact⟨AK hp'.out.symm,bb⟩
  ·obtain rfl:k=ks.length:=by omega
   have hp':=Aa (DY (q:=q) (l:=ks) fun j h=>hd.out j h h);go_wp2;go_ret;exact⟨AK hp'.out.symm,bb⟩
theorem Ld (p:Value) (q:Tp→Bool) (ks:List Tp) (v:Value) (B:Nat) (w:World) (hr:RdTps B w v ks) (hl:ks.length≤1048576)
  (HF:∀j (hj:j < ks.length) (kv:Value) (W:World),Below w.heap.size w W→RdTps w.heap.size W kv ks[j].kids→Calls Pq 212 #[tpV ks[j] kv,p] W fun e w'=>e= .returned (.bool (q ks[j]))∧Below W.heap.size W w'):
  Calls Pq 152 #[v,.func (.func 212) #[] #[p]] w fun e w'=>e= .returned (.bool (ks.any q))∧Below w.heap.size w w':=by
 have HI:=Aa (PN p q ks v B w hr hl HF);have HA:=Aa (Fg q ks);obtain⟨ka,kc,rfl⟩:=hr.form;clear hr HF;generalize ks.any q=an at*;generalize Bn q ks=ix at*;go_enter Tryz.func152,Tryz.ntmps152;go_wp2_with fail;refine HI.out.mono ?_;rintro e w' ⟨rfl,bb⟩;go_wp2
 all_goals go_ret
 all_goals exact⟨Ae (by rw[←HA.out]),bb⟩
theorem PO (p:Value) (q:Dt→Bool) (ks:List Dt) (v:Value) (B:Nat) (w:World) (hr:RdDts B w v ks) (hl:ks.length≤1048576)
  (HF:∀j (hj:j < ks.length) (kv:Value) (W:World),Below w.heap.size w W→RdCns w.heap.size W kv ks[j].cons→Calls Pq 166 #[dtV ks[j] kv,p] W fun e w'=>e= .returned (.bool (q ks[j]))∧Below W.heap.size W w'):
  Calls Pq 160 #[v,.func (.func 166) #[] #[p]] w fun e w'=>e= .returned (.int .i64 (Bn q ks))∧Below w.heap.size w w':=by
 have HR:=Aa (fun(W:World) (hb:Below w.heap.size w W)=>hr.later' hb);obtain⟨ka,kc,rfl⟩:=hr.form;unfold dtV at HF;have HF:=Aa HF;clear hr;go_enter Tryz.func160,Tryz.ntmps160;go_wp2
 go_loopw [5,8] (fun _ i wr=>∃k:Nat,k≤ks.length∧i= .int .i64 k∧Below w.heap.size w wr∧Hid (∀j (h:j < ks.length),j < k→q ks[j]=false)) (fun _ i _=>ks.length - (intOf i).toNat)
 case atStart=>exact⟨0,Av _,rfl,Ac _ _,Aa (fun j h hk=>absurd hk (Ay j))⟩
 case round=>
  obtain⟨k,hk,rfl,bb,hd⟩:=hrel;by_cases hlt:k < ks.length
  ·obtain⟨b,off,cap,kv,hv,hB,hbs,hcap,c0,c1,c2,hkr⟩:=(HR.out wr bb).at_ hlt;cases hv
   have hki:(k:Int) < (ks.length:Int):=by omega
   have hk0:(0:Int)≤ (k:Int):=by omega
   obtain⟨kva,kvc,rfl⟩:=hkr.form;have HK:=Aa hkr;clear hkr;go_wp2_with fail;clear c0 c1 c2;refine(HF.out k hlt _ wr bb HK.out).mono ?_;rintro e w2 ⟨rfl,b2⟩;replace bb:=bb.trans (b2.mono bb.size);clear b2 HK;cases hp:q ks[k]with
   |false=>
    have hp':=Aa hp;clear hp;go_wp2;go_roundw
    case rel=>exact⟨k+1,hlt,by go_num,bb,Aa (fun j h hj=>by
     by_cases e:j=k
     ·subst e;exact hp'.out
     ·exact hd.out j h (by omega))⟩
    case measure=>simp[intOf];omega
   |true=>
    have hp':=Aa (DX hlt hp hd.out);clear hp;go_wp2;go_ret;exact⟨AK hp'.out.symm,bb⟩
  ·obtain rfl:k=ks.length:=by omega
   have hp':=Aa (DY (q:=q) (l:=ks) fun j h=>hd.out j h h);go_wp2;go_ret;exact⟨AK hp'.out.symm,bb⟩
theorem PQ (p:Value) (q:Cn→Bool) (ks:List Cn) (v:Value) (B:Nat) (w:World) (hr:RdCns B w v ks) (hl:ks.length≤1048576)
  (HF:∀j (hj:j < ks.length) (kv:Value) (W:World),Below w.heap.size w W→RdTps w.heap.size W kv ks[j].args→Calls Pq 214 #[cnV ks[j] kv,p] W fun e w'=>e= .returned (.bool (q ks[j]))∧Below W.heap.size W w'):
  Calls Pq 213 #[v,.func (.func 214) #[] #[p]] w fun e w'=>e= .returned (.int .i64 (Bn q ks))∧Below w.heap.size w w':=by
 have HR:=Aa (fun(W:World) (hb:Below w.heap.size w W)=>hr.later' hb);obtain⟨ka,kc,rfl⟩:=hr.form;unfold cnV at HF;have HF:=Aa HF;clear hr;go_enter Tryz.func213,Tryz.ntmps213;go_wp2
 go_loopw [5,8] (fun _ i wr=>∃k:Nat,k≤ks.length∧i= .int .i64 k∧Below w.heap.size w wr∧Hid (∀j (h:j < ks.length),j < k→q ks[j]=false)) (fun _ i _=>ks.length - (intOf i).toNat)
 case atStart=>exact⟨0,Av _,rfl,Ac _ _,Aa (fun j h hk=>absurd hk (Ay j))⟩
 case round=>
  obtain⟨k,hk,rfl,bb,hd⟩:=hrel;by_cases hlt:k < ks.length
  ·obtain⟨b,off,cap,kv,hv,hB,hbs,hcap,c0,c1,hkr⟩:=(HR.out wr bb).at_ hlt;cases hv
   have hki:(k:Int) < (ks.length:Int):=by omega
   have hk0:(0:Int)≤ (k:Int):=by omega
   obtain⟨kva,kvc,rfl⟩:=hkr.form;have HK:=Aa hkr;clear hkr;go_wp2_with fail;clear c0 c1;refine(HF.out k hlt _ wr bb HK.out).mono ?_;rintro e w2 ⟨rfl,b2⟩;replace bb:=bb.trans (b2.mono bb.size);clear b2 HK;cases hp:q ks[k]with
   |false=>
    have hp':=Aa hp;clear hp;go_wp2;go_roundw
    case rel=>exact⟨k+1,hlt,by go_num,bb,Aa (fun j h hj=>by
     by_cases e:j=k
     ·subst e;exact hp'.out
     ·exact hd.out j h (by omega))⟩
    case measure=>simp[intOf];omega
   |true=>
    have hp':=Aa (DX hlt hp hd.out);clear hp;go_wp2;go_ret;exact⟨AK hp'.out.symm,bb⟩
  ·obtain rfl:k=ks.length:=by omega
   have hp':=Aa (DY (q:=q) (l:=ks) fun j h=>hd.out j h h);go_wp2;go_ret;exact⟨AK hp'.out.symm,bb⟩
theorem Qo (d:Dt) (cv:Value) (g:Nat) (s:Str) (w:World) (hg:w.cell? ⟨g,0,none⟩=some (.string s)) (hlt:g < w.heap.size):
  Calls Pq 166 #[dtV d cv,.pointer (some ⟨g,0,none⟩)] w fun e w'=>e= .returned (.bool (isD s d))∧Below w.heap.size w w':=by
 have hE:=Aa (Gg d.name s);unfold dtV;unfold isD;generalize d.name=dn at*;generalize d.vars=dvs at*;go_enter Tryz.func166,Tryz.ntmps166;have hg2:=(((Ac w.heap.size w).alloc (Ad _) (.cells #[.string dn,.int .i64 dvs,cv] 135)).cell (p:=⟨g,0,none⟩) hlt).trans hg;go_wp2;go_ret;exact⟨Ae hE.out,(Ac _ _).alloc (Ad _) _⟩
theorem Jh (ds:List Dt) (dv:Value) (s:Str) (B:Nat) (w:World) (hr:RdDts B w dv ds) (hl:ds.length≤1048576):
  Calls Pq 100 #[dv,.string s] w fun e w'=>e= .returned (.int .i64 (dIx ds s))∧Below w.heap.size w w':=by
 have HR:=Aa (fun(W:World) (hb:Below w.heap.size w W)=>hr.later' hb);have HD:=Aa (show Bn (isD s) ds=dIx ds s from rfl);obtain⟨ka,kc,rfl⟩:=hr.form;clear hr;go_enter Tryz.func100,Tryz.ntmps100;go_wp2_with fail;generalize hxx:Wa _ _=x0;obtain⟨bb,k1⟩:=Bx.alloc hxx;clear hxx;refine(PO (.pointer (some ⟨w.heap.size,0,none⟩)) (isD s) ds _ _ x0 (HR.out x0 bb) hl (fun j hj kv W hb hk=>Qo ds[j] kv w.heap.size s W ((k1.below hb k1.1).2.1 0) (k1.below hb k1.1).1)).mono ?_;rintro e w2 ⟨rfl,b2⟩;replace bb:=bb.trans (b2.mono bb.size);go_wp2;go_ret;exact⟨AK HD.out,bb⟩
theorem Qp (c:Cn) (av:Value) (g:Nat) (s:Str) (w:World) (hg:w.cell? ⟨g,0,none⟩=some (.string s)) (hlt:g < w.heap.size):
  Calls Pq 214 #[cnV c av,.pointer (some ⟨g,0,none⟩)] w fun e w'=>e= .returned (.bool (isC s c))∧Below w.heap.size w w':=by
 have hE:=Aa (Gg c.name s);unfold cnV;unfold isC;generalize c.name=dn at*;go_enter Tryz.func214,Tryz.ntmps214;have hg2:=(((Ac w.heap.size w).alloc (Ad _) (.cells #[.string dn,av] 160)).cell (p:=⟨g,0,none⟩) hlt).trans hg;go_wp2;go_ret;exact⟨Ae hE.out,(Ac _ _).alloc (Ad _) _⟩
theorem Qq (ds:List Dt) (dv:Value) (s:Str) (B:Nat) (w:World) (hr:RdDts B w dv ds) (hl:AR ds≤1048576):
  Calls Pq 168 #[dv,.string s] w fun e w'=>e= .returned (.tuple #[.int .i64 (Bg ds s).1,.int .i64 (Bg ds s).2])∧Below w.heap.size w w':=by
 have HR:=Aa (fun(W:World) (hb:Below w.heap.size w W)=>hr.later' hb);have hln:=De ds;have hds:ds.length≤1048576:=by omega
 have SZ:=Aa (fun(i:Nat) (hi:i < ds.length)=>(by
  have h1:=Dx (As hi);have h2:=Fa ds[i].cons;unfold wgD at h1;omega:ds[i].cons.length≤1048576))
 have HC:=Aa (fun(k:Nat) (hk:k < ds.length) (h:0≤cIx ds[k].cons s) (hj:∀j (h:j < ds.length),j < k→ ¬0≤cIx ds[j].cons s)=>LD hk h hj);have HN:=Aa (fun(hj:∀j (h:j < ds.length),¬0≤cIx ds[j].cons s)=>LE hj);have HD:=Aa (fun(cs:List Cn)=>(rfl:Bn (isC s) cs=cIx cs s));have HB:=Aa (fun(cs:List Cn) (h:cs.length≤1048576)=>(by
  rcases Ji cs s with ⟨h1, -⟩ |⟨k,hk,h1, -⟩
  ·omega
  ·omega:-1≤cIx cs s∧cIx cs s≤1048576))
 generalize Bg ds s=co at*;obtain⟨ka,kc,rfl⟩:=hr.form;clear hr hln hl;go_enter Tryz.func168,Tryz.ntmps168;go_wp2_with fail;generalize hxx:Wa _ _=x0;obtain⟨bb,k1⟩:=Bx.alloc hxx;clear hxx;go_wp2
 go_loopw [11] (fun i wr=>∃k:Nat,k≤ds.length∧i= .int .i64 k∧Below w.heap.size w wr∧Bx wr w.heap.size #[.string s]∧Hid (∀j (h:j < ds.length),j < k→ ¬0≤cIx ds[j].cons s)) (fun i _=>ds.length - (intOf i).toNat)
 case atStart=>exact⟨0,Av _,rfl,bb,k1,Aa (fun j h hk=>absurd hk (Ay j))⟩
 case round=>
  clear bb k1;obtain⟨i,hi,rfl,bb,k1,hd⟩:=hrel;by_cases hlt:i < ds.length
  ·obtain⟨b,off,cap,cv,hv,hB,hbs,hcap,c0,c1,c2,hkr⟩:=(HR.out wr bb).at_ hlt;cases hv
   have hki:(i:Int) < (ds.length:Int):=by omega
   have hk0:(0:Int)≤ (i:Int):=by omega
   have HK:=Aa hkr;have hsz:=SZ.out i hlt;obtain⟨ca,cc,rfl⟩:=hkr.form;have hb2:=HB.out ds[i].cons hsz;clear hkr;go_wp2_with fail;generalize hyy:Wa _ _=wy;obtain⟨by_,k2⟩:=Bx.alloc hyy;clear hyy c0 c1 c2;have hs0:=bb.size;replace k1:=k1.below by_ k1.1;refine(PQ (.pointer (some ⟨w.heap.size,0,none⟩)) (isC s) ds[i].cons _ _ wy (HK.out.later by_ hs0) hsz (fun j hj kv W hb hk=>Qp ds[i].cons[j] kv w.heap.size s W ((k1.below hb k1.1).2.1 0) (k1.below hb k1.1).1)).mono ?_;rintro e w2 ⟨rfl,b2⟩;rw[show Bn (isC s) ds[i].cons=cIx ds[i].cons s from rfl];replace k1:=k1.below b2 k1.1;replace b2:=by_.trans (b2.mono by_.size);replace bb:=bb.trans (b2.mono hs0);clear b2 by_ k2 HK;by_cases hn:0≤cIx ds[i].cons s
   ·have he:=Aa (HC.out i hlt hn hd.out);generalize cIx ds[i].cons s=cx at*;go_wp2;go_ret2;rw[he.out];exact⟨rfl,bb⟩
   ·have hn':=Aa hn;go_wp2;go_roundw
    case rel=>exact⟨i+1,hlt,by go_num,bb,k1,Aa (fun j h hj=>by
     by_cases e:j=i
     ·subst e;have:=hn'.out;omega
     ·have:=hd.out j h (by omega);omega)⟩
    case measure=>simp[intOf];omega
  ·obtain rfl:i=ds.length:=by omega
   have he:=Aa (HN.out fun j h=>by have:=hd.out j h h;omega);go_wp2;go_ret2;rw[he.out];exact⟨rfl,bb⟩
def BS (B:Nat) (X:Nat→Prop) (g:Nat) (lv:Value) (res:Rs Vl) (r:Option Nat) (w:World) (e:Ending) (w':World):Prop:=∃a r',e= .returned (.pointer a)∧Tw g r r' w w'∧ResI B X g lv res (.pointer a) w' r'
structure Pre (B:Nat) (X:Nat→Prop) (g:Nat) (lv:Value) (ds:List Dt) (x:Nd) (kv ev:Value) (env:Env) (s:Es) (w:World) (r:Option Nat):Prop where
 np:Ao x=true
 wg:wgN x≤1048576
 gd:Good (.sc env)
 sz:s.out.length+s.fuel≤4000
 rk:RdNs B w kv x.kids
 re:RdX B X g r w ev (.sc env)
 ev:Ev B g lv w s.fuel 0 s.out r
 dt:RdDts B w lv ds
 hx:∀b,X b→b < w.heap.size
def CI (B g:Nat) (lv:Value) (ds:List Dt) (ar:Str→Option Nat) (m:Nat):Prop:=∀ (X:Nat→Prop) (x:Nd) (kv ev:Value) (env:Env) (s:Es) (w:World) (r:Option Nat),s.fuel≤m→Pre B X g lv ds x kv ev env s w r→
 Calls Pq 50 #[.pointer (some ⟨g,0,none⟩),ndV x kv,ev] w (BS B X g lv (Ai ar m x env s) r w)
theorem Ok {ar:Str→Option Nat}{m:Nat}{x:Nd}{env:Env}{s:Es}(h:s.fuel=0):Ai ar m x env s= .bad 1 s.out:=by
 cases m with
 |zero=>rfl
 |succ m=>unfold Ai;rw[h]
theorem Bp {ar:Str→Option Nat}{m f:Nat}{x:Nd}{env:Env}{s:Es}(h:s.fuel=f+1):Ai ar (m+1) x env s=AF ar (Ai ar m) x env ⟨f,s.out⟩:=by
 conv=>lhs;unfold Ai
 rw[h]
section
variable {ar:Str→Option Nat}{E:Nd→Env→Es→Rs Vl}{x:Nd}{env:Env}{s:Es}
theorem Ol (h:x.op=1):AF ar E x env s= .ok (.int x.n) s:=by unfold AF;rw[Ag h]
def Ki (o:Option Vl) (s:Es):Rs Vl:=match o with |some v=> .ok v s |none=> .bad 2 s.out
theorem Om (h:x.op=2):AF ar E x env s=Ki (look env x.s) s:=by unfold AF;rw[Ab (by omega),Ag h];rfl
theorem On (h:x.op=3):AF ar E x env s= .ok (.fn x.s eS (x.kid 0) env) s:=by unfold AF;rw[Ab (by omega),Ab (by omega),Ag h];rfl
theorem Oo (h:x.op=4):AF ar E x env s= (E (x.kid 0) env s).bind fun f s1=>(E (x.kid 1) env s1).bind fun a s2=>Cd E f a s2:=by unfold AF;rw[Ab (by omega),Ab (by omega),Ab (by omega),Ag h]
theorem Oq (h:x.op=6):AF ar E x env s=E (x.kid 1) ((x.s,.fn x.t x.s (x.kid 0) env)::env) s:=by unfold AF;rw[Ab (by omega),Ab (by omega),Ab (by omega),Ab (by omega),Ag h]
theorem Ot (h:x.op=7):AF ar E x env s= (E (x.kid 0) env s).bind fun v s1=>A5 E env v (x.kids.drop 1) s1:=by unfold AF;rw[Ab (by omega),Ab (by omega),Ab (by omega),Ab (by omega),Ab (by omega),Ag h]
theorem Ou (h:x.op=15):AF ar E x env s= (Bd E env x.kids s).bind fun vs s1=>if ar x.s=some x.kids.length then .ok (.con x.s vs) s1 else .bad 2 s1.out:=by unfold AF;rw[Ab (by omega),Ab (by omega),Ab (by omega),Ab (by omega),Ab (by omega),Ab (by omega),Ag h]
theorem Ov (h:x.op=5):AF ar E x env s= (E (x.kid 0) env s).bind fun v s1=>E (x.kid 1) ((x.s,v)::env) s1:=by
 unfold AF;rw[Ab (by omega),Ab (by omega),Ab (by omega),Ab (by omega),Ab (by omega),Ab (by omega),Ab (by omega)];simp only[Ag h]
theorem Ow (h:x.op=16):AF ar E x env s= (E (x.kid 0) env s).bind fun v s1=>(asInt v s1).bind fun a s2=> .ok v ⟨s2.fuel,s2.out++ [a]⟩:=by
 unfold AF;rw[Ab (by omega),Ab (by omega),Ab (by omega),Ab (by omega),Ab (by omega),Ab (by omega),Ab (by omega)];simp only[Ab (show ¬x.op=5 by omega),Ag h]
theorem Ox (h:x.op=9):AF ar E x env s= (E (x.kid 0) env s).bind fun v s1=>(asInt v s1).bind fun a s2=>if a≠0 then E (x.kid 1) env s2 else E (x.kid 2) env s2:=by
 unfold AF;rw[Ab (by omega),Ab (by omega),Ab (by omega),Ab (by omega),Ab (by omega),Ab (by omega),Ab (by omega)];simp only[Ab (show ¬x.op=5 by omega),Ab (show ¬x.op=16 by omega),Ag h]
theorem Gj (h:10≤x.op∧x.op≤14):AF ar E x env s= (E (x.kid 0) env s).bind fun v s1=>(asInt v s1).bind fun a s2=>(E (x.kid 1) env s2).bind fun v2 s3=>(asInt v2 s3).bind fun b s4=> .ok (.int (Df x.op a b)) s4:=by
 unfold AF;rw[Ab (by omega),Ab (by omega),Ab (by omega),Ab (by omega),Ab (by omega),Ab (by omega),Ab (by omega)];simp only[Ab (show ¬x.op=5 by omega),Ab (show ¬x.op=16 by omega),Ab (show ¬x.op=9 by omega)]
end
theorem RdNs.one {B:Nat}{w:World}{v:Value}{p:Nd}(h:RdNs B w v [p]):∃b off cap kv0,v= .slice (some ⟨b,off,none⟩) 1 cap∧b < B∧1≤cap∧NdAt w b off p kv0∧RdNs B w kv0 p.kids:=by
 cases h with
 |row b off cap _ kv h1 h2 h3 h4 h5=>
  have c0:=h4 0 (by simp);have k0:=h5 0 (by simp);simp only[Nat.zero_mul,Nat.add_zero,List.getElem_cons_zero]at c0 k0;exact⟨b,off,cap,kv 0,rfl,h1,h3.2,c0,k0⟩
theorem RdNs.two' {B:Nat}{w:World}{v:Value}{p e:Nd}(h:RdNs B w v [p,e]):∃b off cap kv0 kv1,v= .slice (some ⟨b,off,none⟩) 2 cap∧b < B∧2≤cap∧NdAt w b off p kv0∧RdNs B w kv0 p.kids∧NdAt w b (off+5) e kv1∧RdNs B w kv1 e.kids:=by
 cases h with
 |row b off cap _ kv h1 h2 h3 h4 h5=>
  have c0:=h4 0 (by simp);have c1:=h4 1 (by simp);have k0:=h5 0 (by simp);have k1:=h5 1 (by simp);simp only[Nat.zero_mul,Nat.one_mul,Nat.add_zero,List.getElem_cons_zero,List.getElem_cons_succ]at c0 c1 k0 k1;exact⟨b,off,cap,kv 0,kv 1,rfl,h1,h3.2,c0,k0,c1,k1⟩
theorem RdNs.three {B:Nat}{w:World}{v:Value}{p e q:Nd}(h:RdNs B w v [p,e,q]):∃b off cap kv0 kv1 kv2,v= .slice (some ⟨b,off,none⟩) 3 cap∧b < B∧3≤cap∧NdAt w b off p kv0∧RdNs B w kv0 p.kids∧NdAt w b (off+5) e kv1∧RdNs B w kv1 e.kids∧NdAt w b (off+10) q kv2∧RdNs B w kv2 q.kids:=by
 cases h with
 |row b off cap _ kv h1 h2 h3 h4 h5=>
  have c0:=h4 0 (by simp);have c1:=h4 1 (by simp);have c2:=h4 2 (by simp);have k0:=h5 0 (by simp);have k1:=h5 1 (by simp);have k2:=h5 2 (by simp);simp only[Nat.zero_mul,Nat.one_mul,Nat.add_zero,List.getElem_cons_zero,List.getElem_cons_succ]at c0 c1 c2 k0 k1 k2;exact⟨b,off,cap,kv 0,kv 1,kv 2,rfl,h1,h3.2,c0,k0,c1,k1,c2,k2⟩
theorem Bx.tw {g b:Nat}{r r':Option Nat}{w w':World}{cur:Array Value}(h:Bx w b cur) (t:Tw g r r' w w') (hg:b≠g) (hr:r≠some b):Bx w' b cur:=
 ⟨Aj h.1 t.size,fun j=>(An (t.block b h.1 hg hr)).trans (h.2.1 j),fun j=>(DG (t.block b h.1 hg hr)).trans (h.2.2 j)⟩
theorem Tw.nb {g b:Nat}{r r':Option Nat}{w w':World}(t:Tw g r r' w w') (h:r≠some b) (hb:b < w.heap.size):r'≠some b:=fun e=>by
 rcases(t.row b e).1 with e |e
 ·exact h e
 ·omega
structure Now (B g:Nat) (lv:Value) (w:World) (r:Option Nat) (W:World) (rW:Option Nat) (f c:Int) (o:List Int) (cur:Array Value):Prop where
 ev:Ev B g lv W f c o rW
 tw:Tw g r rW w W
 bx:Bx W w.heap.size cur
 nb:rW≠some w.heap.size
 ng:w.heap.size≠g
theorem Now.step {B g:Nat}{lv:Value}{w W W':World}{r rW r':Option Nat}{f c f' c':Int}{o o':List Int}{cur:Array Value}(h:Now B g lv w r W rW f c o cur) (t:Tw g rW r' W W') (e:Ev B g lv W' f' c' o' r'):Now B g lv w r W' r' f' c' o' cur:=
 ⟨e,h.tw.trans t,h.bx.tw t h.ng h.nb,t.nb h.nb h.bx.1,h.ng⟩
theorem Now.same {B g:Nat}{lv:Value}{w W W':World}{r rW:Option Nat}{f c:Int}{o:List Int}{cur:Array Value}(h:Now B g lv w r W rW f c o cur) (b:Below W.heap.size W W'):Now B g lv w r W' rW f c o cur:=
 h.step (h.ev.same b).2 (h.ev.same b).1
theorem Pre.start {B g:Nat}{X:Nat→Prop}{lv:Value}{ds:List Dt}{x:Nd}{kv ev:Value}{env:Env}{s:Es}{w:World}{r:Option Nat}(h:Pre B X g lv ds x kv ev env s w r) {f:Nat}{W:World}{cur:Array Value}{e:TypeId}
  (h1:(w.setCell ⟨g,1,none⟩ (.int .i64 f)).alloc (.cells cur e)=W):Now B g lv w r W r f 0 s.out cur:=by
 obtain⟨e1,t1⟩:=h.ev.setF (f:Int);obtain⟨b2,k2⟩:=Bx.alloc h1;obtain⟨e2,t2⟩:=e1.same b2;have hlt:=h.ev.lt;rw[AS]at k2;exact⟨e2,t1.trans t2,k2,fun e=>by have:=(h.ev.row _ e).2;omega,by omega⟩
theorem Pre.box {B g:Nat}{X:Nat→Prop}{lv:Value}{ds:List Dt}{x:Nd}{kv ev:Value}{env:Env}{s:Es}{w:World}{r:Option Nat}(h:Pre B X g lv ds x kv ev env s w r) {W:World}{cur:Array Value}{e:TypeId}
  (h1:w.alloc (.cells cur e)=W):Now B g lv w r W r s.fuel 0 s.out cur:=by
 obtain⟨b2,k2⟩:=Bx.alloc h1;obtain⟨e2,t2⟩:=h.ev.same b2;have hlt:=h.ev.lt;exact⟨e2,t2,k2,fun e=>by have:=(h.ev.row _ e).2;omega,by omega⟩
theorem Pre.rkW {B g:Nat}{X:Nat→Prop}{lv:Value}{ds:List Dt}{x:Nd}{kv ev:Value}{env:Env}{s:Es}{w W:World}{r rW:Option Nat}(h:Pre B X g lv ds x kv ev env s w r) (t:Tw g r rW w W):RdNs B W kv x.kids:=h.rk.later (h.ev.tw t) (Ad _)
theorem Pre.reW {B g:Nat}{X:Nat→Prop}{lv:Value}{ds:List Dt}{x:Nd}{kv ev:Value}{env:Env}{s:Es}{w W:World}{r rW:Option Nat}(h:Pre B X g lv ds x kv ev env s w r) (t:Tw g r rW w W):RdX B X g rW W ev (.sc env):=h.re.later t (h.ev.tw t)
theorem Pre.dtW {B g:Nat}{X:Nat→Prop}{lv:Value}{ds:List Dt}{x:Nd}{kv ev:Value}{env:Env}{s:Es}{w W:World}{r rW:Option Nat}(h:Pre B X g lv ds x kv ev env s w r) (t:Tw g r rW w W):RdDts B W lv ds:=h.dt.later (h.ev.tw t) (Ad _)
theorem Ev.cells {B g:Nat}{lv:Value}{w:World}{f c:Int}{o:List Int}{r:Option Nat}(h:Ev B g lv w f c o r):w.cell? ⟨g,0,none⟩=some lv∧w.cell? ⟨g,1,none⟩=some (.int .i64 f)∧w.cell? ⟨g,2,none⟩=some (.int .i64 c):=by
 obtain⟨ov,h1, -, -⟩:=h.bx;exact⟨h1.2.1 0,h1.2.1 1,h1.2.1 2⟩
theorem Pre.sub {B g:Nat}{X:Nat→Prop}{lv:Value}{ds:List Dt}{x y:Nd}{kv ev kvy:Value}{env:Env}{s s1:Es}{w W:World}{r rW:Option Nat}(h:Pre B X g lv ds x kv ev env s w r) (t:Tw g r rW w W) (hn:Ao y=true) (hm:y∈x.kids) (hs:s1.out.length+s1.fuel≤4000) (e1:Ev B g lv W s1.fuel 0 s1.out rW) (hk:RdNs B W kvy y.kids):Pre B X g lv ds y kvy ev env s1 W rW:=
 ⟨hn,by have:=AT hm;have:=Aw x;have:=h.wg;omega,h.gd,hs,hk,h.reW t,e1,h.dtW t,fun b e=>Aj (h.hx b e) t.size⟩
theorem Pre.nb {B g:Nat}{X:Nat→Prop}{lv:Value}{ds:List Dt}{x:Nd}{kv ev:Value}{env:Env}{s:Es}{w:World}{r:Option Nat}(h:Pre B X g lv ds x kv ev env s w r) {b:Nat}(hb:b < B):b < w.heap.size∧b≠g:=⟨Aj hb h.ev.gB.2,fun e=>by have:=h.ev.gB.1;omega⟩
theorem Dd {v:Vl}(h:Good (.th v)):-1073741824≤nmV v∧nmV v≤1073741823:=by
 cases v with
 |int n=>exact(J2 n).1 h.inv_int
 |con s vs=>exact(show(-1073741824:Int)≤0∧(0:Int)≤1073741823 from by omega)
 |fn a b c d=>exact(show(-1073741824:Int)≤0∧(0:Int)≤1073741823 from by omega)
theorem CX {v:Vl}(s:Es) (h:kdV v=1):asInt v s= .ok (nmV v) s:=by cases v <;> first |rfl | (simp[kdV]at h)
theorem CY {v:Vl}(s:Es) (h:kdV v≠1):asInt v s= .bad 2 s.out:=by cases v <;> first |rfl | (simp[kdV]at h)
theorem ResI.bad {B g:Nat}{X:Nat→Prop}{lv:Value}{c:Int}{o:List Int}{tv:Value}{w:World}{r:Option Nat}{f:Int}(hc:c=1∨c=2) (ho:o.length≤4000) (h:Ev B g lv w f c o r):ResI B X g lv (.bad c o) tv w r:=⟨hc,ho,f,h⟩
theorem Now.done {B g:Nat}{X:Nat→Prop}{lv:Value}{w W W':World}{r rW r':Option Nat}{f c:Int}{o:List Int}{cur:Array Value}{res:Rs Vl}{a:Option Addr}(h:Now B g lv w r W rW f c o cur) (t:Tw g rW r' W W') (hr:ResI B X g lv res (.pointer a) W' r'):BS B X g lv res r w (.returned (.pointer a)) W':=
 ⟨a,r',rfl,h.tw.trans t,hr⟩
theorem Ev.grown {B g b:Nat}{lv:Value}{W W':World}{f c:Int}{o:List Int}{r:Option Nat}(h:Ev B g lv W f c o r) (hg:W.grownBy W' (some b)) (h1:b≠g) (h2:r≠some b):Ev B g lv W' f c o r:=by
 obtain⟨ov,hb,how,hr⟩:=h.bx;exact⟨⟨ov,hb.grown hg (fun e=>h1 (Ah e).symm),how.kept hg (.inr (by rw[hr];exact h2)),hr⟩,⟨h.gB.1,Ar h.gB.2 hg.size⟩,h.ne⟩
theorem Tw.grown {g b:Nat}{r r':Option Nat}{w W W':World}(t:Tw g r r' w W) (hg:W.grownBy W' (some b)) (hb:w.heap.size≤b):Tw g r r' w W':=
 ⟨hg.os.trans t.os,hg.tape.trans t.tape,hg.output.trans t.output,Ar t.size hg.size,fun k hk h1 h2=>(hg.block k (Aj hk t.size) (fun e=>by have:=Ah e;omega)).trans (t.block k hk h1 h2),fun k e=>⟨(t.row k e).1,Aj (t.row k e).2 hg.size⟩,t.own⟩
theorem Tu {B g:Nat}{X:Nat→Prop}{lv:Value}{f:Int}{o:List Int}{r:Option Nat}{w:World}{ev:Value}{env:Env}(s:Str) (h:Ev B g lv w f 0 o r) (he:RdS B X g r w #[ev] (.sc env)) (hn:env.length≤4294967296):
  Calls Pq 119 #[.pointer (some ⟨g,0,none⟩),ev,.string s] w (LkS B X g lv f o r w (look env s)):=by
 have HE:=Aa (fun(W:World) (b:Below w.heap.size w W)=>(⟨(h.same b).1,(h.same b).2,he.later (h.same b).2 (b.mono h.gB.2)⟩:Ev B g lv W f 0 o r∧Tw g r r w W∧RdS B X g r W #[ev] (.sc env)));obtain⟨ea,ec,rfl,hat0⟩:=he.env_at;have HAT:=Aa hat0;clear hat0;clear h he;go_enter Tryz.func119,Tryz.ntmps119;go_wp2
 go_loopw [7] (fun i wr=>∃k:Nat,k≤env.length∧i= .int .i64 ((k:Int) - 1)∧Hid (look (env.drop (env.length - k)) s=look env s)∧Below w.heap.size w wr∧Bx wr w.heap.size sv0) (fun i _=>((intOf i)+1).toNat)
 case atStart=>
  generalize hx:w.alloc _=x;obtain⟨bx,k1⟩:=Bx.alloc hx;exact⟨env.length,Ad _,by go_num,Aa (by rw[EI];rfl),bx,k1⟩
 case round=>
  obtain⟨k,hk,rfl,hl,bb,k1⟩:=hrel;unfold sv0 at k1;cases k with
  |zero=>
   have hl2:Hid (look env s=none):=Aa (by have:=hl.out;rw[Nat.sub_zero,Ff]at this;exact this.symm);obtain⟨h1,t1, -⟩:=HE.out wr bb;have HK1:=Aa k1;have hgw:=h1.lt;have T1:=Aa t1;have HST:=Aa (Gp h1);have HR1:=Aa h1;have hwg:g≠w.heap.size:=fun e=>by have:=HE.out w (Ac _ _);have:=this.1.lt;omega
   clear h1 t1 k1;go_wp2_with fail;refine HST.out.mono ?_;rintro e w5 ⟨rfl,h5,t5⟩;rw[Ag rfl]at h5;have K5:=Aa (Bx.tw HK1.out t5 (Ne.symm hwg) (fun e=>by have:=(HE.out w (Ac _ _)).1.row _ e;omega));have c5:=K5.out.2.1;have f5:=K5.out.2.2;have y5:=K5.out.1;have H5:=Aa h5;have T5:=Aa (T1.out.trans t5);clear h5 t5;unfold sv0;go_wp2;generalize hz:Ws (Ws _ _ _) _ _=z;obtain⟨k9,g9⟩:=Bx.set12 K5.out (.int .i64 0) (.int .i64 0) (.string ⟨#[]⟩) (.slice none 0 0) (.int .i64 0) (.int .i64 0) (.string ⟨#[]⟩) (.string ⟨#[]⟩) (.slice none 0 0) (.string ⟨#[]⟩) (.string ⟨#[]⟩) (.slice none 0 0);rw[hz]at k9 g9;have c9:=k9.2.1;refine AA (v:= .agg sv0) ?_ rfl ⟨T5.out.grown g9 (Ad _),?_⟩
   ·simp[results,Tryz.results119,go_sem,c9,sv0]
   ·rw[hl2.out];exact⟨rfl,H5.out.grown g9 (Ne.symm hwg) (fun e=>by have:=(HE.out w (Ac _ _)).1.row _ e;omega)⟩
  |succ k=>
   rw[show((k+1:Nat):Int) - 1= (k:Int)by omega];have hkr:k < env.reverse.length:=by rw[KJ];omega
   obtain⟨h1,t1,he1⟩:=HE.out wr bb;obtain⟨b,off,rfl,hkp,hm,hcp,q0,c,hc,hcc⟩:=HAT.out k hkr;replace q0:=(bb.cell (p:=⟨b,off+k*13,none⟩) hkp.2.2.1).trans q0;replace hcc:=fun i hi=>(bb.cell (p:=⟨b,off+k*13+ (i+1),none⟩) hkp.2.2.1).trans (hcc i hi);have hstep:=Tt (s:=s) hkr;have hki:(k:Int) < (env.length:Int):=by omega
   have hk0:(0:Int)≤ (k:Int):=by omega
   have HC:=Aa hc;obtain⟨a1,c1,x,a2,l2,c2,arg,self,a3,l3,c3,rfl⟩:=hc.th_form;generalize env.reverse[k]=en at*;obtain⟨nm,v⟩:=en;dsimp only at q0 hstep HC hcc;clear hc he1;by_cases hnm:nm=s
   ·have hq:=Gh hnm;have hl2:Hid (look env s=some v):=Aa (hl.out.symm.trans (hstep.trans (Ag hnm)));clear hnm hstep hl;have hcells:∀i,i < 12→wr.cell? ⟨b,off+k*13+ (i+1),none⟩= (svC (kdV v) (nmV v) (tgV v) (.slice a1 (ksV v).length c1) x (.slice a2 l2 c2) arg self (.slice a3 l3 c3))[i]?:=hcc;have d0:=hcells 0 (by omega);have d1:=hcells 1 (by omega);have d2:=hcells 2 (by omega);have d3:=hcells 3 (by omega);have d4:=hcells 4 (by omega);have d5:=hcells 5 (by omega);have d6:=hcells 6 (by omega);have d7:=hcells 7 (by omega);have d8:=hcells 8 (by omega);have d9:=hcells 9 (by omega);have d10:=hcells 10 (by omega);have d11:=hcells 11 (by omega);have HK1:=Aa k1;have H1:=Aa h1;have T1:=Aa t1;have ck1:=k1.2.1;have fk1:=k1.2.2;have yk1:=k1.1;have hgw:g≠w.heap.size:=fun e=>by have:=(HE.out w (Ac _ _)).1.lt;omega
    have hrw:r≠some w.heap.size:=fun e=>by have:=(HE.out w (Ac _ _)).1.row _ e;omega
    unfold svC at d0 d1 d2 d3 d4 d5 d6 d7 d8 d9 d10 d11;have HB:=Aa bb;clear hcc hcells k1 h1 t1 bb;go_wp2;generalize hz:Ws (Ws _ _ _) _ _=z;obtain⟨k9,g9⟩:=Bx.set12 HK1.out (.int .i64 (kdV v)) (.int .i64 (nmV v)) (.string (tgV v)) (.slice a1 (ksV v).length c1) (.int .i64 x.op) (.int .i64 x.n) (.string x.s) (.string x.t) (.slice a2 l2 c2) (.string arg) (.string self) (.slice a3 l3 c3);rw[hz]at k9 g9;have c9:=k9.2.1;have T9:=T1.out.grown g9 (Ad _);have H9:=H1.out.grown g9 (Ne.symm hgw) hrw;refine AA (v:= .agg (svC (kdV v) (nmV v) (tgV v) (.slice a1 (ksV v).length c1) x (.slice a2 l2 c2) arg self (.slice a3 l3 c3))) ?_ rfl ⟨T9,?_⟩
    ·simp[results,Tryz.results119,go_sem,c9,svC]
    ·rw[hl2.out];exact⟨_,rfl,HC.out.later T9 ((HE.out w (Ac _ _)).1.tw T9),H9⟩
   ·have hq:=E7 hnm;have hl2:Hid (look (env.drop (env.length - k)) s=look env s):=Aa ((hstep.trans (Ab hnm)).symm.trans hl.out);have HB:=Aa bb;have HK1:=Aa k1;clear hnm hstep hl hcc bb k1 h1 t1;go_wp2;go_roundw
    case rel=>exact⟨k,by omega,by go_num,hl2,HB.out,HK1.out⟩
    case measure=>simp[intOf]
theorem Tryz.infoNm:(Tryz.prog.info? 229).map (fun i=>(i.zero,i.size,i.bytes))=some (some (.agg #[.string ⟨#[]⟩,.int .i64 0,.int .i64 0,.string ⟨#[]⟩,.slice none 0 0,.int .i64 0,.int .i64 0,.string ⟨#[]⟩,.string ⟨#[]⟩,.slice none 0 0,.string ⟨#[]⟩,.string ⟨#[]⟩,.slice none 0 0]),13,200):=by kernel_rfl
theorem Pv {P:Program}{w:World}{ops:Array Oper}{rest:List Oper}{o:Oper}{a:Act}{Q:Exit→Act→World→Prop}(hgd:o.guard=none) (s x:Operand) (t:TypeId)
  (ho:o.op= .call {callee:= .builtin .append,args:= #[s,x],argTypes:= #[t,t]})
  (e:TypeId) (i:TypeInfo) (ht:P.underlying t=some (.slice e)) (hi:P.info? e=some i)
  (g c:Nat) (ad:Option Addr) (hs:a.eval s= .slice (some ⟨g,0,none⟩) 0 0) (hx:a.eval x= .slice ad 0 c)
  (h:wpList P ops Q rest (a.put o.dst (.slice (some ⟨g,0,none⟩) 0 0)) w):wpList P ops Q (o::rest) a w:=by
 refine wpList_plain hgd fun _ hK=> ?_;have hrun:(Builtin.append_ #[t,t] o.type #[.slice (some ⟨g,0,none⟩) 0 0,.slice ad 0 c]).run P w= .ok (.slice (some ⟨g,0,none⟩) 0 0) w:=by
  cases ad with
  |none=>simp[Builtin.append_,run_underlying ht,sizeOf,typeInfo,hi,Builtin.lenOf,Builtin.firstCells,storeCells]
  |some p=>simp[Builtin.append_,run_underlying ht,sizeOf,typeInfo,hi,Builtin.lenOf,Builtin.firstCells,storeCells,loadCells,loadCellsFrom]
 unfold Oper.wp execOp;simp only[ho,resolve,invoke,builtin,Sem.run_bind,Sem.run_pure,Result.andThen_ok,List.map_toArray,List.map_cons,List.map_nil,hs,hx,hrun];exact hK _ _ h
def BF (n sz:Nat) (at_:Nat→Array Value):List Value:=(List.range (n*sz)).map fun j=>((at_ (j/sz))[j%sz]?).getD (.int .i64 0)
theorem Cf (n sz:Nat) (at_:Nat→Array Value):(BF n sz at_).length=n*sz:=by simp[BF]
theorem CQ {n sz:Nat}{at_:Nat→Array Value}(hsz:∀j,j < n→(at_ j).size=sz) {j i:Nat}(hj:j < n) (hi:i < sz):(BF n sz at_)[j*sz+i]?= (at_ j)[i]?:=by
 have hlt:j*sz+i < n*sz:=by
  have:(j+1)*sz≤n*sz:=Dq _ hj;rw[Dg]at this;omega
 have h1:(j*sz+i)/sz=j:=by rw[IX,Nat.mul_add_div (by omega),Nat.div_eq_of_lt hi,Nat.add_zero]
 have h2:(j*sz+i)%sz=i:=by rw[IX,Nat.mul_add_mod,Nat.mod_eq_of_lt hi]
 unfold BF;rw[FJ,List.getElem?_range hlt];simp only[Option.map_some,h1,h2];rw[IY (by rw[hsz j hj];exact hi)];rfl
theorem Hn {n sz:Nat}{at_:Nat→Array Value}(hsz:∀j,j < n→(at_ j).size=sz) {k:Nat}(hk:k < n*sz):∃j i,j < n∧i < sz∧k=j*sz+i:=by
 have h0:0 < sz:=by
  rcases Nat.eq_zero_or_pos sz with h |h
  ·rw[h]at hk;omega
  ·exact h
 exact⟨k/sz,k%sz,Nat.div_lt_of_lt_mul (by rw[IX];exact hk),Nat.mod_lt _ h0,by rw[IX];exact(Nat.div_add_mod k sz).symm⟩
theorem Pw {n sz:Nat}{at_:Nat→Array Value}(hsz:∀j,j < n→(at_ j).size=sz) (h:∀j,j < n→ ∀u∈ (at_ j).toList,u.oneCell'=true):∀u∈BF n sz at_,u.oneCell'=true:=by
 intro u hu;obtain⟨k,hk,rfl⟩:=EH hu;rw[Cf]at hk;obtain⟨j,i,hj,hi,rfl⟩:=Hn hsz hk;have:=CQ hsz hj hi;rw[Bl (by rw[Cf];exact hk)]at this;refine h j hj _ ?_;rw[IY (by rw[hsz j hj];exact hi)]at this;rw[Ah this];exact Array.getElem_mem_toList _
theorem RdS.one {B g:Nat}{X:Nat→Prop}{r:Option Nat}{w:World}{c:Array Value}{v:Vl}(h:RdS B X g r w c (.th v)):∀u∈c.toList,u.oneCell'=true:=by
 obtain⟨a1,c1,x,a2,l2,c2,arg,self,a3,l3,c3,rfl⟩:=h.th_form;simp[svC,Value.oneCell']
theorem LA {w W:World}{a b c:Array Value}{e e2 e3:TypeId}(hW:((w.alloc (.cells a e)).alloc (.cells b e2)).alloc (.cells c e3)=W):Below w.heap.size w W∧Bx W w.heap.size a∧Bx W (w.heap.size+1) b∧Bx W (w.heap.size+2) c:=by
 obtain⟨b1,k1⟩:=Bx.alloc (w:=w) (cur:=a) (e:=e) rfl;obtain⟨b2,k2⟩:=Bx.alloc (w:=w.alloc (.cells a e)) (cur:=b) (e:=e2) rfl;obtain⟨b3,k3⟩:=Bx.alloc hW;simp only[BM]at b2 b3 k2 k3;have b12:Below w.heap.size w ((w.alloc (.cells a e)).alloc (.cells b e2)):=b1.trans (b2.mono (by omega));exact⟨b12.trans (b3.mono (by omega)),(k1.below b2 (by first |omega |simp)).below b3 (by first |omega |simp),k2.below b3 (by first |omega |simp),k3⟩
theorem Jf {n sz:Nat}{f g:Nat→Array Value}(h:∀j,j < n→f j=g j):BF n sz f=BF n sz g:=by
 unfold BF;refine List.map_congr_left fun k hk=> ?_;rw[Hg]at hk;have h0:0 < sz:=by
  rcases Nat.eq_zero_or_pos sz with h |h
  ·rw[h]at hk;omega
  ·exact h
 rw[h (k/sz) (Nat.div_lt_of_lt_mul (by rw[IX];exact hk))]
theorem Jg {n sz:Nat}{at_:Nat→Array Value}{c:Array Value}(hsz:∀j,j < n→(at_ j).size=sz) (hc:c.size=sz) (h0:0 < sz):BF n sz at_++c.toList=BF (n+1) sz (fun j=>if j < n then at_ j else c):=by
 have hsz2:∀j,j < n+1→((fun j=>if j < n then at_ j else c) j).size=sz:=fun j hj=>by
  dsimp only;by_cases h:j < n
  ·rw[Ag h];exact hsz j h
  ·rw[Ab h];exact hc
 refine List.ext_getElem? fun k=> ?_;by_cases hk:k < (n+1)*sz
 ·obtain⟨j,i,hj,hi,rfl⟩:=Hn hsz2 hk;rw[CQ hsz2 hj hi];by_cases h:j < n
  ·have hlt:j*sz+i < n*sz:=by
    have:(j+1)*sz≤n*sz:=Dq _ h;rw[Dg]at this;omega
   rw[BV (by rw[Cf];exact hlt),CQ hsz h hi];simp only[Ag h]
  ·obtain rfl:j=n:=by omega
   rw[Cp (by rw[Cf];omega),Cf,show j*sz+i - j*sz=i by omega,Array.getElem?_toList];simp only[Ab h]
 ·have hn:(n+1)*sz=n*sz+sz:=by rw[Dg,Nat.one_mul]
  rw[Hc (by rw[AV,Cf,Array.length_toList,hc];omega),Hc (by rw[Cf];omega)]
theorem Fi {lo sz n:Nat}{e:TypeId}{w w':World}{v:Value}{xs:List Value}(h:w.ownsRow lo e sz v n xs) (hs:∀q,v.ownBlock=some q→w'.heap[q]?=w.heap[q]?):w'.ownsRow lo e sz v n xs:=by
 refine⟨h.1,?_⟩;rcases h.2 with hn |⟨b,cap,cur,rfl,hbs,hg,rest⟩
 ·exact .inl hn
 ·exact .inr ⟨b,cap,cur,rfl,hbs,by rw[hs b rfl];exact hg,rest⟩
theorem Er {lo sz n b cap:Nat}{e:TypeId}{w:World}{xs:List Value}(h:w.ownsRow lo e sz (.slice (some ⟨b,0,none⟩) n cap) n xs) (k:Nat) (hk:k < xs.length):w.cell? ⟨b,k,none⟩=xs[k]?:=by
 have hl:=h.1;rcases h.2 with ⟨hv,_⟩ |⟨q,cap',cu,hv,hb,hgg,hn,hm,hc,ht⟩
 ·cases hv
 ·cases hv
  rw[FM w b _ cu _ (0,0) hgg,←ht,Ej,Ag (by omega),Array.getElem?_toList]
theorem Et {lo sz n b cap:Nat}{e:TypeId}{w:World}{xs:List Value}(h:w.ownsRow lo e sz (.slice (some ⟨b,0,none⟩) n cap) n xs):n≤maxLen∧n≤cap:=by
 rcases h.2 with ⟨hv,_⟩ |⟨q,cap',cu,hv,hb,hgg,hn,hm,hc,ht⟩
 ·cases hv
 ·cases hv
  exact⟨by omega,hn⟩
def ndC (x:Nd) (kv:Value):Array Value:= #[.int .i64 x.op,.int .i64 x.n,.string x.s,.string x.t,kv]
theorem Tryz.infoCpN:(Tryz.prog.info? 41).map (fun i=>(i.zero,i.size,i.bytes))=some (some (.agg #[.int .i64 0,.int .i64 0,.string ⟨#[]⟩,.string ⟨#[]⟩,.slice none 0 0]),5,72):=by kernel_rfl
def CR (ks:List Nd) (kv:Nat→Value):List Value:=BF ks.length 5 (fun j=>ndC (ks[j]?.getD Nd.zero) (kv j))
theorem Fj (ks:List Nd) (kv:Nat→Value):(CR ks kv).length=ks.length*5:=Cf _ _ _
theorem LB (ks:List Nd) (kv:Nat→Value) (y:Nd) (v:Value):CR ks kv++ (ndC y v).toList=CR (ks++ [y]) (fun j=>if j < ks.length then kv j else v):=by
 unfold CR;have hsz:∀j,j < ks.length→((fun j=>ndC (ks[j]?.getD Nd.zero) (kv j)) j).size=5:=fun j _=>rfl;rw[Jg hsz (show(ndC y v).size=5 from rfl) (by omega),AV,List.length_singleton];refine Jf fun j hj=> ?_;by_cases h:j < ks.length
 ·simp only[Ag h,BV h]
 ·obtain rfl:j=ks.length:=by omega
  simp only[Ab h,Cp (Ad _),EI,List.getElem?_cons_zero,Option.getD_some]
inductive OwN (A:Nat→Prop) (w:World):Value→List Nd→Prop
 |nil:OwN A w (.slice none 0 0) []
 |row (b cap lo:Nat) (ks:List Nd) (kv:Nat→Value) (hb:A b) (ho:w.ownsRow lo 41 5 (.slice (some ⟨b,0,none⟩) ks.length cap) ks.length (CR ks kv)) (hk:∀j (h:j < ks.length),OwN A w (kv j) ks[j].kids):OwN A w (.slice (some ⟨b,0,none⟩) ks.length cap) ks
theorem OwN.later {A A':Nat→Prop}{w w':World}{v:Value}{ks:List Nd}(h:OwN A w v ks) (t:∀b,A b→b < w.heap.size→A' b∧b < w'.heap.size∧w'.heap[b]?=w.heap[b]?):OwN A' w' v ks:=by
 induction h with
 |nil=>exact .nil
 |row b cap lo ks kv hb ho _ ih=>
  have hl:=(ho.lt b rfl).2;exact .row b cap lo ks kv (t b hb hl).1 (Fi ho (fun q e=>by cases e;exact(t b hb hl).2.2)) ih
theorem OwN.form {A:Nat→Prop}{w:World}{v:Value}{ks:List Nd}(h:OwN A w v ks):∃a cap,v= .slice a ks.length cap:=by
 cases h with
 |nil=>exact⟨none,0,rfl⟩
 |row b cap lo ks kv _ _ _=>exact⟨_,cap,rfl⟩
theorem OwN.rd {A:Nat→Prop}{w:World}{v:Value}{ks:List Nd}(h:OwN A w v ks):RdNs w.heap.size w v ks:=by
 induction h with
 |nil=>exact .nil _ _
 |row b cap lo ks kv hb ho _ ih=>
  have hl:=(ho.lt b rfl).2;have hc:∀j,j < ks.length→ ∀i,i < 5→w.cell? ⟨b,0+j*5+i,none⟩= (ndC (ks[j]?.getD Nd.zero) (kv j))[i]?:=fun j hj i hi=>by
   rw[BU,Er ho (j*5+i) (by rw[Fj];have:(j+1)*5≤ks.length*5:=Dq _ hj;omega)];unfold CR;exact CQ (at_:=fun j=>ndC (ks[j]?.getD Nd.zero) (kv j)) (fun _ _=>rfl) hj hi
  obtain⟨h1,h2⟩:=Et ho;refine .row b 0 cap ks kv hl hl ⟨h1,h2⟩ (fun j hj=> ?_) ih;have h5:=fun i hi=>hc j hj i hi;rw[Bl hj]at h5;exact⟨h5 0 (by omega),h5 1 (by omega),h5 2 (by omega),h5 3 (by omega),h5 4 (by omega)⟩
structure CpN (w W:World) (x:Nd) (k:Nat) (kv:Value):Prop where
 bb:Below w.heap.size w W
 bo:Bx W w.heap.size #[.int .i64 0,.int .i64 0,.string ⟨#[]⟩,.string ⟨#[]⟩,.slice none 0 0]
 bt:Bx W (w.heap.size+1) (ndC x kv)
 row:∃kvs:Nat→Value,W.ownsRow (w.heap.size+2) 41 5 kv k (CR (x.kids.take k) kvs)∧ ∀j (h:j < x.kids.length),j < k→OwN (fun b=>w.heap.size+2≤b∧kv.ownBlock≠some b) W (kvs j) x.kids[j].kids
section
variable {w W W':World}{x:Nd}{k:Nat}{kv:Value}
theorem CpN.same (h:CpN w W x k kv) (b:Below W.heap.size W W'):CpN w W' x k kv:=by
 obtain⟨kvs,ho,hr⟩:=h.row;exact⟨h.bb.trans (b.mono h.bb.size),h.bo.below b h.bo.1,h.bt.below b h.bt.1,kvs,CE ho b (Cj ho),fun j hj hk=>(hr j hj hk).later fun q hq hl=>⟨hq,Aj hl b.size,b.block q hl⟩⟩
theorem CpN.form (h:CpN w W x k kv):∃a cap,kv= .slice a k cap:=by
 obtain⟨kvs,ho, -⟩:=h.row;exact A2 ho
theorem CpN.app (h:CpN w W x k kv) {M:Nat}{v:Value}(hk:k < x.kids.length) (hM:∀q,kv.ownBlock=some q→q < M) (hMW:M≤W.heap.size) (hwM:w.heap.size+2≤M)
  (hc:OwN (fun b=>M≤b) W v x.kids[k].kids):∃ps,W.ownsRow (w.heap.size+2) 41 5 kv k ps∧ ∀ (v':Value) (w4:World),w4.ownsRow (w.heap.size+2) 41 5 v' (k+1) (ps++ (ndC x.kids[k] v).toList)→W.grownBy w4 kv.ownBlock→
  (v'.ownBlock=kv.ownBlock∨ ∃q,v'.ownBlock=some q∧W.heap.size≤q)→CpN w (w4.setCell ⟨w.heap.size+1,4,none⟩ v') x (k+1) v':=by
 obtain⟨kvs,hps,hr2⟩:=h.row;refine⟨_,hps,fun v' w4 ho hg hat=> ?_⟩;have hsz:w4.heap.size= (w4.setCell ⟨w.heap.size+1,4,none⟩ v').heap.size:=(AS ..).symm;have hq0:∀q,kv.ownBlock=some q→w.heap.size+2≤q:=fun q hq=>(hps.lt q hq).1;have hs:=grownBy.setCell w4 (w.heap.size+1) 4 v';have hblk:∀b,b < W.heap.size→b≠w.heap.size+1→kv.ownBlock≠some b→(w4.setCell ⟨w.heap.size+1,4,none⟩ v').heap[b]?=W.heap[b]?:=fun b hb h1 h2=>
  (hs.block b (Aj hb hg.size) (fun e=>h1 (Ah e))).trans (hg.block b hb (fun e=>h2 e.symm))
 have hbW:Below w.heap.size W (w4.setCell ⟨w.heap.size+1,4,none⟩ v'):=⟨hg.os,hg.tape,hg.output,by rw[←hsz];exact hg.size,fun q hq=>hblk q (by have:=h.bb.size;omega) (by omega) (fun e=>by have:=hq0 q e;omega)⟩;have htl:(x.kids.take k).length=k:=by rw[Hd];omega
 have hts:x.kids.take (k+1)=x.kids.take k++ [x.kids[k]]:=by rw[He,Bl hk];rfl
 refine⟨h.bb.trans hbW,?_,?_,fun j=>if j < k then kvs j else v,?_,fun j hj hjk=> ?_⟩
 ·have:=hblk w.heap.size h.bo.1 (by omega) (fun e=>by have:=hq0 _ e;omega);exact⟨by rw[←hsz];exact Aj h.bo.1 hg.size,fun j=>(An this).trans (h.bo.2.1 j),fun j=>(DG this).trans (h.bo.2.2 j)⟩
 ·have h4:Bx w4 (w.heap.size+1) (ndC x kv):=h.bt.grown hg (fun e=>by have:=hq0 _ e.symm;omega);have:=h4.st 4 (by simp[ndC]) v'
  simpa [ndC] using this
 ·have:=LB (x.kids.take k) kvs x.kids[k] v;rw[htl,←hts]at this;rw[←this];refine ho.kept hs ?_;cases hq:v'.ownBlock with
  |none=>exact .inl rfl
  |some q=>exact .inr (fun e=>by have:=(ho.lt q hq).1;have:=Ah e;omega)
 ·dsimp only;by_cases hj2:j < k
  ·rw[Ag hj2];refine(hr2 j hj hj2).later fun q hq hl2=>⟨⟨hq.1,fun e=> ?_⟩,by rw[←hsz];exact Aj hl2 hg.size,hblk q hl2 (by omega) hq.2⟩
   rcases hat with e2 |⟨q2,e2,e3⟩
   ·exact hq.2 (e2.symm.trans e)
   ·rw[e2]at e;have:=Ah e;omega
  ·obtain rfl:j=k:=by omega
   rw[Ab hj2];refine hc.later fun q hq hl2=>⟨⟨by omega,fun e=> ?_⟩,by rw[←hsz];exact Aj hl2 hg.size,hblk q hl2 (by omega) (fun e=>by have:=hM q e;omega)⟩
   rcases hat with e2 |⟨q2,e2,e3⟩
   ·have:=hM q (e2.symm.trans e);omega
   ·rw[e2]at e;have:=Ah e;omega
theorem CpN.done (h:CpN w W x x.kids.length kv):OwN (fun b=>w.heap.size+2≤b) W kv x.kids:=by
 obtain⟨kvs,ho,hr⟩:=h.row;rw[CL]at ho;rcases ho.2 with ⟨rfl,h0⟩ |⟨q,cap,cu,rfl,hbq,_⟩
 ·rw[List.eq_nil_of_length_eq_zero h0];exact .nil
 ·exact .row q cap _ x.kids kvs hbq ho (fun j hj=>(hr j hj hj).later fun q hq hl=>⟨hq.1,hl,rfl⟩)
end
def tpC (x:Tp) (kv:Value):Array Value:= #[.int .i64 x.op,.int .i64 x.n,.string x.s,kv]
theorem Tryz.infoCpT:(Tryz.prog.info? 158).map (fun i=>(i.zero,i.size,i.bytes))=some (some (.agg #[.int .i64 0,.int .i64 0,.string ⟨#[]⟩,.slice none 0 0]),4,56):=by kernel_rfl
def Fk (ks:List Tp) (kv:Nat→Value):List Value:=BF ks.length 4 (fun j=>tpC (ks[j]?.getD (Tp.mk 0 0 eS [])) (kv j))
theorem Qm (ks:List Tp) (kv:Nat→Value):(Fk ks kv).length=ks.length*4:=Cf _ _ _
theorem Qn (ks:List Tp) (kv:Nat→Value) (y:Tp) (v:Value):Fk ks kv++ (tpC y v).toList=Fk (ks++ [y]) (fun j=>if j < ks.length then kv j else v):=by
 unfold Fk;have hsz:∀j,j < ks.length→((fun j=>tpC (ks[j]?.getD (Tp.mk 0 0 eS [])) (kv j)) j).size=4:=fun j _=>rfl;rw[Jg hsz (show(tpC y v).size=4 from rfl) (by omega),AV,List.length_singleton];refine Jf fun j hj=> ?_;by_cases h:j < ks.length
 ·simp only[Ag h,BV h]
 ·obtain rfl:j=ks.length:=by omega
  simp only[Ab h,Cp (Ad _),EI,List.getElem?_cons_zero,Option.getD_some]
inductive OwT (A:Nat→Prop) (w:World):Value→List Tp→Prop
 |nil:OwT A w (.slice none 0 0) []
 |row (b cap lo:Nat) (ks:List Tp) (kv:Nat→Value) (hb:A b) (ho:w.ownsRow lo 158 4 (.slice (some ⟨b,0,none⟩) ks.length cap) ks.length (Fk ks kv)) (hk:∀j (h:j < ks.length),OwT A w (kv j) ks[j].kids):OwT A w (.slice (some ⟨b,0,none⟩) ks.length cap) ks
theorem OwT.later {A A':Nat→Prop}{w w':World}{v:Value}{ks:List Tp}(h:OwT A w v ks) (t:∀b,A b→b < w.heap.size→A' b∧b < w'.heap.size∧w'.heap[b]?=w.heap[b]?):OwT A' w' v ks:=by
 induction h with
 |nil=>exact .nil
 |row b cap lo ks kv hb ho _ ih=>
  have hl:=(ho.lt b rfl).2;exact .row b cap lo ks kv (t b hb hl).1 (Fi ho (fun q e=>by cases e;exact(t b hb hl).2.2)) ih
theorem OwT.form {A:Nat→Prop}{w:World}{v:Value}{ks:List Tp}(h:OwT A w v ks):∃a cap,v= .slice a ks.length cap:=by
 cases h with
 |nil=>exact⟨none,0,rfl⟩
 |row b cap lo ks kv _ _ _=>exact⟨_,cap,rfl⟩
theorem OwT.rd {A:Nat→Prop}{w:World}{v:Value}{ks:List Tp}(h:OwT A w v ks):RdTps w.heap.size w v ks:=by
 induction h with
 |nil=>exact .nil _ _
 |row b cap lo ks kv hb ho _ ih=>
  have hl:=(ho.lt b rfl).2;have hc:∀j,j < ks.length→ ∀i,i < 4→w.cell? ⟨b,0+j*4+i,none⟩= (tpC (ks[j]?.getD (Tp.mk 0 0 eS [])) (kv j))[i]?:=fun j hj i hi=>by
   rw[BU,Er ho (j*4+i) (by rw[Qm];have:(j+1)*4≤ks.length*4:=Dq _ hj;omega)];unfold Fk;exact CQ (at_:=fun j=>tpC (ks[j]?.getD (Tp.mk 0 0 eS [])) (kv j)) (fun _ _=>rfl) hj hi
  obtain⟨h1,h2⟩:=Et ho;refine .row b 0 cap ks kv hl hl ⟨h1,h2⟩ (fun j hj=> ?_) ih;have h5:=fun i hi=>hc j hj i hi;rw[Bl hj]at h5;exact⟨h5 0 (by omega),h5 1 (by omega),h5 2 (by omega),h5 3 (by omega)⟩
structure CpT (w W:World) (x:Tp) (k:Nat) (kv:Value):Prop where
 bb:Below w.heap.size w W
 bo:Bx W w.heap.size #[.int .i64 0,.int .i64 0,.string ⟨#[]⟩,.slice none 0 0]
 bt:Bx W (w.heap.size+1) (tpC x kv)
 row:∃kvs:Nat→Value,W.ownsRow (w.heap.size+2) 158 4 kv k (Fk (x.kids.take k) kvs)∧ ∀j (h:j < x.kids.length),j < k→OwT (fun b=>w.heap.size+2≤b∧kv.ownBlock≠some b) W (kvs j) x.kids[j].kids
section
variable {w W W':World}{x:Tp}{k:Nat}{kv:Value}
theorem CpT.same (h:CpT w W x k kv) (b:Below W.heap.size W W'):CpT w W' x k kv:=by
 obtain⟨kvs,ho,hr⟩:=h.row;exact⟨h.bb.trans (b.mono h.bb.size),h.bo.below b h.bo.1,h.bt.below b h.bt.1,kvs,CE ho b (Cj ho),fun j hj hk=>(hr j hj hk).later fun q hq hl=>⟨hq,Aj hl b.size,b.block q hl⟩⟩
theorem CpT.form (h:CpT w W x k kv):∃a cap,kv= .slice a k cap:=by
 obtain⟨kvs,ho, -⟩:=h.row;exact A2 ho
theorem CpT.app (h:CpT w W x k kv) {M:Nat}{v:Value}(hk:k < x.kids.length) (hM:∀q,kv.ownBlock=some q→q < M) (hMW:M≤W.heap.size) (hwM:w.heap.size+2≤M)
  (hc:OwT (fun b=>M≤b) W v x.kids[k].kids):∃ps,W.ownsRow (w.heap.size+2) 158 4 kv k ps∧ ∀ (v':Value) (w4:World),w4.ownsRow (w.heap.size+2) 158 4 v' (k+1) (ps++ (tpC x.kids[k] v).toList)→W.grownBy w4 kv.ownBlock→
  (v'.ownBlock=kv.ownBlock∨ ∃q,v'.ownBlock=some q∧W.heap.size≤q)→CpT w (w4.setCell ⟨w.heap.size+1,3,none⟩ v') x (k+1) v':=by
 obtain⟨kvs,hps,hr2⟩:=h.row;refine⟨_,hps,fun v' w4 ho hg hat=> ?_⟩;have hsz:w4.heap.size= (w4.setCell ⟨w.heap.size+1,3,none⟩ v').heap.size:=(AS ..).symm;have hq0:∀q,kv.ownBlock=some q→w.heap.size+2≤q:=fun q hq=>(hps.lt q hq).1;have hs:=grownBy.setCell w4 (w.heap.size+1) 3 v';have hblk:∀b,b < W.heap.size→b≠w.heap.size+1→kv.ownBlock≠some b→(w4.setCell ⟨w.heap.size+1,3,none⟩ v').heap[b]?=W.heap[b]?:=fun b hb h1 h2=>
  (hs.block b (Aj hb hg.size) (fun e=>h1 (Ah e))).trans (hg.block b hb (fun e=>h2 e.symm))
 have hbW:Below w.heap.size W (w4.setCell ⟨w.heap.size+1,3,none⟩ v'):=⟨hg.os,hg.tape,hg.output,by rw[←hsz];exact hg.size,fun q hq=>hblk q (by have:=h.bb.size;omega) (by omega) (fun e=>by have:=hq0 q e;omega)⟩;have htl:(x.kids.take k).length=k:=by rw[Hd];omega
 have hts:x.kids.take (k+1)=x.kids.take k++ [x.kids[k]]:=by rw[He,Bl hk];rfl
 refine⟨h.bb.trans hbW,?_,?_,fun j=>if j < k then kvs j else v,?_,fun j hj hjk=> ?_⟩
 ·have:=hblk w.heap.size h.bo.1 (by omega) (fun e=>by have:=hq0 _ e;omega);exact⟨by rw[←hsz];exact Aj h.bo.1 hg.size,fun j=>(An this).trans (h.bo.2.1 j),fun j=>(DG this).trans (h.bo.2.2 j)⟩
 ·have h4:Bx w4 (w.heap.size+1) (tpC x kv):=h.bt.grown hg (fun e=>by have:=hq0 _ e.symm;omega);have:=h4.st 3 (by simp[tpC]) v'
  simpa [tpC] using this
 ·have:=Qn (x.kids.take k) kvs x.kids[k] v;rw[htl,←hts]at this;rw[←this];refine ho.kept hs ?_;cases hq:v'.ownBlock with
  |none=>exact .inl rfl
  |some q=>exact .inr (fun e=>by have:=(ho.lt q hq).1;have:=Ah e;omega)
 ·dsimp only;by_cases hj2:j < k
  ·rw[Ag hj2];refine(hr2 j hj hj2).later fun q hq hl2=>⟨⟨hq.1,fun e=> ?_⟩,by rw[←hsz];exact Aj hl2 hg.size,hblk q hl2 (by omega) hq.2⟩
   rcases hat with e2 |⟨q2,e2,e3⟩
   ·exact hq.2 (e2.symm.trans e)
   ·rw[e2]at e;have:=Ah e;omega
  ·obtain rfl:j=k:=by omega
   rw[Ab hj2];refine hc.later fun q hq hl2=>⟨⟨by omega,fun e=> ?_⟩,by rw[←hsz];exact Aj hl2 hg.size,hblk q hl2 (by omega) (fun e=>by have:=hM q e;omega)⟩
   rcases hat with e2 |⟨q2,e2,e3⟩
   ·have:=hM q (e2.symm.trans e);omega
   ·rw[e2]at e;have:=Ah e;omega
theorem CpT.done (h:CpT w W x x.kids.length kv):OwT (fun b=>w.heap.size+2≤b) W kv x.kids:=by
 obtain⟨kvs,ho,hr⟩:=h.row;rw[CL]at ho;rcases ho.2 with ⟨rfl,h0⟩ |⟨q,cap,cu,rfl,hbq,_⟩
 ·rw[List.eq_nil_of_length_eq_zero h0];exact .nil
 ·exact .row q cap _ x.kids kvs hbq ho (fun j hj=>(hr j hj hj).later fun q hq hl=>⟨hq.1,hl,rfl⟩)
end
theorem LC:∀ (M:Nat) (x:Tp) (kv:Value) (B:Nat) (w:World),wgT x < M→wgT x≤1048576→RdTps B w kv x.kids→
  Calls Pq 194 #[tpV x kv] w fun e w'=>Below w.heap.size w w'∧ ∃kv',e= .returned (.agg (tpC x kv'))∧OwT (fun b=>w.heap.size≤b) w' kv' x.kids
 |0,x,kv,B,w,hM,hl,hr=>by omega
 |M+1,x,kv,B,w,hM,hl,hr=>by
  have hwg:=Eg x;have hlen:=DS x.kids;have IH:=Aa (fun(j:Nat) (hj:j < x.kids.length) (kv:Value) (W:World) (hb:Below w.heap.size w W) (h2:RdTps w.heap.size W kv x.kids[j].kids)=>(by
   have:=CJ (As hj);exact LC M _ kv _ W (by omega) (by omega) h2:Calls Pq 194 #[tpV x.kids[j] kv] W fun e w'=>Below W.heap.size W w'∧ ∃kv',e= .returned (.agg (tpC x.kids[j] kv'))∧OwT (fun b=>W.heap.size≤b) w' kv' x.kids[j].kids))
  have KL:=Aa (fun(W:World) (hb:Below w.heap.size w W)=>hr.later' hb);have hks:x.kids.length≤1048576:=by omega
  obtain⟨ti,hi,hz0,hz1,hz2⟩:=info_parts Tryz.infoCpT;obtain⟨ka,kc,rfl⟩:=hr.form;clear hr hM hwg hlen hl;unfold tpV;go_enter Tryz.func194,Tryz.ntmps194;go_wp2_with fail;generalize hW:Wa (Wa (Wa _ _) _) _=W1;obtain⟨b1,k1,k2,k3⟩:=LA hW;obtain⟨w1,hw1⟩:∃w1,w.alloc (.cells #[.int .i64 x.op,.int .i64 x.n,.string x.s,.slice ka x.kids.length kc] 158)=w1:=⟨_,rfl⟩;have hs1:w1.heap.size=w.heap.size+1:=by rw[←hw1];simp
  have b1':Below w1.heap.size w1 W1:=by rw[←hW,hw1];exact((Ac _ _).alloc (Ad _) _).alloc (by simp) _
  have S0:CpT w1 W1 x 0 (.slice none 0 0):=⟨b1',by rw[hs1];exact k2,by rw[hs1];exact k3,fun _=> .int .i64 0,World.ownsRow_nil _ _ _ _,fun j _ hj=>absurd hj (Ay j)⟩;have HW1:=Aa (show Below w.heap.size w w1 by rw[←hw1];exact(Ac _ _).alloc (Ad _) _);have KB:=Aa k1;clear k2 k3 hW b1' b1 k1 hw1
  go_loopw [4] (fun i wr=>∃ (k:Nat) (kv:Value),k≤x.kids.length∧i= .int .i64 k∧CpT w1 wr x k kv∧Bx wr w.heap.size #[.int .i64 x.op,.int .i64 x.n,.string x.s,.slice ka x.kids.length kc]) (fun i _=>x.kids.length - (intOf i).toNat)
  case atStart=>exact⟨0,_,Av _,rfl,S0,KB.out⟩
  case round=>
   clear S0;obtain⟨k,kv,hk,rfl,hs,kb⟩:=hrel;obtain⟨va,vc,rfl⟩:=hs.form;have qb:=kb.2.1;have lb:=kb.1;have bw:=HW1.out.trans (hs.bb.mono HW1.out.size);by_cases hlt:k < x.kids.length
   ·obtain⟨b,off,cap,kvy,hv,hB',hbs,hcap,⟨d0,d1,d2,d3⟩,hka⟩:=(KL.out wr bw).at_ hlt;cases hv
    have hki:(k:Int) < (x.kids.length:Int):=by omega
    have hk0:(0:Int)≤ (k:Int):=by omega
    obtain⟨kya,kyc,rfl⟩:=hka.form;have HKA:=Aa hka;have HS:=Aa hs;have KB2:=Aa kb;have IHk:=Aa (IH.out k hlt);have HAP:=Aa (fun(W:World) (v:Value) (M:Nat) (h:CpT w1 W x k (.slice va k vc))=>h.app (M:=M) (v:=v) hlt);clear hka;generalize x.kids[k]=y at*;have HQ:=Aa (fun(W':World) (h:Below wr.heap.size wr W')=>(by
     have j1:=(kb.below h kb.1).2.1;have j2:Bx wr (w1.heap.size+1) _:=HS.out.bt;have j3:=(j2.below h j2.1).2.1;rw[hs1]at j3;exact⟨j3 3,j1 3,(h.cell (p:=⟨b,off+k*4,none⟩) hbs).trans d0,(h.cell (p:=⟨b,off+k*4+1,none⟩) hbs).trans d1,(h.cell (p:=⟨b,off+k*4+2,none⟩) hbs).trans d2,(h.cell (p:=⟨b,off+k*4+3,none⟩) hbs).trans d3⟩:W'.cell? ⟨w.heap.size+2,3,none⟩=some (.slice va k vc)∧W'.cell? ⟨w.heap.size,3,none⟩=some (.slice (some ⟨b,off,none⟩) x.kids.length kc)∧W'.cell? ⟨b,off+k*4,none⟩=some (.int .i64 y.op)∧W'.cell? ⟨b,off+k*4+1,none⟩=some (.int .i64 y.n)∧W'.cell? ⟨b,off+k*4+2,none⟩=some (.string y.s)∧W'.cell? ⟨b,off+k*4+3,none⟩=some (.slice kya y.kids.length kyc)))
    clear hs kb d0 d1 d2 d3;go_wp2_with fail;clear qb lb;refine BP 10 (S:=(fun W'=>W'.cell? ⟨w.heap.size+2,3,none⟩=some (.slice va k vc)∧W'.cell? ⟨w.heap.size,3,none⟩=some (.slice (some ⟨b,off,none⟩) x.kids.length kc)∧W'.cell? ⟨b,off+k*4,none⟩=some (.int .i64 y.op)∧W'.cell? ⟨b,off+k*4+1,none⟩=some (.int .i64 y.n)∧W'.cell? ⟨b,off+k*4+2,none⟩=some (.string y.s)∧W'.cell? ⟨b,off+k*4+3,none⟩=some (.slice kya y.kids.length kyc))) (by kernel_rfl) (by kernel_rfl) (by first | (dsimp only;exact HQ.out _ (Below.refl _ _).drew) | (exact HQ.out _ (Below.refl _ _).drew)) (fun hHeld=> ?_);generalize hxd:wr.drew=x1 at hHeld ⊢;have hd:Below wr.heap.size wr x1:=by rw[←hxd];exact(Ac _ _).drew
    have h1:=HS.out.same hd;clear hxd;refine tkT (i:=0) ?_;refine tkT (i:=1) ?_;refine tkT (i:=2) ?_;refine tkT (i:=3) ?_;refine tkT (i:=4) ?_;refine tkT (i:=5) ?_;refine tkT (i:=6) ?_;have hvk:∀q,(Value.slice va k vc).ownBlock=some q→q < x1.heap.size:=by
     obtain⟨ps,ho, -⟩:=h1.row;exact Cj ho
    have hw2:w1.heap.size+2≤x1.heap.size:=by have:=h1.bt.1;omega
    have HH1:=Aa h1;have bwx:=bw.trans (hd.mono bw.size);refine rdT (i:=7) (fun K hK=> ?_);go_simp;refine(IHk.out _ x1 bwx (HKA.out.later hd bw.size)).mono ?_;rintro e w2 ⟨b2,kv2,rfl,ct⟩;have h2:=HH1.out.same b2;obtain⟨ka2,kc2,rfl⟩:=ct.form;unfold tpC;refine bkT hK (by first | (dsimp only;exact HQ.out _ (hd.trans (b2.mono hd.size))) | (exact HQ.out _ (hd.trans (b2.mono hd.size)))) (fun hHeld=> ?_);clear hK K;refine rdT (i:=8) (fun K hK=> ?_);go_simp;generalize hy:w2.alloc _=w3;obtain⟨b3,k3⟩:=Bx.alloc hy;have h3:=h2.same b3;refine bkT hK (by first | (dsimp only;exact HQ.out _ (hd.trans ((b2.trans (b3.mono b2.size)).mono hd.size))) | (exact HQ.out _ (hd.trans ((b2.trans (b3.mono b2.size)).mono hd.size)))) (fun hHeld=> ?_);clear hK K;have hd3:Below wr.heap.size wr w3:=hd.trans ((b2.trans (b3.mono b2.size)).mono hd.size);have S3:=HQ.out _ hd3;refine Dn (rs:=[9]) (by kernel_rfl) (by simp) ?_;refine AllReadyT.cons (by (simp only[List.getElem?_toArray,List.getElem?_cons_succ,List.getElem?_cons_zero];rfl)) (fun K hK=> ?_) AllReadyT.nil;rw[Ag (by rfl)];obtain⟨ps,hps,hnext⟩:=HAP.out w3 _ x1.heap.size h3 hvk (by have:=b2.size;have:=b3.size;omega) hw2 (ct.later fun q hq hl=>⟨hq,Aj hl b3.size,b3.block q hl⟩);refine ED _ _ 156 rfl (w1.heap.size+2) 158 ti _ 4 56 Tryz.underlying156 hi hz0 hz1 hz2 rfl (by decide) _ _ _ rfl hps (tpC y (.slice ka2 y.kids.length kc2)) rfl ?_ w2.heap.size rfl ?_ ?_ ?_ ?_ ?_
    ·simp[Value.oneCell',tpC]
    ·exact k3.2.1
    ·unfold maxLen;omega
    ·omega
    ·have:=b2.size;have:=b3.size;omega
    ·intro v4 w4 o4 g4 alt;obtain⟨a4,c4,rfl⟩:=A2 o4;have HN:=Aa (hnext _ w4 o4 g4 (by
      rcases alt with e |e
      ·exact .inl e
      ·exact .inr ⟨_,e,Ad _⟩))
     have hpl:=hps.lt;have hb3:=hd3.size;have hbw:=bw.size;have hlw:w.heap.size < wr.heap.size:=KB2.out.1;have K4:=h3.bt.grown g4 (fun e=>by have:=hpl _ e.symm;omega);have KB4:=(KB2.out.below hd3 KB2.out.1).grown g4 (fun e=>by have:=hpl _ e.symm;omega);have KB5:=Aa KB4;rw[hs1]at K4;have hcell:∀o,w4.cell? ⟨b,o,none⟩=w3.cell? ⟨b,o,none⟩:=fun o=>An (g4.block b (by omega) (fun e=>by have:=hpl _ e.symm;omega));have S4:w4.cell? ⟨w.heap.size+2,3,none⟩=some (.slice va k vc)∧w4.cell? ⟨w.heap.size,3,none⟩=some (.slice (some ⟨b,off,none⟩) x.kids.length kc)∧w4.cell? ⟨b,off+k*4,none⟩=some (.int .i64 y.op)∧w4.cell? ⟨b,off+k*4+1,none⟩=some (.int .i64 y.n)∧w4.cell? ⟨b,off+k*4+2,none⟩=some (.string y.s)∧w4.cell? ⟨b,off+k*4+3,none⟩=some (.slice kya y.kids.length kyc):=by
      refine⟨K4.2.1 3,KB4.2.1 3,(hcell _).trans S3.2.2.1,(hcell _).trans S3.2.2.2.1,(hcell _).trans S3.2.2.2.2.1,(hcell _).trans S3.2.2.2.2.2⟩
     have q4:=K4.2.1;have f4:=K4.2.2;have y4:=K4.1;refine hK.out _ _ (by first | (dsimp only;exact S4) | (exact S4)) (fun hHeld=> ?_);clear hK K
     try simp only[Act.put,List.setIfInBounds_toArray,List.set_cons_zero,List.set_cons_succ]
     have HN2:=Aa (show CpT w1 (w4.setCell ⟨w.heap.size+2,3,none⟩ (.slice a4 (k+1) c4)) x (k+1) (.slice a4 (k+1) c4)by have:=HN.out;rw[hs1]at this;exact this);have KB6:=Aa (show Bx (w4.setCell ⟨w.heap.size+2,3,none⟩ (.slice a4 (k+1) c4)) w.heap.size _ from KB5.out.grown (grownBy.setCell w4 (w.heap.size+2) 3 _) (fun e=>by have:=Ah e;omega));unfold tpC at q4;clear h1 h2 h3 HH1 K4 KB4 hnext hps alt o4 g4 b2 b3 k3 ct hd hd3 S3 S4 hcell hpl bw bwx;refine BO (by kernel_rfl) ?_;dsimp only[List.drop];go_wp2;go_roundw
     case rel=>exact⟨k+1,_,hlt,by go_num,HN2.out,KB6.out⟩
     case measure=>simp[intOf];omega
   ·obtain rfl:k=x.kids.length:=by omega
    have hki:¬((x.kids.length:Int) < (x.kids.length:Int)):=by omega
    have k1:=hs.bo;have k2:=hs.bt;unfold tpC at k2;rw[hs1]at k1 k2;have HS:=Aa hs;have BW:=Aa bw;clear hs kb bw;have fk1:=k1.2.2;have ck1:=k1.2.1;have yk1:=k1.1;have ck2:=k2.2.1;have yk2:=k2.1;have hne:w.heap.size+1≠w.heap.size+2:=by omega
    go_wp2;generalize hz:Ws (Ws _ _ _) _ _=z;have K1:=HS.out.bo;rw[hs1]at K1;have k5:=((((K1.st 0 (by simp) (.int .i64 x.op)).st 1 (by simp) (.int .i64 x.n)).st 2 (by simp) (.string x.s)).st 3 (by simp) (.slice va x.kids.length vc));have g5:wr.grownBy z (some (w.heap.size+1)):=by
     rw[←hz];exact((((grownBy.setCell wr (w.heap.size+1) 0 _).trans' (grownBy.setCell _ (w.heap.size+1) 1 _)).trans' (grownBy.setCell _ (w.heap.size+1) 2 _)).trans' (grownBy.setCell _ (w.heap.size+1) 3 _))
    have c9:∀j,z.cell? ⟨w.heap.size+1,j,none⟩= #[.int .i64 x.op,.int .i64 x.n,.string x.s,.slice va x.kids.length vc][j]?:=by
     rw[←hz];exact fun j=>(k5.2.1 j).trans rfl
    refine AA (v:= .agg (tpC x (.slice va x.kids.length vc))) ?_ rfl ⟨BW.out.trans (Below.of_grown g5 BW.out.size (fun q e=>by have:=Ah e;omega)),_,rfl,?_⟩
    ·simp[results,Tryz.results194,go_sem,c9,tpC]
    ·refine OwT.later HS.out.done fun q hq hl=>⟨by omega,Aj hl g5.size,g5.block q hl (fun e=>by have:=Ah e;omega)⟩
end Go.Proofs.YtifhcbeaiijkcaaGreat
