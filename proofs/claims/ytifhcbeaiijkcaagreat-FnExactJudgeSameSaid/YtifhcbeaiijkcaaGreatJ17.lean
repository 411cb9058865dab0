/- Parts of the proof of FnExactJudgeSame. -/
import Derived.Test.YtifhcbeaiijkcaaGreatJ07
import Derived.Test.YtifhcbeaiijkcaaGreatJ15
import Derived.Test.YtifhcbeaiijkcaaGreatJ16
set_option linter.unusedVariables false
set_option linter.unusedSimpArgs false
set_option maxRecDepth 1000000
set_option maxHeartbeats 16000000
namespace Go.Proofs.YtifhcbeaiijkcaaGreat
open Go.RowKit
open _root_.Go.World renaming alloc→Wa,setCell→Ws
open _root_.Go.Proofs.Tryz renaming prog→Pq
theorem EP {ds:List Dt}(hl:AN ds≤1048576) (i:Nat) (hi:i < ds.length):ds[i].cons.length≤1048576:=by
 have h1:=Dm (An hi);have h2:=E9 ds[i].cons;unfold wgD at h1;omega
theorem He {ds:List Dt}(hl:AN ds≤1048576) (i:Nat) (hi:i < ds.length) (k:Nat) (hk:k < ds[i].cons.length):ds[i].cons[k].args.length≤1048576:=by
 have h1:=Dm (An hi);have h2:=Eb (An hk);have h3:=EJ ds[i].cons[k].args;unfold wgD at h1;unfold wgC at h2;omega
theorem Hf {ds:List Dt}(hl:AN ds≤1048576) (i:Nat) (hi:i < ds.length) (k:Nat) (hk:k < ds[i].cons.length) (j:Nat) (hj:j < ds[i].cons[k].args.length):wgT ds[i].cons[k].args[j]≤1048576:=by
 have h1:=Dm (An hi);have h2:=Eb (An hk);have h3:=CJ (An hj);unfold wgD at h1;unfold wgC at h2;omega
theorem Ky {q:Tp→Bool}{ds:List Dt}(h:Bu q ds=true) (i:Nat) (hi:i < ds.length) (k:Nat) (hk:k < ds[i].cons.length) (j:Nat) (hj:j < ds[i].cons[k].args.length):As q ds[i].cons[k].args[j]=true:=by
 unfold Bu at h;exact BA.1 (BA.1 (BA.1 h _ (An hi)) _ (An hk)) _ (An hj)
theorem IX {q:Tp→Bool}{ds:List Dt}(i:Nat) (hi:i < ds.length) (k:Nat) (hk:k < ds[i].cons.length) (h:ds[i].cons[k].args.all (As q)=false):Bu q ds=false:=
 DN (q:=fun d:Dt=>d.cons.all fun c=>c.args.all (As q)) hi (DN (q:=fun c:Cn=>c.args.all (As q)) hk h)
theorem IY {q:Tp→Bool}{ds:List Dt}(h:∀i (hi:i < ds.length) k (hk:k < ds[i].cons.length),ds[i].cons[k].args.all (As q)=true):Bu q ds=true:=
 Ea (q:=fun d:Dt=>d.cons.all fun c=>c.args.all (As q)) fun i hi=>Ea (q:=fun c:Cn=>c.args.all (As q)) fun k hk=>h i hi k hk
theorem Pf (gl g:Nat) (r:Bool) (x:Tp) (kv:Value) (w:World) (hg:w.cell? ⟨g,0,none⟩=some (.func (.func 99) #[] #[.pointer (some ⟨gl,0,none⟩)])) (hlt:g < w.heap.size)
  (HF:∀W,Below w.heap.size w W→Calls Pq 165 #[tpV x kv,(.func (.func 99) #[] #[.pointer (some ⟨gl,0,none⟩)])] W fun e w'=>e= .returned (.bool r)∧Below W.heap.size W w'):
  Calls Pq 212 #[tpV x kv,.pointer (some ⟨g,0,none⟩)] w fun e w'=>e= .returned (.bool r)∧Below w.heap.size w w':=by
 unfold tpV at HF ⊢;have HF:=Aa HF;generalize x.op=xop at*;generalize x.n=xn at*;generalize x.s=xs at*;go_enter Tryz.func212,Tryz.ntmps212;have hg2:=(((Ab w.heap.size w).alloc (Ad _) (.cells #[.int .i64 xop,.int .i64 xn,.string xs,kv] 158)).cell (p:=⟨g,0,none⟩) hlt).trans hg;go_wp2_with fail;generalize hxx:Wa _ _=x0 at*;obtain⟨bb,k1⟩:=Bx.alloc hxx;clear hxx k1;refine(HF.out x0 bb).mono ?_;rintro e w2 ⟨rfl,b2⟩;replace bb:=bb.trans (b2.mono bb.size);go_wp2;go_ret;exact⟨rfl,bb⟩
theorem Kz (gl:Nat) (pre q:Tp→Bool) (w0:World)
  (HF:∀ (x:Tp) (kv:Value) (B:Nat) (W:World),pre x=true→Below w0.heap.size w0 W→RdTps B W kv x.kids→Calls Pq 99 #[tpV x kv,.pointer (some ⟨gl,0,none⟩)] W fun e w'=>e= .returned (.bool (!q x))∧Below W.heap.size W w'):
  ∀ (N:Nat) (x:Tp) (kv:Value) (B:Nat) (w:World),wgT x < N→wgT x≤1048576→As pre x=true→Below w0.heap.size w0 w→RdTps B w kv x.kids→
  Calls Pq 165 #[tpV x kv,(.func (.func 99) #[] #[.pointer (some ⟨gl,0,none⟩)])] w fun e w'=>e= .returned (.bool (!As q x))∧Below w.heap.size w w'
 |0,x,kv,B,w,hN,hl,hp,hw,hr=>by omega
 |N+1,x,kv,B,w,hN,hl,hp,hw,hr=>by
  have HR:=Aa (fun(W:World) (hb:Below w.heap.size w W)=>hr.later' hb);have hwg:=DM x;have hlen:=EJ x.kids;have hks:x.kids.length≤1048576:=by omega
  rw[EB,Cd,DW,BA]at hp;obtain⟨hp1,hp2⟩:=hp;have IH:=Aa (fun(j:Nat) (hj:j < x.kids.length) (kv:Value) (B:Nat) (W:World) (hb:Below w.heap.size w W) (h:RdTps B W kv x.kids[j].kids)=>(by
   have:=CJ (An hj);exact Kz gl pre q w0 HF N x.kids[j] kv B W (by omega) (by omega) (hp2 _ (An hj)) (hw.trans (hb.mono hw.size)) h:Calls Pq 165 #[tpV x.kids[j] kv,(.func (.func 99) #[] #[.pointer (some ⟨gl,0,none⟩)])] W fun e w'=>e= .returned (.bool (!As q x.kids[j]))∧Below W.heap.size W w'))
  have HX:=Aa (fun(W:World) (hb:Below w.heap.size w W)=>HF x kv _ W hp1 (hw.trans (hb.mono hw.size)) (hr.later' hb));have HE:=Aa (EB q x);have HA:=Aa (show(x.kids.any fun y=>!As q y)=!As.allTys q x.kids by rw[DW,List.not_all_eq_any_not]);obtain⟨ka,kc,rfl⟩:=hr.form;clear hr HF hN hwg hlen hl hp1 hp2 hw;unfold tpV at HX ⊢;generalize x.op=xop at*;generalize x.n=xn at*;generalize x.s=xs at*;generalize q x=qx at*;generalize As q x=ax at*;generalize x.kids=ks at*;go_enter Tryz.func165,Tryz.ntmps165;go_wp2_with fail;generalize hyy:w.alloc _=x0;generalize hxx:x0.alloc _=x1;obtain⟨b1,k1⟩:=Bx.alloc hyy;obtain⟨b2,k2⟩:=Bx.alloc hxx;have e1:x0.heap.size=w.heap.size+1:=by rw[←hyy,Bo]
  rw[e1]at k2;replace k1:=k1.below b2 k1.1;have bb:=b1.trans (b2.mono b1.size);clear hxx hyy b1 b2 e1;refine(HX.out x1 bb).mono ?_;rintro e w3 ⟨rfl,b3⟩;replace k1:=k1.below b3 k1.1;replace k2:=k2.below b3 k2.1;replace bb:=bb.trans (b3.mono bb.size);clear b3;cases qx with
  |false=>
   go_wp2;go_ret;exact⟨Ac (by rw[HE.out];rfl),bb⟩
  |true=>
   have q1:=k1.2.1;have q2:=k2.2.1;go_wp2_with fail;clear q1 q2;refine(Kv (.pointer (some ⟨w.heap.size+1,0,none⟩)) (fun y=>!As q y) ks _ _ w3 (HR.out w3 bb) hks (fun j hj kv W hb hk=>Pf gl (w.heap.size+1) (!As q ks[j]) ks[j] kv W ((k2.below hb k2.1).2.1 0) (k2.below hb k2.1).1 (fun W' hb'=>IH.out j hj kv _ W' ((bb.trans (hb.mono bb.size)).trans (hb'.mono (At bb.size hb.size))) (hk.later hb' hb.size)))).mono ?_;rintro e w4 ⟨rfl,b4⟩;replace bb:=bb.trans (b4.mono bb.size);go_wp2;go_ret;exact⟨Ac (by rw[HE.out,HA.out];rfl),bb⟩
theorem Pg (gl g:Nat) (r:Bool) (x:Tp) (kv:Value) (w:World) (hg:w.cell? ⟨g,0,none⟩=some (.func (.func 99) #[] #[.pointer (some ⟨gl,0,none⟩)])) (hlt:g < w.heap.size)
  (HF:∀W,Below w.heap.size w W→Calls Pq 165 #[tpV x kv,(.func (.func 99) #[] #[.pointer (some ⟨gl,0,none⟩)])] W fun e w'=>e= .returned (.bool r)∧Below W.heap.size W w'):
  Calls Pq 164 #[tpV x kv,.pointer (some ⟨g,0,none⟩)] w fun e w'=>e= .returned (.bool r)∧Below w.heap.size w w':=by
 unfold tpV at HF ⊢;have HF:=Aa HF;generalize x.op=xop at*;generalize x.n=xn at*;generalize x.s=xs at*;go_enter Tryz.func164,Tryz.ntmps164;have hg2:=(((Ab w.heap.size w).alloc (Ad _) (.cells #[.int .i64 xop,.int .i64 xn,.string xs,kv] 158)).cell (p:=⟨g,0,none⟩) hlt).trans hg;go_wp2_with fail;generalize hxx:Wa _ _=x0 at*;obtain⟨bb,k1⟩:=Bx.alloc hxx;clear hxx k1;refine(HF.out x0 bb).mono ?_;rintro e w2 ⟨rfl,b2⟩;replace bb:=bb.trans (b2.mono bb.size);go_wp2;go_ret;exact⟨rfl,bb⟩
theorem Ph (gl:Nat) (pre q:Tp→Bool) (w0:World)
  (HF:∀ (x:Tp) (kv:Value) (B:Nat) (W:World),pre x=true→Below w0.heap.size w0 W→RdTps B W kv x.kids→Calls Pq 99 #[tpV x kv,.pointer (some ⟨gl,0,none⟩)] W fun e w'=>e= .returned (.bool (!q x))∧Below W.heap.size W w')
  (ds:List Dt) (dv:Value) (B:Nat) (w:World) (hr:RdDts B w dv ds) (hl:AN ds≤1048576) (hp:Bu pre ds=true) (hw:Below w0.heap.size w0 w):
  Calls Pq 98 #[dv,(.func (.func 99) #[] #[.pointer (some ⟨gl,0,none⟩)])] w fun e w'=>e= .returned (.bool (!Bu q ds))∧Below w.heap.size w w':=by
 have HR:=Aa (fun(W:World) (hb:Below w.heap.size w W)=>hr.later' hb);have hln:=Dn ds;have hds:ds.length≤1048576:=by omega
 have SZ:=Aa (EP hl);have SA:=Aa (He hl);have HO:=Aa (fun(i:Nat) (hi:i < ds.length) (k:Nat) (hk:k < ds[i].cons.length) (j:Nat) (hj:j < ds[i].cons[k].args.length) (kv:Value) (B:Nat) (W:World) (hb:Below w.heap.size w W) (h:RdTps B W kv ds[i].cons[k].args[j].kids)=>(by
  have:=Hf hl i hi k hk j hj;exact Kz gl pre q w0 HF 1048577 _ kv B W (by omega) this (Ky hp i hi k hk j hj) (hw.trans (hb.mono hw.size)) h:Calls Pq 165 #[tpV ds[i].cons[k].args[j] kv,(.func (.func 99) #[] #[.pointer (some ⟨gl,0,none⟩)])] W fun e w'=>e= .returned (.bool (!As q ds[i].cons[k].args[j]))∧Below W.heap.size W w'))
 have HN:=Aa (@IX q ds);have HY:=Aa (@IY q ds);generalize Bu q ds=aq at*;obtain⟨ka,kc,rfl⟩:=hr.form;clear hr hln hl hp hw HF;go_enter Tryz.func98,Tryz.ntmps98;go_wp2_with fail;generalize hxx:Wa _ _=x0;obtain⟨bb,k1⟩:=Bx.alloc hxx;clear hxx;go_wp2
 go_loopw [11] (fun i wr=>∃k:Nat,k≤ds.length∧i= .int .i64 k∧Below w.heap.size w wr∧Bx wr w.heap.size #[(.func (.func 99) #[] #[.pointer (some ⟨gl,0,none⟩)])]∧Hid (∀j (h:j < ds.length),j < k→ ∀l (hl:l < ds[j].cons.length),(ds[j].cons[l].args.all (As q))=true)) (fun i _=>ds.length - (intOf i).toNat)
 case atStart=>exact⟨0,Ao _,rfl,bb,k1,Aa (fun j h hk=>absurd hk (Aw j))⟩
 case round=>
  clear bb k1;obtain⟨ii,hi,rfl,bb,k1,hd⟩:=hrel;by_cases hlt:ii < ds.length
  ·obtain⟨b,off,cap,cv,hv,hB,hbs,hcap,c0,c1,c2,hkr⟩:=(HR.out wr bb).at_ hlt;cases hv
   have hki:(ii:Int) < (ds.length:Int):=by omega
   have hk0:(0:Int)≤ (ii:Int):=by omega
   have hsz:=SZ.out ii hlt;have SAi:=Aa (SA.out ii hlt);have HOi:=Aa (HO.out ii hlt);have HNi:=Aa (HN.out ii hlt);have HC:=Aa (fun(W:World) (hb:Below wr.heap.size wr W)=>hkr.later' hb);obtain⟨ca,cc,rfl⟩:=hkr.form;generalize ds[ii].name=dn at*;generalize ds[ii].vars=dvs at*;clear hkr;go_wp2_with fail;generalize hyy:Wa _ _=wy;obtain⟨by_, -⟩:=Bx.alloc hyy;clear hyy c0 c1 c2;have hs0:=bb.size;replace k1:=k1.below by_ k1.1;have BW:=Aa (bb.trans (by_.mono hs0))
   go_loopw [18] (fun i wr=>∃k:Nat,k≤ds[ii].cons.length∧i= .int .i64 k∧Below wy.heap.size wy wr∧Hid (∀l (hl:l < ds[ii].cons.length),l < k→ds[ii].cons[l].args.all (As q)=true)) (fun i _=>ds[ii].cons.length - (intOf i).toNat)
   case atStart=>exact⟨0,Ao _,rfl,Ab _ _,Aa (fun j h hk=>absurd hk (Aw j))⟩
   case round=>
    obtain⟨k,hk,rfl,bz,hdk⟩:=hrel;have k3:=k1.below bz k1.1;by_cases hlk:k < ds[ii].cons.length
    ·obtain⟨b',off',cap',av,hv',hB',hbs',hcap',d0,d1,hka⟩:=(HC.out wr (by_.trans (bz.mono by_.size))).at_ hlk;cases hv'
     have hkk:(k:Int) < (ds[ii].cons.length:Int):=by omega
     have hkk0:(0:Int)≤ (k:Int):=by omega
     have HK:=Aa hka;obtain⟨aa,ac,rfl⟩:=hka.form;clear hka;go_wp2_with fail;generalize hww:Wa _ _=wu;obtain⟨bu, -⟩:=Bx.alloc hww;clear hww d0 d1;have hs1:=bz.size;have hs2:=by_.size;replace k3:=k3.below bu k3.1;have bt:=BW.out.trans ((bz.trans (bu.mono hs1)).mono BW.out.size);refine(Ku (.pointer (some ⟨w.heap.size,0,none⟩)) (fun y=>!As q y) ds[ii].cons[k].args _ _ wu (HK.out.later bu (At hs2 hs1)) (SAi.out k hlk) (fun j hj kv W hb hk=>Pg gl w.heap.size (!As q ds[ii].cons[k].args[j]) ds[ii].cons[k].args[j] kv W ((k3.below hb k3.1).2.1 0) (k3.below hb k3.1).1 (fun W' hb'=>HOi.out k hlk j hj kv _ W' ((bt.trans (hb.mono bt.size)).trans (hb'.mono (At bt.size hb.size))) (hk.later hb' hb.size)))).mono ?_;rintro e w4 ⟨rfl,b4⟩;have b5:=bu.trans (b4.mono bu.size);cases ha:ds[ii].cons[k].args.all (As q)with
     |true=>
      have ha':=Aa ha;have hany:(ds[ii].cons[k].args.any fun y=>!As q y)=false:=by rw[←FA,DV];simpa using ha
      rw[hany];clear ha hany;replace bz:=bz.trans (b5.mono hs1);go_wp2;go_roundw
      case rel=>exact⟨k+1,hlk,by go_num,bz,Aa (fun j h hj=>by
       by_cases e:j=k
       ·subst e;exact ha'.out
       ·exact hdk.out j h (by omega))⟩
      case measure=>simp[intOf];omega
     |false=>
      have ha':=Aa (HNi.out k hlk ha);have hany:(ds[ii].cons[k].args.any fun y=>!As q y)=true:=by rw[←FA,DV];simpa using ha
      rw[hany];clear ha hany;replace bt:=bt.trans (b4.mono bt.size);go_wp2;go_ret;exact⟨Ac (by rw[ha'.out];rfl),bt⟩
    ·obtain rfl:k=ds[ii].cons.length:=by omega
     have bt:=BW.out.trans (bz.mono BW.out.size);go_wp2;go_roundw
     case rel=>exact⟨ii+1,hlt,by go_num,bt,k3,Aa (fun j h hj=>by
      by_cases e:j=ii
      ·subst e;exact fun l hl=>hdk.out l hl hl
      ·exact hd.out j h (by omega))⟩
     case measure=>simp[intOf];omega
  ·obtain rfl:ii=ds.length:=by omega
   have he:=Aa (HY.out fun j h=>hd.out j h h);go_wp2;go_ret;exact⟨Ac (by rw[he.out];rfl),bb⟩
theorem Pi (gl g:Nat) (r:Bool) (x:Tp) (kv:Value) (w:World) (hg:w.cell? ⟨g,0,none⟩=some (.func (.func 101) #[] #[.pointer (some ⟨gl,0,none⟩)])) (hlt:g < w.heap.size)
  (HF:∀W,Below w.heap.size w W→Calls Pq 165 #[tpV x kv,(.func (.func 101) #[] #[.pointer (some ⟨gl,0,none⟩)])] W fun e w'=>e= .returned (.bool r)∧Below W.heap.size W w'):
  Calls Pq 212 #[tpV x kv,.pointer (some ⟨g,0,none⟩)] w fun e w'=>e= .returned (.bool r)∧Below w.heap.size w w':=by
 unfold tpV at HF ⊢;have HF:=Aa HF;generalize x.op=xop at*;generalize x.n=xn at*;generalize x.s=xs at*;go_enter Tryz.func212,Tryz.ntmps212;have hg2:=(((Ab w.heap.size w).alloc (Ad _) (.cells #[.int .i64 xop,.int .i64 xn,.string xs,kv] 158)).cell (p:=⟨g,0,none⟩) hlt).trans hg;go_wp2_with fail;generalize hxx:Wa _ _=x0 at*;obtain⟨bb,k1⟩:=Bx.alloc hxx;clear hxx k1;refine(HF.out x0 bb).mono ?_;rintro e w2 ⟨rfl,b2⟩;replace bb:=bb.trans (b2.mono bb.size);go_wp2;go_ret;exact⟨rfl,bb⟩
theorem KC (gl:Nat) (pre q:Tp→Bool) (w0:World)
  (HF:∀ (x:Tp) (kv:Value) (B:Nat) (W:World),pre x=true→Below w0.heap.size w0 W→RdTps B W kv x.kids→Calls Pq 101 #[tpV x kv,.pointer (some ⟨gl,0,none⟩)] W fun e w'=>e= .returned (.bool (!q x))∧Below W.heap.size W w'):
  ∀ (N:Nat) (x:Tp) (kv:Value) (B:Nat) (w:World),wgT x < N→wgT x≤1048576→As pre x=true→Below w0.heap.size w0 w→RdTps B w kv x.kids→
  Calls Pq 165 #[tpV x kv,(.func (.func 101) #[] #[.pointer (some ⟨gl,0,none⟩)])] w fun e w'=>e= .returned (.bool (!As q x))∧Below w.heap.size w w'
 |0,x,kv,B,w,hN,hl,hp,hw,hr=>by omega
 |N+1,x,kv,B,w,hN,hl,hp,hw,hr=>by
  have HR:=Aa (fun(W:World) (hb:Below w.heap.size w W)=>hr.later' hb);have hwg:=DM x;have hlen:=EJ x.kids;have hks:x.kids.length≤1048576:=by omega
  rw[EB,Cd,DW,BA]at hp;obtain⟨hp1,hp2⟩:=hp;have IH:=Aa (fun(j:Nat) (hj:j < x.kids.length) (kv:Value) (B:Nat) (W:World) (hb:Below w.heap.size w W) (h:RdTps B W kv x.kids[j].kids)=>(by
   have:=CJ (An hj);exact KC gl pre q w0 HF N x.kids[j] kv B W (by omega) (by omega) (hp2 _ (An hj)) (hw.trans (hb.mono hw.size)) h:Calls Pq 165 #[tpV x.kids[j] kv,(.func (.func 101) #[] #[.pointer (some ⟨gl,0,none⟩)])] W fun e w'=>e= .returned (.bool (!As q x.kids[j]))∧Below W.heap.size W w'))
  have HX:=Aa (fun(W:World) (hb:Below w.heap.size w W)=>HF x kv _ W hp1 (hw.trans (hb.mono hw.size)) (hr.later' hb));have HE:=Aa (EB q x);have HA:=Aa (show(x.kids.any fun y=>!As q y)=!As.allTys q x.kids by rw[DW,List.not_all_eq_any_not]);obtain⟨ka,kc,rfl⟩:=hr.form;clear hr HF hN hwg hlen hl hp1 hp2 hw;unfold tpV at HX ⊢;generalize x.op=xop at*;generalize x.n=xn at*;generalize x.s=xs at*;generalize q x=qx at*;generalize As q x=ax at*;generalize x.kids=ks at*;go_enter Tryz.func165,Tryz.ntmps165;go_wp2_with fail;generalize hyy:w.alloc _=x0;generalize hxx:x0.alloc _=x1;obtain⟨b1,k1⟩:=Bx.alloc hyy;obtain⟨b2,k2⟩:=Bx.alloc hxx;have e1:x0.heap.size=w.heap.size+1:=by rw[←hyy,Bo]
  rw[e1]at k2;replace k1:=k1.below b2 k1.1;have bb:=b1.trans (b2.mono b1.size);clear hxx hyy b1 b2 e1;refine(HX.out x1 bb).mono ?_;rintro e w3 ⟨rfl,b3⟩;replace k1:=k1.below b3 k1.1;replace k2:=k2.below b3 k2.1;replace bb:=bb.trans (b3.mono bb.size);clear b3;cases qx with
  |false=>
   go_wp2;go_ret;exact⟨Ac (by rw[HE.out];rfl),bb⟩
  |true=>
   have q1:=k1.2.1;have q2:=k2.2.1;go_wp2_with fail;clear q1 q2;refine(Kv (.pointer (some ⟨w.heap.size+1,0,none⟩)) (fun y=>!As q y) ks _ _ w3 (HR.out w3 bb) hks (fun j hj kv W hb hk=>Pi gl (w.heap.size+1) (!As q ks[j]) ks[j] kv W ((k2.below hb k2.1).2.1 0) (k2.below hb k2.1).1 (fun W' hb'=>IH.out j hj kv _ W' ((bb.trans (hb.mono bb.size)).trans (hb'.mono (At bb.size hb.size))) (hk.later hb' hb.size)))).mono ?_;rintro e w4 ⟨rfl,b4⟩;replace bb:=bb.trans (b4.mono bb.size);go_wp2;go_ret;exact⟨Ac (by rw[HE.out,HA.out];rfl),bb⟩
theorem Pj (gl g:Nat) (r:Bool) (x:Tp) (kv:Value) (w:World) (hg:w.cell? ⟨g,0,none⟩=some (.func (.func 101) #[] #[.pointer (some ⟨gl,0,none⟩)])) (hlt:g < w.heap.size)
  (HF:∀W,Below w.heap.size w W→Calls Pq 165 #[tpV x kv,(.func (.func 101) #[] #[.pointer (some ⟨gl,0,none⟩)])] W fun e w'=>e= .returned (.bool r)∧Below W.heap.size W w'):
  Calls Pq 164 #[tpV x kv,.pointer (some ⟨g,0,none⟩)] w fun e w'=>e= .returned (.bool r)∧Below w.heap.size w w':=by
 unfold tpV at HF ⊢;have HF:=Aa HF;generalize x.op=xop at*;generalize x.n=xn at*;generalize x.s=xs at*;go_enter Tryz.func164,Tryz.ntmps164;have hg2:=(((Ab w.heap.size w).alloc (Ad _) (.cells #[.int .i64 xop,.int .i64 xn,.string xs,kv] 158)).cell (p:=⟨g,0,none⟩) hlt).trans hg;go_wp2_with fail;generalize hxx:Wa _ _=x0 at*;obtain⟨bb,k1⟩:=Bx.alloc hxx;clear hxx k1;refine(HF.out x0 bb).mono ?_;rintro e w2 ⟨rfl,b2⟩;replace bb:=bb.trans (b2.mono bb.size);go_wp2;go_ret;exact⟨rfl,bb⟩
theorem Pk (gl:Nat) (pre q:Tp→Bool) (w0:World)
  (HF:∀ (x:Tp) (kv:Value) (B:Nat) (W:World),pre x=true→Below w0.heap.size w0 W→RdTps B W kv x.kids→Calls Pq 101 #[tpV x kv,.pointer (some ⟨gl,0,none⟩)] W fun e w'=>e= .returned (.bool (!q x))∧Below W.heap.size W w')
  (ds:List Dt) (dv:Value) (B:Nat) (w:World) (hr:RdDts B w dv ds) (hl:AN ds≤1048576) (hp:Bu pre ds=true) (hw:Below w0.heap.size w0 w):
  Calls Pq 98 #[dv,(.func (.func 101) #[] #[.pointer (some ⟨gl,0,none⟩)])] w fun e w'=>e= .returned (.bool (!Bu q ds))∧Below w.heap.size w w':=by
 have HR:=Aa (fun(W:World) (hb:Below w.heap.size w W)=>hr.later' hb);have hln:=Dn ds;have hds:ds.length≤1048576:=by omega
 have SZ:=Aa (EP hl);have SA:=Aa (He hl);have HO:=Aa (fun(i:Nat) (hi:i < ds.length) (k:Nat) (hk:k < ds[i].cons.length) (j:Nat) (hj:j < ds[i].cons[k].args.length) (kv:Value) (B:Nat) (W:World) (hb:Below w.heap.size w W) (h:RdTps B W kv ds[i].cons[k].args[j].kids)=>(by
  have:=Hf hl i hi k hk j hj;exact KC gl pre q w0 HF 1048577 _ kv B W (by omega) this (Ky hp i hi k hk j hj) (hw.trans (hb.mono hw.size)) h:Calls Pq 165 #[tpV ds[i].cons[k].args[j] kv,(.func (.func 101) #[] #[.pointer (some ⟨gl,0,none⟩)])] W fun e w'=>e= .returned (.bool (!As q ds[i].cons[k].args[j]))∧Below W.heap.size W w'))
 have HN:=Aa (@IX q ds);have HY:=Aa (@IY q ds);generalize Bu q ds=aq at*;obtain⟨ka,kc,rfl⟩:=hr.form;clear hr hln hl hp hw HF;go_enter Tryz.func98,Tryz.ntmps98;go_wp2_with fail;generalize hxx:Wa _ _=x0;obtain⟨bb,k1⟩:=Bx.alloc hxx;clear hxx;go_wp2
 go_loopw [11] (fun i wr=>∃k:Nat,k≤ds.length∧i= .int .i64 k∧Below w.heap.size w wr∧Bx wr w.heap.size #[(.func (.func 101) #[] #[.pointer (some ⟨gl,0,none⟩)])]∧Hid (∀j (h:j < ds.length),j < k→ ∀l (hl:l < ds[j].cons.length),(ds[j].cons[l].args.all (As q))=true)) (fun i _=>ds.length - (intOf i).toNat)
 case atStart=>exact⟨0,Ao _,rfl,bb,k1,Aa (fun j h hk=>absurd hk (Aw j))⟩
 case round=>
  clear bb k1;obtain⟨ii,hi,rfl,bb,k1,hd⟩:=hrel;by_cases hlt:ii < ds.length
  ·obtain⟨b,off,cap,cv,hv,hB,hbs,hcap,c0,c1,c2,hkr⟩:=(HR.out wr bb).at_ hlt;cases hv
   have hki:(ii:Int) < (ds.length:Int):=by omega
   have hk0:(0:Int)≤ (ii:Int):=by omega
   have hsz:=SZ.out ii hlt;have SAi:=Aa (SA.out ii hlt);have HOi:=Aa (HO.out ii hlt);have HNi:=Aa (HN.out ii hlt);have HC:=Aa (fun(W:World) (hb:Below wr.heap.size wr W)=>hkr.later' hb);obtain⟨ca,cc,rfl⟩:=hkr.form;generalize ds[ii].name=dn at*;generalize ds[ii].vars=dvs at*;clear hkr;go_wp2_with fail;generalize hyy:Wa _ _=wy;obtain⟨by_, -⟩:=Bx.alloc hyy;clear hyy c0 c1 c2;have hs0:=bb.size;replace k1:=k1.below by_ k1.1;have BW:=Aa (bb.trans (by_.mono hs0))
   go_loopw [18] (fun i wr=>∃k:Nat,k≤ds[ii].cons.length∧i= .int .i64 k∧Below wy.heap.size wy wr∧Hid (∀l (hl:l < ds[ii].cons.length),l < k→ds[ii].cons[l].args.all (As q)=true)) (fun i _=>ds[ii].cons.length - (intOf i).toNat)
   case atStart=>exact⟨0,Ao _,rfl,Ab _ _,Aa (fun j h hk=>absurd hk (Aw j))⟩
   case round=>
    obtain⟨k,hk,rfl,bz,hdk⟩:=hrel;have k3:=k1.below bz k1.1;by_cases hlk:k < ds[ii].cons.length
    ·obtain⟨b',off',cap',av,hv',hB',hbs',hcap',d0,d1,hka⟩:=(HC.out wr (by_.trans (bz.mono by_.size))).at_ hlk;cases hv'
     have hkk:(k:Int) < (ds[ii].cons.length:Int):=by omega
     have hkk0:(0:Int)≤ (k:Int):=by omega
     have HK:=Aa hka;obtain⟨aa,ac,rfl⟩:=hka.form;clear hka;go_wp2_with fail;generalize hww:Wa _ _=wu;obtain⟨bu, -⟩:=Bx.alloc hww;clear hww d0 d1;have hs1:=bz.size;have hs2:=by_.size;replace k3:=k3.below bu k3.1;have bt:=BW.out.trans ((bz.trans (bu.mono hs1)).mono BW.out.size);refine(Ku (.pointer (some ⟨w.heap.size,0,none⟩)) (fun y=>!As q y) ds[ii].cons[k].args _ _ wu (HK.out.later bu (At hs2 hs1)) (SAi.out k hlk) (fun j hj kv W hb hk=>Pj gl w.heap.size (!As q ds[ii].cons[k].args[j]) ds[ii].cons[k].args[j] kv W ((k3.below hb k3.1).2.1 0) (k3.below hb k3.1).1 (fun W' hb'=>HOi.out k hlk j hj kv _ W' ((bt.trans (hb.mono bt.size)).trans (hb'.mono (At bt.size hb.size))) (hk.later hb' hb.size)))).mono ?_;rintro e w4 ⟨rfl,b4⟩;have b5:=bu.trans (b4.mono bu.size);cases ha:ds[ii].cons[k].args.all (As q)with
     |true=>
      have ha':=Aa ha;have hany:(ds[ii].cons[k].args.any fun y=>!As q y)=false:=by rw[←FA,DV];simpa using ha
      rw[hany];clear ha hany;replace bz:=bz.trans (b5.mono hs1);go_wp2;go_roundw
      case rel=>exact⟨k+1,hlk,by go_num,bz,Aa (fun j h hj=>by
       by_cases e:j=k
       ·subst e;exact ha'.out
       ·exact hdk.out j h (by omega))⟩
      case measure=>simp[intOf];omega
     |false=>
      have ha':=Aa (HNi.out k hlk ha);have hany:(ds[ii].cons[k].args.any fun y=>!As q y)=true:=by rw[←FA,DV];simpa using ha
      rw[hany];clear ha hany;replace bt:=bt.trans (b4.mono bt.size);go_wp2;go_ret;exact⟨Ac (by rw[ha'.out];rfl),bt⟩
    ·obtain rfl:k=ds[ii].cons.length:=by omega
     have bt:=BW.out.trans (bz.mono BW.out.size);go_wp2;go_roundw
     case rel=>exact⟨ii+1,hlt,by go_num,bt,k3,Aa (fun j h hj=>by
      by_cases e:j=ii
      ·subst e;exact fun l hl=>hdk.out l hl hl
      ·exact hd.out j h (by omega))⟩
     case measure=>simp[intOf];omega
  ·obtain rfl:ii=ds.length:=by omega
   have he:=Aa (HY.out fun j h=>hd.out j h h);go_wp2;go_ret;exact⟨Ac (by rw[he.out];rfl),bb⟩
def cnT (vars:Int) (c:Cn):Bool:=Bg c.name&& c.args.all (AW vars)
def dtT (d:Dt):Bool:=Bg d.name&& (inB d.vars 0 26&& (decide (d.cons.length≠0)&& d.cons.all (cnT d.vars)))
def dpT (ds:List Dt):Bool:=ds.all fun d=>d.cons.all fun c=>c.args.all fun t=>decide (AE t≤24)
theorem UQ (ds:List Dt) (x:Nd):BG ds x= ((dpT ds&& decide (Bf x≤24))&& (Aj x&& ds.all dtT)):=by
 have h:ds.all dtP= (dpT ds&& ds.all dtT):=by
  unfold dpT;induction ds with
  |nil=>rfl
  |cons d ds ih=>
   simp only[List.all_cons];rw[ih];have hd:dtP d= ((d.cons.all fun c=>c.args.all fun t=>decide (AE t≤24))&& dtT d):=by
    have hc:d.cons.all (cnP d.vars)= ((d.cons.all fun c=>c.args.all fun t=>decide (AE t≤24))&& d.cons.all (cnT d.vars)):=by
     generalize d.vars=v;induction d.cons with
     |nil=>rfl
     |cons c cs ihc=>
      simp only[List.all_cons];rw[ihc];have ha:c.args.all (fun t=>decide (AE t≤24)&& AW v t)= ((c.args.all fun t=>decide (AE t≤24))&& c.args.all (AW v)):=by
       induction c.args with
       |nil=>rfl
       |cons t ts iht=>
        simp only[List.all_cons];rw[iht];cases decide (AE t≤24) <;> cases AW v t <;> simp
      unfold cnP cnT;rw[ha];cases Bg c.name <;> cases (c.args.all fun t=>decide (AE t≤24)) <;> cases c.args.all (AW v) <;> simp
    unfold dtP dtT;rw[hc];cases Bg d.name <;> cases inB d.vars 0 26 <;> cases decide (d.cons.length≠0) <;> simp
   rw[hd];cases (d.cons.all fun c=>c.args.all fun t=>decide (AE t≤24)) <;> cases dtT d <;> simp
 unfold BG;rw[h];cases dpT ds <;> cases ds.all dtT <;> cases decide (Bf x≤24) <;> cases Aj x <;> rfl
theorem UR (vars:Int) (g:Nat) (r:Bool) (x:Tp) (kv:Value) (w:World) (hg:w.cell? ⟨g,1,none⟩=some (.int .i64 vars)) (hlt:g < w.heap.size)
  (HF:∀W,Below w.heap.size w W→Calls Pq 162 #[tpV x kv,.int .i64 vars] W fun e w'=>e= .returned (.bool r)∧Below W.heap.size W w'):
  Calls Pq 161 #[tpV x kv,.pointer (some ⟨g,0,none⟩)] w fun e w'=>e= .returned (.bool (!r))∧Below w.heap.size w w':=by
 unfold tpV at HF ⊢;have HF:=Aa HF;generalize x.op=xop at*;generalize x.n=xn at*;generalize x.s=xs at*;go_enter Tryz.func161,Tryz.ntmps161;have hg2:=(((Ab w.heap.size w).alloc (Ad _) (.cells #[.int .i64 xop,.int .i64 xn,.string xs,kv] 158)).cell (p:=⟨g,1,none⟩) hlt).trans hg;go_wp2_with fail;generalize hxx:Wa _ _=x0 at*;obtain⟨bb,k1⟩:=Bx.alloc hxx;clear hxx k1;refine(HF.out x0 bb).mono ?_;rintro e w2 ⟨rfl,b2⟩;replace bb:=bb.trans (b2.mono bb.size);go_wp2;go_ret;exact⟨rfl,bb⟩
theorem US {cs:List Cn}{v:Int}{k:Nat}(hk:k < cs.length) (h:cnT v cs[k]=false):cs.all (cnT v)=false:=DN hk h
theorem UT (d:Dt) (cv:Value) (B:Nat) (w:World) (hl:wgD d≤1048576) (hr:RdCns B w cv d.cons) (hv:-9223372036854775808≤d.vars∧d.vars≤9223372036854775807):
  Calls Pq 96 #[dtV d cv] w fun e w'=>e= .returned (.bool (dtT d))∧Below w.heap.size w w':=by
 have HR:=Aa (fun(W:World) (hb:Below w.heap.size w W)=>hr.later' hb);have hE:dtT d= (Bg d.name&& (inB d.vars 0 26&& (decide (d.cons.length≠0)&& d.cons.all (cnT d.vars)))):=rfl;have HE:=Aa hE;unfold wgD at hl;have hcl:=E9 d.cons;have hcs:d.cons.length≤1048576:=by omega
 have hns:d.name.size≤1048576:=by omega
 have SZ:=Aa (fun(k:Nat) (hk:k < d.cons.length)=>(by
  have h2:=Eb (An hk);have h3:=EJ d.cons[k].args;unfold wgC at h2;exact⟨by omega,by omega⟩:d.cons[k].name.size≤1048576∧d.cons[k].args.length≤1048576))
 have TT:=Aa (fun(hin:inB d.vars 0 26=true) (k:Nat) (hk:k < d.cons.length) (j:Nat) (hj:j < d.cons[k].args.length) (kv:Value) (B:Nat) (W:World) (h:RdTps B W kv d.cons[k].args[j].kids)=>(by
  have h2:=Eb (An hk);have h3:=CJ (An hj);unfold wgC at h2;exact NM d.vars (by unfold inB at hin;simp at hin;omega) 1048577 _ kv B W (by omega) (by omega) h:Calls Pq 162 #[tpV d.cons[k].args[j] kv,.int .i64 d.vars] W fun e w'=>e= .returned (.bool (AW d.vars d.cons[k].args[j]))∧Below W.heap.size W w'))
 obtain⟨ca,cc,rfl⟩:=hr.form;unfold dtV;clear hr hE hl hcl hv;generalize dtT d=dd at*;obtain⟨dn,dvs,dcs⟩:=d;dsimp only at*;go_enter Tryz.func96,Tryz.ntmps96;go_wp2_with fail;generalize hxx:Wa _ _=x0;obtain⟨bb,k1⟩:=Bx.alloc hxx;clear hxx;refine(GC dn x0 hns).mono ?_;rintro e w2 ⟨rfl,rfl⟩;have q1:=k1.2.1;cases hcn:Bg dn with
 |false=>
  have hcn:=Aa hcn;go_wp2;go_ret;exact⟨Ac (by rw[HE.out,hcn.out];rfl),bb⟩
 |true=>
 have hcn:=Aa hcn;have hI:=fun(W:World)=>A8 dvs 0 26 W;cases hvb:inB dvs 0 26 with
 |false=>
  rw[hvb]at hI;have hvb:=Aa hvb;go_wp2_with fail;refine(hI _).mono ?_;rintro e w3 ⟨rfl,rfl⟩;go_wp2;go_ret;exact⟨Ac (by rw[HE.out,hvb.out];simp),bb⟩
 |true=>
 rw[hvb]at hI;have hvb:=Aa hvb;have TT:=Aa (TT.out hvb.out);by_cases hl0:dcs.length=0
 ·have k0b:((dcs.length:Int)==0)=true:=by rw[Cc];exact Ax hl0
  have hl0:=Aa hl0;go_wp2_with fail;refine(hI _).mono ?_;rintro e w3 ⟨rfl,rfl⟩;go_wp2;go_ret;exact⟨Ac (by rw[HE.out];simp[hl0.out]),bb⟩
 have k0b:((dcs.length:Int)==0)=false:=by rw[Cc];exact AF hl0
 have HE:Hid (dcs.all (cnT dvs)=dd):=Aa (by rw[HE.out,hcn.out,hvb.out];simp[hl0]);have hl0:=Aa hl0;go_wp2_with fail;refine(hI _).mono ?_;rintro e w3 ⟨rfl,rfl⟩;go_wp2_with fail
 go_loopw [24] (fun v wz=>∃k:Nat,k≤dcs.length∧v= .int .i64 k∧Below w.heap.size w wz∧Bx wz w.heap.size #[.string dn,.int .i64 dvs,.slice ca dcs.length cc]∧Hid (∀l (hl:l < dcs.length),l < k→cnT dvs dcs[l]=true)) (fun v _=>dcs.length - (intOf v).toNat)
 case atStart=>exact⟨0,Ao _,rfl,bb,k1,Aa (fun j h hk=>absurd hk (Aw j))⟩
 case round=>
  clear q1 bb k1;obtain⟨k,hk,rfl,bb,k1,hdk⟩:=hrel;by_cases hlk:k < dcs.length
  ·obtain⟨b',off',cap',av,hv',hB',hbs',hcap',d0,d1,hka⟩:=(HR.out wr bb).at_ hlk;cases hv'
   have hkk:(k:Int) < (dcs.length:Int):=by omega
   have hkk0:(0:Int)≤ (k:Int):=by omega
   obtain⟨zc1,zc2⟩:=SZ.out k hlk;have HA:=Aa (fun(W:World) (hb:Below wr.heap.size wr W)=>hka.later' hb);have TTk:=Aa (TT.out k hlk);have HB:=Aa (fun(h:cnT dvs dcs[k]=false)=>HE.out.symm.trans (US hlk h));have HDK:=Aa (fun(hy:cnT dvs dcs[k]=true)=>(fun l h hj=>(by
    by_cases e:l=k
    ·subst e;exact hy
    ·exact hdk.out l h (by omega)):∀l (h:l < dcs.length),l < k+1→cnT dvs dcs[l]=true))
   have HQ:=Aa (show cnT dvs dcs[k]= (Bg dcs[k].name&& dcs[k].args.all (AW dvs))from rfl);obtain⟨aa,ac,rfl⟩:=hka.form;clear hka;generalize cnT dvs dcs[k]=cq at*;generalize dcs[k]=c at*;go_wp2_with fail;generalize hyy:Wa _ _=wy;obtain⟨by_,k2⟩:=Bx.alloc hyy;clear hyy d0 d1;have hs0:=bb.size;replace k1:=k1.below by_ k1.1;replace bb:=bb.trans (by_.mono hs0);refine(GC c.name wy zc1).mono ?_;rintro e w4 ⟨rfl,rfl⟩;cases hcc:Bg c.name with
   |false=>
    have hcc:=Aa hcc;go_wp2;go_ret;exact⟨Ac (HB.out (by rw[HQ.out,hcc.out];rfl)).symm,bb⟩
   |true=>
    have hcc:=Aa hcc;have q2:=k2.2.1;go_wp2_with fail;clear q2;refine(OY (.pointer (some ⟨w.heap.size,0,none⟩)) (fun y=>!AW dvs y) c.args _ _ _ (HA.out _ by_) zc2 (fun j hj kv W hb hk=>UR dvs w.heap.size (AW dvs c.args[j]) c.args[j] kv W ((k1.below hb k1.1).2.1 1) (k1.below hb k1.1).1 (fun W' hb'=>TTk.out j hj kv _ W' (hk.later hb' hb.size)))).mono ?_;rintro e w5 ⟨rfl,b5⟩;replace k1:=k1.below b5 k1.1;replace bb:=bb.trans (b5.mono bb.size);clear b5 by_ k2;cases ha:c.args.all (AW dvs)with
    |false=>
     have hy:=Aa (HB.out (by rw[HQ.out,ha];simp));rw[show(c.args.any fun y=>!AW dvs y)=true by rw[←FA,DV];simpa using ha];clear ha;go_wp2;go_ret;exact⟨Ac hy.out.symm,bb⟩
    |true=>
     have hy:=Aa (HDK.out (by rw[HQ.out,hcc.out,ha];rfl));rw[show(c.args.any fun y=>!AW dvs y)=false by rw[←FA,DV];simpa using ha];clear ha;go_wp2;go_roundw
     case rel=>exact⟨k+1,hlk,by go_num,bb,k1,hy⟩
     case measure=>simp[intOf];omega
  ·obtain rfl:k=dcs.length:=by omega
   have hy:=Aa (HE.out.symm.trans (Ea fun l hl=>hdk.out l hl hl));go_wp2;go_ret;exact⟨Ac hy.out.symm,bb⟩
end Go.Proofs.YtifhcbeaiijkcaaGreat
