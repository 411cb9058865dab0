/- Parts of the proof of FnFuel. -/
import Derived.Test.YtifhcbeaiijkcaaGreatZ08
import Derived.Test.YtifhcbeaiijkcaaGreatZ13
import Derived.Test.YtifhcbeaiijkcaaGreatZ09
import Derived.Test.YtifhcbeaiijkcaaGreatZ07
import Derived.Test.YtifhcbeaiijkcaaGreatZ05
import Derived.Test.YtifhcbeaiijkcaaGreatZ11
import Derived.Test.YtifhcbeaiijkcaaGreatZ12
set_option linter.unusedVariables false
set_option linter.unusedSimpArgs false
set_option maxRecDepth 1000000
set_option maxHeartbeats 16000000
section
namespace Go.Proofs.YtifhcbeaiijkcaaGreat
open Go.RowKit
open _root_.Go.World renaming alloc→Wa,setCell→Ws
open _root_.Go.Proofs.Tryz renaming prog→Pq
theorem EN {ds:List Dt}(hl:AR ds≤1048576) (i:Nat) (hi:i < ds.length):ds[i].cons.length≤1048576:=by
 have h1:=Dx (As hi);have h2:=Fa ds[i].cons;unfold wgD at h1;omega
theorem Ho {ds:List Dt}(hl:AR ds≤1048576) (i:Nat) (hi:i < ds.length) (k:Nat) (hk:k < ds[i].cons.length):ds[i].cons[k].args.length≤1048576:=by
 have h1:=Dx (As hi);have h2:=Eh (As hk);have h3:=DS ds[i].cons[k].args;unfold wgD at h1;unfold wgC at h2;omega
theorem Hp {ds:List Dt}(hl:AR ds≤1048576) (i:Nat) (hi:i < ds.length) (k:Nat) (hk:k < ds[i].cons.length) (j:Nat) (hj:j < ds[i].cons[k].args.length):wgT ds[i].cons[k].args[j]≤1048576:=by
 have h1:=Dx (As hi);have h2:=Eh (As hk);have h3:=CJ (As hj);unfold wgD at h1;unfold wgC at h2;omega
theorem Lg {q:Tp→Bool}{ds:List Dt}(h:Bo q ds=true) (i:Nat) (hi:i < ds.length) (k:Nat) (hk:k < ds[i].cons.length) (j:Nat) (hj:j < ds[i].cons[k].args.length):At q ds[i].cons[k].args[j]=true:=by
 unfold Bo at h;exact Be.1 (Be.1 (Be.1 h _ (As hi)) _ (As hk)) _ (As hj)
theorem Ja {q:Tp→Bool}{ds:List Dt}(i:Nat) (hi:i < ds.length) (k:Nat) (hk:k < ds[i].cons.length) (h:ds[i].cons[k].args.all (At q)=false):Bo q ds=false:=
 Dw (q:=fun d:Dt=>d.cons.all fun c=>c.args.all (At q)) hi (Dw (q:=fun c:Cn=>c.args.all (At q)) hk h)
theorem Jb {q:Tp→Bool}{ds:List Dt}(h:∀i (hi:i < ds.length) k (hk:k < ds[i].cons.length),ds[i].cons[k].args.all (At q)=true):Bo q ds=true:=
 DT (q:=fun d:Dt=>d.cons.all fun c=>c.args.all (At q)) fun i hi=>DT (q:=fun c:Cn=>c.args.all (At q)) fun k hk=>h i hi k hk
theorem PX (gl g:Nat) (r:Bool) (x:Tp) (kv:Value) (w:World) (hg:w.cell? ⟨g,0,none⟩=some (.func (.func 99) #[] #[.pointer (some ⟨gl,0,none⟩)])) (hlt:g < w.heap.size)
  (HF:∀W,Below w.heap.size w W→Calls Pq 165 #[tpV x kv,(.func (.func 99) #[] #[.pointer (some ⟨gl,0,none⟩)])] W fun e w'=>e= .returned (.bool r)∧Below W.heap.size W w'):
  Calls Pq 212 #[tpV x kv,.pointer (some ⟨g,0,none⟩)] w fun e w'=>e= .returned (.bool r)∧Below w.heap.size w w':=by
 unfold tpV at HF ⊢;have HF:=Aa HF;generalize x.op=xop at*;generalize x.n=xn at*;generalize x.s=xs at*;go_enter Tryz.func212,Tryz.ntmps212;have hg2:=(((Ac w.heap.size w).alloc (Ad _) (.cells #[.int .i64 xop,.int .i64 xn,.string xs,kv] 158)).cell (p:=⟨g,0,none⟩) hlt).trans hg;go_wp2_with fail;generalize hxx:Wa _ _=x0 at*;obtain⟨bb,k1⟩:=Bx.alloc hxx;clear hxx k1;refine(HF.out x0 bb).mono ?_;rintro e w2 ⟨rfl,b2⟩;replace bb:=bb.trans (b2.mono bb.size);go_wp2;go_ret;exact⟨rfl,bb⟩
theorem Lh (gl:Nat) (pre q:Tp→Bool) (w0:World)
  (HF:∀ (x:Tp) (kv:Value) (B:Nat) (W:World),pre x=true→Below w0.heap.size w0 W→RdTps B W kv x.kids→Calls Pq 99 #[tpV x kv,.pointer (some ⟨gl,0,none⟩)] W fun e w'=>e= .returned (.bool (!q x))∧Below W.heap.size W w'):
  ∀ (N:Nat) (x:Tp) (kv:Value) (B:Nat) (w:World),wgT x < N→wgT x≤1048576→At pre x=true→Below w0.heap.size w0 w→RdTps B w kv x.kids→
  Calls Pq 165 #[tpV x kv,(.func (.func 99) #[] #[.pointer (some ⟨gl,0,none⟩)])] w fun e w'=>e= .returned (.bool (!At q x))∧Below w.heap.size w w'
 |0,x,kv,B,w,hN,hl,hp,hw,hr=>by omega
 |N+1,x,kv,B,w,hN,hl,hp,hw,hr=>by
  have HR:=Aa (fun(W:World) (hb:Below w.heap.size w W)=>hr.later' hb);have hwg:=Eg x;have hlen:=DS x.kids;have hks:x.kids.length≤1048576:=by omega
  rw[Eu,AH,DH,Be]at hp;obtain⟨hp1,hp2⟩:=hp;have IH:=Aa (fun(j:Nat) (hj:j < x.kids.length) (kv:Value) (B:Nat) (W:World) (hb:Below w.heap.size w W) (h:RdTps B W kv x.kids[j].kids)=>(by
   have:=CJ (As hj);exact Lh gl pre q w0 HF N x.kids[j] kv B W (by omega) (by omega) (hp2 _ (As hj)) (hw.trans (hb.mono hw.size)) h:Calls Pq 165 #[tpV x.kids[j] kv,(.func (.func 99) #[] #[.pointer (some ⟨gl,0,none⟩)])] W fun e w'=>e= .returned (.bool (!At q x.kids[j]))∧Below W.heap.size W w'))
  have HX:=Aa (fun(W:World) (hb:Below w.heap.size w W)=>HF x kv _ W hp1 (hw.trans (hb.mono hw.size)) (hr.later' hb));have HE:=Aa (Eu q x);have HA:=Aa (show(x.kids.any fun y=>!At q y)=!At.allTys q x.kids by rw[DH,List.not_all_eq_any_not]);obtain⟨ka,kc,rfl⟩:=hr.form;clear hr HF hN hwg hlen hl hp1 hp2 hw;unfold tpV at HX ⊢;generalize x.op=xop at*;generalize x.n=xn at*;generalize x.s=xs at*;generalize q x=qx at*;generalize At q x=ax at*;generalize x.kids=ks at*;go_enter Tryz.func165,Tryz.ntmps165;go_wp2_with fail;generalize hyy:w.alloc _=x0;generalize hxx:x0.alloc _=x1;obtain⟨b1,k1⟩:=Bx.alloc hyy;obtain⟨b2,k2⟩:=Bx.alloc hxx;have e1:x0.heap.size=w.heap.size+1:=by rw[←hyy,BM]
  rw[e1]at k2;replace k1:=k1.below b2 k1.1;have bb:=b1.trans (b2.mono b1.size);clear hxx hyy b1 b2 e1;refine(HX.out x1 bb).mono ?_;rintro e w3 ⟨rfl,b3⟩;replace k1:=k1.below b3 k1.1;replace k2:=k2.below b3 k2.1;replace bb:=bb.trans (b3.mono bb.size);clear b3;cases qx with
  |false=>
   go_wp2;go_ret;exact⟨Ae (by rw[HE.out];rfl),bb⟩
  |true=>
   have q1:=k1.2.1;have q2:=k2.2.1;go_wp2_with fail;clear q1 q2;refine(Ld (.pointer (some ⟨w.heap.size+1,0,none⟩)) (fun y=>!At q y) ks _ _ w3 (HR.out w3 bb) hks (fun j hj kv W hb hk=>PX gl (w.heap.size+1) (!At q ks[j]) ks[j] kv W ((k2.below hb k2.1).2.1 0) (k2.below hb k2.1).1 (fun W' hb'=>IH.out j hj kv _ W' ((bb.trans (hb.mono bb.size)).trans (hb'.mono (Ar bb.size hb.size))) (hk.later hb' hb.size)))).mono ?_;rintro e w4 ⟨rfl,b4⟩;replace bb:=bb.trans (b4.mono bb.size);go_wp2;go_ret;exact⟨Ae (by rw[HE.out,HA.out];rfl),bb⟩
theorem PY (gl g:Nat) (r:Bool) (x:Tp) (kv:Value) (w:World) (hg:w.cell? ⟨g,0,none⟩=some (.func (.func 99) #[] #[.pointer (some ⟨gl,0,none⟩)])) (hlt:g < w.heap.size)
  (HF:∀W,Below w.heap.size w W→Calls Pq 165 #[tpV x kv,(.func (.func 99) #[] #[.pointer (some ⟨gl,0,none⟩)])] W fun e w'=>e= .returned (.bool r)∧Below W.heap.size W w'):
  Calls Pq 164 #[tpV x kv,.pointer (some ⟨g,0,none⟩)] w fun e w'=>e= .returned (.bool r)∧Below w.heap.size w w':=by
 unfold tpV at HF ⊢;have HF:=Aa HF;generalize x.op=xop at*;generalize x.n=xn at*;generalize x.s=xs at*;go_enter Tryz.func164,Tryz.ntmps164;have hg2:=(((Ac w.heap.size w).alloc (Ad _) (.cells #[.int .i64 xop,.int .i64 xn,.string xs,kv] 158)).cell (p:=⟨g,0,none⟩) hlt).trans hg;go_wp2_with fail;generalize hxx:Wa _ _=x0 at*;obtain⟨bb,k1⟩:=Bx.alloc hxx;clear hxx k1;refine(HF.out x0 bb).mono ?_;rintro e w2 ⟨rfl,b2⟩;replace bb:=bb.trans (b2.mono bb.size);go_wp2;go_ret;exact⟨rfl,bb⟩
theorem PZ (gl:Nat) (pre q:Tp→Bool) (w0:World)
  (HF:∀ (x:Tp) (kv:Value) (B:Nat) (W:World),pre x=true→Below w0.heap.size w0 W→RdTps B W kv x.kids→Calls Pq 99 #[tpV x kv,.pointer (some ⟨gl,0,none⟩)] W fun e w'=>e= .returned (.bool (!q x))∧Below W.heap.size W w')
  (ds:List Dt) (dv:Value) (B:Nat) (w:World) (hr:RdDts B w dv ds) (hl:AR ds≤1048576) (hp:Bo pre ds=true) (hw:Below w0.heap.size w0 w):
  Calls Pq 98 #[dv,(.func (.func 99) #[] #[.pointer (some ⟨gl,0,none⟩)])] w fun e w'=>e= .returned (.bool (!Bo q ds))∧Below w.heap.size w w':=by
 have HR:=Aa (fun(W:World) (hb:Below w.heap.size w W)=>hr.later' hb);have hln:=De ds;have hds:ds.length≤1048576:=by omega
 have SZ:=Aa (EN hl);have SA:=Aa (Ho hl);have HO:=Aa (fun(i:Nat) (hi:i < ds.length) (k:Nat) (hk:k < ds[i].cons.length) (j:Nat) (hj:j < ds[i].cons[k].args.length) (kv:Value) (B:Nat) (W:World) (hb:Below w.heap.size w W) (h:RdTps B W kv ds[i].cons[k].args[j].kids)=>(by
  have:=Hp hl i hi k hk j hj;exact Lh gl pre q w0 HF 1048577 _ kv B W (by omega) this (Lg hp i hi k hk j hj) (hw.trans (hb.mono hw.size)) h:Calls Pq 165 #[tpV ds[i].cons[k].args[j] kv,(.func (.func 99) #[] #[.pointer (some ⟨gl,0,none⟩)])] W fun e w'=>e= .returned (.bool (!At q ds[i].cons[k].args[j]))∧Below W.heap.size W w'))
 have HN:=Aa (@Ja q ds);have HY:=Aa (@Jb q ds);generalize Bo q ds=aq at*;obtain⟨ka,kc,rfl⟩:=hr.form;clear hr hln hl hp hw HF;go_enter Tryz.func98,Tryz.ntmps98;go_wp2_with fail;generalize hxx:Wa _ _=x0;obtain⟨bb,k1⟩:=Bx.alloc hxx;clear hxx;go_wp2
 go_loopw [11] (fun i wr=>∃k:Nat,k≤ds.length∧i= .int .i64 k∧Below w.heap.size w wr∧Bx wr w.heap.size #[(.func (.func 99) #[] #[.pointer (some ⟨gl,0,none⟩)])]∧Hid (∀j (h:j < ds.length),j < k→ ∀l (hl:l < ds[j].cons.length),(ds[j].cons[l].args.all (At q))=true)) (fun i _=>ds.length - (intOf i).toNat)
 case atStart=>exact⟨0,Av _,rfl,bb,k1,Aa (fun j h hk=>absurd hk (Ay j))⟩
 case round=>
  clear bb k1;obtain⟨ii,hi,rfl,bb,k1,hd⟩:=hrel;by_cases hlt:ii < ds.length
  ·obtain⟨b,off,cap,cv,hv,hB,hbs,hcap,c0,c1,c2,hkr⟩:=(HR.out wr bb).at_ hlt;cases hv
   have hki:(ii:Int) < (ds.length:Int):=by omega
   have hk0:(0:Int)≤ (ii:Int):=by omega
   have hsz:=SZ.out ii hlt;have SAi:=Aa (SA.out ii hlt);have HOi:=Aa (HO.out ii hlt);have HNi:=Aa (HN.out ii hlt);have HC:=Aa (fun(W:World) (hb:Below wr.heap.size wr W)=>hkr.later' hb);obtain⟨ca,cc,rfl⟩:=hkr.form;generalize ds[ii].name=dn at*;generalize ds[ii].vars=dvs at*;clear hkr;go_wp2_with fail;generalize hyy:Wa _ _=wy;obtain⟨by_, -⟩:=Bx.alloc hyy;clear hyy c0 c1 c2;have hs0:=bb.size;replace k1:=k1.below by_ k1.1;have BW:=Aa (bb.trans (by_.mono hs0))
   go_loopw [18] (fun i wr=>∃k:Nat,k≤ds[ii].cons.length∧i= .int .i64 k∧Below wy.heap.size wy wr∧Hid (∀l (hl:l < ds[ii].cons.length),l < k→ds[ii].cons[l].args.all (At q)=true)) (fun i _=>ds[ii].cons.length - (intOf i).toNat)
   case atStart=>exact⟨0,Av _,rfl,Ac _ _,Aa (fun j h hk=>absurd hk (Ay j))⟩
   case round=>
    obtain⟨k,hk,rfl,bz,hdk⟩:=hrel;have k3:=k1.below bz k1.1;by_cases hlk:k < ds[ii].cons.length
    ·obtain⟨b',off',cap',av,hv',hB',hbs',hcap',d0,d1,hka⟩:=(HC.out wr (by_.trans (bz.mono by_.size))).at_ hlk;cases hv'
     have hkk:(k:Int) < (ds[ii].cons.length:Int):=by omega
     have hkk0:(0:Int)≤ (k:Int):=by omega
     have HK:=Aa hka;obtain⟨aa,ac,rfl⟩:=hka.form;clear hka;go_wp2_with fail;generalize hww:Wa _ _=wu;obtain⟨bu, -⟩:=Bx.alloc hww;clear hww d0 d1;have hs1:=bz.size;have hs2:=by_.size;replace k3:=k3.below bu k3.1;have bt:=BW.out.trans ((bz.trans (bu.mono hs1)).mono BW.out.size);refine(Lc (.pointer (some ⟨w.heap.size,0,none⟩)) (fun y=>!At q y) ds[ii].cons[k].args _ _ wu (HK.out.later bu (Ar hs2 hs1)) (SAi.out k hlk) (fun j hj kv W hb hk=>PY gl w.heap.size (!At q ds[ii].cons[k].args[j]) ds[ii].cons[k].args[j] kv W ((k3.below hb k3.1).2.1 0) (k3.below hb k3.1).1 (fun W' hb'=>HOi.out k hlk j hj kv _ W' ((bt.trans (hb.mono bt.size)).trans (hb'.mono (Ar bt.size hb.size))) (hk.later hb' hb.size)))).mono ?_;rintro e w4 ⟨rfl,b4⟩;have b5:=bu.trans (b4.mono bu.size);cases ha:ds[ii].cons[k].args.all (At q)with
     |true=>
      have ha':=Aa ha;have hany:(ds[ii].cons[k].args.any fun y=>!At q y)=false:=by rw[←FN,DC];simpa using ha
      rw[hany];clear ha hany;replace bz:=bz.trans (b5.mono hs1);go_wp2;go_roundw
      case rel=>exact⟨k+1,hlk,by go_num,bz,Aa (fun j h hj=>by
       by_cases e:j=k
       ·subst e;exact ha'.out
       ·exact hdk.out j h (by omega))⟩
      case measure=>simp[intOf];omega
     |false=>
      have ha':=Aa (HNi.out k hlk ha);have hany:(ds[ii].cons[k].args.any fun y=>!At q y)=true:=by rw[←FN,DC];simpa using ha
      rw[hany];clear ha hany;replace bt:=bt.trans (b4.mono bt.size);go_wp2;go_ret;exact⟨Ae (by rw[ha'.out];rfl),bt⟩
    ·obtain rfl:k=ds[ii].cons.length:=by omega
     have bt:=BW.out.trans (bz.mono BW.out.size);go_wp2;go_roundw
     case rel=>exact⟨ii+1,hlt,by go_num,bt,k3,Aa (fun j h hj=>by
      by_cases e:j=ii
      ·subst e;exact fun l hl=>hdk.out l hl hl
      ·exact hd.out j h (by omega))⟩
     case measure=>simp[intOf];omega
  ·obtain rfl:ii=ds.length:=by omega
   have he:=Aa (HY.out fun j h=>hd.out j h h);go_wp2;go_ret;exact⟨Ae (by rw[he.out];rfl),bb⟩
theorem P0 (gl g:Nat) (r:Bool) (x:Tp) (kv:Value) (w:World) (hg:w.cell? ⟨g,0,none⟩=some (.func (.func 101) #[] #[.pointer (some ⟨gl,0,none⟩)])) (hlt:g < w.heap.size)
  (HF:∀W,Below w.heap.size w W→Calls Pq 165 #[tpV x kv,(.func (.func 101) #[] #[.pointer (some ⟨gl,0,none⟩)])] W fun e w'=>e= .returned (.bool r)∧Below W.heap.size W w'):
  Calls Pq 212 #[tpV x kv,.pointer (some ⟨g,0,none⟩)] w fun e w'=>e= .returned (.bool r)∧Below w.heap.size w w':=by
 unfold tpV at HF ⊢;have HF:=Aa HF;generalize x.op=xop at*;generalize x.n=xn at*;generalize x.s=xs at*;go_enter Tryz.func212,Tryz.ntmps212;have hg2:=(((Ac w.heap.size w).alloc (Ad _) (.cells #[.int .i64 xop,.int .i64 xn,.string xs,kv] 158)).cell (p:=⟨g,0,none⟩) hlt).trans hg;go_wp2_with fail;generalize hxx:Wa _ _=x0 at*;obtain⟨bb,k1⟩:=Bx.alloc hxx;clear hxx k1;refine(HF.out x0 bb).mono ?_;rintro e w2 ⟨rfl,b2⟩;replace bb:=bb.trans (b2.mono bb.size);go_wp2;go_ret;exact⟨rfl,bb⟩
theorem Li (gl:Nat) (pre q:Tp→Bool) (w0:World)
  (HF:∀ (x:Tp) (kv:Value) (B:Nat) (W:World),pre x=true→Below w0.heap.size w0 W→RdTps B W kv x.kids→Calls Pq 101 #[tpV x kv,.pointer (some ⟨gl,0,none⟩)] W fun e w'=>e= .returned (.bool (!q x))∧Below W.heap.size W w'):
  ∀ (N:Nat) (x:Tp) (kv:Value) (B:Nat) (w:World),wgT x < N→wgT x≤1048576→At pre x=true→Below w0.heap.size w0 w→RdTps B w kv x.kids→
  Calls Pq 165 #[tpV x kv,(.func (.func 101) #[] #[.pointer (some ⟨gl,0,none⟩)])] w fun e w'=>e= .returned (.bool (!At q x))∧Below w.heap.size w w'
 |0,x,kv,B,w,hN,hl,hp,hw,hr=>by omega
 |N+1,x,kv,B,w,hN,hl,hp,hw,hr=>by
  have HR:=Aa (fun(W:World) (hb:Below w.heap.size w W)=>hr.later' hb);have hwg:=Eg x;have hlen:=DS x.kids;have hks:x.kids.length≤1048576:=by omega
  rw[Eu,AH,DH,Be]at hp;obtain⟨hp1,hp2⟩:=hp;have IH:=Aa (fun(j:Nat) (hj:j < x.kids.length) (kv:Value) (B:Nat) (W:World) (hb:Below w.heap.size w W) (h:RdTps B W kv x.kids[j].kids)=>(by
   have:=CJ (As hj);exact Li gl pre q w0 HF N x.kids[j] kv B W (by omega) (by omega) (hp2 _ (As hj)) (hw.trans (hb.mono hw.size)) h:Calls Pq 165 #[tpV x.kids[j] kv,(.func (.func 101) #[] #[.pointer (some ⟨gl,0,none⟩)])] W fun e w'=>e= .returned (.bool (!At q x.kids[j]))∧Below W.heap.size W w'))
  have HX:=Aa (fun(W:World) (hb:Below w.heap.size w W)=>HF x kv _ W hp1 (hw.trans (hb.mono hw.size)) (hr.later' hb));have HE:=Aa (Eu q x);have HA:=Aa (show(x.kids.any fun y=>!At q y)=!At.allTys q x.kids by rw[DH,List.not_all_eq_any_not]);obtain⟨ka,kc,rfl⟩:=hr.form;clear hr HF hN hwg hlen hl hp1 hp2 hw;unfold tpV at HX ⊢;generalize x.op=xop at*;generalize x.n=xn at*;generalize x.s=xs at*;generalize q x=qx at*;generalize At q x=ax at*;generalize x.kids=ks at*;go_enter Tryz.func165,Tryz.ntmps165;go_wp2_with fail;generalize hyy:w.alloc _=x0;generalize hxx:x0.alloc _=x1;obtain⟨b1,k1⟩:=Bx.alloc hyy;obtain⟨b2,k2⟩:=Bx.alloc hxx;have e1:x0.heap.size=w.heap.size+1:=by rw[←hyy,BM]
  rw[e1]at k2;replace k1:=k1.below b2 k1.1;have bb:=b1.trans (b2.mono b1.size);clear hxx hyy b1 b2 e1;refine(HX.out x1 bb).mono ?_;rintro e w3 ⟨rfl,b3⟩;replace k1:=k1.below b3 k1.1;replace k2:=k2.below b3 k2.1;replace bb:=bb.trans (b3.mono bb.size);clear b3;cases qx with
  |false=>
   go_wp2;go_ret;exact⟨Ae (by rw[HE.out];rfl),bb⟩
  |true=>
   have q1:=k1.2.1;have q2:=k2.2.1;go_wp2_with fail;clear q1 q2;refine(Ld (.pointer (some ⟨w.heap.size+1,0,none⟩)) (fun y=>!At q y) ks _ _ w3 (HR.out w3 bb) hks (fun j hj kv W hb hk=>P0 gl (w.heap.size+1) (!At q ks[j]) ks[j] kv W ((k2.below hb k2.1).2.1 0) (k2.below hb k2.1).1 (fun W' hb'=>IH.out j hj kv _ W' ((bb.trans (hb.mono bb.size)).trans (hb'.mono (Ar bb.size hb.size))) (hk.later hb' hb.size)))).mono ?_;rintro e w4 ⟨rfl,b4⟩;replace bb:=bb.trans (b4.mono bb.size);go_wp2;go_ret;exact⟨Ae (by rw[HE.out,HA.out];rfl),bb⟩
theorem P2 (gl g:Nat) (r:Bool) (x:Tp) (kv:Value) (w:World) (hg:w.cell? ⟨g,0,none⟩=some (.func (.func 101) #[] #[.pointer (some ⟨gl,0,none⟩)])) (hlt:g < w.heap.size)
  (HF:∀W,Below w.heap.size w W→Calls Pq 165 #[tpV x kv,(.func (.func 101) #[] #[.pointer (some ⟨gl,0,none⟩)])] W fun e w'=>e= .returned (.bool r)∧Below W.heap.size W w'):
  Calls Pq 164 #[tpV x kv,.pointer (some ⟨g,0,none⟩)] w fun e w'=>e= .returned (.bool r)∧Below w.heap.size w w':=by
 unfold tpV at HF ⊢;have HF:=Aa HF;generalize x.op=xop at*;generalize x.n=xn at*;generalize x.s=xs at*;go_enter Tryz.func164,Tryz.ntmps164;have hg2:=(((Ac w.heap.size w).alloc (Ad _) (.cells #[.int .i64 xop,.int .i64 xn,.string xs,kv] 158)).cell (p:=⟨g,0,none⟩) hlt).trans hg;go_wp2_with fail;generalize hxx:Wa _ _=x0 at*;obtain⟨bb,k1⟩:=Bx.alloc hxx;clear hxx k1;refine(HF.out x0 bb).mono ?_;rintro e w2 ⟨rfl,b2⟩;replace bb:=bb.trans (b2.mono bb.size);go_wp2;go_ret;exact⟨rfl,bb⟩
theorem P3 (gl:Nat) (pre q:Tp→Bool) (w0:World)
  (HF:∀ (x:Tp) (kv:Value) (B:Nat) (W:World),pre x=true→Below w0.heap.size w0 W→RdTps B W kv x.kids→Calls Pq 101 #[tpV x kv,.pointer (some ⟨gl,0,none⟩)] W fun e w'=>e= .returned (.bool (!q x))∧Below W.heap.size W w')
  (ds:List Dt) (dv:Value) (B:Nat) (w:World) (hr:RdDts B w dv ds) (hl:AR ds≤1048576) (hp:Bo pre ds=true) (hw:Below w0.heap.size w0 w):
  Calls Pq 98 #[dv,(.func (.func 101) #[] #[.pointer (some ⟨gl,0,none⟩)])] w fun e w'=>e= .returned (.bool (!Bo q ds))∧Below w.heap.size w w':=by
 have HR:=Aa (fun(W:World) (hb:Below w.heap.size w W)=>hr.later' hb);have hln:=De ds;have hds:ds.length≤1048576:=by omega
 have SZ:=Aa (EN hl);have SA:=Aa (Ho hl);have HO:=Aa (fun(i:Nat) (hi:i < ds.length) (k:Nat) (hk:k < ds[i].cons.length) (j:Nat) (hj:j < ds[i].cons[k].args.length) (kv:Value) (B:Nat) (W:World) (hb:Below w.heap.size w W) (h:RdTps B W kv ds[i].cons[k].args[j].kids)=>(by
  have:=Hp hl i hi k hk j hj;exact Li gl pre q w0 HF 1048577 _ kv B W (by omega) this (Lg hp i hi k hk j hj) (hw.trans (hb.mono hw.size)) h:Calls Pq 165 #[tpV ds[i].cons[k].args[j] kv,(.func (.func 101) #[] #[.pointer (some ⟨gl,0,none⟩)])] W fun e w'=>e= .returned (.bool (!At q ds[i].cons[k].args[j]))∧Below W.heap.size W w'))
 have HN:=Aa (@Ja q ds);have HY:=Aa (@Jb q ds);generalize Bo q ds=aq at*;obtain⟨ka,kc,rfl⟩:=hr.form;clear hr hln hl hp hw HF;go_enter Tryz.func98,Tryz.ntmps98;go_wp2_with fail;generalize hxx:Wa _ _=x0;obtain⟨bb,k1⟩:=Bx.alloc hxx;clear hxx;go_wp2
 go_loopw [11] (fun i wr=>∃k:Nat,k≤ds.length∧i= .int .i64 k∧Below w.heap.size w wr∧Bx wr w.heap.size #[(.func (.func 101) #[] #[.pointer (some ⟨gl,0,none⟩)])]∧Hid (∀j (h:j < ds.length),j < k→ ∀l (hl:l < ds[j].cons.length),(ds[j].cons[l].args.all (At q))=true)) (fun i _=>ds.length - (intOf i).toNat)
 case atStart=>exact⟨0,Av _,rfl,bb,k1,Aa (fun j h hk=>absurd hk (Ay j))⟩
 case round=>
  clear bb k1;obtain⟨ii,hi,rfl,bb,k1,hd⟩:=hrel;by_cases hlt:ii < ds.length
  ·obtain⟨b,off,cap,cv,hv,hB,hbs,hcap,c0,c1,c2,hkr⟩:=(HR.out wr bb).at_ hlt;cases hv
   have hki:(ii:Int) < (ds.length:Int):=by omega
   have hk0:(0:Int)≤ (ii:Int):=by omega
   have hsz:=SZ.out ii hlt;have SAi:=Aa (SA.out ii hlt);have HOi:=Aa (HO.out ii hlt);have HNi:=Aa (HN.out ii hlt);have HC:=Aa (fun(W:World) (hb:Below wr.heap.size wr W)=>hkr.later' hb);obtain⟨ca,cc,rfl⟩:=hkr.form;generalize ds[ii].name=dn at*;generalize ds[ii].vars=dvs at*;clear hkr;go_wp2_with fail;generalize hyy:Wa _ _=wy;obtain⟨by_, -⟩:=Bx.alloc hyy;clear hyy c0 c1 c2;have hs0:=bb.size;replace k1:=k1.below by_ k1.1;have BW:=Aa (bb.trans (by_.mono hs0))
   go_loopw [18] (fun i wr=>∃k:Nat,k≤ds[ii].cons.length∧i= .int .i64 k∧Below wy.heap.size wy wr∧Hid (∀l (hl:l < ds[ii].cons.length),l < k→ds[ii].cons[l].args.all (At q)=true)) (fun i _=>ds[ii].cons.length - (intOf i).toNat)
   case atStart=>exact⟨0,Av _,rfl,Ac _ _,Aa (fun j h hk=>absurd hk (Ay j))⟩
   case round=>
    obtain⟨k,hk,rfl,bz,hdk⟩:=hrel;have k3:=k1.below bz k1.1;by_cases hlk:k < ds[ii].cons.length
    ·obtain⟨b',off',cap',av,hv',hB',hbs',hcap',d0,d1,hka⟩:=(HC.out wr (by_.trans (bz.mono by_.size))).at_ hlk;cases hv'
     have hkk:(k:Int) < (ds[ii].cons.length:Int):=by omega
     have hkk0:(0:Int)≤ (k:Int):=by omega
     have HK:=Aa hka;obtain⟨aa,ac,rfl⟩:=hka.form;clear hka;go_wp2_with fail;generalize hww:Wa _ _=wu;obtain⟨bu, -⟩:=Bx.alloc hww;clear hww d0 d1;have hs1:=bz.size;have hs2:=by_.size;replace k3:=k3.below bu k3.1;have bt:=BW.out.trans ((bz.trans (bu.mono hs1)).mono BW.out.size);refine(Lc (.pointer (some ⟨w.heap.size,0,none⟩)) (fun y=>!At q y) ds[ii].cons[k].args _ _ wu (HK.out.later bu (Ar hs2 hs1)) (SAi.out k hlk) (fun j hj kv W hb hk=>P2 gl w.heap.size (!At q ds[ii].cons[k].args[j]) ds[ii].cons[k].args[j] kv W ((k3.below hb k3.1).2.1 0) (k3.below hb k3.1).1 (fun W' hb'=>HOi.out k hlk j hj kv _ W' ((bt.trans (hb.mono bt.size)).trans (hb'.mono (Ar bt.size hb.size))) (hk.later hb' hb.size)))).mono ?_;rintro e w4 ⟨rfl,b4⟩;have b5:=bu.trans (b4.mono bu.size);cases ha:ds[ii].cons[k].args.all (At q)with
     |true=>
      have ha':=Aa ha;have hany:(ds[ii].cons[k].args.any fun y=>!At q y)=false:=by rw[←FN,DC];simpa using ha
      rw[hany];clear ha hany;replace bz:=bz.trans (b5.mono hs1);go_wp2;go_roundw
      case rel=>exact⟨k+1,hlk,by go_num,bz,Aa (fun j h hj=>by
       by_cases e:j=k
       ·subst e;exact ha'.out
       ·exact hdk.out j h (by omega))⟩
      case measure=>simp[intOf];omega
     |false=>
      have ha':=Aa (HNi.out k hlk ha);have hany:(ds[ii].cons[k].args.any fun y=>!At q y)=true:=by rw[←FN,DC];simpa using ha
      rw[hany];clear ha hany;replace bt:=bt.trans (b4.mono bt.size);go_wp2;go_ret;exact⟨Ae (by rw[ha'.out];rfl),bt⟩
    ·obtain rfl:k=ds[ii].cons.length:=by omega
     have bt:=BW.out.trans (bz.mono BW.out.size);go_wp2;go_roundw
     case rel=>exact⟨ii+1,hlt,by go_num,bt,k3,Aa (fun j h hj=>by
      by_cases e:j=ii
      ·subst e;exact fun l hl=>hdk.out l hl hl
      ·exact hd.out j h (by omega))⟩
     case measure=>simp[intOf];omega
  ·obtain rfl:ii=ds.length:=by omega
   have he:=Aa (HY.out fun j h=>hd.out j h h);go_wp2;go_ret;exact⟨Ae (by rw[he.out];rfl),bb⟩
def cnT (vars:Int) (c:Cn):Bool:=Bb c.name&& c.args.all (AW vars)
def dtT (d:Dt):Bool:=Bb d.name&& (inB d.vars 0 26&& (decide (d.cons.length≠0)&& d.cons.all (cnT d.vars)))
def dpT (ds:List Dt):Bool:=ds.all fun d=>d.cons.all fun c=>c.args.all fun t=>decide (AC t≤24)
theorem VZ (ds:List Dt) (x:Nd):By ds x= ((dpT ds&& decide (Ba x≤24))&& (Ao x&& ds.all dtT)):=by
 have h:ds.all dtP= (dpT ds&& ds.all dtT):=by
  unfold dpT;induction ds with
  |nil=>rfl
  |cons d ds ih=>
   simp only[List.all_cons];rw[ih];have hd:dtP d= ((d.cons.all fun c=>c.args.all fun t=>decide (AC t≤24))&& dtT d):=by
    have hc:d.cons.all (cnP d.vars)= ((d.cons.all fun c=>c.args.all fun t=>decide (AC t≤24))&& d.cons.all (cnT d.vars)):=by
     generalize d.vars=v;induction d.cons with
     |nil=>rfl
     |cons c cs ihc=>
      simp only[List.all_cons];rw[ihc];have ha:c.args.all (fun t=>decide (AC t≤24)&& AW v t)= ((c.args.all fun t=>decide (AC t≤24))&& c.args.all (AW v)):=by
       induction c.args with
       |nil=>rfl
       |cons t ts iht=>
        simp only[List.all_cons];rw[iht];cases decide (AC t≤24) <;> cases AW v t <;> simp
      unfold cnP cnT;rw[ha];cases Bb c.name <;> cases (c.args.all fun t=>decide (AC t≤24)) <;> cases c.args.all (AW v) <;> simp
    unfold dtP dtT;rw[hc];cases Bb d.name <;> cases inB d.vars 0 26 <;> cases decide (d.cons.length≠0) <;> simp
   rw[hd];cases (d.cons.all fun c=>c.args.all fun t=>decide (AC t≤24)) <;> cases dtT d <;> simp
 unfold By;rw[h];cases dpT ds <;> cases ds.all dtT <;> cases decide (Ba x≤24) <;> cases Ao x <;> rfl
theorem V0 (vars:Int) (g:Nat) (r:Bool) (x:Tp) (kv:Value) (w:World) (hg:w.cell? ⟨g,1,none⟩=some (.int .i64 vars)) (hlt:g < w.heap.size)
  (HF:∀W,Below w.heap.size w W→Calls Pq 162 #[tpV x kv,.int .i64 vars] W fun e w'=>e= .returned (.bool r)∧Below W.heap.size W w'):
  Calls Pq 161 #[tpV x kv,.pointer (some ⟨g,0,none⟩)] w fun e w'=>e= .returned (.bool (!r))∧Below w.heap.size w w':=by
 unfold tpV at HF ⊢;have HF:=Aa HF;generalize x.op=xop at*;generalize x.n=xn at*;generalize x.s=xs at*;go_enter Tryz.func161,Tryz.ntmps161;have hg2:=(((Ac w.heap.size w).alloc (Ad _) (.cells #[.int .i64 xop,.int .i64 xn,.string xs,kv] 158)).cell (p:=⟨g,1,none⟩) hlt).trans hg;go_wp2_with fail;generalize hxx:Wa _ _=x0 at*;obtain⟨bb,k1⟩:=Bx.alloc hxx;clear hxx k1;refine(HF.out x0 bb).mono ?_;rintro e w2 ⟨rfl,b2⟩;replace bb:=bb.trans (b2.mono bb.size);go_wp2;go_ret;exact⟨rfl,bb⟩
theorem V1 {cs:List Cn}{v:Int}{k:Nat}(hk:k < cs.length) (h:cnT v cs[k]=false):cs.all (cnT v)=false:=Dw hk h
theorem V2 (d:Dt) (cv:Value) (B:Nat) (w:World) (hl:wgD d≤1048576) (hr:RdCns B w cv d.cons) (hv:-9223372036854775807≤d.vars∧d.vars≤9223372036854775807):
  Calls Pq 96 #[dtV d cv] w fun e w'=>e= .returned (.bool (dtT d))∧Below w.heap.size w w':=by
 have HR:=Aa (fun(W:World) (hb:Below w.heap.size w W)=>hr.later' hb);have hE:dtT d= (Bb d.name&& (inB d.vars 0 26&& (decide (d.cons.length≠0)&& d.cons.all (cnT d.vars)))):=rfl;have HE:=Aa hE;unfold wgD at hl;have hcl:=Fa d.cons;have hcs:d.cons.length≤1048576:=by omega
 have hns:d.name.size≤1048576:=by omega
 have SZ:=Aa (fun(k:Nat) (hk:k < d.cons.length)=>(by
  have h2:=Eh (As hk);have h3:=DS d.cons[k].args;unfold wgC at h2;exact⟨by omega,by omega⟩:d.cons[k].name.size≤1048576∧d.cons[k].args.length≤1048576))
 have TT:=Aa (fun(k:Nat) (hk:k < d.cons.length) (j:Nat) (hj:j < d.cons[k].args.length) (kv:Value) (B:Nat) (W:World) (h:RdTps B W kv d.cons[k].args[j].kids)=>(by
  have h2:=Eh (As hk);have h3:=CJ (As hj);unfold wgC at h2;exact O9 d.vars hv 1048577 _ kv B W (by omega) (by omega) h:Calls Pq 162 #[tpV d.cons[k].args[j] kv,.int .i64 d.vars] W fun e w'=>e= .returned (.bool (AW d.vars d.cons[k].args[j]))∧Below W.heap.size W w'))
 obtain⟨ca,cc,rfl⟩:=hr.form;unfold dtV;clear hr hE hl hcl hv;generalize dtT d=dd at*;obtain⟨dn,dvs,dcs⟩:=d;dsimp only at*;go_enter Tryz.func96,Tryz.ntmps96;go_wp2_with fail;generalize hxx:Wa _ _=x0;obtain⟨bb,k1⟩:=Bx.alloc hxx;clear hxx;refine(GW dn x0 hns).mono ?_;rintro e w2 ⟨rfl,rfl⟩;have q1:=k1.2.1;cases hcn:Bb dn with
 |false=>
  have hcn:=Aa hcn;go_wp2;go_ret;exact⟨Ae (by rw[HE.out,hcn.out];rfl),bb⟩
 |true=>
 have hcn:=Aa hcn;have hI:=fun(W:World)=>Fb dvs 0 26 W;cases hvb:inB dvs 0 26 with
 |false=>
  rw[hvb]at hI;have hvb:=Aa hvb;go_wp2_with fail;refine(hI _).mono ?_;rintro e w3 ⟨rfl,rfl⟩;go_wp2;go_ret;exact⟨Ae (by rw[HE.out,hvb.out];simp),bb⟩
 |true=>
 rw[hvb]at hI;have hvb:=Aa hvb;by_cases hl0:dcs.length=0
 ·have k0b:((dcs.length:Int)==0)=true:=by rw[BL];exact AN hl0
  have hl0:=Aa hl0;go_wp2_with fail;refine(hI _).mono ?_;rintro e w3 ⟨rfl,rfl⟩;go_wp2;go_ret;exact⟨Ae (by rw[HE.out];simp[hl0.out]),bb⟩
 have k0b:((dcs.length:Int)==0)=false:=by rw[BL];exact AG hl0
 have HE:Hid (dcs.all (cnT dvs)=dd):=Aa (by rw[HE.out,hcn.out,hvb.out];simp[hl0]);have hl0:=Aa hl0;go_wp2_with fail;refine(hI _).mono ?_;rintro e w3 ⟨rfl,rfl⟩;go_wp2_with fail
 go_loopw [24] (fun v wz=>∃k:Nat,k≤dcs.length∧v= .int .i64 k∧Below w.heap.size w wz∧Bx wz w.heap.size #[.string dn,.int .i64 dvs,.slice ca dcs.length cc]∧Hid (∀l (hl:l < dcs.length),l < k→cnT dvs dcs[l]=true)) (fun v _=>dcs.length - (intOf v).toNat)
 case atStart=>exact⟨0,Av _,rfl,bb,k1,Aa (fun j h hk=>absurd hk (Ay j))⟩
 case round=>
  clear q1 bb k1;obtain⟨k,hk,rfl,bb,k1,hdk⟩:=hrel;by_cases hlk:k < dcs.length
  ·obtain⟨b',off',cap',av,hv',hB',hbs',hcap',d0,d1,hka⟩:=(HR.out wr bb).at_ hlk;cases hv'
   have hkk:(k:Int) < (dcs.length:Int):=by omega
   have hkk0:(0:Int)≤ (k:Int):=by omega
   obtain⟨zc1,zc2⟩:=SZ.out k hlk;have HA:=Aa (fun(W:World) (hb:Below wr.heap.size wr W)=>hka.later' hb);have TTk:=Aa (TT.out k hlk);have HB:=Aa (fun(h:cnT dvs dcs[k]=false)=>HE.out.symm.trans (V1 hlk h));have HDK:=Aa (fun(hy:cnT dvs dcs[k]=true)=>(fun l h hj=>(by
    by_cases e:l=k
    ·subst e;exact hy
    ·exact hdk.out l h (by omega)):∀l (h:l < dcs.length),l < k+1→cnT dvs dcs[l]=true))
   have HQ:=Aa (show cnT dvs dcs[k]= (Bb dcs[k].name&& dcs[k].args.all (AW dvs))from rfl);obtain⟨aa,ac,rfl⟩:=hka.form;clear hka;generalize cnT dvs dcs[k]=cq at*;generalize dcs[k]=c at*;go_wp2_with fail;generalize hyy:Wa _ _=wy;obtain⟨by_,k2⟩:=Bx.alloc hyy;clear hyy d0 d1;have hs0:=bb.size;replace k1:=k1.below by_ k1.1;replace bb:=bb.trans (by_.mono hs0);refine(GW c.name wy zc1).mono ?_;rintro e w4 ⟨rfl,rfl⟩;cases hcc:Bb c.name with
   |false=>
    have hcc:=Aa hcc;go_wp2;go_ret;exact⟨Ae (HB.out (by rw[HQ.out,hcc.out];rfl)).symm,bb⟩
   |true=>
    have hcc:=Aa hcc;have q2:=k2.2.1;go_wp2_with fail;clear q2;refine(PJ (.pointer (some ⟨w.heap.size,0,none⟩)) (fun y=>!AW dvs y) c.args _ _ _ (HA.out _ by_) zc2 (fun j hj kv W hb hk=>V0 dvs w.heap.size (AW dvs c.args[j]) c.args[j] kv W ((k1.below hb k1.1).2.1 1) (k1.below hb k1.1).1 (fun W' hb'=>TTk.out j hj kv _ W' (hk.later hb' hb.size)))).mono ?_;rintro e w5 ⟨rfl,b5⟩;replace k1:=k1.below b5 k1.1;replace bb:=bb.trans (b5.mono bb.size);clear b5 by_ k2;cases ha:c.args.all (AW dvs)with
    |false=>
     have hy:=Aa (HB.out (by rw[HQ.out,ha];simp));rw[show(c.args.any fun y=>!AW dvs y)=true by rw[←FN,DC];simpa using ha];clear ha;go_wp2;go_ret;exact⟨Ae hy.out.symm,bb⟩
    |true=>
     have hy:=Aa (HDK.out (by rw[HQ.out,hcc.out,ha];rfl));rw[show(c.args.any fun y=>!AW dvs y)=false by rw[←FN,DC];simpa using ha];clear ha;go_wp2;go_roundw
     case rel=>exact⟨k+1,hlk,by go_num,bb,k1,hy⟩
     case measure=>simp[intOf];omega
  ·obtain rfl:k=dcs.length:=by omega
   have hy:=Aa (HE.out.symm.trans (DT fun l hl=>hdk.out l hl hl));go_wp2;go_ret;exact⟨Ae hy.out.symm,bb⟩
theorem V3 (n:Nat) (x:Tp) (kv:Value) (w:World)
  (HF:∀W,Below w.heap.size w W→Calls Pq 154 #[tpV x kv] W fun e w'=>e= .returned (.int .i64 n)∧Below W.heap.size W w'):
  Calls Pq 153 #[tpV x kv] w fun e w'=>e= .returned (.bool (!decide (n≤24)))∧Below w.heap.size w w':=by
 unfold tpV at HF ⊢;have HF:=Aa HF;generalize x.op=xop at*;generalize x.n=xn at*;generalize x.s=xs at*;go_enter Tryz.func153,Tryz.ntmps153;go_wp2_with fail;generalize hxx:Wa _ _=x0;obtain⟨bb,k1⟩:=Bx.alloc hxx;clear hxx k1;refine(HF.out x0 bb).mono ?_;rintro e w2 ⟨rfl,b2⟩;replace bb:=bb.trans (b2.mono bb.size);by_cases h:n≤24
 ·have hi:¬((n:Int) > 24):=by omega
  have h':=Aa h;clear h;go_wp2;go_ret;exact⟨Ae (by have:=h'.out;rw[AN this,AG (by omega)];rfl),bb⟩
 ·have hi:(n:Int) > 24:=by omega
  have h':=Aa h;clear h;go_wp2;go_ret;exact⟨Ae (by have:=h'.out;rw[AG this];rfl),bb⟩
theorem V4 {ds:List Dt}(i k:Nat) (hi:i < ds.length) (hk:k < ds[i].cons.length) (h:(ds[i].cons[k].args.all fun t=>decide (AC t≤24))=false):dpT ds=false:=
 Dw (q:=fun d:Dt=>d.cons.all fun c=>c.args.all fun t=>decide (AC t≤24)) hi (Dw (q:=fun c:Cn=>c.args.all fun t=>decide (AC t≤24)) hk h)
theorem V5 {ds:List Dt}(h:∀i (hi:i < ds.length) k (hk:k < ds[i].cons.length),(ds[i].cons[k].args.all fun t=>decide (AC t≤24))=true):dpT ds=true:=
 DT (q:=fun d:Dt=>d.cons.all fun c=>c.args.all fun t=>decide (AC t≤24)) fun i hi=>DT (q:=fun c:Cn=>c.args.all fun t=>decide (AC t≤24)) fun k hk=>h i hi k hk
theorem V6 (ds:List Dt) (x:Nd) (dv kv:Value) (B B':Nat) (w:World) (hz:SzP ds x) (hr:RdDts B w dv ds) (hk:RdNs B' w kv x.kids):
  Calls Pq 92 #[pgV dv x kv] w fun e w'=>e= .returned (.bool (dpT ds&& decide (Ba x≤24)))∧Below w.heap.size w w':=by
 obtain⟨hl,hz2,hz3⟩:=hz;have HR:=Aa (fun(W:World) (hb:Below w.heap.size w W)=>hr.later' hb);have DE:=Aa (fun(W:World) (hb:Below w.heap.size w W)=>LU _ x kv _ W (Ad _) hz3 (hk.later' hb));have hln:=De ds;have hds:ds.length≤1048576:=by omega
 have SZ:=Aa (EN hl);have SA:=Aa (Ho hl);have HO:=Aa (fun(i:Nat) (hi:i < ds.length) (k:Nat) (hk:k < ds[i].cons.length) (j:Nat) (hj:j < ds[i].cons[k].args.length) (kv:Value) (B:Nat) (W:World) (h:RdTps B W kv ds[i].cons[k].args[j].kids)=>(by
  have:=Hp hl i hi k hk j hj;exact O8 1048577 _ kv B W (by omega) this h:Calls Pq 154 #[tpV ds[i].cons[k].args[j] kv] W fun e w'=>e= .returned (.int .i64 (AC ds[i].cons[k].args[j]))∧Below W.heap.size W w'))
 have HN:=Aa (@V4 ds);have HY:=Aa (V5 (ds:=ds));generalize dpT ds=aq at*;obtain⟨ka,kc,rfl⟩:=hr.form;unfold ndV at DE;unfold pgV;clear hr hln hl hz2 hz3 hk;generalize Ba x=dpx at*;generalize x.op=xop at*;generalize x.n=xn at*;generalize x.s=xs at*;generalize x.t=xt at*;go_enter Tryz.func92,Tryz.ntmps92;go_wp2_with fail;generalize hxx:Wa _ _=x0;obtain⟨bb,k1⟩:=Bx.alloc hxx;clear hxx;have q1:=k1.2.1;go_wp2_with fail;clear q1
 go_loopw [10] (fun i wr=>∃k:Nat,k≤ds.length∧i= .int .i64 k∧Below w.heap.size w wr∧Bx wr w.heap.size #[.slice ka ds.length kc,.int .i64 xop,.int .i64 xn,.string xs,.string xt,kv]∧Hid (∀j (h:j < ds.length),j < k→ ∀l (hl:l < ds[j].cons.length),(ds[j].cons[l].args.all fun t=>decide (AC t≤24))=true)) (fun i _=>ds.length - (intOf i).toNat)
 case atStart=>exact⟨0,Av _,rfl,bb,k1,Aa (fun j h hk=>absurd hk (Ay j))⟩
 case round=>
  clear bb k1;obtain⟨ii,hi,rfl,bb,k1,hd⟩:=hrel;by_cases hlt:ii < ds.length
  ·obtain⟨b,off,cap,cv,hv,hB,hbs,hcap,c0,c1,c2,hkr⟩:=(HR.out wr bb).at_ hlt;cases hv
   have hki:(ii:Int) < (ds.length:Int):=by omega
   have hk0:(0:Int)≤ (ii:Int):=by omega
   have hsz:=SZ.out ii hlt;have SAi:=Aa (SA.out ii hlt);have HOi:=Aa (HO.out ii hlt);have HNi:=Aa (fun(k:Nat) (hk:k < ds[ii].cons.length) h=>HN.out ii k hlt hk h);have HC:=Aa (fun(W:World) (hb:Below wr.heap.size wr W)=>hkr.later' hb);obtain⟨ca,cc,rfl⟩:=hkr.form;generalize ds[ii].name=dn at*;generalize ds[ii].vars=dvs at*;clear hkr;go_wp2_with fail;generalize hyy:Wa _ _=wy;obtain⟨by_, -⟩:=Bx.alloc hyy;clear hyy c0 c1 c2;have hs0:=bb.size;replace k1:=k1.below by_ k1.1;have BW:=Aa (bb.trans (by_.mono hs0))
   go_loopw [17] (fun i wz=>∃k:Nat,k≤ds[ii].cons.length∧i= .int .i64 k∧Below wy.heap.size wy wz∧Hid (∀l (hl:l < ds[ii].cons.length),l < k→(ds[ii].cons[l].args.all fun t=>decide (AC t≤24))=true)) (fun i _=>ds[ii].cons.length - (intOf i).toNat)
   case atStart=>exact⟨0,Av _,rfl,Ac _ _,Aa (fun j h hk=>absurd hk (Ay j))⟩
   case round=>
    obtain⟨k,hk,rfl,bz,hdk⟩:=hrel;have k3:=k1.below bz k1.1;by_cases hlk:k < ds[ii].cons.length
    ·obtain⟨b',off',cap',av,hv',hB',hbs',hcap',d0,d1,hka⟩:=(HC.out wr (by_.trans (bz.mono by_.size))).at_ hlk;cases hv'
     have hkk:(k:Int) < (ds[ii].cons.length:Int):=by omega
     have hkk0:(0:Int)≤ (k:Int):=by omega
     have HK:=Aa hka;obtain⟨aa,ac,rfl⟩:=hka.form;clear hka;go_wp2_with fail;generalize hww:Wa _ _=wu;obtain⟨bu, -⟩:=Bx.alloc hww;clear hww d0 d1;have hs1:=bz.size;have hs2:=by_.size;have bt:=BW.out.trans ((bz.trans (bu.mono hs1)).mono BW.out.size);refine(PL (fun t=>!decide (AC t≤24)) ds[ii].cons[k].args _ _ wu (HK.out.later bu (Ar hs2 hs1)) (SAi.out k hlk) (fun j hj kv W hb hk=>V3 (AC ds[ii].cons[k].args[j]) ds[ii].cons[k].args[j] kv W (fun W' hb'=>HOi.out k hlk j hj kv _ W' (hk.later hb' hb.size)))).mono ?_;rintro e w4 ⟨rfl,b4⟩;have b5:=bu.trans (b4.mono bu.size);cases ha:(ds[ii].cons[k].args.all fun t=>decide (AC t≤24))with
     |true=>
      have ha':=Aa ha;have hany:(ds[ii].cons[k].args.any fun t=>!decide (AC t≤24))=false:=by rw[←FN,DC];simpa using ha
      rw[hany];clear ha hany;replace bz:=bz.trans (b5.mono hs1);go_wp2;go_roundw
      case rel=>exact⟨k+1,hlk,by go_num,bz,Aa (fun j h hj=>by
       by_cases e:j=k
       ·subst e;exact ha'.out
       ·exact hdk.out j h (by omega))⟩
      case measure=>simp[intOf];omega
     |false=>
      have ha':=Aa (HNi.out k hlk ha);have hany:(ds[ii].cons[k].args.any fun t=>!decide (AC t≤24))=true:=by rw[←FN,DC];simpa using ha
      rw[hany];clear ha hany;replace bt:=bt.trans (b4.mono bt.size);go_wp2;go_ret;exact⟨Ae (by rw[ha'.out];rfl),bt⟩
    ·obtain rfl:k=ds[ii].cons.length:=by omega
     have bt:=BW.out.trans (bz.mono BW.out.size);go_wp2;go_roundw
     case rel=>exact⟨ii+1,hlt,by go_num,bt,k3,Aa (fun j h hj=>by
      by_cases e:j=ii
      ·subst e;exact fun l hl=>hdk.out l hl hl
      ·exact hd.out j h (by omega))⟩
     case measure=>simp[intOf];omega
  ·obtain rfl:ii=ds.length:=by omega
   have he:=Aa (HY.out fun j h=>hd.out j h h);have q1:=k1.2.1;go_wp2_with fail;clear q1;refine(DE.out _ bb).mono ?_;rintro e w3 ⟨rfl,b3⟩;replace bb:=bb.trans (b3.mono bb.size);clear b3;by_cases hdl:dpx≤24
   ·have hdi:(dpx:Int)≤24:=by omega
    have hdl':=Aa hdl;clear hdl;go_wp2;go_ret;exact⟨Ae (by have:=hdl'.out;rw[he.out,AN this];rfl),bb⟩
   ·have hdi:¬((dpx:Int)≤24):=by omega
    have hdl':=Aa hdl;clear hdl;go_wp2;go_ret;exact⟨Ae (by have:=hdl'.out;rw[he.out,AG this,AG (by omega)];rfl),bb⟩
theorem V7 (d:Dt) (cv:Value) (r:Bool) (w:World)
  (HF:∀W,Below w.heap.size w W→Calls Pq 96 #[dtV d cv] W fun e w'=>e= .returned (.bool r)∧Below W.heap.size W w'):
  Calls Pq 95 #[dtV d cv] w fun e w'=>e= .returned (.bool (!r))∧Below w.heap.size w w':=by
 unfold dtV at HF ⊢;have HF:=Aa HF;generalize d.name=dn at*;generalize d.vars=dvs at*;go_enter Tryz.func95,Tryz.ntmps95;go_wp2_with fail;generalize hxx:Wa _ _=x0;obtain⟨bb,k1⟩:=Bx.alloc hxx;clear hxx k1;refine(HF.out x0 bb).mono ?_;rintro e w2 ⟨rfl,b2⟩;replace bb:=bb.trans (b2.mono bb.size);go_wp2;go_ret;exact⟨rfl,bb⟩
theorem O6 (ds:List Dt) (x:Nd) (dv kv:Value) (B B':Nat) (w:World) (hz:SzP ds x) (hr:RdDts B w dv ds) (hk:RdNs B' w kv x.kids)
  (hv:∀d∈ds, -9223372036854775807≤d.vars∧d.vars≤9223372036854775807):
  Calls Pq 48 #[pgV dv x kv] w fun e w'=>e= .returned (.bool (By ds x))∧Below w.heap.size w w':=by
 have hln:=De ds;have hds:ds.length≤1048576:=by have:=hz.1;omega
 have DO:=Aa (fun(W:World) (hb:Below w.heap.size w W)=>V6 ds x dv kv _ _ W hz (hr.later' hb) (hk.later' hb));have EE:=Aa (fun(W:World) (hb:Below w.heap.size w W)=>Kj 1048577 x kv _ W (by have:=hz.2.1;omega) hz.2.1 (hk.later' hb));have HD:=Aa (fun(W:World) (hb:Below w.heap.size w W)=>PF (fun d=>!dtT d) ds dv _ W (hr.later' hb) hds (fun j hj kv W' hb' hk=>V7 ds[j] kv (dtT ds[j]) W' (fun W2 hb2=>V2 ds[j] kv _ W2 (by have h1:=Dx (As hj);have:=hz.1;omega) (hk.later hb2 hb'.size) (hv _ (As hj)))));have HE:=Aa (VZ ds x);have HA:=Aa (show(!ds.any fun d=>!dtT d)=ds.all dtT by rw[DC];simp);unfold ndV at EE;unfold pgV at DO ⊢;clear hr hk hv hz hln;generalize By ds x=tp at*;generalize (dpT ds&& decide (Ba x≤24))=dq at*;generalize Ao x=nq at*;generalize x.op=xop at*;generalize x.n=xn at*;generalize x.s=xs at*;generalize x.t=xt at*;go_enter Tryz.func48,Tryz.ntmps48;go_wp2_with fail;generalize hxx:Wa _ _=x0;obtain⟨bb,k1⟩:=Bx.alloc hxx;clear hxx;refine(DO.out x0 bb).mono ?_;rintro e w2 ⟨rfl,b2⟩;replace k1:=k1.below b2 k1.1;replace bb:=bb.trans (b2.mono bb.size);clear b2;cases dq with
 |false=>
  go_wp2;go_ret;exact⟨Ae (by rw[HE.out];rfl),bb⟩
 |true=>
  have q1:=k1.2.1;go_wp2_with fail;clear q1;refine(EE.out _ bb).mono ?_;rintro e w3 ⟨rfl,b3⟩;replace k1:=k1.below b3 k1.1;replace bb:=bb.trans (b3.mono bb.size);clear b3;cases nq with
  |false=>
   go_wp2;go_ret;exact⟨Ae (by rw[HE.out];rfl),bb⟩
  |true=>
   have q1:=k1.2.1;go_wp2_with fail;clear q1;refine(HD.out _ bb).mono ?_;rintro e w4 ⟨rfl,b4⟩;replace bb:=bb.trans (b4.mono bb.size);go_wp2;go_ret;exact⟨Ae (by rw[HE.out,HA.out];rfl),bb⟩
end Go.Proofs.YtifhcbeaiijkcaaGreat
end
section
namespace Go.Proofs.YtifhcbeaiijkcaaGreat
open _root_.Go.World renaming alloc→Wa,setCell→Ws
open _root_.Go.Proofs.Tryz renaming prog→Pq
noncomputable def FS (ds:List Dt):Bool:=@decide (Hs ds) (Classical.propDecidable _)
theorem LI {ds:List Dt}(h:Hs ds):FS ds=true:=@AN _ (Classical.propDecidable _) h
theorem Ht {ds:List Dt}(h:¬Hs ds):FS ds=false:=@AG _ (Classical.propDecidable _) h
noncomputable def ckP (ds:List Dt):Int:=if FS ds=true then(if Bo (Ch ds) ds=true then(if Bu ds≤60∧Bo (Db ds) ds=true then 0 else 3)else 2)else 1
theorem LJ (ds:List Dt):ckP ds=if FS ds=true then(if Bo (Ch ds) ds=true then(if Bu ds≤60∧Bo (Db ds) ds=true then 0 else 3)else 2)else 1:=rfl
theorem FT:∀ (ds:List Dt) (i:Nat) (h:i < ds.length),Bu (ds.take (i+1))=Bu (ds.take i)+ds[i].cons.length
 |d::ds,0,h=>by simp[Bu]
 |d::ds,i+1,h=>by
  have:=FT ds i (by simpa using h);simp only[List.take_succ_cons,List.getElem_cons_succ,Bu];omega
theorem Gw:∀ (ds:List Dt) (i:Nat),Bu (ds.take i)≤Bu ds
 | [],i=>by simp
 |d::ds,0=>by simp[Bu]
 |d::ds,i+1=>by
  have:=Gw ds i;simp only[List.take_succ_cons,Bu];omega
theorem Hu:∀ (ds:List Dt),Bu ds≤AR ds
 | []=>Ad _
 |d::ds=>by
  have:=Hu ds;have:=Fa d.cons;unfold Bu AR wgD;omega
def DZ (ds:List Dt) (i k:Nat) (s:Str):Prop:=(∃j,∃h:j < ds.length,j < i∧ ∃l,∃hl:l < ds[j].cons.length,ds[j].cons[l].name=s)∨ ∃h:i < ds.length,∃l,∃hl:l < ds[i].cons.length,l < k∧ds[i].cons[l].name=s
theorem Qt {ds:List Dt}{i k:Nat}(hi:i < ds.length) (hk:k < ds[i].cons.length):¬DZ ds i k ds[i].cons[k].name↔Bg ds ds[i].cons[k].name= ((i:Int),(k:Int)):=by
 rcases Gv ds ds[i].cons[k].name with ⟨h1,h2⟩ |⟨i',hi',k',hk',h1,h2,h3,h4⟩
 ·exact absurd rfl (h2 i hi k hk)
 ·constructor
  ·intro hb;have e1:i'=i:=by
    rcases KN i' i with h |h |h
    ·exact absurd (Or.inl ⟨i',hi',h,k',hk',h2⟩) hb
    ·exact h
    ·exact absurd rfl (h4 i hi h k hk)
   subst e1;have e2:k'=k:=by
    rcases KN k' k with h |h |h
    ·exact absurd (Or.inr ⟨hi,k',hk',h,h2⟩) hb
    ·exact h
    ·exact absurd rfl (h3 k hk h)
   subst e2;exact h1
  ·intro e;rw[h1]at e;have e1:i'=i:=by have:=congrArg Prod.fst e;dsimp only at this;omega
   have e2:k'=k:=by have:=congrArg Prod.snd e;dsimp only at this;omega
   subst e1 e2;rintro(⟨j,hj,hlt,l,hl,hn⟩ |⟨_,l,hl,hlt,hn⟩)
   ·exact h4 j hj hlt l hl hn
   ·exact h3 l hl hlt hn
theorem Qu (ds:List Dt) (s:Str):¬DZ ds 0 0 s:=by
 rintro(⟨j,hj,hlt,_⟩ |⟨_,l,hl,hlt,_⟩) <;> omega
theorem Qv {ds:List Dt}{i k:Nat}(hi:i < ds.length) (hk:k < ds[i].cons.length) (s:Str):DZ ds i (k+1) s↔ (DZ ds i k s∨ds[i].cons[k].name=s):=by
 constructor
 ·rintro(h |⟨h,l,hl,hlt,hn⟩)
  ·exact .inl (.inl h)
  ·by_cases e:l=k
   ·subst e;exact .inr hn
   ·exact .inl (.inr ⟨h,l,hl,by omega,hn⟩)
 ·rintro((h |⟨h,l,hl,hlt,hn⟩) |h)
  ·exact .inl h
  ·exact .inr ⟨h,l,hl,by omega,hn⟩
  ·exact .inr ⟨hi,k,hk,by omega,h⟩
theorem Qw {ds:List Dt}{i:Nat}(hi:i < ds.length) (s:Str):DZ ds (i+1) 0 s↔DZ ds i ds[i].cons.length s:=by
 constructor
 ·rintro(⟨j,hj,hlt,l,hl,hn⟩ |⟨h,l,hl,hlt,hn⟩)
  ·by_cases e:j=i
   ·subst e;exact .inr ⟨hj,l,hl,hl,hn⟩
   ·exact .inl ⟨j,hj,by omega,l,hl,hn⟩
  ·omega
 ·rintro(⟨j,hj,hlt,l,hl,hn⟩ |⟨h,l,hl,hlt,hn⟩)
  ·exact .inl ⟨j,hj,by omega,l,hl,hn⟩
  ·exact .inl ⟨i,hi,by omega,l,hl,hn⟩
def FU (ds:List Dt) (i:Nat):Prop:=(∀j (h:j < ds.length),j < i→dIx ds ds[j].name=j)∧ ∀j (h:j < ds.length) k (hk:k < ds[j].cons.length),j < i→Bg ds ds[j].cons[k].name= ((j:Int),(k:Int))
def Gx (ds:List Dt) (i k:Nat):Prop:=∀ (h:i < ds.length) l (hl:l < ds[i].cons.length),l < k→Bg ds ds[i].cons[l].name= ((i:Int),(l:Int))
theorem LK (ds:List Dt):FU ds 0:=⟨fun j h hj=>by omega,fun j h k hk hj=>by omega⟩
theorem LL {ds:List Dt}(h:FU ds ds.length):Hs ds:=⟨fun i hi=>h.1 i hi hi,fun i hi k hk=>h.2 i hi k hk hi⟩
theorem LM {ds:List Dt}{i k:Nat}(hi:i < ds.length) (hk:k < ds[i].cons.length) (h:Gx ds i k) (e:Bg ds ds[i].cons[k].name= ((i:Int),(k:Int))):Gx ds i (k+1):=fun h' l hl hlt=>by
 by_cases e':l=k
 ·subst e';exact e
 ·exact h h' l hl (by omega)
theorem LN {ds:List Dt}{i:Nat}(hi:i < ds.length) (h:FU ds i) (hd:dIx ds ds[i].name=i) (hr:Gx ds i ds[i].cons.length):FU ds (i+1):=
 ⟨fun j hj hlt=>by
  by_cases e:j=i
  ·subst e;exact hd
  ·exact h.1 j hj (by omega),fun j hj k hk hlt=>by
  by_cases e:j=i
  ·subst e;exact hr hj k hk hk
  ·exact h.2 j hj k hk (by omega)⟩
theorem Qx (ds:List Dt):Bo (fun _=>true) ds=true:=by
 have h:∀x,At (fun _=>true) x=true:=by
  have:∀N (x:Tp),wgT x < N→At (fun _=>true) x=true:=by
   intro N;induction N with
   |zero=>intro x h;omega
   |succ N ih=>
    intro x h;rw[Eu,DH,Hb,Be];intro y hy;have:=CJ hy;have:=Eg x;exact ih y (by omega)
  exact fun x=>this _ x (CM _)
 unfold Bo;rw[Be];intro d _;rw[Be];intro c _;rw[Be];intro t _;exact h t
end Go.Proofs.YtifhcbeaiijkcaaGreat
end
section
namespace Go.Proofs.YtifhcbeaiijkcaaGreat
open Go.RowKit
open _root_.Go.World renaming alloc→Wa,setCell→Ws
open _root_.Go.Proofs.Tryz renaming prog→Pq
theorem Tryz.infoString:(Tryz.prog.info? 9).map (fun i=>(i.zero,i.size,i.bytes))=some (some (.string ⟨#[]⟩),1,16):=by kernel_rfl
theorem PS {x:Option TypeInfo}{z:Value}{n m:Nat}(h:x.map (fun i=>(i.zero,i.size,i.bytes))=some (some z,n,m)):∃i,x=some i∧i.zero=some z∧i.size=n∧i.bytes=m:=by
 cases x with
 |none=>cases h
 |some i=>
  have:=Ah h;exact⟨i,rfl,AX (fun t=>t.1) this,AX (fun t=>t.2.1) this,AX (fun t=>t.2.2) this⟩
theorem PT {base:Nat}{w:World}{e:TypeId}{g off cap n:Nat}{zs:List Str}(h:w.ownsRow base e 1 (.slice (some ⟨g,off,none⟩) n cap) n (zs.map Value.string)) (hl:zs.length=n):IQ w g off zs:=by
 rcases h.2 with ⟨hh,_⟩ |⟨g',cap',cur,hv,_⟩
 ·cases hh
 ·cases hv
  intro j hj;rw[BU,J8 h j (by omega),FJ,Bl hj];rfl
theorem Le {zs:List Str}{s:Str}:inS zs s=true↔s∈zs:=by
 unfold inS;rw[KM];constructor
 ·rintro⟨x,hx,e⟩;rw[←of_decide_eq_true e];exact hx
 ·intro h;exact⟨s,h,AN rfl⟩
theorem PU (ds:List Dt) (dv:Value) (B:Nat) (w:World) (hr:RdDts B w dv ds) (hl:AR ds≤1048576):
  Calls Pq 97 #[dv] w fun e w'=>e= .returned (.bool (!FS ds))∧Below w.heap.size w w':=by
 have HR:=Aa (fun(W:World) (hb:Below w.heap.size w W)=>hr.later' hb);have hln:=De ds;have hds:ds.length≤1048576:=by omega
 have SZ:=Aa (EN hl);have NC:=Aa (show Bu ds≤1048576 from Ar (Hu ds) hl);have DA:=Aa (fun(s:Str) (W:World) (hb:Below w.heap.size w W)=>Jh ds dv s _ W (hr.later' hb) hds);obtain⟨ti,hti,hz0,hz1,hz2⟩:=PS Tryz.infoString;obtain⟨ka,kc,rfl⟩:=hr.form;clear hr hln hl;go_enter Tryz.func97,Tryz.ntmps97;go_wp2_with fail;generalize hxx:Wa _ _=x0;have hown:x0.ownsRow w.heap.size 9 1 (.slice (some ⟨w.heap.size,0,none⟩) 0 0) 0 (([]:List Str).map Value.string):=by rw[←hxx];exact Ge rfl (Ad _)
 have bb:Below w.heap.size w x0:=by rw[←hxx];exact(Ac _ _).alloc (Ad _) _
 clear hxx
 go_loopw [3,11] (fun nv i wr=>∃ (k:Nat) (zs:List Str) (g cap:Nat),k≤ds.length∧i= .int .i64 k∧Below w.heap.size w wr∧nv= .slice (some ⟨g,0,none⟩) zs.length cap∧wr.ownsRow w.heap.size 9 1 nv zs.length (zs.map Value.string)∧Hid (zs.length=Bu (ds.take k))∧Hid (∀s,s∈zs↔DZ ds k 0 s)∧Hid (FU ds k)) (fun _ i _=>ds.length - (intOf i).toNat)
 case atStart=>exact⟨0,[],w.heap.size,0,Av _,rfl,bb,rfl,hown,Aa rfl,Aa (fun s=>by simp[Qu]),Aa (LK ds)⟩
 case round=>
  clear bb hown;obtain⟨i,zs,g,ncp,hi,rfl,bb,rfl,hown,hzl,hzm,hu⟩:=hrel;by_cases hlt:i < ds.length
  ·obtain⟨b,off,cap,cv,hv,hB,hbs,hcap,c0,c1,c2,hkr⟩:=(HR.out w (Ac _ _)).at_ hlt;cases hv
   have hki:(i:Int) < (ds.length:Int):=by omega
   have hk0:(0:Int)≤ (i:Int):=by omega
   have HC:=Aa (fun(W:World) (hb:Below w.heap.size w W)=>hkr.later' hb);replace c0:=(bb.cell (p:=⟨b,off+i*3,none⟩) hbs).trans c0;replace c1:=(bb.cell (p:=⟨b,off+i*3+1,none⟩) hbs).trans c1;replace c2:=(bb.cell (p:=⟨b,off+i*3+2,none⟩) hbs).trans c2;have hsz:=SZ.out i hlt;obtain⟨ca,cc,rfl⟩:=hkr.form;clear hkr;go_wp2_with fail;generalize hyy:Wa _ _=wy;obtain⟨by_,k2⟩:=Bx.alloc hyy;clear hyy c0 c1 c2;have hs0:=bb.size;have OWN:=Aa (CE hown by_ (Cj hown));have BB:=Aa (bb.trans (by_.mono hs0));refine(DA.out ds[i].name wy BB.out).mono ?_;rintro e w2 ⟨rfl,b2⟩;replace k2:=k2.below b2 k2.1;have OWN2:=Aa (CE OWN.out b2 (Cj OWN.out));have BB2:=Aa (BB.out.trans (b2.mono BB.out.size));clear hown bb OWN BB b2 by_;by_cases hdx:dIx ds ds[i].name=i
   ·have HDX:=Aa hdx;rw[hdx];clear hdx;have q2:=k2.2.1;go_wp2_with fail;clear q2
    go_loopw [3,25] (fun nv v wz=>∃ (k:Nat) (ys:List Str) (g cap:Nat),k≤ds[i].cons.length∧v= .int .i64 k∧Below w.heap.size w wz∧nv= .slice (some ⟨g,0,none⟩) ys.length cap∧wz.ownsRow w.heap.size 9 1 nv ys.length (ys.map Value.string)∧Hid (ys.length=Bu (ds.take i)+k)∧Hid (∀s,s∈ys↔DZ ds i k s)∧Hid (Gx ds i k)) (fun _ v _=>ds[i].cons.length - (intOf v).toNat)
    case atStart=>exact⟨0,zs,g,ncp,Av _,rfl,BB2.out,rfl,OWN2.out,Aa hzl.out,Aa hzm.out,Aa (fun h l hl hlt=>absurd hlt (Ay l))⟩
    case round=>
     clear OWN2 BB2 k2;obtain⟨k,ys,gy,ycp,hk,rfl,bz,rfl,hown,hyl,hym,hur⟩:=hrel;by_cases hlk:k < ds[i].cons.length
     ·obtain⟨b',off',cap',av,hv',hB',hbs',hcap',d0,d1,hka⟩:=(HC.out wr bz).at_ hlk;cases hv'
      have hkk:(k:Int) < (ds[i].cons.length:Int):=by omega
      have hkk0:(0:Int)≤ (k:Int):=by omega
      have hyls:ys.length≤1048576:=by
       have h1:=hyl.out;have h2:=FT ds i hlt;have h3:=Gw ds (i+1);have h4:=NC.out;omega
      have hyls':ys.length < 1048576:=by
       have h1:=hyl.out;have h2:=FT ds i hlt;have h3:=Gw ds (i+1);have h4:=NC.out;omega
      have HBC:=Aa (Qt hlt hlk);have HBN:=Aa (Qv hlt hlk);have HUN:=Aa (fun e=>LM hlt hlk hur.out e);have HUB:=Aa (fun(e:Bg ds ds[i].cons[k].name≠ ((i:Int),(k:Int)))=>Ht (ds:=ds) (fun h=>e (h.2 i hlt k hlk)));obtain⟨aa,ac,rfl⟩:=hka.form;clear hka;generalize ds[i].cons[k].name=cn at*;go_wp2_with fail;generalize hww:Wa _ _=wu;obtain⟨bu,k3⟩:=Bx.alloc hww;clear hww d0 d1;have hs1:=bz.size;have OWN:=Aa (CE hown bu (Cj hown));have BZ:=Aa (bz.trans (bu.mono hs1));clear hown bz bu;have q3:=k3.2.1;refine(Og ys gy 0 ycp cn wu hyls (PT OWN.out rfl)).mono ?_;rintro e w4 ⟨rfl,rfl⟩;cases hin:inS ys cn with
      |true=>
       have hy:=Aa (HUB.out (fun e=>(HBC.out.2 e) ((hym.out cn).1 (Le.1 hin))));have bt:=BZ.out;clear q3 hin;go_wp2;go_ret;exact⟨Ae (by rw[hy.out];rfl),bt⟩
      |false=>
       have hnb:¬DZ ds i k cn:=fun h=>by
        have:=Le.2 ((hym.out cn).2 h);rw[hin]at this;cases this
       have hy:=Aa (HUN.out (HBC.out.1 hnb));clear hin hnb;go_wp2_with (at_builtin;refine Dj rfl _ _ 154 rfl w.heap.size 9 ti (.string ⟨#[]⟩) 1 16 Tryz.underlying154 hti hz0 hz1 hz2 rfl (by decide) _ _ _ rfl OWN.out #[_] rfl ?_ w4.heap.size rfl rfl ?_ ?_ ?_ ?_)
       ·rfl
       ·unfold maxLen;omega
       ·omega
       ·exact BZ.out.size
       ·intro v' w5 ho hg hat;have bt:=BZ.out.trans (Below.of_grown hg BZ.out.size (fun q hq=>(OWN.out.lt q hq).1));have ho2:w5.ownsRow w.heap.size 9 1 v' (ys++ [cn]).length ((ys++ [cn]).map Value.string):=by simpa using ho
        obtain⟨g2,cap2,hv2⟩:∃g cap,v'= .slice (some ⟨g,0,none⟩) (ys++ [cn]).length cap:=by
         rcases ho2.2 with ⟨_,h0⟩ |⟨g,cap,cur,h,_⟩
         ·simp at h0
         ·exact⟨g,cap,h⟩
        subst hv2;have hm:=Aa (show ∀s,s∈ys++ [cn]↔DZ ds i (k+1) s from fun s=>by
         rw[HBN.out,Ek,hym.out,List.mem_singleton];exact or_congr Iff.rfl eq_comm)
        have hl:=Aa (show(ys++ [cn]).length=Bu (ds.take i)+ (k+1)by rw[AV,hyl.out];rfl);have H2:=Aa (And.intro bt ho2);clear q3 bt ho2 ho hg hat;go_wp2;go_roundw
        case rel=>exact⟨k+1,ys++ [cn],g2,cap2,hlk,by go_num,H2.out.1,rfl,H2.out.2,hl,hm,hy⟩
        case measure=>simp[intOf];omega
     ·obtain rfl:k=ds[i].cons.length:=by omega
      have hu2:=Aa (LN hlt hu.out HDX.out hur.out);have hm2:=Aa (fun s=>(hym.out s).trans (Qw hlt s).symm);have hl2:=Aa (hyl.out.trans (FT ds i hlt).symm);have H2:=Aa (And.intro bz hown);clear bz hown;go_wp2;go_roundw
      case rel=>exact⟨i+1,ys,gy,ycp,hlt,by go_num,H2.out.1,rfl,H2.out.2,hl2,hm2,hu2⟩
      case measure=>simp[intOf];omega
   ·have hy:=Aa (Ht (fun h=>hdx (h.1 i hlt)));have hdb:(dIx ds ds[i].name !=(i:Int))=true:=by simpa using hdx
    have bt:=BB2.out;go_wp2;go_ret;exact⟨Ae (by rw[hy.out];rfl),bt⟩
  ·obtain rfl:i=ds.length:=by omega
   have hy:=Aa (LI (LL hu.out));go_wp2;go_ret;exact⟨Ae (by rw[hy.out];rfl),bb⟩
theorem PV (ds:List Dt) (dv:Value) (gl:Nat) (x:Tp) (kv:Value) (w:World) (hg:w.cell? ⟨gl,0,none⟩=some dv) (hlt:gl < w.heap.size)
  (hr:RdDts gl w dv ds) (hds:ds.length≤1048576):
  Calls Pq 99 #[tpV x kv,.pointer (some ⟨gl,0,none⟩)] w fun e w'=>e= .returned (.bool (!Ch ds x))∧Below w.heap.size w w':=by
 have DA:=Aa (fun(W:World) (hb:Below w.heap.size w W)=>Jh ds dv x.s _ W (hr.later' hb) hds);have HE:=Aa (show(!Ch ds x)= (decide (x.op=4)&& !decide (0≤dIx ds x.s))by unfold Ch;cases decide (x.op=4) <;> cases decide (0≤dIx ds x.s) <;> rfl);obtain⟨da,dc,rfl⟩:=hr.form;clear hr;unfold tpV;generalize (!Ch ds x)=nq at*;generalize x.op=xop at*;generalize x.n=xn at*;generalize x.s=xs at*;have hg2:=(((Ac w.heap.size w).alloc (Ad _) (.cells #[.int .i64 xop,.int .i64 xn,.string xs,kv] 158)).cell (p:=⟨gl,0,none⟩) hlt).trans hg;by_cases o4:xop=4
 ·subst o4;go_enter Tryz.func99,Tryz.ntmps99;go_wp2_with fail;generalize hxx:Wa _ _=x0;obtain⟨bb,k1⟩:=Bx.alloc hxx;clear hxx k1 hg2;refine(DA.out x0 bb).mono ?_;rintro e w2 ⟨rfl,b2⟩;replace bb:=bb.trans (b2.mono bb.size);generalize dIx ds xs=dx at*;by_cases hd:0≤dx
  ·have hd2:¬(dx < 0):=by omega
   have hd':=Aa hd;clear hd;go_wp2;go_ret;exact⟨Ae (by have:=hd'.out;rw[HE.out];first | (simp;omega) | (simp[this];done) | (rw[AN this];simp;omega) | (rw[AN this];simp)),bb⟩
  ·have hd2:dx < 0:=by omega
   have hd':=Aa hd;clear hd;go_wp2;go_ret;exact⟨Ae (by have:=hd'.out;rw[HE.out];first | (simp;omega) | (simp[this];done) | (rw[AN this];simp;omega) | (rw[AN this];simp)),bb⟩
 ·have o4b:(xop==4)=false:=by simp[o4]
  go_enter Tryz.func99,Tryz.ntmps99;go_wp2;go_ret;exact⟨Ae (by rw[HE.out];simp[o4]),(Ac _ _).alloc (Ad _) _⟩
theorem PW (ds:List Dt) (dv:Value) (gl:Nat) (x:Tp) (kv:Value) (B:Nat) (w:World) (hg:w.cell? ⟨gl,0,none⟩=some dv) (hlt:gl < w.heap.size)
  (hr:RdDts gl w dv ds) (hk:RdTps B w kv x.kids) (hds:ds.length≤1048576) (hp:Ch ds x=true):
  Calls Pq 101 #[tpV x kv,.pointer (some ⟨gl,0,none⟩)] w fun e w'=>e= .returned (.bool (!Db ds x))∧Below w.heap.size w w':=by
 have DA:=Aa (fun(W:World) (hb:Below w.heap.size w W)=>Jh ds dv x.s _ W (hr.later' hb) hds);have HE:=Aa (show(!Db ds x)= (decide (x.op=4)&& !decide ((x.kids.length:Int)=EP ds x.s))by unfold Db;cases decide (x.op=4) <;> cases decide ((x.kids.length:Int)=EP ds x.s) <;> rfl);have HP:=Aa (show x.op=4→ ∃k,∃hk:k < ds.length,dIx ds x.s=k∧EP ds x.s=ds[k].vars from fun h=>by
  unfold Ch at hp;rw[AN h]at hp;rcases LF ds x.s with ⟨h1,_⟩ |⟨k,hk,h1, -⟩
  ·rw[h1]at hp;simp at hp
  ·refine⟨k,hk,h1,?_⟩;unfold EP;rw[h1];simp[List.getD,Bl hk])
 have HR:=Aa hr;have hkl:=hk.len;unfold maxLen at hkl;obtain⟨da,dc,rfl⟩:=hr.form;obtain⟨ka,kc,rfl⟩:=hk.form;clear hr hk hp;unfold tpV;generalize (!Db ds x)=nq at*;generalize x.kids.length=kn at*;generalize x.op=xop at*;generalize x.n=xn at*;generalize x.s=xs at*;go_enter Tryz.func101,Tryz.ntmps101;go_wp2_with fail;generalize hxx:Wa _ _=x0;obtain⟨bb,k1⟩:=Bx.alloc hxx;clear hxx;have q1:=k1.2.1;have p0:x0.cell? ⟨w.heap.size,0,none⟩=some (.int .i64 xop):=q1 0;by_cases o4:xop=4
 ·obtain⟨k,hk,hdx,hva⟩:=HP.out o4;obtain⟨b,off,cap,cv,hv,hB,hbs,hcap,c0,c1,c2, -⟩:=HR.out.at_ hk;cases hv
  have HVA:=Aa hva;have hki:(k:Int) < (ds.length:Int):=by omega
  have hk0:(0:Int)≤ (k:Int):=by omega
  subst o4;have hg2:=(bb.cell (p:=⟨gl,0,none⟩) hlt).trans hg;have hx2:x0.cell? ⟨b,off+k*3+1,none⟩=some (.int .i64 ds[k].vars):=(bb.cell (p:=⟨b,off+k*3+1,none⟩) hbs).trans c1;have hbx:b < x0.heap.size:=Aj hbs bb.size;have hglx:gl < x0.heap.size:=Aj hlt bb.size;have HQ:=Aa (fun(W:World) (hb:Below x0.heap.size x0 W)=>(⟨(k1.below hb k1.1).2.1 0,(k1.below hb k1.1).2.1 2,(k1.below hb k1.1).2.1 3,(hb.cell (p:=⟨gl,0,none⟩) hglx).trans hg2,(hb.cell (p:=⟨b,off+k*3+1,none⟩) hbx).trans hx2⟩:W.cell? ⟨w.heap.size,0,none⟩=some (.int .i64 4)∧W.cell? ⟨w.heap.size,2,none⟩=some (.string xs)∧W.cell? ⟨w.heap.size,3,none⟩=some (.slice ka kn kc)∧W.cell? ⟨gl,0,none⟩=some (.slice (some ⟨b,off,none⟩) ds.length dc)∧W.cell? ⟨b,off+k*3+1,none⟩=some (.int .i64 ds[k].vars)));generalize ds[k].vars=vk at*;clear q1 p0 c0 c1 c2 hg2 hx2 hg hva k1;refine wp_region_held_drew (S:=(fun W=>W.cell? ⟨w.heap.size,0,none⟩=some (.int .i64 4)∧W.cell? ⟨w.heap.size,2,none⟩=some (.string xs)∧W.cell? ⟨w.heap.size,3,none⟩=some (.slice ka kn kc)∧W.cell? ⟨gl,0,none⟩=some (.slice (some ⟨b,off,none⟩) ds.length dc)∧W.cell? ⟨b,off+k*3+1,none⟩=some (.int .i64 vk))) (by kernel_rfl) (by first | (dsimp only;exact HQ.out _ (Below.refl _ _).drew) | (exact HQ.out _ (Below.refl _ _).drew)) (fun hHeld=> ?_);generalize hxd:World.drew _=x1 at hHeld ⊢;have hd1:Below x0.heap.size x0 x1:=by rw[←hxd];exact(Ac _ _).drew
  clear hxd;have bb1:=bb.trans (hd1.mono bb.size);refine tkH (i:=0) ?_;refine tkH (i:=1) ?_;refine tkH (i:=2) ?_;refine tkH (i:=3) ?_;refine tkH (i:=4) ?_;refine tkH (i:=5) ?_;refine tkH (i:=6) ?_;refine tkH (i:=7) ?_;refine tkH (i:=8) ?_;refine tkH (i:=9) ?_;refine tkH (i:=10) ?_;refine rdH (i:=11) (fun K hK=> ?_);go_simp;refine(DA.out x1 bb1).mono ?_;rintro e w6 ⟨rfl,b6⟩;replace b6:=hd1.trans (b6.mono hd1.size);rw[hdx];refine bkH hK (by first | (dsimp only;exact HQ.out _ b6) | (exact HQ.out _ b6)) (fun hHeld=> ?_);clear hK K;refine tkH (i:=12) ?_;refine tkH (i:=13) ?_;refine tkH (i:=14) ?_;refine tkH (i:=15) ?_;refine tkH (i:=16) ?_;refine tkH (i:=17) ?_;refine Bs (by kernel_rfl) ?_ _;have bt:=bb.trans (b6.mono bb.size);clear b6 hd1 bb1 hdx;go_wp2
  all_goals go_ret
  all_goals exact⟨Ae (by rw[HE.out,HVA.out];simp only[decide_true,Hb];rfl),bt⟩
 ·have o4b:(xop==4)=false:=by simp[o4]
  have HQ:=Aa (fun(W:World) (hb:Below x0.heap.size x0 W)=>((k1.below hb k1.1).2.1 0:W.cell? ⟨w.heap.size,0,none⟩=some (.int .i64 xop)));clear q1 p0;refine wp_region_held_drew (S:=(fun W=>W.cell? ⟨w.heap.size,0,none⟩=some (.int .i64 xop))) (by kernel_rfl) (by first | (dsimp only;exact HQ.out _ (Below.refl _ _).drew) | (exact HQ.out _ (Below.refl _ _).drew)) (fun hHeld=> ?_);generalize hxd:World.drew _=x1 at hHeld ⊢;have hd1:Below x0.heap.size x0 x1:=by rw[←hxd];exact(Ac _ _).drew
  clear hxd;have bt:=bb.trans (hd1.mono bb.size);refine tkH (i:=0) ?_;refine tkH (i:=1) ?_;refine tkH (i:=2) ?_;refine tkH (i:=3) ?_;refine skH (i:=4) ?_;refine skH (i:=5) ?_;refine skH (i:=6) ?_;refine skH (i:=7) ?_;refine skH (i:=8) ?_;refine skH (i:=9) ?_;refine skH (i:=10) ?_;refine skH (i:=11) ?_;refine skH (i:=12) ?_;refine skH (i:=13) ?_;refine skH (i:=14) ?_;refine skH (i:=15) ?_;refine tkH (i:=16) ?_;refine tkH (i:=17) ?_;refine Bs (by kernel_rfl) ?_ _;clear hd1;go_wp2;go_ret;exact⟨Ae (by rw[HE.out];simp[o4]),bt⟩
theorem Lf (ds:List Dt) (dv:Value) (B:Nat) (w:World) (hr:RdDts B w dv ds) (hl:AR ds≤1048576):
  Calls Pq 49 #[dv] w fun e w'=>e= .returned (.int .i64 (ckP ds))∧Below w.heap.size w w':=by
 have HR:=Aa (fun(W:World) (hb:Below w.heap.size w W)=>hr.later' hb);have hln:=De ds;have hds:ds.length≤1048576:=by omega
 have NC:=Aa (fun(k:Nat)=>(Ar (Gw ds k) (Ar (Hu ds) hl):Bu (ds.take k)≤1048576));have NT:=Aa (FT ds);have SZ:=Aa (EN hl);have TW:=Aa (fun(W:World) (hb:Below w.heap.size w W)=>PU ds dv _ W (hr.later' hb) hl);have S1:=Aa (fun(W:World) (hb:Below w.heap.size w W) (k:Bx W w.heap.size #[dv])=>PZ w.heap.size (fun _=>true) (Ch ds) W (fun x kv B W' hp hb' hk=>PV ds dv w.heap.size x kv W' ((k.below hb' k.1).2.1 0) (k.below hb' k.1).1 (((hr.later' hb).later hb' hb.size)) hds) ds dv _ W (hr.later' hb) hl (Qx ds) (Ac _ _));have S2:=Aa (fun(hn:Bo (Ch ds) ds=true) (W:World) (hb:Below w.heap.size w W) (k:Bx W w.heap.size #[dv])=>P3 w.heap.size (Ch ds) (Db ds) W (fun x kv B W' hp hb' hk=>PW ds dv w.heap.size x kv _ W' ((k.below hb' k.1).2.1 0) (k.below hb' k.1).1 (((hr.later' hb).later hb' hb.size)) hk hds hp) ds dv _ W (hr.later' hb) hl hn (Ac _ _));have HE:=Aa (LJ ds);obtain⟨ka,kc,rfl⟩:=hr.form;generalize ckP ds=cp at*;clear hr hln hl;go_enter Tryz.func49,Tryz.ntmps49;go_wp2_with fail;generalize hxx:Wa _ _=x0;obtain⟨bb,k1⟩:=Bx.alloc hxx;clear hxx;have q1:=k1.2.1;go_wp2_with fail;clear q1
 go_loopw [3,8] (fun c i wr=>∃k:Nat,k≤ds.length∧i= .int .i64 k∧c= .int .i64 (Bu (ds.take k))∧Below w.heap.size w wr∧Bx wr w.heap.size #[.slice ka ds.length kc]) (fun _ i _=>ds.length - (intOf i).toNat)
 case atStart=>exact⟨0,Av _,rfl,rfl,bb,k1⟩
 case round=>
  clear bb k1;obtain⟨i,hi,rfl,rfl,bb,k1⟩:=hrel;by_cases hlt:i < ds.length
  ·obtain⟨b,off,cap,cv,hv,hB,hbs,hcap,c0,c1,c2,hkr⟩:=(HR.out wr bb).at_ hlt;cases hv
   have hki:(i:Int) < (ds.length:Int):=by omega
   have hk0:(0:Int)≤ (i:Int):=by omega
   have hnt:=NT.out i hlt;have hnc:=NC.out (i+1);rw[hnt]at hnc;obtain⟨ca,cc,rfl⟩:=hkr.form;clear hkr;have HNT:=Aa hnt;clear hnt;generalize ds[i].cons.length=cl at*;go_wp2_with fail;generalize hyy:Wa _ _=wy;obtain⟨by_,k2⟩:=Bx.alloc hyy;have hs0:=bb.size;replace k1:=k1.below by_ k1.1;replace bb:=bb.trans (by_.mono hs0);exact⟨⟨i+1,hlt,rfl,by rw[HNT.out];rfl,bb,k1⟩,by simp[intOf];omega⟩
  ·obtain rfl:i=ds.length:=by omega
   rw[CL];have hnn:=NC.out ds.length;rw[CL]at hnn;have q1:=k1.2.1;go_wp2_with fail;clear q1;refine(TW.out _ bb).mono ?_;rintro e w2 ⟨rfl,b2⟩;replace k1:=k1.below b2 k1.1;replace bb:=bb.trans (b2.mono bb.size);clear b2;have q1:=k1.2.1;cases hu:FS ds with
   |false=>
    have hu:=Aa hu;go_wp2;go_ret;exact⟨AK (by rw[HE.out,hu.out];rfl),bb⟩
   |true=>
    have hu:=Aa hu;go_wp2_with fail;clear q1;refine(S1.out _ bb k1).mono ?_;rintro e w3 ⟨rfl,b3⟩;replace k1:=k1.below b3 k1.1;replace bb:=bb.trans (b3.mono bb.size);clear b3;have q1:=k1.2.1;cases hn:Bo (Ch ds) ds with
    |false=>
     have hn:=Aa hn;go_wp2;go_ret;exact⟨AK (by rw[HE.out,hu.out,hn.out];rfl),bb⟩
    |true=>
     have hn:=Aa hn;by_cases h60:Bu ds≤60
     ·have h60i:¬((Bu ds:Int) > 60):=by omega
      have h60':=Aa h60;clear h60;go_wp2_with fail;clear q1;refine(S2.out hn.out _ bb k1).mono ?_;rintro e w4 ⟨rfl,b4⟩;replace bb:=bb.trans (b4.mono bb.size);cases hm:Bo (Db ds) ds with
      |false=>
       have hm:=Aa hm;go_wp2;go_ret;exact⟨AK (by rw[HE.out,hu.out,hn.out,hm.out];simp),bb⟩
      |true=>
       have hm:=Aa hm;go_wp2;go_ret;exact⟨AK (by rw[HE.out,hu.out,hn.out,hm.out];simp[h60'.out]),bb⟩
     ·have h60i:(Bu ds:Int) > 60:=by omega
      have h60':=Aa h60;clear h60;go_wp2;go_ret;exact⟨AK (by rw[HE.out,hu.out,hn.out];simp[h60'.out]),bb⟩
def A9 (F:Int):Nat:=(max 0 (min F 4000)).toNat
def CU (r:Rs Vl):Int×Option Vl×List Int:=match r with
 | .ok v s=>if Au v > 4000 then(1,none,s.out)else(0,some v,s.out)
 | .bad c o=>(c,none,o)
noncomputable def BX (ds:List Dt) (x:Nd) (F:Int):Int×Option Vl×List Int:=
 if By ds x=true∧ckP ds=0 then CU (Ai (arP ds) (A9 F) x [] ⟨A9 F,[]⟩)else(2,none,[])
def RdEv (A:Nat→Prop) (w:World) (t:Int×Option Vl×List Int) (v:Value):Prop:=
 ∃a b s kv ov,v= .agg #[.int .i64 t.1,a,b,s,kv,ov]∧Rd w.heap.size .i64 w ov t.2.2∧
  match t.2.1 with
  |some u=> #[a,b,s,kv]=vlC u kv∧RdTv A w u (vlC u kv)
  |none=>a= .int .i64 0∧b= .int .i64 0∧s= .string ⟨#[]⟩ ∧kv= .slice none 0 0
def EvR (w:World) (ds:List Dt) (x:Nd) (F:Int) (e:Ending) (w':World):Prop:=∃v,e= .returned v∧Below w.heap.size w w'∧RdEv (fun b=>w.heap.size≤b) w' (BX ds x F) v
theorem Bx.set6 {w:World}{g:Nat}{z0 z1 z2 z3 z4 z5:Value}(k:Bx w g #[z0,z1,z2,z3,z4,z5]) (a0 a1 a2 a3 a4 a5:Value):
  Bx ((((((w.setCell ⟨g,0,none⟩ a0).setCell ⟨g,1,none⟩ a1).setCell ⟨g,2,none⟩ a2).setCell ⟨g,3,none⟩ a3).setCell ⟨g,4,none⟩ a4).setCell ⟨g,5,none⟩ a5) g #[a0,a1,a2,a3,a4,a5]∧w.grownBy ((((((w.setCell ⟨g,0,none⟩ a0).setCell ⟨g,1,none⟩ a1).setCell ⟨g,2,none⟩ a2).setCell ⟨g,3,none⟩ a3).setCell ⟨g,4,none⟩ a4).setCell ⟨g,5,none⟩ a5) (some g):=by
 have:=(((((k.st 0 (by simp) a0).st 1 (by simp) a1).st 2 (by simp) a2).st 3 (by simp) a3).st 4 (by simp) a4).st 5 (by simp) a5;exact⟨by simpa using this,(((((grownBy.setCell w g 0 a0).trans' (grownBy.setCell _ g 1 a1)).trans' (grownBy.setCell _ g 2 a2)).trans' (grownBy.setCell _ g 3 a3)).trans' (grownBy.setCell _ g 4 a4)).trans' (grownBy.setCell _ g 5 a5)⟩
theorem grown_at {w W W':World}{g:Nat}(hb:Below w.heap.size w W) (h:W.grownBy W' (some g)) (hg:w.heap.size≤g):Below w.heap.size w W':=
 hb.trans (Below.of_grown h hb.size (fun q e=>by have:=Ah e;omega))
theorem Iu {w x0:World}{u v:Array Value}{e e2:TypeId}(h:(w.alloc (.cells u e)).alloc (.cells v e2)=x0):Below w.heap.size w x0∧Bx x0 w.heap.size u∧Bx x0 (w.heap.size+1) v∧x0.heap.size=w.heap.size+2:=by
 obtain⟨x1,h1⟩:∃x1,w.alloc (.cells u e)=x1:=⟨_,rfl⟩;rw[h1]at h;obtain⟨b1,k1⟩:=Bx.alloc h1;obtain⟨b2,k2⟩:=Bx.alloc h;have s1:x1.heap.size=w.heap.size+1:=by rw[←h1,BM]
 rw[s1]at k2;exact⟨b1.trans (b2.mono b1.size),k1.below b2 k1.1,k2,by rw[←h,BM,s1]⟩
theorem SE {B:Nat}{ds:List Dt}{x:Nd}{dv kv:Value}{w:World}(F:Int) (hz:SzP ds x) (hr:RdDts B w dv ds) (hk:RdNs B w kv x.kids) (hv:∀d∈ds, -9223372036854775807≤d.vars∧d.vars≤9223372036854775807)
  (hs:¬(By ds x=true∧ckP ds=0)):
  Calls Pq 15 #[pgV dv x kv,.int .i64 F] w (EvR w ds x F):=by
 have HT:=Aa (fun(W:World) (b:Below w.heap.size w W)=>O6 ds x dv kv _ _ W hz (hr.later' b) (hk.later' b) hv);have HC:=Aa (fun(W:World) (b:Below w.heap.size w W)=>Lf ds dv _ W (hr.later' b) hz.1);have HE:Hid (BX ds x F= (2,none,[])):=Aa (by unfold BX;rw[Ab hs]);have HS:=Aa hs;obtain⟨da,dc,rfl⟩:=hr.form;obtain⟨ka,kc,rfl⟩:=hk.form;clear hr hk hv hs hz;unfold pgV at HT ⊢;go_enter Tryz.func15,Tryz.ntmps15;go_wp2_with fail;generalize hxx:(w.alloc _).alloc _=x0;obtain⟨bx,k1,k2,sx⟩:=Iu hxx;clear hxx;refine(HT.out x0 bx).mono ?_;rintro e w1 ⟨rfl,b1⟩;replace k1:=k1.below b1 k1.1;replace k2:=k2.below b1 k2.1;have c1:=k1.2.1;have c2:=k2.2.1;have f2:=k2.2.2;have y2:=k2.1;have B1:=Aa (bx.trans (b1.mono bx.size));clear k1 bx b1 HT;by_cases ht:By ds x=true
 ·rw[ht];have hcne:ckP ds≠0:=fun h=>HS.out ⟨ht,h⟩;have hcb:(ckP ds !=0)=true:=by simpa using hcne
  generalize ckP ds=cc at*;clear ht hcne;go_wp2_with fail;refine(HC.out w1 B1.out).mono ?_;rintro e w2 ⟨rfl,b2⟩;have KK:=Aa (k2.below b2 k2.1);have BB:=Aa (B1.out.trans (b2.mono B1.out.size));have c3:=KK.out.2.1;have f3:=KK.out.2.2;have y3:=KK.out.1;clear k2 c1 c2 f2 y2 b2 HC;go_wp2;obtain⟨k9,g9⟩:=KK.out.set6 (.int .i64 2) (.int .i64 0) (.int .i64 0) (.string ⟨#[]⟩) (.slice none 0 0) (.slice none 0 0);have c9:=k9.2.1;refine AA (v:= .agg #[.int .i64 2,.int .i64 0,.int .i64 0,.string ⟨#[]⟩,.slice none 0 0,.slice none 0 0]) ?_ rfl ⟨_,rfl,grown_at BB.out g9 (by omega),?_⟩
  ·simp[results,Tryz.results15,go_sem,c9]
  ·rw[HE.out];exact⟨_,_,_,_,_,rfl,.inl ⟨rfl,_,_,rfl⟩,rfl,rfl,rfl,rfl⟩
 ·obtain ht:By ds x=false:=by simpa using ht
  rw[ht];have KK:=Aa k2;have BB:=B1;clear ht k2;go_wp2;obtain⟨k9,g9⟩:=KK.out.set6 (.int .i64 2) (.int .i64 0) (.int .i64 0) (.string ⟨#[]⟩) (.slice none 0 0) (.slice none 0 0);have c9:=k9.2.1;refine AA (v:= .agg #[.int .i64 2,.int .i64 0,.int .i64 0,.string ⟨#[]⟩,.slice none 0 0,.slice none 0 0]) ?_ rfl ⟨_,rfl,grown_at BB.out g9 (by omega),?_⟩
  ·simp[results,Tryz.results15,go_sem,c9]
  ·rw[HE.out];exact⟨_,_,_,_,_,rfl,.inl ⟨rfl,_,_,rfl⟩,rfl,rfl,rfl,rfl⟩
end Go.Proofs.YtifhcbeaiijkcaaGreat
end
