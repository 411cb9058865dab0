/- Parts of the proof of FnExactJudgeSame. -/
import Derived.Test.YtifhcbeaiijkcaaGreatJ17
import Derived.Test.YtifhcbeaiijkcaaGreatJ05
import Derived.Test.YtifhcbeaiijkcaaGreatJ08
import Derived.Test.YtifhcbeaiijkcaaGreatJ02
set_option linter.unusedVariables false
set_option linter.unusedSimpArgs false
set_option maxRecDepth 1000000
set_option maxHeartbeats 16000000
section
namespace Go.Proofs.YtifhcbeaiijkcaaGreat
open Go.RowKit
open _root_.Go.World renaming alloc→Wa,setCell→Ws
open _root_.Go.Proofs.Tryz renaming prog→Pq
theorem UU (n:Nat) (x:Tp) (kv:Value) (w:World)
  (HF:∀W,Below w.heap.size w W→Calls Pq 154 #[tpV x kv] W fun e w'=>e= .returned (.int .i64 n)∧Below W.heap.size W w'):
  Calls Pq 153 #[tpV x kv] w fun e w'=>e= .returned (.bool (!decide (n≤24)))∧Below w.heap.size w w':=by
 unfold tpV at HF ⊢;have HF:=Aa HF;generalize x.op=xop at*;generalize x.n=xn at*;generalize x.s=xs at*;go_enter Tryz.func153,Tryz.ntmps153;go_wp2_with fail;generalize hxx:Wa _ _=x0;obtain⟨bb,k1⟩:=Bx.alloc hxx;clear hxx k1;refine(HF.out x0 bb).mono ?_;rintro e w2 ⟨rfl,b2⟩;replace bb:=bb.trans (b2.mono bb.size);by_cases h:n≤24
 ·have hi:¬((n:Int) > 24):=by omega
  have h':=Aa h;clear h;go_wp2;go_ret;exact⟨Ac (by have:=h'.out;rw[Ax this,AF (by omega)];rfl),bb⟩
 ·have hi:(n:Int) > 24:=by omega
  have h':=Aa h;clear h;go_wp2;go_ret;exact⟨Ac (by have:=h'.out;rw[AF this];rfl),bb⟩
theorem UV {ds:List Dt}(i k:Nat) (hi:i < ds.length) (hk:k < ds[i].cons.length) (h:(ds[i].cons[k].args.all fun t=>decide (AE t≤24))=false):dpT ds=false:=
 DN (q:=fun d:Dt=>d.cons.all fun c=>c.args.all fun t=>decide (AE t≤24)) hi (DN (q:=fun c:Cn=>c.args.all fun t=>decide (AE t≤24)) hk h)
theorem UW {ds:List Dt}(h:∀i (hi:i < ds.length) k (hk:k < ds[i].cons.length),(ds[i].cons[k].args.all fun t=>decide (AE t≤24))=true):dpT ds=true:=
 Ea (q:=fun d:Dt=>d.cons.all fun c=>c.args.all fun t=>decide (AE t≤24)) fun i hi=>Ea (q:=fun c:Cn=>c.args.all fun t=>decide (AE t≤24)) fun k hk=>h i hi k hk
theorem UX (ds:List Dt) (x:Nd) (dv kv:Value) (B B':Nat) (w:World) (hz:SzP ds x) (hr:RdDts B w dv ds) (hk:RdNs B' w kv x.kids):
  Calls Pq 92 #[pgV dv x kv] w fun e w'=>e= .returned (.bool (dpT ds&& decide (Bf x≤24)))∧Below w.heap.size w w':=by
 obtain⟨hl,hz2,hz3⟩:=hz;have HR:=Aa (fun(W:World) (hb:Below w.heap.size w W)=>hr.later' hb);have DE:=Aa (fun(W:World) (hb:Below w.heap.size w W)=>Ln _ x kv _ W (Ad _) hz3 (hk.later' hb));have hln:=Dn ds;have hds:ds.length≤1048576:=by omega
 have SZ:=Aa (EP hl);have SA:=Aa (He hl);have HO:=Aa (fun(i:Nat) (hi:i < ds.length) (k:Nat) (hk:k < ds[i].cons.length) (j:Nat) (hj:j < ds[i].cons[k].args.length) (kv:Value) (B:Nat) (W:World) (h:RdTps B W kv ds[i].cons[k].args[j].kids)=>(by
  have:=Hf hl i hi k hk j hj;exact NL 1048577 _ kv B W (by omega) this h:Calls Pq 154 #[tpV ds[i].cons[k].args[j] kv] W fun e w'=>e= .returned (.int .i64 (AE ds[i].cons[k].args[j]))∧Below W.heap.size W w'))
 have HN:=Aa (@UV ds);have HY:=Aa (UW (ds:=ds));generalize dpT ds=aq at*;obtain⟨ka,kc,rfl⟩:=hr.form;unfold ndV at DE;unfold pgV;clear hr hln hl hz2 hz3 hk;generalize Bf x=dpx at*;generalize x.op=xop at*;generalize x.n=xn at*;generalize x.s=xs at*;generalize x.t=xt at*;go_enter Tryz.func92,Tryz.ntmps92;go_wp2_with fail;generalize hxx:Wa _ _=x0;obtain⟨bb,k1⟩:=Bx.alloc hxx;clear hxx;have q1:=k1.2.1;go_wp2_with fail;clear q1
 go_loopw [10] (fun i wr=>∃k:Nat,k≤ds.length∧i= .int .i64 k∧Below w.heap.size w wr∧Bx wr w.heap.size #[.slice ka ds.length kc,.int .i64 xop,.int .i64 xn,.string xs,.string xt,kv]∧Hid (∀j (h:j < ds.length),j < k→ ∀l (hl:l < ds[j].cons.length),(ds[j].cons[l].args.all fun t=>decide (AE t≤24))=true)) (fun i _=>ds.length - (intOf i).toNat)
 case atStart=>exact⟨0,Ao _,rfl,bb,k1,Aa (fun j h hk=>absurd hk (Aw j))⟩
 case round=>
  clear bb k1;obtain⟨ii,hi,rfl,bb,k1,hd⟩:=hrel;by_cases hlt:ii < ds.length
  ·obtain⟨b,off,cap,cv,hv,hB,hbs,hcap,c0,c1,c2,hkr⟩:=(HR.out wr bb).at_ hlt;cases hv
   have hki:(ii:Int) < (ds.length:Int):=by omega
   have hk0:(0:Int)≤ (ii:Int):=by omega
   have hsz:=SZ.out ii hlt;have SAi:=Aa (SA.out ii hlt);have HOi:=Aa (HO.out ii hlt);have HNi:=Aa (fun(k:Nat) (hk:k < ds[ii].cons.length) h=>HN.out ii k hlt hk h);have HC:=Aa (fun(W:World) (hb:Below wr.heap.size wr W)=>hkr.later' hb);obtain⟨ca,cc,rfl⟩:=hkr.form;generalize ds[ii].name=dn at*;generalize ds[ii].vars=dvs at*;clear hkr;go_wp2_with fail;generalize hyy:Wa _ _=wy;obtain⟨by_, -⟩:=Bx.alloc hyy;clear hyy c0 c1 c2;have hs0:=bb.size;replace k1:=k1.below by_ k1.1;have BW:=Aa (bb.trans (by_.mono hs0))
   go_loopw [17] (fun i wz=>∃k:Nat,k≤ds[ii].cons.length∧i= .int .i64 k∧Below wy.heap.size wy wz∧Hid (∀l (hl:l < ds[ii].cons.length),l < k→(ds[ii].cons[l].args.all fun t=>decide (AE t≤24))=true)) (fun i _=>ds[ii].cons.length - (intOf i).toNat)
   case atStart=>exact⟨0,Ao _,rfl,Ab _ _,Aa (fun j h hk=>absurd hk (Aw j))⟩
   case round=>
    obtain⟨k,hk,rfl,bz,hdk⟩:=hrel;have k3:=k1.below bz k1.1;by_cases hlk:k < ds[ii].cons.length
    ·obtain⟨b',off',cap',av,hv',hB',hbs',hcap',d0,d1,hka⟩:=(HC.out wr (by_.trans (bz.mono by_.size))).at_ hlk;cases hv'
     have hkk:(k:Int) < (ds[ii].cons.length:Int):=by omega
     have hkk0:(0:Int)≤ (k:Int):=by omega
     have HK:=Aa hka;obtain⟨aa,ac,rfl⟩:=hka.form;clear hka;go_wp2_with fail;generalize hww:Wa _ _=wu;obtain⟨bu, -⟩:=Bx.alloc hww;clear hww d0 d1;have hs1:=bz.size;have hs2:=by_.size;have bt:=BW.out.trans ((bz.trans (bu.mono hs1)).mono BW.out.size);refine(O0 (fun t=>!decide (AE t≤24)) ds[ii].cons[k].args _ _ wu (HK.out.later bu (At hs2 hs1)) (SAi.out k hlk) (fun j hj kv W hb hk=>UU (AE ds[ii].cons[k].args[j]) ds[ii].cons[k].args[j] kv W (fun W' hb'=>HOi.out k hlk j hj kv _ W' (hk.later hb' hb.size)))).mono ?_;rintro e w4 ⟨rfl,b4⟩;have b5:=bu.trans (b4.mono bu.size);cases ha:(ds[ii].cons[k].args.all fun t=>decide (AE t≤24))with
     |true=>
      have ha':=Aa ha;have hany:(ds[ii].cons[k].args.any fun t=>!decide (AE t≤24))=false:=by rw[←FA,DV];simpa using ha
      rw[hany];clear ha hany;replace bz:=bz.trans (b5.mono hs1);go_wp2;go_roundw
      case rel=>exact⟨k+1,hlk,by go_num,bz,Aa (fun j h hj=>by
       by_cases e:j=k
       ·subst e;exact ha'.out
       ·exact hdk.out j h (by omega))⟩
      case measure=>simp[intOf];omega
     |false=>
      have ha':=Aa (HNi.out k hlk ha);have hany:(ds[ii].cons[k].args.any fun t=>!decide (AE t≤24))=true:=by rw[←FA,DV];simpa using ha
      rw[hany];clear ha hany;replace bt:=bt.trans (b4.mono bt.size);go_wp2;go_ret;exact⟨Ac (by rw[ha'.out];rfl),bt⟩
    ·obtain rfl:k=ds[ii].cons.length:=by omega
     have bt:=BW.out.trans (bz.mono BW.out.size);go_wp2;go_roundw
     case rel=>exact⟨ii+1,hlt,by go_num,bt,k3,Aa (fun j h hj=>by
      by_cases e:j=ii
      ·subst e;exact fun l hl=>hdk.out l hl hl
      ·exact hd.out j h (by omega))⟩
     case measure=>simp[intOf];omega
  ·obtain rfl:ii=ds.length:=by omega
   have he:=Aa (HY.out fun j h=>hd.out j h h);have q1:=k1.2.1;go_wp2_with fail;clear q1;refine(DE.out _ bb).mono ?_;rintro e w3 ⟨rfl,b3⟩;replace bb:=bb.trans (b3.mono bb.size);clear b3;by_cases hdl:dpx≤24
   ·have hdi:(dpx:Int)≤24:=by omega
    have hdl':=Aa hdl;clear hdl;go_wp2;go_ret;exact⟨Ac (by have:=hdl'.out;rw[he.out,Ax this];rfl),bb⟩
   ·have hdi:¬((dpx:Int)≤24):=by omega
    have hdl':=Aa hdl;clear hdl;go_wp2;go_ret;exact⟨Ac (by have:=hdl'.out;rw[he.out,AF this,AF (by omega)];rfl),bb⟩
theorem UY (d:Dt) (cv:Value) (r:Bool) (w:World)
  (HF:∀W,Below w.heap.size w W→Calls Pq 96 #[dtV d cv] W fun e w'=>e= .returned (.bool r)∧Below W.heap.size W w'):
  Calls Pq 95 #[dtV d cv] w fun e w'=>e= .returned (.bool (!r))∧Below w.heap.size w w':=by
 unfold dtV at HF ⊢;have HF:=Aa HF;generalize d.name=dn at*;generalize d.vars=dvs at*;go_enter Tryz.func95,Tryz.ntmps95;go_wp2_with fail;generalize hxx:Wa _ _=x0;obtain⟨bb,k1⟩:=Bx.alloc hxx;clear hxx k1;refine(HF.out x0 bb).mono ?_;rintro e w2 ⟨rfl,b2⟩;replace bb:=bb.trans (b2.mono bb.size);go_wp2;go_ret;exact⟨rfl,bb⟩
theorem NH (ds:List Dt) (x:Nd) (dv kv:Value) (B B':Nat) (w:World) (hz:SzP ds x) (hr:RdDts B w dv ds) (hk:RdNs B' w kv x.kids)
  (hv:∀d∈ds, -9223372036854775808≤d.vars∧d.vars≤9223372036854775807):
  Calls Pq 48 #[pgV dv x kv] w fun e w'=>e= .returned (.bool (BG ds x))∧Below w.heap.size w w':=by
 have hln:=Dn ds;have hds:ds.length≤1048576:=by have:=hz.1;omega
 have DO:=Aa (fun(W:World) (hb:Below w.heap.size w W)=>UX ds x dv kv _ _ W hz (hr.later' hb) (hk.later' hb));have EE:=Aa (fun(W:World) (hb:Below w.heap.size w W)=>JC 1048577 x kv _ W (by have:=hz.2.1;omega) hz.2.1 (hk.later' hb));have HD:=Aa (fun(W:World) (hb:Below w.heap.size w W)=>OU (fun d=>!dtT d) ds dv _ W (hr.later' hb) hds (fun j hj kv W' hb' hk=>UY ds[j] kv (dtT ds[j]) W' (fun W2 hb2=>UT ds[j] kv _ W2 (by have h1:=Dm (An hj);have:=hz.1;omega) (hk.later hb2 hb'.size) (hv _ (An hj)))));have HE:=Aa (UQ ds x);have HA:=Aa (show(!ds.any fun d=>!dtT d)=ds.all dtT by rw[DV];simp);unfold ndV at EE;unfold pgV at DO ⊢;clear hr hk hv hz hln;generalize BG ds x=tp at*;generalize (dpT ds&& decide (Bf x≤24))=dq at*;generalize Aj x=nq at*;generalize x.op=xop at*;generalize x.n=xn at*;generalize x.s=xs at*;generalize x.t=xt at*;go_enter Tryz.func48,Tryz.ntmps48;go_wp2_with fail;generalize hxx:Wa _ _=x0;obtain⟨bb,k1⟩:=Bx.alloc hxx;clear hxx;refine(DO.out x0 bb).mono ?_;rintro e w2 ⟨rfl,b2⟩;replace k1:=k1.below b2 k1.1;replace bb:=bb.trans (b2.mono bb.size);clear b2;cases dq with
 |false=>
  go_wp2;go_ret;exact⟨Ac (by rw[HE.out];rfl),bb⟩
 |true=>
  have q1:=k1.2.1;go_wp2_with fail;clear q1;refine(EE.out _ bb).mono ?_;rintro e w3 ⟨rfl,b3⟩;replace k1:=k1.below b3 k1.1;replace bb:=bb.trans (b3.mono bb.size);clear b3;cases nq with
  |false=>
   go_wp2;go_ret;exact⟨Ac (by rw[HE.out];rfl),bb⟩
  |true=>
   have q1:=k1.2.1;go_wp2_with fail;clear q1;refine(HD.out _ bb).mono ?_;rintro e w4 ⟨rfl,b4⟩;replace bb:=bb.trans (b4.mono bb.size);go_wp2;go_ret;exact⟨Ac (by rw[HE.out,HA.out];rfl),bb⟩
end Go.Proofs.YtifhcbeaiijkcaaGreat
end
section
namespace Go.Proofs.YtifhcbeaiijkcaaGreat
open _root_.Go.World renaming alloc→Wa,setCell→Ws
open _root_.Go.Proofs.Tryz renaming prog→Pq
noncomputable def FH (ds:List Dt):Bool:=@decide (Hh ds) (Classical.propDecidable _)
theorem Le {ds:List Dt}(h:Hh ds):FH ds=true:=@Ax _ (Classical.propDecidable _) h
theorem Hi {ds:List Dt}(h:¬Hh ds):FH ds=false:=@AF _ (Classical.propDecidable _) h
noncomputable def ckP (ds:List Dt):Int:=if FH ds=true then(if Bu (Cs ds) ds=true then(if BE ds≤60∧Bu (Di ds) ds=true then 0 else 3)else 2)else 1
theorem Lf (ds:List Dt):ckP ds=if FH ds=true then(if Bu (Cs ds) ds=true then(if BE ds≤60∧Bu (Di ds) ds=true then 0 else 3)else 2)else 1:=rfl
theorem FI:∀ (ds:List Dt) (i:Nat) (h:i < ds.length),BE (ds.take (i+1))=BE (ds.take i)+ds[i].cons.length
 |d::ds,0,h=>by simp[BE]
 |d::ds,i+1,h=>by
  have:=FI ds i (by simpa using h);simp only[List.take_succ_cons,List.getElem_cons_succ,BE];omega
theorem Gr:∀ (ds:List Dt) (i:Nat),BE (ds.take i)≤BE ds
 | [],i=>by simp
 |d::ds,0=>by simp[BE]
 |d::ds,i+1=>by
  have:=Gr ds i;simp only[List.take_succ_cons,BE];omega
theorem Hj:∀ (ds:List Dt),BE ds≤AN ds
 | []=>Ad _
 |d::ds=>by
  have:=Hj ds;have:=E9 d.cons;unfold BE AN wgD;omega
def Eh (ds:List Dt) (i k:Nat) (s:Str):Prop:=(∃j,∃h:j < ds.length,j < i∧ ∃l,∃hl:l < ds[j].cons.length,ds[j].cons[l].name=s)∨ ∃h:i < ds.length,∃l,∃hl:l < ds[i].cons.length,l < k∧ds[i].cons[l].name=s
theorem PT {ds:List Dt}{i k:Nat}(hi:i < ds.length) (hk:k < ds[i].cons.length):¬Eh ds i k ds[i].cons[k].name↔Bp ds ds[i].cons[k].name= ((i:Int),(k:Int)):=by
 rcases Gq ds ds[i].cons[k].name with ⟨h1,h2⟩ |⟨i',hi',k',hk',h1,h2,h3,h4⟩
 ·exact absurd rfl (h2 i hi k hk)
 ·constructor
  ·intro hb;have e1:i'=i:=by
    rcases Kd i' i with h |h |h
    ·exact absurd (Or.inl ⟨i',hi',h,k',hk',h2⟩) hb
    ·exact h
    ·exact absurd rfl (h4 i hi h k hk)
   subst e1;have e2:k'=k:=by
    rcases Kd k' k with h |h |h
    ·exact absurd (Or.inr ⟨hi,k',hk',h,h2⟩) hb
    ·exact h
    ·exact absurd rfl (h3 k hk h)
   subst e2;exact h1
  ·intro e;rw[h1]at e;have e1:i'=i:=by have:=congrArg Prod.fst e;dsimp only at this;omega
   have e2:k'=k:=by have:=congrArg Prod.snd e;dsimp only at this;omega
   subst e1 e2;rintro(⟨j,hj,hlt,l,hl,hn⟩ |⟨_,l,hl,hlt,hn⟩)
   ·exact h4 j hj hlt l hl hn
   ·exact h3 l hl hlt hn
theorem PU (ds:List Dt) (s:Str):¬Eh ds 0 0 s:=by
 rintro(⟨j,hj,hlt,_⟩ |⟨_,l,hl,hlt,_⟩) <;> omega
theorem PV {ds:List Dt}{i k:Nat}(hi:i < ds.length) (hk:k < ds[i].cons.length) (s:Str):Eh ds i (k+1) s↔ (Eh ds i k s∨ds[i].cons[k].name=s):=by
 constructor
 ·rintro(h |⟨h,l,hl,hlt,hn⟩)
  ·exact .inl (.inl h)
  ·by_cases e:l=k
   ·subst e;exact .inr hn
   ·exact .inl (.inr ⟨h,l,hl,by omega,hn⟩)
 ·rintro((h |⟨h,l,hl,hlt,hn⟩) |h)
  ·exact .inl h
  ·exact .inr ⟨h,l,hl,by omega,hn⟩
  ·exact .inr ⟨hi,k,hk,by omega,h⟩
theorem PW {ds:List Dt}{i:Nat}(hi:i < ds.length) (s:Str):Eh ds (i+1) 0 s↔Eh ds i ds[i].cons.length s:=by
 constructor
 ·rintro(⟨j,hj,hlt,l,hl,hn⟩ |⟨h,l,hl,hlt,hn⟩)
  ·by_cases e:j=i
   ·subst e;exact .inr ⟨hj,l,hl,hl,hn⟩
   ·exact .inl ⟨j,hj,by omega,l,hl,hn⟩
  ·omega
 ·rintro(⟨j,hj,hlt,l,hl,hn⟩ |⟨h,l,hl,hlt,hn⟩)
  ·exact .inl ⟨j,hj,by omega,l,hl,hn⟩
  ·exact .inl ⟨i,hi,by omega,l,hl,hn⟩
def FJ (ds:List Dt) (i:Nat):Prop:=(∀j (h:j < ds.length),j < i→dIx ds ds[j].name=j)∧ ∀j (h:j < ds.length) k (hk:k < ds[j].cons.length),j < i→Bp ds ds[j].cons[k].name= ((j:Int),(k:Int))
def Gs (ds:List Dt) (i k:Nat):Prop:=∀ (h:i < ds.length) l (hl:l < ds[i].cons.length),l < k→Bp ds ds[i].cons[l].name= ((i:Int),(l:Int))
theorem Lg (ds:List Dt):FJ ds 0:=⟨fun j h hj=>by omega,fun j h k hk hj=>by omega⟩
theorem Lh {ds:List Dt}(h:FJ ds ds.length):Hh ds:=⟨fun i hi=>h.1 i hi hi,fun i hi k hk=>h.2 i hi k hk hi⟩
theorem Li {ds:List Dt}{i k:Nat}(hi:i < ds.length) (hk:k < ds[i].cons.length) (h:Gs ds i k) (e:Bp ds ds[i].cons[k].name= ((i:Int),(k:Int))):Gs ds i (k+1):=fun h' l hl hlt=>by
 by_cases e':l=k
 ·subst e';exact e
 ·exact h h' l hl (by omega)
theorem Lj {ds:List Dt}{i:Nat}(hi:i < ds.length) (h:FJ ds i) (hd:dIx ds ds[i].name=i) (hr:Gs ds i ds[i].cons.length):FJ ds (i+1):=
 ⟨fun j hj hlt=>by
  by_cases e:j=i
  ·subst e;exact hd
  ·exact h.1 j hj (by omega),fun j hj k hk hlt=>by
  by_cases e:j=i
  ·subst e;exact hr hj k hk hk
  ·exact h.2 j hj k hk (by omega)⟩
theorem PX (ds:List Dt):Bu (fun _=>true) ds=true:=by
 have h:∀x,As (fun _=>true) x=true:=by
  have:∀N (x:Tp),wgT x < N→As (fun _=>true) x=true:=by
   intro N;induction N with
   |zero=>intro x h;omega
   |succ N ih=>
    intro x h;rw[EB,DW,DH,BA];intro y hy;have:=CJ hy;have:=DM x;exact ih y (by omega)
  exact fun x=>this _ x (Cp _)
 unfold Bu;rw[BA];intro d _;rw[BA];intro c _;rw[BA];intro t _;exact h t
end Go.Proofs.YtifhcbeaiijkcaaGreat
end
section
namespace Go.Proofs.YtifhcbeaiijkcaaGreat
open Go.RowKit
open _root_.Go.World renaming alloc→Wa,setCell→Ws
open _root_.Go.Proofs.Tryz renaming prog→Pq
theorem Tryz.infoString:(Tryz.prog.info? 9).map (fun i=>(i.zero,i.size,i.bytes))=some (some (.string ⟨#[]⟩),1,16):=by kernel_rfl
theorem Pa {x:Option TypeInfo}{z:Value}{n m:Nat}(h:x.map (fun i=>(i.zero,i.size,i.bytes))=some (some z,n,m)):∃i,x=some i∧i.zero=some z∧i.size=n∧i.bytes=m:=by
 cases x with
 |none=>cases h
 |some i=>
  have:=Am h;exact⟨i,rfl,Bk (fun t=>t.1) this,Bk (fun t=>t.2.1) this,Bk (fun t=>t.2.2) this⟩
theorem Pb {base:Nat}{w:World}{e:TypeId}{g off cap n:Nat}{zs:List Str}(h:w.ownsRow base e 1 (.slice (some ⟨g,off,none⟩) n cap) n (zs.map Value.string)) (hl:zs.length=n):Ih w g off zs:=by
 rcases h.2 with ⟨hh,_⟩ |⟨g',cap',cur,hv,_⟩
 ·cases hh
 ·cases hv
  intro j hj;rw[BS,Ig h j (by omega),GS,Ay hj];rfl
theorem Kw {zs:List Str}{s:Str}:inS zs s=true↔s∈zs:=by
 unfold inS;rw[Kc];constructor
 ·rintro⟨x,hx,e⟩;rw[←of_decide_eq_true e];exact hx
 ·intro h;exact⟨s,h,Ax rfl⟩
theorem Pc (ds:List Dt) (dv:Value) (B:Nat) (w:World) (hr:RdDts B w dv ds) (hl:AN ds≤1048576):
  Calls Pq 97 #[dv] w fun e w'=>e= .returned (.bool (!FH ds))∧Below w.heap.size w w':=by
 have HR:=Aa (fun(W:World) (hb:Below w.heap.size w W)=>hr.later' hb);have hln:=Dn ds;have hds:ds.length≤1048576:=by omega
 have SZ:=Aa (EP hl);have NC:=Aa (show BE ds≤1048576 from At (Hj ds) hl);have DA:=Aa (fun(s:Str) (W:World) (hb:Below w.heap.size w W)=>I3 ds dv s _ W (hr.later' hb) hds);obtain⟨ti,hti,hz0,hz1,hz2⟩:=Pa Tryz.infoString;obtain⟨ka,kc,rfl⟩:=hr.form;clear hr hln hl;go_enter Tryz.func97,Tryz.ntmps97;go_wp2_with fail;generalize hxx:Wa _ _=x0;have hown:x0.ownsRow w.heap.size 9 1 (.slice (some ⟨w.heap.size,0,none⟩) 0 0) 0 (([]:List Str).map Value.string):=by rw[←hxx];exact FR rfl (Ad _)
 have bb:Below w.heap.size w x0:=by rw[←hxx];exact(Ab _ _).alloc (Ad _) _
 clear hxx
 go_loopw [3,11] (fun nv i wr=>∃ (k:Nat) (zs:List Str) (g cap:Nat),k≤ds.length∧i= .int .i64 k∧Below w.heap.size w wr∧nv= .slice (some ⟨g,0,none⟩) zs.length cap∧wr.ownsRow w.heap.size 9 1 nv zs.length (zs.map Value.string)∧Hid (zs.length=BE (ds.take k))∧Hid (∀s,s∈zs↔Eh ds k 0 s)∧Hid (FJ ds k)) (fun _ i _=>ds.length - (intOf i).toNat)
 case atStart=>exact⟨0,[],w.heap.size,0,Ao _,rfl,bb,rfl,hown,Aa rfl,Aa (fun s=>by simp[PU]),Aa (Lg ds)⟩
 case round=>
  clear bb hown;obtain⟨i,zs,g,ncp,hi,rfl,bb,rfl,hown,hzl,hzm,hu⟩:=hrel;by_cases hlt:i < ds.length
  ·obtain⟨b,off,cap,cv,hv,hB,hbs,hcap,c0,c1,c2,hkr⟩:=(HR.out w (Ab _ _)).at_ hlt;cases hv
   have hki:(i:Int) < (ds.length:Int):=by omega
   have hk0:(0:Int)≤ (i:Int):=by omega
   have HC:=Aa (fun(W:World) (hb:Below w.heap.size w W)=>hkr.later' hb);replace c0:=(bb.cell (p:=⟨b,off+i*3,none⟩) hbs).trans c0;replace c1:=(bb.cell (p:=⟨b,off+i*3+1,none⟩) hbs).trans c1;replace c2:=(bb.cell (p:=⟨b,off+i*3+2,none⟩) hbs).trans c2;have hsz:=SZ.out i hlt;obtain⟨ca,cc,rfl⟩:=hkr.form;clear hkr;go_wp2_with fail;generalize hyy:Wa _ _=wy;obtain⟨by_,k2⟩:=Bx.alloc hyy;clear hyy c0 c1 c2;have hs0:=bb.size;have OWN:=Aa (Bm hown by_ (A5 hown));have BB:=Aa (bb.trans (by_.mono hs0));refine(DA.out ds[i].name wy BB.out).mono ?_;rintro e w2 ⟨rfl,b2⟩;replace k2:=k2.below b2 k2.1;have OWN2:=Aa (Bm OWN.out b2 (A5 OWN.out));have BB2:=Aa (BB.out.trans (b2.mono BB.out.size));clear hown bb OWN BB b2 by_;by_cases hdx:dIx ds ds[i].name=i
   ·have HDX:=Aa hdx;rw[hdx];clear hdx;have q2:=k2.2.1;go_wp2_with fail;clear q2
    go_loopw [3,25] (fun nv v wz=>∃ (k:Nat) (ys:List Str) (g cap:Nat),k≤ds[i].cons.length∧v= .int .i64 k∧Below w.heap.size w wz∧nv= .slice (some ⟨g,0,none⟩) ys.length cap∧wz.ownsRow w.heap.size 9 1 nv ys.length (ys.map Value.string)∧Hid (ys.length=BE (ds.take i)+k)∧Hid (∀s,s∈ys↔Eh ds i k s)∧Hid (Gs ds i k)) (fun _ v _=>ds[i].cons.length - (intOf v).toNat)
    case atStart=>exact⟨0,zs,g,ncp,Ao _,rfl,BB2.out,rfl,OWN2.out,Aa hzl.out,Aa hzm.out,Aa (fun h l hl hlt=>absurd hlt (Aw l))⟩
    case round=>
     clear OWN2 BB2 k2;obtain⟨k,ys,gy,ycp,hk,rfl,bz,rfl,hown,hyl,hym,hur⟩:=hrel;by_cases hlk:k < ds[i].cons.length
     ·obtain⟨b',off',cap',av,hv',hB',hbs',hcap',d0,d1,hka⟩:=(HC.out wr bz).at_ hlk;cases hv'
      have hkk:(k:Int) < (ds[i].cons.length:Int):=by omega
      have hkk0:(0:Int)≤ (k:Int):=by omega
      have hyls:ys.length≤1048576:=by
       have h1:=hyl.out;have h2:=FI ds i hlt;have h3:=Gr ds (i+1);have h4:=NC.out;omega
      have hyls':ys.length < 1048576:=by
       have h1:=hyl.out;have h2:=FI ds i hlt;have h3:=Gr ds (i+1);have h4:=NC.out;omega
      have HBC:=Aa (PT hlt hlk);have HBN:=Aa (PV hlt hlk);have HUN:=Aa (fun e=>Li hlt hlk hur.out e);have HUB:=Aa (fun(e:Bp ds ds[i].cons[k].name≠ ((i:Int),(k:Int)))=>Hi (ds:=ds) (fun h=>e (h.2 i hlt k hlk)));obtain⟨aa,ac,rfl⟩:=hka.form;clear hka;generalize ds[i].cons[k].name=cn at*;go_wp2_with fail;generalize hww:Wa _ _=wu;obtain⟨bu,k3⟩:=Bx.alloc hww;clear hww d0 d1;have hs1:=bz.size;have OWN:=Aa (Bm hown bu (A5 hown));have BZ:=Aa (bz.trans (bu.mono hs1));clear hown bz bu;have q3:=k3.2.1;refine(Mt ys gy 0 ycp cn wu hyls (Pb OWN.out rfl)).mono ?_;rintro e w4 ⟨rfl,rfl⟩;cases hin:inS ys cn with
      |true=>
       have hy:=Aa (HUB.out (fun e=>(HBC.out.2 e) ((hym.out cn).1 (Kw.1 hin))));have bt:=BZ.out;clear q3 hin;go_wp2;go_ret;exact⟨Ac (by rw[hy.out];rfl),bt⟩
      |false=>
       have hnb:¬Eh ds i k cn:=fun h=>by
        have:=Kw.2 ((hym.out cn).2 h);rw[hin]at this;cases this
       have hy:=Aa (HUN.out (HBC.out.1 hnb));clear hin hnb;go_wp2_with (at_builtin;refine Dw rfl _ _ 154 rfl w.heap.size 9 ti (.string ⟨#[]⟩) 1 16 Tryz.underlying154 hti hz0 hz1 hz2 rfl (by decide) _ _ _ rfl OWN.out #[_] rfl ?_ w4.heap.size rfl rfl ?_ ?_ ?_ ?_)
       ·rfl
       ·unfold maxLen;omega
       ·omega
       ·exact BZ.out.size
       ·intro v' w5 ho hg hat;have bt:=BZ.out.trans (Below.of_grown hg BZ.out.size (fun q hq=>(OWN.out.lt q hq).1));have ho2:w5.ownsRow w.heap.size 9 1 v' (ys++ [cn]).length ((ys++ [cn]).map Value.string):=by simpa using ho
        obtain⟨g2,cap2,hv2⟩:∃g cap,v'= .slice (some ⟨g,0,none⟩) (ys++ [cn]).length cap:=by
         rcases ho2.2 with ⟨_,h0⟩ |⟨g,cap,cur,h,_⟩
         ·simp at h0
         ·exact⟨g,cap,h⟩
        subst hv2;have hm:=Aa (show ∀s,s∈ys++ [cn]↔Eh ds i (k+1) s from fun s=>by
         rw[HBN.out,IC,hym.out,List.mem_singleton];exact or_congr Iff.rfl eq_comm)
        have hl:=Aa (show(ys++ [cn]).length=BE (ds.take i)+ (k+1)by rw[Bl,hyl.out];rfl);have H2:=Aa (And.intro bt ho2);clear q3 bt ho2 ho hg hat;go_wp2;go_roundw
        case rel=>exact⟨k+1,ys++ [cn],g2,cap2,hlk,by go_num,H2.out.1,rfl,H2.out.2,hl,hm,hy⟩
        case measure=>simp[intOf];omega
     ·obtain rfl:k=ds[i].cons.length:=by omega
      have hu2:=Aa (Lj hlt hu.out HDX.out hur.out);have hm2:=Aa (fun s=>(hym.out s).trans (PW hlt s).symm);have hl2:=Aa (hyl.out.trans (FI ds i hlt).symm);have H2:=Aa (And.intro bz hown);clear bz hown;go_wp2;go_roundw
      case rel=>exact⟨i+1,ys,gy,ycp,hlt,by go_num,H2.out.1,rfl,H2.out.2,hl2,hm2,hu2⟩
      case measure=>simp[intOf];omega
   ·have hy:=Aa (Hi (fun h=>hdx (h.1 i hlt)));have hdb:(dIx ds ds[i].name !=(i:Int))=true:=by simpa using hdx
    have bt:=BB2.out;go_wp2;go_ret;exact⟨Ac (by rw[hy.out];rfl),bt⟩
  ·obtain rfl:i=ds.length:=by omega
   have hy:=Aa (Le (Lh hu.out));go_wp2;go_ret;exact⟨Ac (by rw[hy.out];rfl),bb⟩
theorem Pd (ds:List Dt) (dv:Value) (gl:Nat) (x:Tp) (kv:Value) (w:World) (hg:w.cell? ⟨gl,0,none⟩=some dv) (hlt:gl < w.heap.size)
  (hr:RdDts gl w dv ds) (hds:ds.length≤1048576):
  Calls Pq 99 #[tpV x kv,.pointer (some ⟨gl,0,none⟩)] w fun e w'=>e= .returned (.bool (!Cs ds x))∧Below w.heap.size w w':=by
 have DA:=Aa (fun(W:World) (hb:Below w.heap.size w W)=>I3 ds dv x.s _ W (hr.later' hb) hds);have HE:=Aa (show(!Cs ds x)= (decide (x.op=4)&& !decide (0≤dIx ds x.s))by unfold Cs;cases decide (x.op=4) <;> cases decide (0≤dIx ds x.s) <;> rfl);obtain⟨da,dc,rfl⟩:=hr.form;clear hr;unfold tpV;generalize (!Cs ds x)=nq at*;generalize x.op=xop at*;generalize x.n=xn at*;generalize x.s=xs at*;have hg2:=(((Ab w.heap.size w).alloc (Ad _) (.cells #[.int .i64 xop,.int .i64 xn,.string xs,kv] 158)).cell (p:=⟨gl,0,none⟩) hlt).trans hg;by_cases o4:xop=4
 ·subst o4;go_enter Tryz.func99,Tryz.ntmps99;go_wp2_with fail;generalize hxx:Wa _ _=x0;obtain⟨bb,k1⟩:=Bx.alloc hxx;clear hxx k1 hg2;refine(DA.out x0 bb).mono ?_;rintro e w2 ⟨rfl,b2⟩;replace bb:=bb.trans (b2.mono bb.size);generalize dIx ds xs=dx at*;by_cases hd:0≤dx
  ·have hd2:¬(dx < 0):=by omega
   have hd':=Aa hd;clear hd;go_wp2;go_ret;exact⟨Ac (by have:=hd'.out;rw[HE.out];first | (simp;omega) | (simp[this];done) | (rw[Ax this];simp;omega) | (rw[Ax this];simp)),bb⟩
  ·have hd2:dx < 0:=by omega
   have hd':=Aa hd;clear hd;go_wp2;go_ret;exact⟨Ac (by have:=hd'.out;rw[HE.out];first | (simp;omega) | (simp[this];done) | (rw[Ax this];simp;omega) | (rw[Ax this];simp)),bb⟩
 ·have o4b:(xop==4)=false:=by simp[o4]
  go_enter Tryz.func99,Tryz.ntmps99;go_wp2;go_ret;exact⟨Ac (by rw[HE.out];simp[o4]),(Ab _ _).alloc (Ad _) _⟩
theorem Pe (ds:List Dt) (dv:Value) (gl:Nat) (x:Tp) (kv:Value) (B:Nat) (w:World) (hg:w.cell? ⟨gl,0,none⟩=some dv) (hlt:gl < w.heap.size)
  (hr:RdDts gl w dv ds) (hk:RdTps B w kv x.kids) (hds:ds.length≤1048576) (hp:Cs ds x=true):
  Calls Pq 101 #[tpV x kv,.pointer (some ⟨gl,0,none⟩)] w fun e w'=>e= .returned (.bool (!Di ds x))∧Below w.heap.size w w':=by
 have DA:=Aa (fun(W:World) (hb:Below w.heap.size w W)=>I3 ds dv x.s _ W (hr.later' hb) hds);have HE:=Aa (show(!Di ds x)= (decide (x.op=4)&& !decide ((x.kids.length:Int)=ET ds x.s))by unfold Di;cases decide (x.op=4) <;> cases decide ((x.kids.length:Int)=ET ds x.s) <;> rfl);have HP:=Aa (show x.op=4→ ∃k,∃hk:k < ds.length,dIx ds x.s=k∧ET ds x.s=ds[k].vars from fun h=>by
  unfold Cs at hp;rw[Ax h]at hp;rcases Lb ds x.s with ⟨h1,_⟩ |⟨k,hk,h1, -⟩
  ·rw[h1]at hp;simp at hp
  ·refine⟨k,hk,h1,?_⟩;unfold ET;rw[h1];simp[List.getD,Ay hk])
 have HR:=Aa hr;have hkl:=hk.len;unfold maxLen at hkl;obtain⟨da,dc,rfl⟩:=hr.form;obtain⟨ka,kc,rfl⟩:=hk.form;clear hr hk hp;unfold tpV;generalize (!Di ds x)=nq at*;generalize x.kids.length=kn at*;generalize x.op=xop at*;generalize x.n=xn at*;generalize x.s=xs at*;go_enter Tryz.func101,Tryz.ntmps101;go_wp2_with fail;generalize hxx:Wa _ _=x0;obtain⟨bb,k1⟩:=Bx.alloc hxx;clear hxx;have q1:=k1.2.1;have p0:x0.cell? ⟨w.heap.size,0,none⟩=some (.int .i64 xop):=q1 0;by_cases o4:xop=4
 ·obtain⟨k,hk,hdx,hva⟩:=HP.out o4;obtain⟨b,off,cap,cv,hv,hB,hbs,hcap,c0,c1,c2, -⟩:=HR.out.at_ hk;cases hv
  have HVA:=Aa hva;have hki:(k:Int) < (ds.length:Int):=by omega
  have hk0:(0:Int)≤ (k:Int):=by omega
  subst o4;have hg2:=(bb.cell (p:=⟨gl,0,none⟩) hlt).trans hg;have hx2:x0.cell? ⟨b,off+k*3+1,none⟩=some (.int .i64 ds[k].vars):=(bb.cell (p:=⟨b,off+k*3+1,none⟩) hbs).trans c1;have hbx:b < x0.heap.size:=Ah hbs bb.size;have hglx:gl < x0.heap.size:=Ah hlt bb.size;have HQ:=Aa (fun(W:World) (hb:Below x0.heap.size x0 W)=>(⟨(k1.below hb k1.1).2.1 0,(k1.below hb k1.1).2.1 2,(k1.below hb k1.1).2.1 3,(hb.cell (p:=⟨gl,0,none⟩) hglx).trans hg2,(hb.cell (p:=⟨b,off+k*3+1,none⟩) hbx).trans hx2⟩:W.cell? ⟨w.heap.size,0,none⟩=some (.int .i64 4)∧W.cell? ⟨w.heap.size,2,none⟩=some (.string xs)∧W.cell? ⟨w.heap.size,3,none⟩=some (.slice ka kn kc)∧W.cell? ⟨gl,0,none⟩=some (.slice (some ⟨b,off,none⟩) ds.length dc)∧W.cell? ⟨b,off+k*3+1,none⟩=some (.int .i64 ds[k].vars)));generalize ds[k].vars=vk at*;clear q1 p0 c0 c1 c2 hg2 hx2 hg hva k1;refine wp_region_held_drew (S:=(fun W=>W.cell? ⟨w.heap.size,0,none⟩=some (.int .i64 4)∧W.cell? ⟨w.heap.size,2,none⟩=some (.string xs)∧W.cell? ⟨w.heap.size,3,none⟩=some (.slice ka kn kc)∧W.cell? ⟨gl,0,none⟩=some (.slice (some ⟨b,off,none⟩) ds.length dc)∧W.cell? ⟨b,off+k*3+1,none⟩=some (.int .i64 vk))) (by kernel_rfl) (by first | (dsimp only;exact HQ.out _ (Below.refl _ _).drew) | (exact HQ.out _ (Below.refl _ _).drew)) (fun hHeld=> ?_);generalize hxd:World.drew _=x1 at hHeld ⊢;have hd1:Below x0.heap.size x0 x1:=by rw[←hxd];exact(Ab _ _).drew
  clear hxd;have bb1:=bb.trans (hd1.mono bb.size);refine tkH (i:=0) ?_;refine tkH (i:=1) ?_;refine tkH (i:=2) ?_;refine tkH (i:=3) ?_;refine tkH (i:=4) ?_;refine tkH (i:=5) ?_;refine tkH (i:=6) ?_;refine tkH (i:=7) ?_;refine tkH (i:=8) ?_;refine tkH (i:=9) ?_;refine tkH (i:=10) ?_;refine rdH (i:=11) (fun K hK=> ?_);go_simp;refine(DA.out x1 bb1).mono ?_;rintro e w6 ⟨rfl,b6⟩;replace b6:=hd1.trans (b6.mono hd1.size);rw[hdx];refine bkH hK (by first | (dsimp only;exact HQ.out _ b6) | (exact HQ.out _ b6)) (fun hHeld=> ?_);clear hK K;refine tkH (i:=12) ?_;refine tkH (i:=13) ?_;refine tkH (i:=14) ?_;refine tkH (i:=15) ?_;refine tkH (i:=16) ?_;refine tkH (i:=17) ?_;refine A2 (by kernel_rfl) ?_ _;have bt:=bb.trans (b6.mono bb.size);clear b6 hd1 bb1 hdx;go_wp2
  all_goals go_ret
  all_goals exact⟨Ac (by rw[HE.out,HVA.out];simp only[decide_true,DH];rfl),bt⟩
 ·have o4b:(xop==4)=false:=by simp[o4]
  have HQ:=Aa (fun(W:World) (hb:Below x0.heap.size x0 W)=>((k1.below hb k1.1).2.1 0:W.cell? ⟨w.heap.size,0,none⟩=some (.int .i64 xop)));clear q1 p0;refine wp_region_held_drew (S:=(fun W=>W.cell? ⟨w.heap.size,0,none⟩=some (.int .i64 xop))) (by kernel_rfl) (by first | (dsimp only;exact HQ.out _ (Below.refl _ _).drew) | (exact HQ.out _ (Below.refl _ _).drew)) (fun hHeld=> ?_);generalize hxd:World.drew _=x1 at hHeld ⊢;have hd1:Below x0.heap.size x0 x1:=by rw[←hxd];exact(Ab _ _).drew
  clear hxd;have bt:=bb.trans (hd1.mono bb.size);refine tkH (i:=0) ?_;refine tkH (i:=1) ?_;refine tkH (i:=2) ?_;refine tkH (i:=3) ?_;refine skH (i:=4) ?_;refine skH (i:=5) ?_;refine skH (i:=6) ?_;refine skH (i:=7) ?_;refine skH (i:=8) ?_;refine skH (i:=9) ?_;refine skH (i:=10) ?_;refine skH (i:=11) ?_;refine skH (i:=12) ?_;refine skH (i:=13) ?_;refine skH (i:=14) ?_;refine skH (i:=15) ?_;refine tkH (i:=16) ?_;refine tkH (i:=17) ?_;refine A2 (by kernel_rfl) ?_ _;clear hd1;go_wp2;go_ret;exact⟨Ac (by rw[HE.out];simp[o4]),bt⟩
theorem Kx (ds:List Dt) (dv:Value) (B:Nat) (w:World) (hr:RdDts B w dv ds) (hl:AN ds≤1048576):
  Calls Pq 49 #[dv] w fun e w'=>e= .returned (.int .i64 (ckP ds))∧Below w.heap.size w w':=by
 have HR:=Aa (fun(W:World) (hb:Below w.heap.size w W)=>hr.later' hb);have hln:=Dn ds;have hds:ds.length≤1048576:=by omega
 have NC:=Aa (fun(k:Nat)=>(At (Gr ds k) (At (Hj ds) hl):BE (ds.take k)≤1048576));have NT:=Aa (FI ds);have SZ:=Aa (EP hl);have TW:=Aa (fun(W:World) (hb:Below w.heap.size w W)=>Pc ds dv _ W (hr.later' hb) hl);have S1:=Aa (fun(W:World) (hb:Below w.heap.size w W) (k:Bx W w.heap.size #[dv])=>Ph w.heap.size (fun _=>true) (Cs ds) W (fun x kv B W' hp hb' hk=>Pd ds dv w.heap.size x kv W' ((k.below hb' k.1).2.1 0) (k.below hb' k.1).1 (((hr.later' hb).later hb' hb.size)) hds) ds dv _ W (hr.later' hb) hl (PX ds) (Ab _ _));have S2:=Aa (fun(hn:Bu (Cs ds) ds=true) (W:World) (hb:Below w.heap.size w W) (k:Bx W w.heap.size #[dv])=>Pk w.heap.size (Cs ds) (Di ds) W (fun x kv B W' hp hb' hk=>Pe ds dv w.heap.size x kv _ W' ((k.below hb' k.1).2.1 0) (k.below hb' k.1).1 (((hr.later' hb).later hb' hb.size)) hk hds hp) ds dv _ W (hr.later' hb) hl hn (Ab _ _));have HE:=Aa (Lf ds);obtain⟨ka,kc,rfl⟩:=hr.form;generalize ckP ds=cp at*;clear hr hln hl;go_enter Tryz.func49,Tryz.ntmps49;go_wp2_with fail;generalize hxx:Wa _ _=x0;obtain⟨bb,k1⟩:=Bx.alloc hxx;clear hxx;have q1:=k1.2.1;go_wp2_with fail;clear q1
 go_loopw [3,8] (fun c i wr=>∃k:Nat,k≤ds.length∧i= .int .i64 k∧c= .int .i64 (BE (ds.take k))∧Below w.heap.size w wr∧Bx wr w.heap.size #[.slice ka ds.length kc]) (fun _ i _=>ds.length - (intOf i).toNat)
 case atStart=>exact⟨0,Ao _,rfl,rfl,bb,k1⟩
 case round=>
  clear bb k1;obtain⟨i,hi,rfl,rfl,bb,k1⟩:=hrel;by_cases hlt:i < ds.length
  ·obtain⟨b,off,cap,cv,hv,hB,hbs,hcap,c0,c1,c2,hkr⟩:=(HR.out wr bb).at_ hlt;cases hv
   have hki:(i:Int) < (ds.length:Int):=by omega
   have hk0:(0:Int)≤ (i:Int):=by omega
   have hnt:=NT.out i hlt;have hnc:=NC.out (i+1);rw[hnt]at hnc;obtain⟨ca,cc,rfl⟩:=hkr.form;clear hkr;have HNT:=Aa hnt;clear hnt;generalize ds[i].cons.length=cl at*;go_wp2_with fail;generalize hyy:Wa _ _=wy;obtain⟨by_,k2⟩:=Bx.alloc hyy;have hs0:=bb.size;replace k1:=k1.below by_ k1.1;replace bb:=bb.trans (by_.mono hs0);exact⟨⟨i+1,hlt,rfl,by rw[HNT.out];rfl,bb,k1⟩,by simp[intOf];omega⟩
  ·obtain rfl:i=ds.length:=by omega
   rw[B8];have hnn:=NC.out ds.length;rw[B8]at hnn;have q1:=k1.2.1;go_wp2_with fail;clear q1;refine(TW.out _ bb).mono ?_;rintro e w2 ⟨rfl,b2⟩;replace k1:=k1.below b2 k1.1;replace bb:=bb.trans (b2.mono bb.size);clear b2;have q1:=k1.2.1;cases hu:FH ds with
   |false=>
    have hu:=Aa hu;go_wp2;go_ret;exact⟨Ap (by rw[HE.out,hu.out];rfl),bb⟩
   |true=>
    have hu:=Aa hu;go_wp2_with fail;clear q1;refine(S1.out _ bb k1).mono ?_;rintro e w3 ⟨rfl,b3⟩;replace k1:=k1.below b3 k1.1;replace bb:=bb.trans (b3.mono bb.size);clear b3;have q1:=k1.2.1;cases hn:Bu (Cs ds) ds with
    |false=>
     have hn:=Aa hn;go_wp2;go_ret;exact⟨Ap (by rw[HE.out,hu.out,hn.out];rfl),bb⟩
    |true=>
     have hn:=Aa hn;by_cases h60:BE ds≤60
     ·have h60i:¬((BE ds:Int) > 60):=by omega
      have h60':=Aa h60;clear h60;go_wp2_with fail;clear q1;refine(S2.out hn.out _ bb k1).mono ?_;rintro e w4 ⟨rfl,b4⟩;replace bb:=bb.trans (b4.mono bb.size);cases hm:Bu (Di ds) ds with
      |false=>
       have hm:=Aa hm;go_wp2;go_ret;exact⟨Ap (by rw[HE.out,hu.out,hn.out,hm.out];simp),bb⟩
      |true=>
       have hm:=Aa hm;go_wp2;go_ret;exact⟨Ap (by rw[HE.out,hu.out,hn.out,hm.out];simp[h60'.out]),bb⟩
     ·have h60i:(BE ds:Int) > 60:=by omega
      have h60':=Aa h60;clear h60;go_wp2;go_ret;exact⟨Ap (by rw[HE.out,hu.out,hn.out];simp[h60'.out]),bb⟩
end Go.Proofs.YtifhcbeaiijkcaaGreat
end
