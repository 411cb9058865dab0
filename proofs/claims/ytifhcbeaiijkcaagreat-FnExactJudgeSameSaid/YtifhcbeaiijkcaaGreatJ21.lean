/- Parts of the proof of FnExactJudgeSame. -/
import Derived.Test.YtifhcbeaiijkcaaGreatJ10
import Derived.Test.YtifhcbeaiijkcaaGreatJ20
import Derived.Test.YtifhcbeaiijkcaaGreatJ09
import Derived.Test.YtifhcbeaiijkcaaGreatRows
import Derived.Test.YtifhcbeaiijkcaaGreatJ01
import Derived.Test.YtifhcbeaiijkcaaGreatJ02
set_option linter.unusedVariables false
set_option linter.unusedSimpArgs false
set_option maxRecDepth 1000000
set_option maxHeartbeats 16000000
namespace Go.Proofs.YtifhcbeaiijkcaaGreat
open Go.RowKit
open _root_.Go.World renaming alloc→Wa,setCell→Ws
open _root_.Go.Proofs.Tryz renaming prog→Pq
def BN:List Dt→Nat→Option (Nat×Nat)
 | [],_=>none
 |d::ds,t=>if t < d.cons.length then some (0,t)else(BN ds (t - d.cons.length)).map fun q=>(q.1+1,q.2)
theorem G9:∀ {ds:List Dt}{t i k:Nat},BN ds t=some (i,k)→ ∃h:i < ds.length,k < ds[i].cons.length
 | [],t,i,k,h=>by cases h
 |d::ds,t,i,k,h=>by
  unfold BN at h;split at h
  ·rename_i hlt;cases h
   exact⟨by simp,hlt⟩
  ·rw[Option.map_eq_some_iff]at h;obtain⟨⟨a,b⟩,h1,h2⟩:=h;cases h2
   obtain⟨h3,h4⟩:=G9 h1;exact⟨by simp;omega,by simpa using h4⟩
theorem Km {ds:List Dt}{i:Nat}(h:i < ds.length) (t:Nat):BN (ds.drop i) t=if t < ds[i].cons.length then some (0,t)else(BN (ds.drop (i+1)) (t - ds[i].cons.length)).map fun q=>(q.1+1,q.2):=by
 rw[List.drop_eq_getElem_cons h,BN]
theorem Oy {ds:List Dt}{i:Nat}(h:ds.length≤i) (t:Nat):BN (ds.drop i) t=none:=by rw[List.drop_eq_nil_of_le h];rfl
def Ha (ds:List Dt) (i k:Nat):Cn:=(ds.getD i ⟨eS,0,[]⟩).cons.getD k ⟨eS,[]⟩
theorem Hb {ds:List Dt}{i k:Nat}(h:i < ds.length) (h':k < ds[i].cons.length):Ha ds i k=ds[i].cons[k]:=by
 unfold Ha;simp[List.getD,Ay h,Ay h']
def CW (ds:List Dt) (tag n:Nat):Option Str:=match BN ds tag with
 |none=>none
 |some q=>if(Ha ds q.1 q.2).args.length=n then some (Ha ds q.1 q.2).name else none
def fnV:Vl:= .fn eS eS (.mk 1 0 eS eS []) []
def BO (E:Int→Nat→Option (Vl×Nat)):List Int→Nat→Option (List Vl×Nat)
 | [],l=>some ([],l)
 |y::ys,l=>match E y l with
  |none=>none
  |some q=>(BO E ys q.2).map fun r=>(q.1::r.1,r.2)
def AK (ds:List Dt) (zs:List Int) (ps:List Nat):Nat→Int→Nat→Option (Vl×Nat)
 |0,_,_=>none
 |d+1,x,l=>
  if l=0 then none
  else if x%2=0 then
   (if AA ps x=true then
    (if Ej (zs.getD (x/2).toNat 0)=true then some (fnV,l - 1)
    else match CW ds (BU (zs.getD (x/2).toNat 0)).toNat (Be zs (x/2).toNat).length with
     |none=>none
     |some s=>(BO (AK ds zs ps d) (Be zs (x/2).toNat) (l - 1)).map fun q=>(.con s q.1,q.2))
   else none)
  else some (.int (x/2),l - 1)
def Cx (ds:List Dt) (zs:List Int) (h b n:Int) (x:Int):Option Vl:=
 if Cf zs h b n=true then(AK ds zs ((Cz zs b.toNat n.toNat).getD []) 200 x 4000).map Prod.fst else none
theorem IL {E:Int→Nat→Option (Vl×Nat)}{y:Int}{ys:List Int}{l:Nat}{vs:List Vl}{l':Nat}(h:BO E (y::ys) l=some (vs,l')):∃v l1 vs1,E y l=some (v,l1)∧BO E ys l1=some (vs1,l')∧vs=v::vs1:=by
 unfold BO at h;split at h
 ·cases h
 ·rename_i q hq;obtain⟨v,l1⟩:=q;rw[Option.map_eq_some_iff]at h;obtain⟨⟨vs1,l2⟩,h1,h2⟩:=h;simp only[ID]at h2;obtain⟨rfl,rfl⟩:=h2;exact⟨_,_,_,hq,h1,rfl⟩
theorem IM {E:Int→Nat→Option (Vl×Nat)}{l:Nat}{vs:List Vl}{l':Nat}(h:BO E [] l=some (vs,l')):vs=[]∧l'=l:=by
 unfold BO at h;simp only[F8,ID]at h;exact⟨h.1.symm,h.2.symm⟩
theorem IN {ds:List Dt}{zs:List Int}{ps:List Nat}{d:Nat}{x:Int}{l:Nat}{v:Vl}{l':Nat}(h:AK ds zs ps (d+1) x l=some (v,l')):
  l≠0∧((¬x%2=0∧v= .int (x/2)∧l'=l - 1)∨(x%2=0∧AA ps x=true∧((v=fnV∧l'=l - 1)∨
   ∃s vs,CW ds (BU (zs.getD (x/2).toNat 0)).toNat (Be zs (x/2).toNat).length=some s∧BO (AK ds zs ps d) (Be zs (x/2).toNat) (l - 1)=some (vs,l')∧v= .con s vs))):=by
 unfold AK at h;by_cases h0:l=0
 ·rw[Af h0]at h;cases h
 rw[Ae h0]at h;refine⟨h0,?_⟩;by_cases h1:x%2=0
 ·rw[Af h1]at h;refine .inr ⟨h1,?_⟩;by_cases h2:AA ps x=true
  ·rw[Af h2]at h;refine⟨h2,?_⟩;by_cases h3:Ej (zs.getD (x/2).toNat 0)=true
   ·rw[Af h3]at h;simp only[F8,ID]at h;exact .inl ⟨h.1.symm,h.2.symm⟩
   ·rw[Ae h3]at h;refine .inr ?_;cases hc:CW ds (BU (zs.getD (x/2).toNat 0)).toNat (Be zs (x/2).toNat).length with
    |none=>rw[hc]at h;cases h
    |some s=>
     rw[hc]at h;dsimp only at h;rw[Option.map_eq_some_iff]at h;obtain⟨⟨vs,l1⟩,e1,e2⟩:=h;simp only[ID]at e2;obtain⟨rfl,rfl⟩:=e2;exact⟨_,_,rfl,e1,rfl⟩
  ·rw[Ae h2]at h;cases h
 ·rw[Ae h1]at h;simp only[F8,ID]at h;exact .inl ⟨h1,h.1.symm,h.2.symm⟩
theorem Kn {E:Int→Nat→Option (Vl×Nat)}(hE:∀y l v l',E y l=some (v,l')→Ar v+l'=l):∀ (ys:List Int) (l:Nat) (vs:List Vl) (l':Nat),BO E ys l=some (vs,l')→Ar.countVs vs+l'=l∧vs.length=ys.length
 | [],l,vs,l',h=>by
  obtain⟨rfl,rfl⟩:=IM h;exact⟨by unfold Ar.countVs;omega,rfl⟩
 |y::ys,l,vs,l',h=>by
  obtain⟨v,l1,vs1,h1,h2,rfl⟩:=IL h;have a:=hE _ _ _ _ h1;obtain⟨b,c⟩:=Kn hE ys l1 vs1 l' h2;have e:Ar.countVs (v::vs1)=Ar v+Ar.countVs vs1:=rfl;exact⟨by omega,by simp[c]⟩
theorem Hc {ds:List Dt}{zs:List Int}{ps:List Nat}:∀ (d:Nat) (x:Int) (l:Nat) (v:Vl) (l':Nat),AK ds zs ps d x l=some (v,l')→Ar v+l'=l
 |0,x,l,v,l',h=>by cases h
 |d+1,x,l,v,l',h=>by
  obtain⟨h0,h |⟨-, -,h |⟨s,vs, -,h1,rfl⟩⟩⟩:=IN h
  ·obtain⟨-,rfl,rfl⟩:=h;have e:Ar (.int (x/2))=1:=rfl;omega
  ·obtain⟨rfl,rfl⟩:=h;have e:Ar fnV=1:=rfl;omega
  ·have:=(Kn (fun y l v l' h=>Hc d y l v l' h) _ _ _ _ h1).1;have e:Ar (.con s vs)=1+Ar.countVs vs:=rfl;omega
theorem Oz:Good (.th fnV):= .fn _ _ _ _ (by decide) (by decide) .nil
theorem OA {p:Str→Prop}:TagG p (.th fnV):= .fn _ _ _ _ .nil
theorem IQ {E:Int→Nat→Option (Vl×Nat)}{Q:Vl→Prop}{R:Int→Prop}(hE:∀y l v l',R y→E y l=some (v,l')→Q v):∀ (ys:List Int) (l:Nat) (vs:List Vl) (l':Nat),(∀y∈ys,R y)→BO E ys l=some (vs,l')→ ∀v∈vs,Q v
 | [],l,vs,l',hR,h=>by
  obtain⟨rfl,rfl⟩:=IM h;intro v hv;cases hv
 |y::ys,l,vs,l',hR,h=>by
  obtain⟨v,l1,vs1,h1,h2,rfl⟩:=IL h;intro u hu;rcases List.mem_cons.1 hu with rfl |hu
  ·exact hE _ _ _ _ (hR _ (List.mem_cons_self ..)) h1
  ·exact IQ hE ys l1 vs1 l' (fun y hy=>hR y (List.mem_cons_of_mem _ hy)) h2 u hu
theorem OB {ds:List Dt}{t n:Nat}{s:Str}(h:CW ds t n=some s):∃d∈ds,∃c∈d.cons,c.name=s∧c.args.length=n:=by
 unfold CW at h;split at h
 ·cases h
 ·rename_i q hq;obtain⟨i,k⟩:=q;obtain⟨h1,h2⟩:=G9 hq;split at h
  ·rename_i hn;simp only[F8]at h;subst h;rw[Hb h1 h2]at hn;exact⟨ds[i],An h1,ds[i].cons[k],An h2,by rw[Hb h1 h2],hn⟩
  ·cases h
theorem Ko {ds:List Dt}{zs:List Int}{ps:List Nat}(hk:∀p∈ps,(Be zs p).all (AA ps)=true):∀ (d:Nat) (x:Int) (l:Nat) (v:Vl) (l':Nat),AA ps x=true→AK ds zs ps d x l=some (v,l')→Good (.th v)
 |0,x,l,v,l',hx,h=>by cases h
 |d+1,x,l,v,l',hx,h=>by
  obtain⟨h0,h |⟨hev, -,h |⟨s,vs, -,h1,rfl⟩⟩⟩:=IN h
  ·obtain⟨hod,rfl, -⟩:=h;rw[J5 hod]at hx;exact .int _ hx
  ·obtain⟨rfl, -⟩:=h;exact Oz
  ·rw[GQ hev]at hx;obtain⟨p,hp,hpx⟩:=Oh.1 (of_decide_eq_true hx);have e:(x/2).toNat=p:=by omega
   rw[e]at h1;refine .con _ _ (IQ (R:=fun y=>AA ps y=true) (fun y l v l' hy h=>Ko hk d y l v l' hy h) _ _ _ _ (fun y hy=> ?_) h1);exact BA.1 (hk p hp) y hy
theorem Kq {ds:List Dt}{zs:List Int}{ps:List Nat}{q:Str→Prop}(hq:∀d∈ds,∀c∈d.cons,q c.name):∀ (d:Nat) (x:Int) (l:Nat) (v:Vl) (l':Nat),AK ds zs ps d x l=some (v,l')→TagG q (.th v)
 |0,x,l,v,l',h=>by cases h
 |d+1,x,l,v,l',h=>by
  obtain⟨h0,h |⟨hev, -,h |⟨s,vs,hs,h1,rfl⟩⟩⟩:=IN h
  ·obtain⟨hod,rfl, -⟩:=h;exact .int _
  ·obtain⟨rfl, -⟩:=h;exact OA
  ·obtain⟨d',hd,c,hc,e, -⟩:=OB hs;exact .con _ _ (e▸hq d' hd c hc) (IQ (R:=fun _=>True) (fun y l v l' _ h=>Kq hq d y l v l' h) _ _ _ _ (fun _ _=>trivial) h1)
def tgI (ds:List Dt) (t:Nat):Int×Int:=match BN ds t with
 |some q=>(q.1,q.2)
 |none=>(-1, -1)
theorem NA (ds:List Dt) (t0 t i:Nat) (h:i < ds.length) (hd:BN ds t0= (BN (ds.drop i) t).map fun q=>(q.1+i,q.2)) (ht:t < ds[i].cons.length):tgI ds t0= ((i:Int),(t:Int)):=by
 unfold tgI;rw[hd,Km h,Af ht];simp
theorem ND (ds:List Dt) (t0 t i:Nat) (h:i < ds.length) (hd:BN ds t0= (BN (ds.drop i) t).map fun q=>(q.1+i,q.2)) (ht:¬t < ds[i].cons.length):BN ds t0= (BN (ds.drop (i+1)) (t - ds[i].cons.length)).map fun q=>(q.1+ (i+1),q.2):=by
 rw[hd,Km h,Ae ht,Option.map_map]
 congr 1
 funext q
 simp only[Function.comp];rw[Dp,Nat.add_comm 1 i]
theorem NF (ds:List Dt) (t0 t i:Nat) (h:i=ds.length) (hd:BN ds t0= (BN (ds.drop i) t).map fun q=>(q.1+i,q.2)):tgI ds t0= (-1, -1):=by
 unfold tgI;rw[hd,Oy (by omega)];rfl
theorem NG (ds:List Dt) (t:Nat):BN ds t= (BN (ds.drop 0) t).map fun q=>(q.1+0,q.2):=by
 rw[List.drop_zero];cases BN ds t <;> simp
theorem UD (ds:List Dt) (dv:Value) (t:Nat) (B:Nat) (w:World) (hr:RdDts B w dv ds) (hl:AN ds≤1048576) (ht:t≤4294967296):
  Calls Pq 181 #[dv,.int .i64 t] w fun e w'=>e= .returned (.tuple #[.int .i64 (tgI ds t).1,.int .i64 (tgI ds t).2])∧w'=w:=by
 have HR:=Aa hr;have hln:=Dn ds;have hds:ds.length≤1048576:=by omega
 have SZ:=Aa (fun(i:Nat) (hi:i < ds.length)=>(by
  have h1:=Dm (An hi);have h2:=E9 ds[i].cons;unfold wgD at h1;omega:ds[i].cons.length≤1048576))
 have H1:=Aa (NA ds t);have H2:=Aa (ND ds t);have H3:=Aa (NF ds t);have H0:=Aa (NG ds t);generalize tgI ds t=tg at*;obtain⟨ka,kc,rfl⟩:=hr.form;clear hr hln hl;go_enter Tryz.func181,Tryz.ntmps181;go_wp2
 go_loop [6,7] (fun c i=>∃ (k n r:Nat),k≤ds.length∧i= .int .i64 k∧c= .int .i64 n∧Hid (n+r=t)∧Hid (BN ds t= (BN (ds.drop k) r).map fun q=>(q.1+k,q.2))) (fun _ i=>ds.length - (intOf i).toNat)
 case atStart=>exact⟨0,0,t,Ao _,rfl,rfl,Aa (BS t),Aa H0.out⟩
 case round=>
  obtain⟨i,n,r,hi,rfl,rfl,hn,hd⟩:=hrel;have hn1:=hn.out;have hn2:n≤t:=by omega
  have hn3:¬((t:Int) < (n:Int)):=by omega
  have hge:decide ((n:Int)≤ (t:Int))=true:=Ax (by omega);clear hn1;by_cases hlt:i < ds.length
  ·obtain⟨b,off,cap,cv,hv,hB,hbs,hcap,c0,c1,c2,hkr⟩:=HR.out.at_ hlt;cases hv
   have hki:(i:Int) < (ds.length:Int):=by omega
   have hsz:=SZ.out i hlt;obtain⟨ca,cc,rfl⟩:=hkr.form;clear hkr;obtain⟨L,hL⟩:∃L,ds[i].cons.length=L:=⟨_,rfl⟩;rw[hL]at hsz c2;have HL:=Aa hL;clear hL;by_cases hc:r < L
   ·have he:=Aa (H1.out r i hlt hd.out (by rw[HL.out];exact hc));have hcl:decide ((t:Int) - (n:Int) < (L:Int))=true:=Ax (by have:=hn.out;omega);have hcl2:(t:Int) - (n:Int) < (L:Int):=by have:=hn.out;omega
    have hw:IntKind.i64.wrap ((t:Int) - (n:Int))= (r:Int):=by rw[AX _ (by omega)];have:=hn.out;omega
    go_wp2;go_ret2;rw[he.out];exact⟨by first |rfl | (simp only[hw]) | (have:=hn.out;congr 3;omega),rfl⟩
   ·have hcl2:¬(t:Int) - (n:Int) < (L:Int):=by have:=hn.out;omega
    have hcl:decide ((t:Int) - (n:Int) < (L:Int))=false:=AF hcl2;have he:=Aa (H2.out r i hlt hd.out (by rw[HL.out];exact hc));have hc':=Aa hc;clear hc;go_wp2
    go_round
    case rel=>exact⟨i+1,n+L,r - L,hlt,by go_num,by go_num,Aa (by have:=hn.out;have:=hc'.out;omega),Aa (by have:=he.out;rw[HL.out]at this;exact this)⟩
    case measure=>simp[intOf];omega
  ·obtain rfl:i=ds.length:=by omega
   have he:=Aa (H3.out r ds.length rfl hd.out);go_wp2;go_ret2;rw[he.out];exact⟨rfl,rfl⟩
theorem UE (ds:List Dt) (dv:Value) (t:Nat) (B:Nat) (w:World) (hr:RdDts B w dv ds) (hl:AN ds≤1048576) (ht:t≤4294967296):
  Calls Pq 191 #[dv,.int .i64 t] w fun e w'=>e= .returned (.tuple #[.int .i64 (tgI ds t).1,.int .i64 (tgI ds t).2])∧Below w.heap.size w w':=by
 have HR:=Aa (fun(W:World) (hb:Below w.heap.size w W)=>hr.later' hb);have hln:=Dn ds;have hds:ds.length≤1048576:=by omega
 have SZ:=Aa (fun(i:Nat) (hi:i < ds.length)=>(by
  have h1:=Dm (An hi);have h2:=E9 ds[i].cons;unfold wgD at h1;omega:ds[i].cons.length≤1048576))
 have H1:=Aa (NA ds t);have H2:=Aa (ND ds t);have H3:=Aa (NF ds t);have H0:=Aa (NG ds t);generalize tgI ds t=tg at*;obtain⟨ka,kc,rfl⟩:=hr.form;clear hr hln hl;go_enter Tryz.func191,Tryz.ntmps191;go_wp2
 go_loopw [1,10] (fun c i wr=>∃ (k r:Nat),k≤ds.length∧i= .int .i64 k∧c= .int .i64 r∧r≤t∧Below w.heap.size w wr∧Hid (BN ds t= (BN (ds.drop k) r).map fun q=>(q.1+k,q.2))) (fun _ i _=>ds.length - (intOf i).toNat)
 case atStart=>exact⟨0,t,Ao _,rfl,rfl,Ad _,Ab _ _,Aa H0.out⟩
 case round=>
  obtain⟨i,r,hi,rfl,rfl,hrt,bb,hd⟩:=hrel;by_cases hlt:i < ds.length
  ·obtain⟨b,off,cap,cv,hv,hB,hbs,hcap,c0,c1,c2,hkr⟩:=(HR.out wr bb).at_ hlt;cases hv
   have hki:(i:Int) < (ds.length:Int):=by omega
   have hk0:(0:Int)≤ (i:Int):=by omega
   have hsz:=SZ.out i hlt;obtain⟨ca,cc,rfl⟩:=hkr.form;clear hkr;obtain⟨L,hL⟩:∃L,ds[i].cons.length=L:=⟨_,rfl⟩;rw[hL]at hsz c2;have HL:=Aa hL;clear hL;go_wp2_with fail;generalize hyy:Wa _ _=wy;obtain⟨by_,k2⟩:=Bx.alloc hyy;clear hyy c0 c1 c2;replace bb:=bb.trans (by_.mono bb.size);clear by_;have ck2:=k2.2.1;have yk2:=k2.1;by_cases hc:r < L
   ·have he:=Aa (H1.out r i hlt hd.out (by rw[HL.out];exact hc));have hb:inB (r:Int) 0 ((L:Int) - 1)=true:=by unfold inB;simp;omega
    refine(A8 _ _ _ _).mono ?_;rintro e w2 ⟨rfl,rfl⟩;go_wp2;go_ret2;rw[he.out];exact⟨rfl,bb⟩
   ·have he:=Aa (H2.out r i hlt hd.out (by rw[HL.out];exact hc));have hb:inB (r:Int) 0 ((L:Int) - 1)=false:=by unfold inB;simp;omega
    have hlr:¬((r:Int) - (L:Int) < 0):=by omega
    have hc':=Aa hc;clear hc;refine(A8 _ _ _ _).mono ?_;rintro e w2 ⟨rfl,rfl⟩;go_wp2;go_roundw
    case rel=>exact⟨i+1,r - L,hlt,by go_num,by (have:=hc'.out;go_num),by omega,bb,Aa (by have:=he.out;rw[HL.out]at this;exact this)⟩
    case measure=>simp[intOf];omega
  ·obtain rfl:i=ds.length:=by omega
   have he:=Aa (H3.out r ds.length rfl hd.out);go_wp2;go_ret2;rw[he.out];exact⟨rfl,bb⟩
theorem CX {w w':World}(h:Below w.heap.size w w') (r:Option Nat):w.grownBy w' r:=⟨h.os,h.tape,h.output,h.size,fun i hi _=>h.block i hi⟩
theorem Kr {w w9:World}{r:Option Nat}(h:w.grownBy w9 r) {b j:Nat}{u:Value}(hb:w.heap.size≤b):w.grownBy (w9.setCell ⟨b,j,none⟩ u) r:=
 ⟨h.os,h.tape,h.output,by simp;exact h.size,fun i hi hne=>((grownBy.setCell w9 b j u).block i (Ah hi h.size) (fun e=>by have:=Am e;omega)).trans (h.block i hi hne)⟩
theorem Dh {w w2 W:World}{r:Option Nat}{T:Nat}(h:w.grownBy w2 r) (h':w2.grownBy W (some T)) (hT:w.heap.size≤T):w.grownBy W r:=
 ⟨h'.os.trans h.os,h'.tape.trans h.tape,h'.output.trans h.output,At h.size h'.size,fun i hi hne=>(h'.block i (Ah hi h.size) (fun e=>by have:=Am e;omega)).trans (h.block i hi hne)⟩
theorem Ks {w w2 W:World}{r r':Option Nat}(h:w.grownBy w2 r) (h':w2.grownBy W r') (hT:∀q,r'=some q→w.heap.size≤q):w.grownBy W r:=
 ⟨h'.os.trans h.os,h'.tape.trans h.tape,h'.output.trans h.output,At h.size h'.size,fun i hi hne=>(h'.block i (Ah hi h.size) (fun e=>by have:=hT i e.symm;omega)).trans (h.block i hi hne)⟩
theorem Bx.keep {w W:World}{g:Nat}{cs:Array Value}(k:Bx w g cs) (hb:W.heap[g]?=w.heap[g]?) (hs:w.heap.size≤W.heap.size):Bx W g cs:=
 ⟨Ah k.1 hs,fun j=>(CD hb).trans (k.2.1 j),fun j=>(F9 hb).trans (k.2.2 j)⟩
theorem Bx.st4 {w:World}{g:Nat}{z0 z1 z2 z3:Value}(k:Bx w g #[z0,z1,z2,z3]) (a0 a1 a2 a3:Value):
  Bx ((((w.setCell ⟨g,0,none⟩ a0).setCell ⟨g,1,none⟩ a1).setCell ⟨g,2,none⟩ a2).setCell ⟨g,3,none⟩ a3) g #[a0,a1,a2,a3]∧w.grownBy ((((w.setCell ⟨g,0,none⟩ a0).setCell ⟨g,1,none⟩ a1).setCell ⟨g,2,none⟩ a2).setCell ⟨g,3,none⟩ a3) (some g):=by
 have:=(((k.st 0 (by simp) a0).st 1 (by simp) a1).st 2 (by simp) a2).st 3 (by simp) a3;exact⟨by simpa using this,(((grownBy.setCell w g 0 a0).trans' (grownBy.setCell _ g 1 a1)).trans' (grownBy.setCell _ g 2 a2)).trans' (grownBy.setCell _ g 3 a3)⟩
theorem RdTv.grown {M G:Nat}{w w':World}{u:Vl}{c:Array Value}(h:RdTv (fun b=>M≤b) w u c) (hg:w.grownBy w' (some G)) (hG:G < M):RdTv (fun b=>M≤b) w' u c:=
 h.later fun q hq hl=>⟨hq,Ah hl hg.size,hg.block q hl (fun e=>by have:=Am e;omega)⟩
theorem RdTv.leaf {A:Nat→Prop}{w:World}{u:Vl}(h:ksV u=[]) (a:Option Addr) (c:Nat):RdTv A w u (vlC u (.slice a 0 c)):=
 .mk u _ (fun _=> #[]) (.inl ⟨by rw[h];rfl,_,_,rfl⟩) (fun j hj=>by rw[h]at hj;exact absurd hj (Aw j))
structure KidR (M T:Nat) (W:World) (s:Str) (us:List Vl) (kv:Value):Prop where
 bt:Bx W T #[.int .i64 2,.int .i64 0,.string s,kv]
 row:∃ (ps:List Value) (cs:Nat→Array Value),W.ownsRow M 60 4 kv us.length ps∧(∀j,j < us.length→ ∀i,i < 4→ps[j*4+i]?= (cs j)[i]?)∧
  ∀j (h:j < us.length),RdTv (fun b=>M≤b∧kv.ownBlock≠some b) W us[j] (cs j)
section
variable {M T:Nat}{W W':World}{s:Str}{us:List Vl}{kv:Value}
theorem KidR.form (h:KidR M T W s us kv):∃a cap,kv= .slice a us.length cap:=by
 obtain⟨ps,cs,ho, -⟩:=h.row;exact AR ho
theorem KidR.lt (h:KidR M T W s us kv):∀q,kv.ownBlock=some q→M≤q∧q < W.heap.size:=by
 obtain⟨ps,cs,ho, -⟩:=h.row;exact fun q hq=>ho.lt q hq
theorem KidR.start (hb:Bx W T #[.int .i64 2,.int .i64 0,.string s,.slice none 0 0]):KidR M T W s [] (.slice none 0 0):=
 ⟨hb,[],fun _=> #[],⟨by simp,.inl ⟨rfl,rfl⟩⟩,fun j hj=>absurd hj (Aw j),fun j hj=>absurd hj (Aw j)⟩
theorem KidR.grown {G:Nat}(h:KidR M T W s us kv) (hg:W.grownBy W' (some G)) (hG:G < M) (hT:G≠T):KidR M T W' s us kv:=by
 obtain⟨ps,cs,ho,hp,hr⟩:=h.row;refine⟨h.bt.grown hg (fun e=>hT (Am e).symm),ps,cs,ho.kept hg ?_,hp,fun j hj=>(hr j hj).later fun q hq hl=>⟨hq,Ah hl hg.size,hg.block q hl (fun e=>by have:=Am e;omega)⟩⟩;cases hq:kv.ownBlock with
 |none=>exact .inl rfl
 |some q=>exact .inr (fun e=>by have:=(ho.lt q hq).1;have:=Am e;omega)
theorem KidR.app (h:KidR M T W s us kv) (hT:T < M) {N:Nat}{u:Vl}{c:Array Value}(hN:∀q,kv.ownBlock=some q→q < N) (hMN:M≤N) (hc:RdTv (fun b=>N≤b) W u c):
  ∃ps,W.ownsRow M 60 4 kv us.length ps∧ ∀ (v':Value) (w4:World),w4.ownsRow M 60 4 v' (us.length+1) (ps++c.toList)→W.grownBy w4 kv.ownBlock→
  (v'.ownBlock=kv.ownBlock∨ ∃q,v'.ownBlock=some q∧W.heap.size≤q)→KidR M T (w4.setCell ⟨T,3,none⟩ v') s (us++ [u]) v'∧
   W.heap.size≤ (w4.setCell ⟨T,3,none⟩ v').heap.size∧(∀b,b < W.heap.size→b≠T→kv.ownBlock≠some b→(w4.setCell ⟨T,3,none⟩ v').heap[b]?=W.heap[b]?):=by
 obtain⟨ps2,cs,hps,hp2,hr2⟩:=h.row;refine⟨ps2,hps,fun v' w4 ho hg hat=> ?_⟩;have hsz:w4.heap.size= (w4.setCell ⟨T,3,none⟩ v').heap.size:=(AP ..).symm;have hl:=hps.1;have hq0:∀q,kv.ownBlock=some q→M≤q:=fun q hq=>(hps.lt q hq).1;have hs:=grownBy.setCell w4 T 3 v';have hblk:∀b,b < W.heap.size→b≠T→kv.ownBlock≠some b→(w4.setCell ⟨T,3,none⟩ v').heap[b]?=W.heap[b]?:=fun b hb h1 h2=>
  (hs.block b (Ah hb hg.size) (fun e=>h1 (Am e))).trans (hg.block b hb (fun e=>h2 e.symm))
 have hln:(us++ [u]).length=us.length+1:=by simp
 refine⟨⟨?_,ps2++c.toList,fun j=>if j=us.length then c else cs j,?_,fun j hj i hi=> ?_,fun j hj=> ?_⟩,by rw[←hsz];exact hg.size,hblk⟩
 ·have h4:Bx w4 T #[.int .i64 2,.int .i64 0,.string s,kv]:=h.bt.grown hg (fun e=>by have:=hq0 _ e.symm;omega);have:=h4.st 3 (by simp) v'
  simpa using this
 ·rw[hln];refine ho.kept hs ?_;cases hq:v'.ownBlock with
  |none=>exact .inl rfl
  |some q=>exact .inr (fun e=>by have:=(ho.lt q hq).1;have:=Am e;omega)
 ·rw[hln]at hj;dsimp only;by_cases hj2:j=us.length
  ·subst hj2;rw[Af rfl,EN (by omega),hl,show us.length*4+i - us.length*4=i by omega,Array.getElem?_toList]
  ·rw[Ae hj2,Ff (by omega)];exact hp2 j (by omega) i hi
 ·dsimp only;by_cases hj2:j=us.length
  ·subst hj2;rw[Af rfl];have e:(us++ [u])[us.length]=u:=by simp
   rw[e];refine hc.later fun q hq hl2=>⟨⟨by omega,fun e=> ?_⟩,by rw[←hsz];exact Ah hl2 hg.size,hblk q hl2 (by omega) (fun e=>by have:=hN q e;omega)⟩
   rcases hat with e2 |⟨q2,e2,e3⟩
   ·have:=hN q (e2.symm.trans e);omega
   ·rw[e2]at e;have:=Am e;omega
  ·rw[Ae hj2];have hj3:j < us.length:=by rw[hln]at hj;omega
   have e:(us++ [u])[j]=us[j]:=IB hj3;rw[e];refine(hr2 j hj3).later fun q hq hl2=>⟨⟨hq.1,fun e=> ?_⟩,by rw[←hsz];exact Ah hl2 hg.size,hblk q hl2 (by omega) hq.2⟩
   rcases hat with e2 |⟨q2,e2,e3⟩
   ·exact hq.2 (e2.symm.trans e)
   ·rw[e2]at e;have:=Am e;omega
theorem KidR.done (h:KidR M T W s us kv):RdTv (fun b=>M≤b) W (.con s us) (vlC (.con s us) kv):=by
 obtain⟨ps,cs,ho,hp,hr⟩:=h.row;refine .mk (.con s us) kv cs ?_ (fun j hj=>(hr j hj).later fun q hq hl=>⟨hq.1,hl,rfl⟩);have hb:=fun q hq=>ho.lt q hq
 show RwV _ W kv us.length cs
 rcases ho.2 with ⟨rfl,h0⟩ |⟨q,cap,cu,rfl,hbq,hgg,hn,hm,hc,ht⟩
 ·exact .inl ⟨h0,_,_,rfl⟩
 ·refine .inr ⟨q,0,cap,rfl,hb q rfl,⟨by omega,hn⟩,fun j hj i hi=> ?_⟩;rw[BS,Fe W q _ cu _ (0,0) hgg,←hp j hj i hi,←ht,DU,Af (by omega),Array.getElem?_toList]
end
def BkR (w:World) (G:Nat) (cs:Int→Array Value) (o:Option (Vl×Nat)) (e:Ending) (w':World):Prop:=
 w.grownBy w' (some G)∧match o with
  |none=>e= .returned (.tuple #[.agg #[.int .i64 0,.int .i64 0,.string eS,.slice none 0 0],.bool false])
  |some q=>(∃kv,e= .returned (.tuple #[.agg (vlC q.1 kv),.bool true])∧RdTv (fun b=>w.heap.size≤b) w' q.1 (vlC q.1 kv))∧Bx w' G (cs q.2)
def OcR (w:World) (o:Option Vl) (e:Ending) (w':World):Prop:=
 Below w.heap.size w w'∧match o with
  |none=>e= .returned (.tuple #[.agg #[.int .i64 0,.int .i64 0,.string eS,.slice none 0 0],.bool false])
  |some u=>∃kv,e= .returned (.tuple #[.agg (vlC u kv),.bool true])∧RdTv (fun b=>w.heap.size≤b) w' u (vlC u kv)
def OcP (A:Nat→Prop) (w:World) (o:Option Vl) (c:Array Value):Prop:=match o with
 |none=>c= #[.int .i64 0,.int .i64 0,.string eS,.slice none 0 0]
 |some u=>∃kv,c=vlC u kv∧RdTv A w u (vlC u kv)
theorem OcP.later {A A':Nat→Prop}{w w':World}{o:Option Vl}{c:Array Value}(h:OcP A w o c) (t:∀b,A b→b < w.heap.size→A' b∧b < w'.heap.size∧w'.heap[b]?=w.heap[b]?):OcP A' w' o c:=by
 cases o with
 |none=>exact h
 |some u=>
  obtain⟨kv,e,r⟩:=h;exact⟨kv,e,r.later t⟩
theorem OcR.open {w w':World}{o:Option Vl}{e:Ending}(h:OcR w o e w'):∃k n s a l c,e= .returned (.tuple #[.agg #[.int .i64 k,.int .i64 n,.string s,.slice a l c],.bool o.isSome])∧Below w.heap.size w w'∧OcP (fun b=>w.heap.size≤b) w' o #[.int .i64 k,.int .i64 n,.string s,.slice a l c]:=by
 obtain⟨hb,h⟩:=h;cases o with
 |none=>exact⟨0,0,eS,none,0,0,h,hb,rfl⟩
 |some u=>
  obtain⟨kv,rfl,r⟩:=h;obtain⟨a,c,rfl⟩:=r.form;exact⟨kdV u,nmV u,tgV u,a,_,c,rfl,hb,_,rfl,r⟩
theorem OcR.close {w w':World}{o:Option Vl}{c:Array Value}(hb:Below w.heap.size w w') (h:OcP (fun b=>w.heap.size≤b) w' o c):OcR w o (.returned (.tuple #[.agg c,.bool o.isSome])) w':=by
 refine⟨hb,?_⟩;cases o with
 |none=>
  have h:c= #[.int .i64 0,.int .i64 0,.string eS,.slice none 0 0]:=h;subst h;rfl
 |some u=>
  obtain⟨kv,rfl,r⟩:=h;exact⟨kv,rfl,r⟩
theorem OcP.grown {M g:Nat}{w w':World}{o:Option Vl}{c:Array Value}(h:OcP (fun b=>M≤b) w o c) (hg:w.grownBy w' (some g)) (hG:g < M):OcP (fun b=>M≤b) w' o c:=
 h.later fun q hq hl=>⟨hq,Ah hl hg.size,hg.block q hl (fun e=>by have:=Am e;omega)⟩
theorem BkR.open {w w':World}{G:Nat}{cs:Int→Array Value}{o:Option (Vl×Nat)}{e:Ending}(h:BkR w G cs o e w'):∃k n s a l c,e= .returned (.tuple #[.agg #[.int .i64 k,.int .i64 n,.string s,.slice a l c],.bool o.isSome])∧w.grownBy w' (some G)∧
  OcP (fun b=>w.heap.size≤b) w' (o.map Prod.fst) #[.int .i64 k,.int .i64 n,.string s,.slice a l c]∧ ∀q,o=some q→Bx w' G (cs q.2):=by
 obtain⟨hb,h⟩:=h;cases o with
 |none=>exact⟨0,0,eS,none,0,0,h,hb,rfl,fun q e=>by cases e⟩
 |some q=>
  obtain⟨⟨kv,rfl,r⟩,k⟩:=h;obtain⟨a,c,rfl⟩:=r.form;exact⟨kdV q.1,nmV q.1,tgV q.1,a,_,c,rfl,hb,⟨_,rfl,r⟩,fun q' e=>by cases e;exact k⟩
structure Bkr (w0:World) (G:Nat) (ds:List Dt) (zs:List Int) (ps:List Nat) (h b n:Nat) (lv pv hv:Value):Prop where
 right:Right zs h b n ps
 zi:EI zs
 z:∀W,w0.grownBy W (some G)→Rd W.heap.size .i64 W hv zs
 p:∀W,w0.grownBy W (some G)→Rd W.heap.size .i64 W pv (AS ps)
 d:∀W,w0.grownBy W (some G)→RdDts W.heap.size W lv ds
 hd:AN ds≤1048576
theorem Hd (E:Int→Nat→Option (Vl×Nat)) (y:Int) (ys:List Int) (l:Nat):BO E (y::ys) l=match E y l with
  |none=>none
  |some q=>(BO E ys q.2).map fun(r:List Vl×Nat)=>(q.1::r.1,r.2):=rfl
theorem Gg {E:Int→Nat→Option (Vl×Nat)}:∀ (ys:List Int) (l:Nat) (vs:List Vl) (l1:Nat) (y:Int),BO E ys l=some (vs,l1)→BO E (ys++ [y]) l= (E y l1).map fun q=>(vs++ [q.1],q.2)
 | [],l,vs,l1,y,h=>by
  obtain⟨rfl,rfl⟩:=IM h;rw[List.nil_append,Hd];cases E y l1 with
  |none=>rfl
  |some q=>rfl
 |x::xs,l,vs,l1,y,h=>by
  obtain⟨v,l2,vs1,h1,h2,rfl⟩:=IL h;have ih:=Gg xs l2 vs1 l1 y h2;rw[List.cons_append,Hd,h1];dsimp only;rw[ih];cases E y l1 with
  |none=>rfl
  |some r=>rfl
theorem IR {E:Int→Nat→Option (Vl×Nat)}:∀ (ys zs:List Int) (l:Nat),BO E ys l=none→BO E (ys++zs) l=none
 | [],zs,l,h=>by cases h
 |x::xs,zs,l,h=>by
  rw[List.cons_append,Hd];rw[Hd]at h;cases hq:E x l with
  |none=>rfl
  |some q=>
   rw[hq]at h;dsimp only at h ⊢;rw[Option.map_eq_none_iff]at h;rw[IR xs zs q.2 h];rfl
theorem Tryz.infoI:(Tryz.prog.info? 3).map (fun i=>(i.zero,i.size,i.bytes))=some (some (.int .i64 0),1,8):=by kernel_rfl
theorem JX {B:Nat}(v:Value) (zs:List Int) (w:World) (hr:Rd B .i64 w v zs) (hn:zs.length≤4294967296):
  Calls Pq 33 #[v] w fun e w'=>∃v',e= .returned v'∧w'.ownsRow w.heap.size 3 1 v' zs.length (zs.map (Value.int .i64))∧Below w.heap.size w w':=by
 obtain⟨i0,hi,hz0,hz1,hz2⟩:=info_parts Tryz.infoI;have hv:∃a n cap,v= .slice a n cap∧n=zs.length:=by
  rcases hr with ⟨rfl,a,cap,rfl⟩ |⟨b,off,cap,rfl,_⟩
  ·exact⟨_,_,_,rfl,rfl⟩
  ·exact⟨_,_,_,rfl,rfl⟩
 obtain⟨a,n,cap,rfl,hnz⟩:=hv;have HN:=Aa hnz;clear hnz;have hn':n≤4294967296:=by rw[HN.out];exact hn
 have hc:∀k,k < n→ ∃b off,a=some ⟨b,off,none⟩ ∧b < w.heap.size∧w.cell? ⟨b,off+k,none⟩=some (.int .i64 (zs.getD k 0)):=by
  intro k hk;rcases hr with ⟨h,_⟩ |⟨b,off,cap',hs,hB,hbs,_,hc⟩
  ·have:=HN.out;rw[h]at this;simp at this;omega
  ·cases hs
   exact⟨b,off,rfl,hbs,hc k hk⟩
 clear hr;go_enter Tryz.func33,Tryz.ntmps33;go_wp2_with (refine Fz _ rfl (.tmp 6) (.tmp 6) 29 rfl w.heap.size 3 i0 (.int .i64 0) 1 Tryz.underlying29 hi hz0 hz1 .i64 .i64 _ _ n rfl rfl rfl rfl ?_ ?_ ?_ ?_)
 ·rw[hz2];omega
 ·unfold maxLen;omega
 ·exact Ad _
 ·intro w1 hown hgrow;have hb1:Below w.heap.size w w1:=(Ab _ _).grown hgrow (Ad _) (by simp);obtain⟨xs,hown,hlen⟩:∃xs,w1.ownsRow w.heap.size 3 1 (.slice (some ⟨w.heap.size,0,none⟩) n n) n xs∧xs.length=n:=⟨_,hown,by simpa using hown.1⟩;have HL:=Aa hlen;clear hlen;go_wp2
  go_loopw [4] (fun i wr=>∃k:Nat,k≤n∧i= .int .i64 k∧wr.ownsRow w.heap.size 3 1 (.slice (some ⟨w.heap.size,0,none⟩) n n) n (Ek (fun i=>Value.int .i64 (zs.getD i 0)) xs k)∧Below w.heap.size w wr) (fun i _=>n - (intOf i).toNat)
  case atStart=>exact⟨0,Ao _,rfl,by rw[Q5];exact hown,hb1⟩
  case round=>
   obtain⟨k,hk,rfl,ho,hb⟩:=hrel;by_cases hlt:k < n
   ·obtain⟨b,off,rfl,hbs,hck⟩:=hc k hlt;have c0:=(hb.cell (p:=⟨b,off+k,none⟩) hbs).trans hck;have c1:=Ig ho k hlt;rw[Q8 _ _ _ (by rw[HL.out];exact hlt)]at c1;have c2:=Cg ho k;clear hc hck;go_wp2;go_roundw
    case rel=>
     refine⟨k+1,hlt,by go_num,?_,hb.setCell (Ad _) _⟩;rw[←Q7 _ _ _ (by rw[HL.out];exact hlt)];exact Q4 ho k hlt _
    case measure=>simp[intOf];omega
   ·obtain rfl:k=n:=by omega
    go_wp2;go_ret;refine⟨_,rfl,?_,hb⟩;rw[←HN.out,←Q9,←HN.out,←Q6 _ _ _ HL.out];exact ho
def Ak (n:Nat) (left:Int):Int:=if left - n < 0 then -1 else left - n
theorem Jp {B:Nat}(v:Value) (zs:List Int) (left:Int) (w:World) (hr:Rd B .i64 w v zs) (h0:-1≤left) (h1:left≤4611686018427387904):
  Calls Pq 23 #[v,.int .i64 left] w fun e w'=>e= .returned (.int .i64 (Ak zs.length left))∧w=w':=by
 have hx:=hr.len;unfold maxLen at hx;obtain⟨a,cap,rfl⟩:=hr.form;clear hr;by_cases hneg:left - zs.length < 0
 ·have HF:=Aa (show Ak zs.length left= -1 from Af hneg);go_enter Tryz.func23,Tryz.ntmps23;go_wp2;go_ret;exact⟨Ap HF.out.symm,rfl⟩
 ·have HF:=Aa (show Ak zs.length left=left - zs.length from Ae hneg);go_enter Tryz.func23,Tryz.ntmps23;go_wp2;go_ret;exact⟨Ap HF.out.symm,rfl⟩
theorem L0 (n:Nat) (left:Int):-1≤Ak n left:=by unfold Ak;split <;> omega
theorem QH {B:Nat}(v:Value) (zs:List Int) (h b nx left:Int) (w:World) (hr:Rd B .i64 w v zs) (h0:-1≤left) (h1:left≤4611686018427387904):
  Calls Pq 22 #[.agg #[v,.int .i64 h,.int .i64 b,.int .i64 nx],.int .i64 left] w fun e w'=>e= .returned (.int .i64 (Ak zs.length left))∧Below w.heap.size w w':=by
 have hr':=fun(w':World) (hb:Below w.heap.size w w')=>hr.below' hb;obtain⟨a,cap,rfl⟩:=hr.form;clear hr;have hge:=L0 zs.length left;obtain⟨s,hs⟩:∃s,Ak zs.length left=s:=⟨_,rfl⟩;have hz:=fun(W:World) (hb:Below w.heap.size w W)=>Jp _ _ left W (hr' _ hb) h0 h1;rw[hs]at hge hz;rw[hs];have HZ:=Aa hz;clear hz hs hr';go_enter Tryz.func22,Tryz.ntmps22;go_wp2_with fail;refine(HZ.out _ ((Ab _ _).alloc (Ad _) _)).mono ?_;rintro e w1 ⟨rfl,rfl⟩;go_wp2
 all_goals go_ret
 all_goals exact⟨Ap (by omega),(Ab _ _).alloc (Ad _) _⟩
theorem Jq {w x:World}{A B C:Array Value}{e f g:TypeId}(h:((w.alloc (.cells A e)).alloc (.cells B f)).alloc (.cells C g)=x):
  Below w.heap.size w x∧Bx x w.heap.size A∧Bx x (w.heap.size+1) B∧Bx x (w.heap.size+2) C∧x.heap.size=w.heap.size+3:=by
 obtain⟨b1,k1⟩:=Bx.alloc (w:=w) (cur:=A) (e:=e) rfl;obtain⟨b2,k2⟩:=Bx.alloc (w:=w.alloc (.cells A e)) (cur:=B) (e:=f) rfl;obtain⟨b3,k3⟩:=Bx.alloc (w:=(w.alloc (.cells A e)).alloc (.cells B f)) (cur:=C) (e:=g) rfl;have s1:(w.alloc (.cells A e)).heap.size=w.heap.size+1:=by simp
 have s2:((w.alloc (.cells A e)).alloc (.cells B f)).heap.size=w.heap.size+2:=by simp
 rw[s1]at k2 b2;rw[s2]at k3 b3;subst h;exact⟨(b1.trans (b2.mono (by omega))).trans (b3.mono (by omega)),(k1.below b2 (by omega)).below b3 (by omega),k2.below b3 (by omega),k3,by simp⟩
theorem QI {B:Nat}(v:Value) (zs:List Int) (h b nx:Int) (w:World) (hr:Rd B .i64 w v zs) (hn:zs.length≤4294967296):
  Calls Pq 32 #[.agg #[v,.int .i64 h,.int .i64 b,.int .i64 nx]] w fun e w'=>∃v',e= .returned (.agg #[v',.int .i64 h,.int .i64 b,.int .i64 nx])∧
   w'.ownsRow w.heap.size 3 1 v' zs.length (zs.map (Value.int .i64))∧Below w.heap.size w w':=by
 have hr':=fun(w':World) (hb:Below w.heap.size w w')=>hr.below' hb;obtain⟨a,cap,rfl⟩:=hr.form;clear hr;go_enter Tryz.func32,Tryz.ntmps32;go_wp2_with fail;generalize hx:((w.alloc _).alloc _).alloc _=x;obtain⟨bx,k1,k2,k3,sx⟩:=Jq hx;clear hx;refine(JX _ _ _ (hr' _ bx) hn).mono ?_;rintro e w1 ⟨v1,rfl,o1,b1⟩;obtain⟨a1,c1,rfl⟩:=AR o1;replace k1:=k1.below b1 k1.1;replace k2:=k2.below b1 k2.1;replace k3:=k3.below b1 k3.1;have q1:=k1.2.1;have q2:=k2.2.1;have q3:=k3.2.1;have f1:=k1.2.2;have f2:=k2.2.2;have f3:=k3.2.2;have y1:=k1.1;have y2:=k2.1;have y3:=k3.1;have HS:=Aa sx;clear k1 k2 k3 sx hr';have HO:=Aa o1;have b2:=bx.trans (b1.mono bx.size);clear o1 bx b1;go_wp2;refine Aq (v:= .agg #[.slice a1 zs.length c1,.int .i64 h,.int .i64 b,.int .i64 nx]) ?_ rfl ⟨_,rfl,?_,?_⟩
 ·simp[results,Tryz.results32,go_sem,q2]
 ·have hs:=HS.out;refine CS (base:=x.heap.size) ?_ (by omega)
  repeat(refine CE ?_ (by show _+1 < _;omega) _)
  exact HO.out
 ·repeat(refine Df ?_ (by show _≤_+1;omega) _)
  exact b2
end Go.Proofs.YtifhcbeaiijkcaaGreat
