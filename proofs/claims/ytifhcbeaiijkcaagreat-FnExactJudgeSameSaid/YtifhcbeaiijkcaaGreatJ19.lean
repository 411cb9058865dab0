/- Parts of the proof of FnExactJudgeSame. -/
import Derived.Test.YtifhcbeaiijkcaaGreatJ09
import Derived.Test.YtifhcbeaiijkcaaGreatJ13
import Derived.Test.YtifhcbeaiijkcaaGreatJ18
import Derived.Test.YtifhcbeaiijkcaaGreatJ10
import Derived.Test.YtifhcbeaiijkcaaGreatJ01
import Derived.Test.YtifhcbeaiijkcaaGreatJ02
import Derived.Test.YtifhcbeaiijkcaaGreatRows
set_option linter.unusedVariables false
set_option linter.unusedSimpArgs false
set_option maxRecDepth 1000000
set_option maxHeartbeats 16000000
section
namespace Go.Proofs.YtifhcbeaiijkcaaGreat
open Go.RowKit
open _root_.Go.World renaming alloc→Wa,setCell→Ws
open _root_.Go.Proofs.Tryz renaming prog→Pq
def Bq (F:Int):Nat:=(max 0 (min F 4000)).toNat
def Fl (r:Rs Vl):Int×Option Vl×List Int:=match r with
 | .ok v s=>if Ar v > 4000 then(1,none,s.out)else(0,some v,s.out)
 | .bad c o=>(c,none,o)
noncomputable def AV (ds:List Dt) (x:Nd) (F:Int):Int×Option Vl×List Int:=
 if BG ds x=true∧ckP ds=0 then Fl (Ag (arP ds) (Bq F) x [] ⟨Bq F,[]⟩)else(2,none,[])
def RdEv (A:Nat→Prop) (w:World) (t:Int×Option Vl×List Int) (v:Value):Prop:=
 ∃a b s kv ov,v= .agg #[.int .i64 t.1,a,b,s,kv,ov]∧Rd w.heap.size .i64 w ov t.2.2∧
  match t.2.1 with
  |some u=> #[a,b,s,kv]=vlC u kv∧RdTv A w u (vlC u kv)
  |none=>a= .int .i64 0∧b= .int .i64 0∧s= .string ⟨#[]⟩ ∧kv= .slice none 0 0
def EvR (w:World) (ds:List Dt) (x:Nd) (F:Int) (e:Ending) (w':World):Prop:=∃v,e= .returned v∧Below w.heap.size w w'∧RdEv (fun b=>w.heap.size≤b) w' (AV ds x F) v
theorem Bx.set6 {w:World}{g:Nat}{z0 z1 z2 z3 z4 z5:Value}(k:Bx w g #[z0,z1,z2,z3,z4,z5]) (a0 a1 a2 a3 a4 a5:Value):
  Bx ((((((w.setCell ⟨g,0,none⟩ a0).setCell ⟨g,1,none⟩ a1).setCell ⟨g,2,none⟩ a2).setCell ⟨g,3,none⟩ a3).setCell ⟨g,4,none⟩ a4).setCell ⟨g,5,none⟩ a5) g #[a0,a1,a2,a3,a4,a5]∧w.grownBy ((((((w.setCell ⟨g,0,none⟩ a0).setCell ⟨g,1,none⟩ a1).setCell ⟨g,2,none⟩ a2).setCell ⟨g,3,none⟩ a3).setCell ⟨g,4,none⟩ a4).setCell ⟨g,5,none⟩ a5) (some g):=by
 have:=(((((k.st 0 (by simp) a0).st 1 (by simp) a1).st 2 (by simp) a2).st 3 (by simp) a3).st 4 (by simp) a4).st 5 (by simp) a5;exact⟨by simpa using this,(((((grownBy.setCell w g 0 a0).trans' (grownBy.setCell _ g 1 a1)).trans' (grownBy.setCell _ g 2 a2)).trans' (grownBy.setCell _ g 3 a3)).trans' (grownBy.setCell _ g 4 a4)).trans' (grownBy.setCell _ g 5 a5)⟩
theorem grown_at {w W W':World}{g:Nat}(hb:Below w.heap.size w W) (h:W.grownBy W' (some g)) (hg:w.heap.size≤g):Below w.heap.size w W':=
 hb.trans (Below.of_grown h hb.size (fun q e=>by have:=Am e;omega))
theorem Ho {w x0:World}{u v:Array Value}{e e2:TypeId}(h:(w.alloc (.cells u e)).alloc (.cells v e2)=x0):Below w.heap.size w x0∧Bx x0 w.heap.size u∧Bx x0 (w.heap.size+1) v∧x0.heap.size=w.heap.size+2:=by
 obtain⟨x1,h1⟩:∃x1,w.alloc (.cells u e)=x1:=⟨_,rfl⟩;rw[h1]at h;obtain⟨b1,k1⟩:=Bx.alloc h1;obtain⟨b2,k2⟩:=Bx.alloc h;have s1:x1.heap.size=w.heap.size+1:=by rw[←h1,Bo]
 rw[s1]at k2;exact⟨b1.trans (b2.mono b1.size),k1.below b2 k1.1,k2,by rw[←h,Bo,s1]⟩
theorem Qd {B:Nat}{ds:List Dt}{x:Nd}{dv kv:Value}{w:World}(F:Int) (hz:SzP ds x) (hr:RdDts B w dv ds) (hk:RdNs B w kv x.kids) (hv:∀d∈ds, -9223372036854775808≤d.vars∧d.vars≤9223372036854775807)
  (hs:¬(BG ds x=true∧ckP ds=0)):
  Calls Pq 15 #[pgV dv x kv,.int .i64 F] w (EvR w ds x F):=by
 have HT:=Aa (fun(W:World) (b:Below w.heap.size w W)=>NH ds x dv kv _ _ W hz (hr.later' b) (hk.later' b) hv);have HC:=Aa (fun(W:World) (b:Below w.heap.size w W)=>Kx ds dv _ W (hr.later' b) hz.1);have HE:Hid (AV ds x F= (2,none,[])):=Aa (by unfold AV;rw[Ae hs]);have HS:=Aa hs;obtain⟨da,dc,rfl⟩:=hr.form;obtain⟨ka,kc,rfl⟩:=hk.form;clear hr hk hv hs hz;unfold pgV at HT ⊢;go_enter Tryz.func15,Tryz.ntmps15;go_wp2_with fail;generalize hxx:(w.alloc _).alloc _=x0;obtain⟨bx,k1,k2,sx⟩:=Ho hxx;clear hxx;refine(HT.out x0 bx).mono ?_;rintro e w1 ⟨rfl,b1⟩;replace k1:=k1.below b1 k1.1;replace k2:=k2.below b1 k2.1;have c1:=k1.2.1;have c2:=k2.2.1;have f2:=k2.2.2;have y2:=k2.1;have B1:=Aa (bx.trans (b1.mono bx.size));clear k1 bx b1 HT;by_cases ht:BG ds x=true
 ·rw[ht];have hcne:ckP ds≠0:=fun h=>HS.out ⟨ht,h⟩;have hcb:(ckP ds !=0)=true:=by simpa using hcne
  generalize ckP ds=cc at*;clear ht hcne;go_wp2_with fail;refine(HC.out w1 B1.out).mono ?_;rintro e w2 ⟨rfl,b2⟩;have KK:=Aa (k2.below b2 k2.1);have BB:=Aa (B1.out.trans (b2.mono B1.out.size));have c3:=KK.out.2.1;have f3:=KK.out.2.2;have y3:=KK.out.1;clear k2 c1 c2 f2 y2 b2 HC;go_wp2;obtain⟨k9,g9⟩:=KK.out.set6 (.int .i64 2) (.int .i64 0) (.int .i64 0) (.string ⟨#[]⟩) (.slice none 0 0) (.slice none 0 0);have c9:=k9.2.1;refine Aq (v:= .agg #[.int .i64 2,.int .i64 0,.int .i64 0,.string ⟨#[]⟩,.slice none 0 0,.slice none 0 0]) ?_ rfl ⟨_,rfl,grown_at BB.out g9 (by omega),?_⟩
  ·simp[results,Tryz.results15,go_sem,c9]
  ·rw[HE.out];exact⟨_,_,_,_,_,rfl,.inl ⟨rfl,_,_,rfl⟩,rfl,rfl,rfl,rfl⟩
 ·obtain ht:BG ds x=false:=by simpa using ht
  rw[ht];have KK:=Aa k2;have BB:=B1;clear ht k2;go_wp2;obtain⟨k9,g9⟩:=KK.out.set6 (.int .i64 2) (.int .i64 0) (.int .i64 0) (.string ⟨#[]⟩) (.slice none 0 0) (.slice none 0 0);have c9:=k9.2.1;refine Aq (v:= .agg #[.int .i64 2,.int .i64 0,.int .i64 0,.string ⟨#[]⟩,.slice none 0 0,.slice none 0 0]) ?_ rfl ⟨_,rfl,grown_at BB.out g9 (by omega),?_⟩
  ·simp[results,Tryz.results15,go_sem,c9]
  ·rw[HE.out];exact⟨_,_,_,_,_,rfl,.inl ⟨rfl,_,_,rfl⟩,rfl,rfl,rfl,rfl⟩
end Go.Proofs.YtifhcbeaiijkcaaGreat
end
section
namespace Go.Proofs.YtifhcbeaiijkcaaGreat
open _root_.Go.World renaming alloc→Wa,setCell→Ws
open _root_.Go.Proofs.Tryz renaming prog→Pq
theorem UB {ds:List Dt}{s:Str}{n:Nat}(h:arP ds s=some n):∃d∈ds,∃c∈d.cons,c.name=s:=by
 unfold arP Bp at h;cases hf:ds.findIdx? (ER s)with
 |none=>rw[hf]at h;simp at h
 |some k=>
  obtain⟨hk,h1, -⟩:=Kf.1 hf;refine⟨ds[k],An hk,?_⟩;unfold ER at h1;have h1:=of_decide_eq_true h1;unfold cIx at h1;rcases Gp (isC s) ds[k].cons with ⟨h2, -⟩ |⟨j,hj,h2,h3, -⟩
  ·rw[h2]at h1;omega
  ·exact⟨ds[k].cons[j],An hj,of_decide_eq_true h3⟩
theorem UC {ds:List Dt}(hl:AN ds≤1048576) {s:Str}{n:Nat}(h:arP ds s=some n):s.size≤1048576:=by
 obtain⟨d,hd,c,hc,rfl⟩:=UB h;have h1:=Dm hd;have h2:=Eb hc;unfold wgD at h1;unfold wgC at h2;omega
theorem Nz {ds:List Dt}{x:Nd}{F:Int}(hz:AN ds≤1048576∧wgN x≤1048576) {u:Vl}(h:(AV ds x F).2.1=some u):Ar u≤4000∧lnV u≤4611686018427387904∧Good (.th u):=by
 unfold AV at h;by_cases hs:BG ds x=true∧ckP ds=0
 ·rw[Af hs]at h;have ht:=hs.1;unfold BG at ht;rw[Cd,Cd]at ht;cases hr:Ag (arP ds) (Bq F) x [] ⟨Bq F,[]⟩with
  |bad c o=>rw[hr]at h;cases h
  |ok v s=>
   rw[hr]at h;unfold Fl at h;dsimp only at h;by_cases hc:Ar v > 4000
   ·rw[Af hc]at h;cases h
   ·rw[Ae hc]at h;cases h
    have hg:=Hz (arP ds) _ x [] _ ht.2.2 hz.2 .nil _ _ hr;have htg:=Nw (p:=fun s=>s.size≤1048576) (fun s n h=>UC hz.1 h) _ x [] _ .nil _ _ hr;have hln:=JU _ htg;have:Ar u* (1048576+24)≤4000* (1048576+24):=Er _ (by omega);exact⟨by omega,by omega,hg⟩
 ·rw[Ae hs]at h;cases h
def Ej (x:Int):Bool:=x/2%2==1
def BU (x:Int):Int:=x/2/2/64
def C3 (x:Int):Int:=x/2/2%64
def hOk (x:Int):Bool:=decide (x%2=1∧0≤x∧BU x≤3000∧C3 x≤20)
theorem EG {x:Int}:hOk x=true↔x%2=1∧0≤x∧BU x≤3000∧C3 x≤20:=by simp[hOk]
theorem LP {x:Int}:hOk x=false↔ ¬(x%2=1∧0≤x∧BU x≤3000∧C3 x≤20):=by rw[←EG];simp
def hK (x:Int):Nat:=(C3 x).toNat
theorem DY (x:Int):0≤C3 x∧C3 x < 64:=by unfold C3;omega
theorem FP (x:Int):(hK x:Int)=C3 x:=by have:=DY x;unfold hK;omega
def Ce (ws:List Int) (nx:Nat):Nat→Nat→Option (List Nat)
 |0,_=>some []
 |f+1,p=>if p < nx then(if hOk (ws.getD p 0)=true∧p+1+hK (ws.getD p 0)≤nx then(Ce ws nx f (p+1+hK (ws.getD p 0))).map (p:: ·)else none)else some []
theorem EW {ws:List Int}{nx f p:Nat}(h:¬p < nx):Ce ws nx f p=some []:=by
 cases f
 ·rfl
 ·rw[Ce,Ae h]
theorem FQ {ws:List Int}{nx f p:Nat}(h:p < nx) (h1:hOk (ws.getD p 0)=true) (h2:p+1+hK (ws.getD p 0)≤nx):Ce ws nx (f+1) p= (Ce ws nx f (p+1+hK (ws.getD p 0))).map (p:: ·):=by
 rw[Ce,Af h,Af ⟨h1,h2⟩]
theorem EX {ws:List Int}{nx f p:Nat}(h:p < nx) (h1:¬(hOk (ws.getD p 0)=true∧p+1+hK (ws.getD p 0)≤nx)):Ce ws nx (f+1) p=none:=by
 rw[Ce,Af h,Ae h1]
theorem LQ {ws:List Int}{nx:Nat}:∀ (f g p:Nat),nx - p≤f→nx - p≤g→Ce ws nx f p=Ce ws nx g p:=by
 intro f;induction f with
 |zero=>intro g p h1 h2;rw[EW (by omega),EW (by omega)]
 |succ f ih=>
  intro g p h1 h2;by_cases hp:p < nx
  ·obtain⟨g',rfl⟩:∃g',g=g'+1:=⟨g - 1,by omega⟩;by_cases hb:hOk (ws.getD p 0)=true∧p+1+hK (ws.getD p 0)≤nx
   ·rw[FQ hp hb.1 hb.2,FQ hp hb.1 hb.2,ih g' _ (by omega) (by omega)]
   ·rw[EX hp hb,EX hp hb]
  ·rw[EW hp,EW hp]
def Cz (ws:List Int) (b nx:Nat):Option (List Nat):=Ce ws nx (nx - b) b
theorem Gx {ws:List Int}{nx:Nat}:∀ (f p:Nat) (ps:List Nat),Ce ws nx f p=some ps→ ∀q∈ps,p≤q∧q < nx∧hOk (ws.getD q 0)=true∧q+1+hK (ws.getD q 0)≤nx:=by
 intro f;induction f with
 |zero=>intro p ps h;simp[Ce]at h;subst h;simp
 |succ f ih=>
  intro p ps h;by_cases hp:p < nx
  ·by_cases hb:hOk (ws.getD p 0)=true∧p+1+hK (ws.getD p 0)≤nx
   ·rw[FQ hp hb.1 hb.2]at h;obtain⟨r,hr,rfl⟩:=Option.map_eq_some_iff.1 h;intro q hq;rcases List.mem_cons.1 hq with rfl |hq
    ·exact⟨Ad _,hp,hb.1,hb.2⟩
    ·have:=ih _ _ hr q hq;exact⟨by omega,this.2⟩
   ·rw[EX hp hb]at h;cases h
  ·rw[EW hp]at h;cases h;simp
theorem Jg {ws:List Int}{nx:Nat}:∀ (f p:Nat) (ps:List Nat),Ce ws nx f p=some ps→ps.Pairwise (· < ·):=by
 intro f;induction f with
 |zero=>intro p ps h;simp[Ce]at h;subst h;simp
 |succ f ih=>
  intro p ps h;by_cases hp:p < nx
  ·by_cases hb:hOk (ws.getD p 0)=true∧p+1+hK (ws.getD p 0)≤nx
   ·rw[FQ hp hb.1 hb.2]at h;obtain⟨r,hr,rfl⟩:=Option.map_eq_some_iff.1 h;refine List.pairwise_cons.2 ⟨fun q hq=> ?_,ih _ _ hr⟩;have:=Gx _ _ _ hr q hq;omega
   ·rw[EX hp hb]at h;cases h
  ·rw[EW hp]at h;cases h;simp
def AA (ps:List Nat) (x:Int):Bool:=if x%2=0 then decide (∃p∈ps,(p:Int)=x/2)else AU (x/2)
def Be (ws:List Int) (p:Nat):List Int:=(ws.drop (p+1)).take (hK (ws.getD p 0))
def EY (ws:List Int) (ps:List Nat):Bool:=ps.all fun p=>(Be ws p).all (AA ps)
def CR (ws:List Int) (h b n:Int):Bool:=decide (1≤h∧h≤3000∧(ws.length:Int)=2*h∧(b=0∨b=h)∧b≤n∧n≤b+h)
def Cf (ws:List Int) (h b n:Int):Bool:=
 CR ws h b n&& (match Cz ws b.toNat n.toNat with |none=>false |some ps=>EY ws ps)
end Go.Proofs.YtifhcbeaiijkcaaGreat
end
section
namespace Go.Proofs.YtifhcbeaiijkcaaGreat
open Go.RowKit
open _root_.Go.World renaming alloc→Wa,setCell→Ws
open _root_.Go.Proofs.Tryz renaming prog→Pq
def QC (e:Ending):Prop:=∃b t k,e= .returned (.tuple #[.bool b,.int .i64 t,.int .i64 k,.bool false])
theorem Gw (x:Int) (w:World) (h:hOk x=true) (hx:x≤9223372036854775807):
  Calls Pq 184 #[.int .i64 x] w fun e w'=>e= .returned (.tuple #[.bool (Ej x),.int .i64 (BU x),.int .i64 (C3 x),.bool true])∧w=w':=by
 obtain⟨h1,h2,h3,h4⟩:=EG.1 h;unfold BU at h3;unfold C3 at h4;have e1:(x%2==0)=false:=by simp;omega
 have e2:0≤x/2:=by omega
 have e3:0≤x/2/2:=by omega
 go_enter Tryz.func184,Tryz.ntmps184;go_wp2_with (first | (go_at_call 187;refine(Fv _ _).mono ?_;rintro e w' ⟨rfl,rfl⟩) | (go_at_call 186;refine(DQ _ _).mono ?_;rintro e w' ⟨rfl,rfl⟩))
 ((try simp only[Exit.inBlock,Exit.then]);refine Aq (GA rfl _ _ _) rfl ?_)
 exact⟨rfl,rfl⟩
theorem QD (x:Int) (w:World) (h:hOk x=false) (hx:x≤9223372036854775807) (hx0:-9223372036854775808≤x):
  Calls Pq 184 #[.int .i64 x] w fun e w'=>QC e∧w=w':=by
 have hn:=LP.1 h;unfold BU C3 at hn;by_cases c1:x%2=0
 ·have e1:(x%2==0)=true:=by simp;omega
  clear hn;go_enter Tryz.func184,Tryz.ntmps184;go_wp2_with (first | (go_at_call 187;refine(Fv _ _).mono ?_;rintro e w' ⟨rfl,rfl⟩) | (go_at_call 186;refine(DQ _ _).mono ?_;rintro e w' ⟨rfl,rfl⟩))
  ((try simp only[Exit.inBlock,Exit.then]);refine Aq (GA rfl _ _ _) rfl ?_)
  exact⟨⟨_,_,_,rfl⟩,rfl⟩
 ·have e1:(x%2==0)=false:=by simp;omega
  by_cases c2:x < 0
  ·have e2:x/2 < 0:=by omega
   clear hn;go_enter Tryz.func184,Tryz.ntmps184;go_wp2_with (first | (go_at_call 187;refine(Fv _ _).mono ?_;rintro e w' ⟨rfl,rfl⟩) | (go_at_call 186;refine(DQ _ _).mono ?_;rintro e w' ⟨rfl,rfl⟩))
   ((try simp only[Exit.inBlock,Exit.then]);refine Aq (GA rfl _ _ _) rfl ?_)
   exact⟨⟨_,_,_,rfl⟩,rfl⟩
  ·have e2:0≤x/2:=by omega
   have e3:0≤x/2/2:=by omega
   by_cases c3:x/2/2/64≤3000
   ·have e4:decide (x/2/2%64≤20)=false:=by simp;omega
    clear hn;go_enter Tryz.func184,Tryz.ntmps184;go_wp2_with (first | (go_at_call 187;refine(Fv _ _).mono ?_;rintro e w' ⟨rfl,rfl⟩) | (go_at_call 186;refine(DQ _ _).mono ?_;rintro e w' ⟨rfl,rfl⟩))
    ((try simp only[Exit.inBlock,Exit.then]);refine Aq (GA rfl _ _ _) rfl ?_)
    exact⟨⟨_,_,_,rfl⟩,rfl⟩
   ·clear hn;go_enter Tryz.func184,Tryz.ntmps184;go_wp2_with (first | (go_at_call 187;refine(Fv _ _).mono ?_;rintro e w' ⟨rfl,rfl⟩) | (go_at_call 186;refine(DQ _ _).mono ?_;rintro e w' ⟨rfl,rfl⟩))
    ((try simp only[Exit.inBlock,Exit.then]);refine Aq (GA rfl _ _ _) rfl ?_)
    exact⟨⟨_,_,_,rfl⟩,rfl⟩
theorem Fq (x:Int) (w:World) (h:0≤x) (hx:x≤9223372036854775807):
  Calls Pq 129 #[.int .i64 x] w fun e w'=>e= .returned (.tuple #[.bool (Ej x),.int .i64 (BU x),.int .i64 (C3 x)])∧w=w':=by
 have e2:0≤x/2:=by omega
 have e3:0≤x/2/2:=by omega
 go_enter Tryz.func129,Tryz.ntmps129;go_wp2
 go_ret3
 exact⟨rfl,rfl⟩
def QE (e:Ending):Prop:=∃b t k,e= .returned (.tuple #[.bool b,.int .i64 t,.int .i64 k])
theorem QF (x:Int) (w:World) (h:x < 0) (hx:-9223372036854775808≤x):
  Calls Pq 129 #[.int .i64 x] w fun e w'=>QE e∧w=w':=by
 have e2:x/2 < 0:=by omega
 have e3:x/2/2 < 0:=by omega
 go_enter Tryz.func129,Tryz.ntmps129;go_wp2
 go_ret3
 exact⟨⟨_,_,_,rfl⟩,rfl⟩
theorem Tryz.infoI1:(Tryz.prog.info? 3).map (fun i=>(i.zero,i.size,i.bytes))=some (some (.int .i64 0),1,8):=by kernel_rfl
def ofN (p:Nat):Value:= .int .i64 (p:Int)
def EI (ws:List Int):Prop:=∀j, -9223372036854775808≤ws.getD j 0∧ws.getD j 0≤9223372036854775807
def Told (W:World) (e:Ending) (w':World) (o:Option (List Nat)):Prop:=
 match o with
 |none=>∃a n c,e= .returned (.tuple #[.slice a n c,.bool false])
 |some ps=>∃v,e= .returned (.tuple #[v,.bool true])∧w'.ownsRow W.heap.size 3 1 v ps.length (ps.map ofN)
structure Frame (ws:List Int) (h b n:Nat):Prop where
 h0:1≤h
 h1:h≤3000
 len:ws.length=2*h
 base:b=0∨b=h
 n0:b≤n
 n1:n≤b+h
theorem JK {B:Nat}(v:Value) (ws:List Int) (h b n:Nat) (w:World) (hr:Rd B .i64 w v ws) (hw:EI ws) (hf:Frame ws h b n):
  Calls Pq 139 #[.agg #[v,.int .i64 h,.int .i64 b,.int .i64 n]] w fun e w'=>Told w e w' (Cz ws b n)∧Below w.heap.size w w':=by
 obtain⟨f0,f1,f2,f3,f4,f5⟩:=hf;rcases hr with ⟨rfl,_⟩ |⟨bl,off,cap,rfl,hB,hbs,_,hc⟩
 ·simp at f2;omega
 obtain⟨i0,hi,hz0,hz1,hz2⟩:=info_parts Tryz.infoI1;obtain⟨o,ho⟩:∃o,Cz ws b n=o:=⟨_,rfl⟩;rw[ho];unfold Cz at ho;have HO:=Aa ho;have hn2:n≤2*h:=by rcases f3 with h' |h' <;> omega
 have f2a:ws.length≤2*h:=by omega
 have f2b:2*h≤ws.length:=by omega
 clear ho f3 f2;go_enter Tryz.func139,Tryz.ntmps139;go_wp2
 go_loopw [4,5] (fun q p wr=>∃ (k:Nat) (acc:List Nat),p= .int .i64 k∧b≤k∧k≤n∧wr.ownsRow (w.heap.size+1) 3 1 q acc.length (acc.map ofN)∧acc.length≤k∧Hid ((Ce ws n (n - k) k).map (acc++ ·)=o)∧Below (w.heap.size+1) (w.alloc (.cells #[.slice (some ⟨bl,off,none⟩) ws.length cap,.int .i64 h,.int .i64 b,.int .i64 n] 46)) wr) (fun _ p _=>n - (intOf p).toNat)
 case atStart=>
  refine⟨b,[],rfl,Ad _,f4,?_,Ao _,?_,(Ab _ _).alloc ?_ _⟩
  ·exact FR (by simp) (by omega)
  ·show _=_
   rw[←HO.out];cases Ce ws n (n - b) b <;> rfl
  ·simp
 case round=>
  obtain⟨k,acc,rfl,hk0,hk1,hown,hal,hp,hb⟩:=hrel;obtain⟨qa,qc,rfl⟩:=AR hown;have kb:=((Bx.alloc (w:=w) rfl).2.below hb (by omega));have hsz:=hb.size;simp at hsz;have q1:=kb.2.1;have y1:=kb.1;clear kb;by_cases hlt:k < n
  ·have hin:k < ws.length:=by omega
   have cw:=(hb.cell (p:=⟨bl,off+k,none⟩) (by show bl < _;omega)).trans ((World.cell?_alloc_past _ _ _ hbs).trans (hc k hin));have hx:=hw k;obtain⟨x,hxx⟩:∃x,ws.getD k 0=x:=⟨_,rfl⟩;rw[hxx]at cw hx;have HX:=Aa hxx;obtain⟨hx0,hx1⟩:=hx;clear hc hw hxx;cases hh:hOk x
   ·have hp':=hp.out;rw[show n - k= (n - k - 1)+1 from by omega,EX hlt (by rw[HX.out,hh];simp)]at hp';have HP:=Aa hp';clear hp hp';go_wp2_with (go_at_call 184;refine(QD _ _ hh hx1 hx0).mono ?_;rintro e w' ⟨⟨bb,tt,kk,rfl⟩,rfl⟩);go_ret2;rw[←HP.out];exact⟨⟨_,_,_,rfl⟩,((Ab _ _).alloc (Ad _) _).trans (hb.mono (by omega))⟩
   ·have hkn:=FP x;have hkb:=DY x;rw[←hkn]at hkb;by_cases hfit:k+1+hK x≤n
    ·have hp':=hp.out;rw[show n - k= (n - k - 1)+1 from by omega,FQ hlt (by rw[HX.out,hh]) (by rw[HX.out];exact hfit),HX.out]at hp';have HP:=Aa hp';have HK:=Aa hkn;clear hp hp' hkn;go_wp2_with fail;refine(Gw _ _ hh hx1).mono ?_;rw[←HK.out];rintro e w' ⟨rfl,rfl⟩;clear hkb;have hkb1:hK x < 64:=by have:=DY x;have:=HK.out;omega
     go_wp2_with (at_builtin;refine Mf rfl _ _ 29 rfl (w.heap.size+1) 3 i0 (.int .i64 0) 1 8 Tryz.underlying29 hi hz0 hz1 hz2 rfl (by decide) _ _ _ rfl hown #[_] rfl ?_ rfl ?_ ?_ ?_ ?_)
     ·rfl
     ·unfold maxLen;omega
     ·omega
     ·omega
     ·intro v' w1 ho' hg _;have hb':=hb.grown hg (by omega) (fun kk hk=>(hown.lt kk hk).1);have R:w1.ownsRow (w.heap.size+1) 3 1 v' (acc++ [k]).length ((acc++ [k]).map ofN)∧Hid ((Ce ws n (n - (k+1+hK x)) (k+1+hK x)).map ((acc++ [k])++ ·)=o):=by
       refine⟨by simpa [ofN] using ho',?_⟩
       show _=_
       rw[←HP.out,Option.map_map,LQ (n - (k+1+hK x)) (n - k - 1) _ (by omega) (by omega)];cases Ce ws n (n - k - 1) (k+1+hK x) <;> simp
      have y2:=hb'.size;clear ho' hg hb hown q1 y1;go_wp2;go_roundw
      case rel=>exact⟨k+1+hK x,acc++ [k],by go_num,by omega,hfit,R.1,by simp;omega,R.2,hb'⟩
      case measure=>simp[intOf];omega
    ·have hp':=hp.out;rw[show n - k= (n - k - 1)+1 from by omega,EX hlt (by rw[HX.out];omega)]at hp';have HP:=Aa hp';have HK:=Aa hkn;clear hp hp' hkn;go_wp2_with fail;refine(Gw _ _ hh hx1).mono ?_;rw[←HK.out];rintro e w' ⟨rfl,rfl⟩;clear hkb;have hkb1:hK x < 64:=by have:=DY x;have:=HK.out;omega
     go_wp2;go_ret2;rw[←HP.out];exact⟨⟨_,_,_,rfl⟩,((Ab _ _).alloc (Ad _) _).trans (hb.mono (by omega))⟩
  ·have hp':=hp.out;rw[EW hlt]at hp';have HP:=Aa hp';clear hp hp';go_wp2;go_ret2;rw[←HP.out];refine⟨⟨_,rfl,?_⟩,((Ab _ _).alloc (Ad _) _).trans (hb.mono (by omega))⟩
   simpa using CS hown (by omega)
theorem Im {B:Nat}(v:Value) (ws:List Int) (h b n:Nat) (w:World) (hr:Rd B .i64 w v ws) (hw:EI ws) (hf:Frame ws h b n):
  Calls Pq 66 #[.agg #[v,.int .i64 h,.int .i64 b,.int .i64 n]] w fun e w'=>Told w e w' (Cz ws b n)∧Below w.heap.size w w':=by
 obtain⟨f0,f1,f2,f3,f4,f5⟩:=hf;rcases hr with ⟨rfl,_⟩ |⟨bl,off,cap,rfl,hB,hbs,_,hc⟩
 ·simp at f2;omega
 obtain⟨i0,hi,hz0,hz1,hz2⟩:=info_parts Tryz.infoI1;obtain⟨o,ho⟩:∃o,Cz ws b n=o:=⟨_,rfl⟩;rw[ho];unfold Cz at ho;have HO:=Aa ho;have hn2:n≤2*h:=by rcases f3 with h' |h' <;> omega
 have f2a:ws.length≤2*h:=by omega
 have f2b:2*h≤ws.length:=by omega
 clear ho f3 f2;go_enter Tryz.func66,Tryz.ntmps66;go_wp2
 go_loopw [4,5] (fun q p wr=>∃ (k:Nat) (acc:List Nat),p= .int .i64 k∧b≤k∧k≤n∧wr.ownsRow (w.heap.size+1) 3 1 q acc.length (acc.map ofN)∧acc.length≤k∧Hid ((Ce ws n (n - k) k).map (acc++ ·)=o)∧Below (w.heap.size+1) (w.alloc (.cells #[.slice (some ⟨bl,off,none⟩) ws.length cap,.int .i64 h,.int .i64 b,.int .i64 n] 46)) wr) (fun _ p _=>n - (intOf p).toNat)
 case atStart=>
  refine⟨b,[],rfl,Ad _,f4,?_,Ao _,?_,(Ab _ _).alloc ?_ _⟩
  ·exact FR (by simp) (by omega)
  ·show _=_
   rw[←HO.out];cases Ce ws n (n - b) b <;> rfl
  ·simp
 case round=>
  obtain⟨k,acc,rfl,hk0,hk1,hown,hal,hp,hb⟩:=hrel;obtain⟨qa,qc,rfl⟩:=AR hown;have kb:=((Bx.alloc (w:=w) rfl).2.below hb (by omega));have hsz:=hb.size;simp at hsz;have q1:=kb.2.1;have y1:=kb.1;clear kb;by_cases hlt:k < n
  ·have hin:k < ws.length:=by omega
   have cw:=(hb.cell (p:=⟨bl,off+k,none⟩) (by show bl < _;omega)).trans ((World.cell?_alloc_past _ _ _ hbs).trans (hc k hin));have hx:=hw k;obtain⟨x,hxx⟩:∃x,ws.getD k 0=x:=⟨_,rfl⟩;rw[hxx]at cw hx;have HX:=Aa hxx;obtain⟨hx0,hx1⟩:=hx;clear hc hw hxx;cases hh:hOk x
   ·have hp':=hp.out;rw[show n - k= (n - k - 1)+1 from by omega,EX hlt (by rw[HX.out,hh];simp)]at hp';have HP:=Aa hp';clear hp hp';by_cases hneg:x < 0
    ·go_wp2_with fail;refine(QF _ _ hneg hx0).mono ?_;rintro e w' ⟨⟨bb,tt,kk,rfl⟩,rfl⟩;go_wp2;go_ret2;rw[←HP.out];exact⟨⟨_,_,_,rfl⟩,((Ab _ _).alloc (Ad _) _).trans (hb.mono (by omega))⟩
    ·have hge:0≤x:=by omega
     have hn:=LP.1 hh;by_cases c1:x%2=0
     ·have e1:(x%2==0)=true:=by simp;omega
      clear hn;go_wp2_with fail;refine(Fq _ _ hge hx1).mono ?_;rintro e w' ⟨rfl,rfl⟩;go_wp2_with (go_at_call 130;refine(Eo _ _).mono ?_;rintro e w' ⟨rfl,rfl⟩);go_ret2;rw[←HP.out];exact⟨⟨_,_,_,rfl⟩,((Ab _ _).alloc (Ad _) _).trans (hb.mono (by omega))⟩
     ·have e1:(x%2==0)=false:=by simp;omega
      by_cases c3:BU x≤3000
      ·have e4:20 < C3 x:=by omega
       clear hn;go_wp2_with fail;refine(Fq _ _ hge hx1).mono ?_;rintro e w' ⟨rfl,rfl⟩;go_wp2_with (go_at_call 130;refine(Eo _ _).mono ?_;rintro e w' ⟨rfl,rfl⟩);go_ret2;rw[←HP.out];exact⟨⟨_,_,_,rfl⟩,((Ab _ _).alloc (Ad _) _).trans (hb.mono (by omega))⟩
      ·clear hn;go_wp2_with fail;refine(Fq _ _ hge hx1).mono ?_;rintro e w' ⟨rfl,rfl⟩;go_wp2_with (go_at_call 130;refine(Eo _ _).mono ?_;rintro e w' ⟨rfl,rfl⟩);go_ret2;rw[←HP.out];exact⟨⟨_,_,_,rfl⟩,((Ab _ _).alloc (Ad _) _).trans (hb.mono (by omega))⟩
   ·obtain⟨c1,hge,c3,c4⟩:=EG.1 hh;have e1:(x%2==0)=false:=by simp;omega
    have hkn:=FP x;rw[←hkn]at c4;have hkb:=DY x;rw[←hkn]at hkb;by_cases hfit:k+1+hK x≤n
    ·have hp':=hp.out;rw[show n - k= (n - k - 1)+1 from by omega,FQ hlt (by rw[HX.out,hh]) (by rw[HX.out];exact hfit),HX.out]at hp';have HP:=Aa hp';have HK:=Aa hkn;clear hp hp' hkn;go_wp2_with fail;refine(Fq _ _ hge hx1).mono ?_;rw[←HK.out];rintro e w' ⟨rfl,rfl⟩;clear hkb;have hkb1:hK x < 64:=by have:=DY x;have:=HK.out;omega
     go_wp2_with (first | (go_at_call 130;refine(Eo _ _).mono ?_;rintro e w' ⟨rfl,rfl⟩) | (at_builtin;refine Mf rfl _ _ 29 rfl (w.heap.size+1) 3 i0 (.int .i64 0) 1 8 Tryz.underlying29 hi hz0 hz1 hz2 rfl (by decide) _ _ _ rfl hown #[_] rfl ?_ rfl ?_ ?_ ?_ ?_))
     ·rfl
     ·unfold maxLen;omega
     ·omega
     ·omega
     ·intro v' w1 ho' hg _;have hb':=hb.grown hg (by omega) (fun kk hk=>(hown.lt kk hk).1);have R:w1.ownsRow (w.heap.size+1) 3 1 v' (acc++ [k]).length ((acc++ [k]).map ofN)∧Hid ((Ce ws n (n - (k+1+hK x)) (k+1+hK x)).map ((acc++ [k])++ ·)=o):=by
       refine⟨by simpa [ofN] using ho',?_⟩
       show _=_
       rw[←HP.out,Option.map_map,LQ (n - (k+1+hK x)) (n - k - 1) _ (by omega) (by omega)];cases Ce ws n (n - k - 1) (k+1+hK x) <;> simp
      have y2:=hb'.size;clear ho' hg hb hown q1 y1;go_wp2;go_roundw
      case rel=>exact⟨k+1+hK x,acc++ [k],by go_num,by omega,hfit,R.1,by simp;omega,R.2,hb'⟩
      case measure=>simp[intOf];omega
    ·have hp':=hp.out;rw[show n - k= (n - k - 1)+1 from by omega,EX hlt (by rw[HX.out];omega)]at hp';have HP:=Aa hp';have HK:=Aa hkn;clear hp hp' hkn;go_wp2_with fail;refine(Fq _ _ hge hx1).mono ?_;rw[←HK.out];rintro e w' ⟨rfl,rfl⟩;clear hkb;have hkb1:hK x < 64:=by have:=DY x;have:=HK.out;omega
     go_wp2_with (go_at_call 130;refine(Eo _ _).mono ?_;rintro e w' ⟨rfl,rfl⟩);go_ret2;rw[←HP.out];exact⟨⟨_,_,_,rfl⟩,((Ab _ _).alloc (Ad _) _).trans (hb.mono (by omega))⟩
  ·have hp':=hp.out;rw[EW hlt]at hp';have HP:=Aa hp';clear hp hp';go_wp2;go_ret2;rw[←HP.out];refine⟨⟨_,rfl,?_⟩,((Ab _ _).alloc (Ad _) _).trans (hb.mono (by omega))⟩
   simpa using CS hown (by omega)
theorem Qh {zs:List Int}{n:Int}{k:Nat}(h:∀j,j < k→zs.getD j 0≠n) (he:zs.getD k 0≠n):∀j,j < k+1→zs.getD j 0≠n:=by
 intro j hj;by_cases e:j=k
 ·subst e;exact he
 ·exact h j (by omega)
theorem Hq {zs:List Int}{n:Int}{k:Nat}(hk:k < zs.length) (h:zs.getD k 0=n):n∈zs:=by
 subst h;simp[List.getD,Ay hk]
theorem LB {zs:List Int}{n:Int}(h:∀j,j < zs.length→zs.getD j 0≠n):n∉zs:=by
 intro hm;obtain⟨i,hi,he⟩:=DG hm;exact h i hi (by simp[List.getD,Ay hi,he])
theorem Jb {B:Nat}(v:Value) (zs:List Int) (n:Int) (w:World) (hr:Rd B .i64 w v zs):
  Calls Pq 131 #[v,.int .i64 n] w fun e w'=>e= .returned (.bool (decide (n∈zs)))∧w=w':=by
 have hx:=hr.len;unfold maxLen at hx;rcases hr with ⟨rfl,a,cap,rfl⟩ |⟨b,off,cap,rfl,hB,hbs,hm,hc⟩
 ·go_enter Tryz.func131,Tryz.ntmps131;go_wp2;refine FD 1 ?_;rw[FE];go_wp2;go_ret;exact⟨Ac (by simp),rfl⟩
 ·go_enter Tryz.func131,Tryz.ntmps131;go_wp2
  go_loop [5] (fun i=>∃k:Nat,k≤zs.length∧i= .int .i64 k∧Hid (∀j,j < k→zs.getD j 0≠n)) (fun i=>zs.length - (intOf i).toNat)
  case atStart=>exact⟨0,Ao _,rfl,fun j hj=>by omega⟩
  case round=>
   obtain⟨k,hk,rfl,hd⟩:=hrel;by_cases hlt:k < zs.length
   ·have c1:=hc k hlt;obtain⟨x,hx⟩:∃x,zs.getD k 0=x:=⟨_,rfl⟩;rw[hx]at c1;have HX:=Aa hx;clear hc hx;by_cases he:x=n
    ·subst he;go_wp2;go_ret;exact⟨Ac (by symm;rw[Du];exact Hq hlt HX.out),rfl⟩
    ·have he1:(x==n)=false:=by simpa using he
     go_wp2
     go_round
     case rel=>exact⟨k+1,hlt,by go_num,Qh hd.out (by rw[HX.out];exact he)⟩
     case measure=>simp[intOf];omega
   ·go_wp2;go_ret;exact⟨Ac (by symm;rw[Dr];exact LB (fun j hj=>hd.out j (by omega))),rfl⟩
theorem Qi (a b:Int) (w:World):
  Calls Pq 221 #[.int .i64 a,.int .i64 b] w fun e w'=>e= .returned (.bool (decide (a < b)))∧w=w':=by
 have e1:(a !=a)=false:=by simp
 go_enter Tryz.func221,Tryz.ntmps221;go_wp2;go_ret;exact⟨rfl,rfl⟩
theorem Jc {zs:List Int}(h:zs.Pairwise (· < ·)) {k m:Nat}(hk:k≤m) (hm:m < zs.length):zs.getD k 0≤zs.getD m 0:=by
 by_cases e:k=m
 ·subst e;omega
 ·have:=List.pairwise_iff_getElem.1 h k m (by omega) hm (by omega);simp[List.getD,Ay hm,Ay (show k < zs.length by omega)];omega
theorem LC {zs:List Int}{n:Int}{p:Nat}(h1:∀k,k < p→zs.getD k 0 < n) (h2:∀k,p≤k→k < zs.length→n < zs.getD k 0):n∉zs:=by
 refine LB fun j hj=> ?_;by_cases e:j < p
 ·have:=h1 j e;omega
 ·have:=h2 j (by omega) hj;omega
theorem Qj {i j:Nat}(h:i < j) (hj:j≤9223372036854775807):i≤ (i+j)/2∧(i+j)/2 < j:=by omega
def Qk (zs:List Int) (n:Int) (e:Ending):Prop:=∃r:Int,e= .returned (.tuple #[.int .i64 r,.bool (decide (n∈zs))])
theorem Ql {B:Nat}(v:Value) (zs:List Int) (n:Int) (w:World) (hr:Rd B .i64 w v zs) (hs:zs.Pairwise (· < ·)) (hlen:zs.length≤4294967296):
  Calls Pq 188 #[v,.int .i64 n] w fun e w'=>Qk zs n e∧w=w':=by
 have HS:=Aa hs;clear hs;obtain⟨a,cap,rfl⟩:=hr.form;have hc:∀k,k < zs.length→ ∃b off,a=some ⟨b,off,none⟩ ∧w.cell? ⟨b,off+k,none⟩=some (.int .i64 (zs.getD k 0)):=by
  intro k hk;rcases hr with ⟨h,_⟩ |⟨b,off,cap',hs,hB,hbs,_,hc⟩
  ·rw[h]at hk;simp at hk
  ·cases hs
   exact⟨b,off,rfl,hc k hk⟩
 clear hr;go_enter Tryz.func188,Tryz.ntmps188;go_wp2
 go_loop [7,8,9] (fun i j _=>∃p q:Nat,p≤q∧q≤zs.length∧i= .int .i64 p∧j= .int .i64 q∧Hid ((∀k,k < p→zs.getD k 0 < n)∧(∀k,q≤k→k < zs.length→n≤zs.getD k 0))) (fun i j _=>(intOf j).toNat - (intOf i).toNat)
 case atStart=>exact⟨0,zs.length,Ao _,Ad _,rfl,rfl,fun k hk=>by omega,fun k h1 h2=>by omega⟩
 case round=>
  obtain⟨p,q,hpq,hq,rfl,rfl,hd⟩:=hrel;by_cases hlt:p < q
  ·obtain⟨m1,m2⟩:=Qj hlt (by omega);obtain⟨b,off,rfl,c1⟩:=hc ((p+q)/2) (by omega);go_wp2_with (go_at_call 221;refine(Qi _ _ _).mono ?_;rintro e w' ⟨rfl,rfl⟩)
   ·have h:zs[(p+q)/2]?.getD 0 < n:=by assumption
    go_round
    case rel=>
     refine⟨(p+q)/2+1,q,by omega,hq,by go_num,rfl,fun k hk=> ?_,hd.out.2⟩;have:=Jc HS.out (show k≤ (p+q)/2 by omega) (by omega);simp only[List.getD]at this ⊢;omega
    case measure=>simp[intOf];omega
   ·have h:n≤zs[(p+q)/2]?.getD 0:=by assumption
    go_round
    case rel=>
     refine⟨p,(p+q)/2,by omega,by omega,rfl,by go_num,hd.out.1,fun k h1 h2=> ?_⟩;have:=Jc HS.out h1 h2;simp only[List.getD]at this ⊢;omega
    case measure=>simp[intOf];omega
  ·obtain rfl:p=q:=by omega
   by_cases hin:p < zs.length
   ·obtain⟨b,off,rfl,c1⟩:=hc p hin;obtain⟨x,hx⟩:∃x,zs.getD p 0=x:=⟨_,rfl⟩;rw[hx]at c1;have HX:=Aa hx;clear hc hx;by_cases he:x=n
    ·subst he;have hfin:decide (x∈zs)=true:=by rw[Du];exact Hq hin HX.out
     have HF:=Aa hfin;clear hfin;go_wp2;go_ret2;exact⟨⟨p,by rw[HF.out];rfl⟩,rfl⟩
    ·have he1:(x==n)=false:=by simpa using he
     have he2:(x !=x)=false:=by simp
     have hfin:decide (n∈zs)=false:=by
      rw[Dr];refine LC (p:=p) hd.out.1 fun k h1 h2=> ?_;have h3:=hd.out.2 p (Ad _) hin;have h4:=Jc HS.out h1 h2;rw[HX.out]at h3 h4;omega
     have HF:=Aa hfin;clear hfin;go_wp2;go_ret2;exact⟨⟨p,by rw[HF.out];rfl⟩,rfl⟩
   ·have hfin:decide (n∈zs)=false:=by
     rw[Dr];exact LC (p:=p) hd.out.1 fun k h1 h2=>by omega
    have HF:=Aa hfin;clear hfin;go_wp2;go_ret2;exact⟨⟨p,by rw[HF.out];rfl⟩,rfl⟩
def AS (ps:List Nat):List Int:=ps.map fun(p:Nat)=>(p:Int)
theorem Ep (ps:List Nat):(AS ps).length=ps.length:=by simp[AS]
theorem Oh {ps:List Nat}{x:Int}:x∈AS ps↔ ∃p∈ps,(p:Int)=x:=by simp[AS]
theorem Vx {ps:List Nat}(h:ps.Pairwise (· < ·)):(AS ps).Pairwise (· < ·):=by
 unfold AS;rw[List.pairwise_map];exact h.imp fun h=>by omega
theorem GQ {ps:List Nat}{x:Int}(h:x%2=0):AA ps x=decide (x/2∈AS ps):=by
 unfold AA;rw[Af h];simp only[Oh]
theorem J5 {ps:List Nat}{x:Int}(h:¬x%2=0):AA ps x=AU (x/2):=by
 unfold AA;rw[Ae h]
theorem Iy {B:Nat}(v:Value) (ps:List Nat) (x:Int) (w:World) (hr:Rd B .i64 w v (AS ps)) (hs:ps.Pairwise (· < ·)) (hlen:ps.length≤4294967296):
  Calls Pq 141 #[.int .i64 x,v] w fun e w'=>e= .returned (.bool (AA ps x))∧w=w':=by
 have hs':=Ql v (AS ps) (x/2) w hr (Vx hs) (by rw[Ep];exact hlen);have HS:=Aa hs';obtain⟨a,cap,rfl⟩:=hr.form;clear hr hs hs';by_cases h:x%2=0
 ·have e1:(x%2==0)=true:=by simpa using h
  have HF:=Aa (GQ (ps:=ps) h);clear h;go_enter Tryz.func141,Tryz.ntmps141;go_wp2_with (first | (go_at_call 189;refine(Nh _ _).mono ?_;rintro e w' ⟨rfl,rfl⟩) | (go_at_call 186;refine(DQ _ _).mono ?_;rintro e w' ⟨rfl,rfl⟩));refine HS.out.mono ?_;rintro e w' ⟨⟨r,rfl⟩,rfl⟩;go_wp2;go_ret;exact⟨Ac HF.out.symm,rfl⟩
 ·have e1:(x%2==0)=false:=by simpa using h
  have HF:=Aa (J5 (ps:=ps) h);clear h;go_enter Tryz.func141,Tryz.ntmps141;go_wp2_with (first | (go_at_call 187;refine(Fv _ _).mono ?_;rintro e w' ⟨rfl,rfl⟩) | (go_at_call 186;refine(DQ _ _).mono ?_;rintro e w' ⟨rfl,rfl⟩) | (go_at_call 81;refine(DP _ _).mono ?_;rintro e w' ⟨rfl,rfl⟩));go_ret;exact⟨Ac HF.out.symm,rfl⟩
theorem J6 {B:Nat}(v:Value) (ps:List Nat) (x:Int) (w:World) (hr:Rd B .i64 w v (AS ps)):
  Calls Pq 67 #[v,.int .i64 x] w fun e w'=>e= .returned (.bool (AA ps x))∧w=w':=by
 have hs':=Jb v (AS ps) (x/2) w hr;have HS:=Aa hs';obtain⟨a,cap,rfl⟩:=hr.form;clear hr hs';by_cases h:x%2=0
 ·have e1:(x%2==0)=true:=by simpa using h
  have HF:=Aa (GQ (ps:=ps) h);clear h;go_enter Tryz.func67,Tryz.ntmps67;go_wp2_with (first | (go_at_call 132;refine(JP _ _).mono ?_;rintro e w' ⟨rfl,rfl⟩) | (go_at_call 130;refine(Eo _ _).mono ?_;rintro e w' ⟨rfl,rfl⟩));refine HS.out.mono ?_;rintro e w' ⟨rfl,rfl⟩;go_wp2;go_ret;exact⟨Ac HF.out.symm,rfl⟩
 ·have e1:(x%2==0)=false:=by simpa using h
  have HF:=Aa (J5 (ps:=ps) h);clear h;go_enter Tryz.func67,Tryz.ntmps67;go_wp2_with (first | (go_at_call 133;refine(Ni _ _).mono ?_;rintro e w' ⟨rfl,rfl⟩) | (go_at_call 130;refine(Eo _ _).mono ?_;rintro e w' ⟨rfl,rfl⟩) | (go_at_call 68;refine(Dd _ _).mono ?_;rintro e w' ⟨rfl,rfl⟩));go_ret;exact⟨Ac HF.out.symm,rfl⟩
end Go.Proofs.YtifhcbeaiijkcaaGreat
end
