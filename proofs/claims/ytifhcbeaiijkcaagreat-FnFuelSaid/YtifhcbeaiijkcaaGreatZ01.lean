/- Parts of the proof of FnFuel. -/
import Derived.Test.YtifhcbeaiijkcaaGreatZ00
import Derived.Lib.Bytealg
import Derived.Laws.BytesString
set_option linter.unusedVariables false
set_option linter.unusedSimpArgs false
set_option maxRecDepth 1000000
set_option maxHeartbeats 16000000
namespace Go.Ev
open Go
def Du (P:Program) (ibs:FuncId→Bool):Prop:=
 ∀f,ibs f=true→ ∀ (args:Array Value) (v:Value) (w:World),(Extern.BytealgIndexByte.indexByte args).run P w= .ok v w→(callFunc f args).run P w= .ok (.value v) w
theorem Cr {P:Program}{s:Sem Value}{cv:Value}{w w':World}(h:s.run P w= .ok cv w'):((do pure (Next.value (←s))):Sem Next).run P w= .ok (.value cv) w':=by
 simp[h]
theorem AY {P:Program}{t:TypeId}{u:TypeDesc}(h:P.underlying t=some u) (w:World):(underlying t).run P w= .ok u w:=by
 simp[underlying,h]
theorem DQ {P:Program}{t:TypeId}{i:TypeInfo}(h:P.info? t=some i) (w:World):(sizeOf t).run P w= .ok i.size w:=by
 simp[sizeOf,typeInfo,h]
theorem Sd {P:Program}{t:TypeId}{i:TypeInfo}(h:P.info? t=some i) (w:World):(typeInfo t).run P w= .ok i w:=by
 simp[typeInfo,h]
theorem GP {P:Program}{t:TypeId}{i:TypeInfo}{z:Value}(h:P.info? t=some i) (hz:i.zero=some z) (w:World):(zeroValue t).run P w= .ok z w:=by
 simp[zeroValue,typeInfo,h,hz]
theorem Is {P:Program}{t:TypeId}{u:TypeDesc}(h:P.underlying t=some u) (w:World):(isAgg t).run P w= .ok (DL u) w:=by
 unfold isAgg;simp only[Sem.run_bind,AY h,Result.andThen_ok];cases u <;> rfl
theorem ER.at {ρ:Rho}{e:E}{a:Act}(he:ER ρ e a) {x:Operand}{y:O}(h:cO x=some y) {s:S}(hs:Ev.os e y=s) (hu:s≠ .un:=by simp):SR ρ s (a.eval x):=he.os h hs hu
theorem JT {ρ:Rho}{e:E}{a:Act}(he:ER ρ e a) {x:Operand}{y:O}(h:cO x=some y) {n:Nat}(hn:onj e y=some n):∃k,a.eval x= .int k (n:Int):=by
 unfold onj at hn;split at hn <;> simp only[Af,reduceCtorEq]at hn
 ·rename_i m hm;subst hn;exact⟨_,he.at h hm⟩
 ·rename_i k m hm;subst hn;exact⟨_,he.at h hm⟩
theorem JU {ρ:Rho}{e:E}{a:Act}(he:ER ρ e a) {x:Operand}{y:O}(h:cO x=some y) {n:Nat}(hn:on e y=some n):a.eval x= .int .i64 (n:Int):=by
 unfold on at hn;split at hn <;> simp only[Af,reduceCtorEq]at hn
 rename_i m hm;subst hn;exact he.at h hm
theorem Se {ρ:Rho}{e:E}{a:Act}(he:ER ρ e a) {x:Option Operand}{y:Option O}(h:cOo x=some y) {d n:Nat}(hn:onD e d y=some n):
  (x=none∧y=none∧n=d)∨ ∃x' k,x=some x'∧a.eval x'= .int k (n:Int):=by
 cases x with
 |none=>simp only[cOo,Af]at h;subst h;simp only[onD,Af]at hn;exact .inl ⟨rfl,rfl,hn.symm⟩
 |some x=>
  unfold cOo at h;split at h
  ·simp at*
  ·rename_i x' hx;simp only[Af]at hx;subst hx;split at h
   ·rename_i y' hy;simp only[Af]at h;subst h;obtain⟨k,hk⟩:=JT he hy (by simpa [onD] using hn);exact .inr ⟨x,k,rfl,hk⟩
   ·simp at h
theorem JV (P:Program) (w:World) (b:Bool) (len cap l h:Nat) {lo hi:Option Value}(hl:(lo=none∧l=0)∨ ∃k,lo=some (.int k l)) (hh:(hi=none∧h=len)∨ ∃k,hi=some (.int k h))
  (h1:l≤h) (h2:h≤len) (h3:len≤cap):(Instr.sliceBounds b len cap lo hi none).run P w= .ok (l,h,cap) w:=by
 have hb:∀ (k:IntKind) (i y:Nat) (c:BoundsCode),i≤y→(Instr.sliceBound (.int k i) y c).run P w= .ok i w:=fun k i y c hi=>by
  simp[Instr.sliceBound,asIntOf,hi]
 unfold Instr.sliceBounds;rcases hl with ⟨rfl,rfl⟩ |⟨k,rfl⟩ <;> rcases hh with ⟨rfl,rfl⟩ |⟨k',rfl⟩
 ·simp
 ·simp[hb k' h cap _ (by omega)]
 ·simp[hb k l h _ (by omega)]
 ·simp[hb k' h cap _ (by omega),hb k l h _ (by omega)]
theorem M3 (P:Program) (w:World) (len cap l h m:Nat) {lo hi:Option Value}{k:IntKind}(hl:(lo=none∧l=0)∨ ∃k,lo=some (.int k l)) (hh:∃k,hi=some (.int k h))
  (h1:l≤h) (h2:h≤m) (h3:m≤cap):(Instr.sliceBounds true len cap lo hi (some (.int k m))).run P w= .ok (l,h,m) w:=by
 have hb:∀ (k:IntKind) (i y:Nat) (c:BoundsCode),i≤y→(Instr.sliceBound (.int k i) y c).run P w= .ok i w:=fun k i y c hi=>by
  simp[Instr.sliceBound,asIntOf,hi]
 unfold Instr.sliceBounds;obtain⟨k',rfl⟩:=hh;rcases hl with ⟨rfl,rfl⟩ |⟨k'',rfl⟩
 ·simp[hb k m cap _ h3,hb k' h m _ h2]
 ·simp[hb k m cap _ h3,hb k' h m _ h2,hb k'' l h _ h1]
theorem Sf (src:List Value):∀ (off i:Nat) (cells:Array Value),off+i+src.length≤cells.size→
  ((src.zipIdx i).foldl (fun(cs:Array Value) (p:Value×Nat)=>cs.setIfInBounds (off+p.2) p.1) cells).toList=cells.toList.take (off+i)++ (src++cells.toList.drop (off+i+src.length)):=by
 induction src with
 |nil=>intro off i cells h;simp
 |cons x t ih=>
  intro off i cells h;simp only[List.zipIdx_cons,List.foldl_cons];rw[ih off (i+1) _ (by simp at h ⊢;omega)];simp only[Array.toList_setIfInBounds,List.length_cons];have hlt:off+i < cells.toList.length:=by simp at h ⊢;omega
  have e1:(cells.toList.set (off+i) x).take (off+ (i+1))=cells.toList.take (off+i)++ [x]:=by
   rw[show off+ (i+1)= (off+i)+1 by omega,He];rw[List.getElem?_set_self hlt,List.take_set_of_le (Ad _)];rfl
  have e2:(cells.toList.set (off+i) x).drop (off+ (i+1)+t.length)=cells.toList.drop (off+i+ (t.length+1)):=by
   rw[show off+ (i+1)+t.length=off+i+ (t.length+1)by omega,List.drop_set_of_lt (by omega)]
  rw[e1,e2];simp
theorem JW {ρ:Rho}{e:E}{a:Act}(he:ER ρ e a) {pl:Nat→Option (Nat×Nat)}:
  ∀ {ps:List (Nat×Operand)} {qs:List (Nat×Nat×O)} {z l:List S} {cells:Array Value},Ft pl ps=some qs→DI z e qs=some l→LR (SR ρ) z cells.toList→
   ∃out,Instr.fill pl cells (ps.map fun p=>(p.1,a.eval p.2))=some out∧LR (SR ρ) l out.toList
 | [],qs,z,l,cells,h,hp,hz=>by
  simp only[Ft,Af]at h;subst h;have:some z=some l:=hp;simp only[Af]at this;subst this;exact⟨cells,rfl,hz⟩
 | (i,x)::ps,qs,z,l,cells,h,hp,hz=>by
  unfold Ft at h;split at h
  ·rename_i off sz y m h1 h2 h3;simp only[Af]at h;subst h;have hp':(match cellsOf (ov e y)with
    |none=>none
    |some l'=>bif Nat.beq (Bi l') sz&& Nat.ble (Nat.add off sz) (Bi z)then DI (Bv z l' off) e m else none)=some l:=hp
   cases hc:cellsOf (ov e y)with
   |none=>simp[hc]at hp'
   |some l'=>
    simp only[hc]at hp';obtain⟨ht,hp'⟩:=Bh hp';simp only[AH,Bf,Fy,BQ,Hl,Cq,Nat.add_eq]at ht;have hcl:=VR.cells (he.ov h2) hc;have hlen:=hcl.length;have hzl:=hz.length;have hlen':(a.eval x).cells.size=sz:=by rw[←ht.1,hlen];simp
    have hfit:¬(off+ (a.eval x).cells.size > cells.size):=by
     have:z.length=cells.size:=by rw[hzl];simp
     omega
    have hfold:=Sf (a.eval x).cells.toList off 0 cells (by simp at hzl ⊢;omega);have hnew:LR (SR ρ) (Bv z l' off) (((a.eval x).cells.zipIdx.foldl (fun cs (c,j)=>cs.setIfInBounds (off+j) c) cells)).toList:=by
     rw[show((a.eval x).cells.zipIdx.foldl (fun cs (c,j)=>cs.setIfInBounds (off+j) c) cells)= (((a.eval x).cells.toList.zipIdx 0).foldl (fun(cs:Array Value) (p:Value×Nat)=>cs.setIfInBounds (off+p.2) p.1) cells)by
      rw[←Array.foldl_toList,Array.toList_zipIdx]]
     rw[hfold,F7];simp only[Nat.add_zero];refine(hz.take off).append (hcl.append ?_);rw[←hlen];exact hz.drop _
    obtain⟨out,ho1,ho2⟩:=JW he h3 hp' hnew;refine⟨out,?_,ho2⟩;simp only[List.map_cons,Instr.fill,h1,hlen',ne_eq,not_true_eq_false,false_or];rw[hlen']at hfit;rw[Ab (by simpa using hfit)];exact ho1
  ·simp at h
theorem M9 {ρ:Rho}{e:E}{a:Act}(he:ER ρ e a):∀ {xs:List Operand}{ys:List O}{l:List (Nat×Nat)},cOs xs=some ys→Fn e ys=some l→LR (fun(c:Nat×Nat) v=>PR ρ c.1 c.2 v) l (xs.map a.eval)
 | [],ys,l,h,hp=>by
  simp only[cOs,Af]at h;subst h;have:some []=some l:=hp;simp only[Af]at this;subst this;trivial
 |x::xs,ys,l,h,hp=>by
  unfold cOs at h;split at h
  ·rename_i y m h1 h2;simp only[Af]at h;subst h;have hp':(match Ev.os e y,Fn e m with | .p a b,some l=>some ((a,b)::l) |_,_=>none)=some l:=hp;split at hp'
   ·rename_i a' b' l' h3 h4;simp only[Af]at hp';subst hp';exact⟨he.at h1 h3,M9 he h2 h4⟩
   ·simp at hp'
  ·simp at h
theorem Na (c:UInt8):∀ (l:List UInt8) (k:Nat),Js c.toNat (l.map UInt8.toNat) k=if Lib.indexByte l c= -1 then -1 else(k:Int)+Lib.indexByte l c
 | [],k=>rfl
 |x::l,k=>by
  show(Bool.rec (motive:=fun _=>Int) (Js c.toNat (l.map UInt8.toNat) (Nat.succ k)) (.ofNat k) (Nat.beq x.toNat c.toNat))=_
  rw[Bf,Na c l];have hge:=Lib.indexByte_ge l c;rw[show Lib.indexByte (x::l) c= (if x==c then 0 else if Lib.indexByte l c== -1 then -1 else Lib.indexByte l c+1)from rfl];by_cases h:x=c
  ·subst h;simp
  ·have h1:(x.toNat==c.toNat)=false:=by simpa using fun e=>h (UInt8.toNat_inj.1 e)
   have h2:(x==c)=false:=by simpa using h
   simp only[h1,h2,Dh,Di,BQ];by_cases h3:Lib.indexByte l c= -1
   ·simp[h3]
   ·rw[Ab h3,Ab h3,Ab (by omega)];omega
theorem DR {ρ:Rho}{b:Bool}{v:V}(h:bb b=some v):VR ρ v (.bool b):=by
 simp only[bb,Af]at h;subst h;rfl
def JX:Value→Bool
 | .nilIface=>false
 | .agg _=>false
 |_=>true
theorem Ga {P:Program}{w:World}(op:BinOp) (t:TypeId) (x y:Operand) (p q:Value) (h:JX p=true):(eqGuard op t x y p q).run P w= .ok () w:=by
 unfold eqGuard;cases op <;> first |rfl | (cases p <;> first | (simp[JX]at h;done) |rfl)
def eqV:Value→Bool
 | .bool _=>true
 | .slice _ _ _=>true
 | .pointer _=>true
 | .func _ _ _=>true
 | .nilFunc=>true
 |_=>false
theorem Sg {p:Value}(h:eqV p=true):JX p=true:=by cases p <;> first |rfl | (simp[eqV]at h)
theorem Sh (t:TypeId) (p q:Value) (h:eqV p=true):binOp .eql t p q= (do pure (.bool (←Op.equal t p q)):Sem Value):=by
 cases p <;> first | (simp[eqV]at h;done) |rfl | (cases q <;> rfl)
theorem Si (t:TypeId) (p q:Value) (h:eqV p=true):binOp .neq t p q= (do pure (.bool (!(←Op.equal t p q))):Sem Value):=by
 cases p <;> first | (simp[eqV]at h;done) |rfl | (cases q <;> rfl)
theorem Ee {P:Program}{w:World}{op:BinOp}(hop:op= .eql∨op= .neq) (t:TypeId) (x y:Operand) {p q:Value}{r:Bool}(hp:eqV p=true)
  (hr:(Op.equal t p q).run P w= .ok r w):(do eqGuard op t x y p q;binOp op t p q:Sem Value).run P w= .ok (.bool (xor (CS op) r)) w:=by
 simp only[Sem.run_bind,Ga op t x y p q (Sg hp),Result.andThen_ok];rcases hop with rfl |rfl
 ·rw[Sh t p q hp];simp[hr,CS]
 ·rw[Si t p q hp];simp[hr,CS]
theorem Sj {P:Program}{w:World}{t:TypeId}(hu:P.underlying t=some .bool) (a b:Bool):(Op.equal t (.bool a) (.bool b)).run P w= .ok (a==b) w:=by
 show(Op.equalIn (9999+1) t (.bool a) (.bool b)).run P w=_
 unfold Op.equalIn;simp only[Sem.run_bind,AY hu,Result.andThen_ok];rfl
theorem JY {P:Program}{w:World}{t e:TypeId}(hu:P.underlying t=some (.slice e)) (a b:Option Addr) (n c m d:Nat) (h:a=none∨b=none):
  (Op.equal t (.slice a n c) (.slice b m d)).run P w= .ok (a.isNone&& b.isNone) w:=by
 show(Op.equalIn (9999+1) t _ _).run P w=_
 unfold Op.equalIn;simp only[Sem.run_bind,AY hu,Result.andThen_ok];cases a <;> cases b <;> first |rfl | (simp at h)
theorem JZ {P:Program}{w:World}{t e:TypeId}(hu:P.underlying t=some (.pointer e)) (a b:Option Addr) (h:a=none∨b=none):
  (Op.equal t (.pointer a) (.pointer b)).run P w= .ok (a.isNone&& b.isNone) w:=by
 show(Op.equalIn (9999+1) t _ _).run P w=_
 unfold Op.equalIn;simp only[Sem.run_bind,AY hu,Result.andThen_ok];cases a <;> cases b <;> first |rfl | (simp at h)
theorem J0 {P:Program}{w:World}{t:TypeId}{ps rs:Array TypeId}{v:Bool}(hu:P.underlying t=some (.func ps rs v)) {p q:Value}
  (h:(p= .nilFunc∧q= .nilFunc)∨(p= .nilFunc∧ ∃g x y,q= .func g x y)∨(q= .nilFunc∧ ∃g x y,p= .func g x y)):
  (Op.equal t p q).run P w= .ok (p matches .nilFunc&& q matches .nilFunc) w:=by
 show(Op.equalIn (9999+1) t _ _).run P w=_
 unfold Op.equalIn;simp only[Sem.run_bind,AY hu,Result.andThen_ok];rcases h with ⟨rfl,rfl⟩ |⟨rfl,g,x,y,rfl⟩ |⟨rfl,g,x,y,rfl⟩ <;> rfl
section
variable {P:Program}{ty:TypeId→Option TyI}{ibs:FuncId→Bool}(hty:TyOk P ty) (hib:Du P ibs) {ρ:Rho}{e:E}{a:Act}(he:ER ρ e a) (w:World)
include he
theorem J1 {op:BinOp}{x y:Operand}{x' y':O}(hx:cO x=some x') (hy:cO y=some y') {v:V}(hv:wv e (.bin op x' y')=some v) (t:TypeId):
  ∃cv,(do eqGuard op t x y (a.eval x) (a.eval y);binOp op t (a.eval x) (a.eval y)).run P w= .ok cv w∧VR ρ v cv:=by
 simp only[wv]at hv;split at hv
 ·rename_i p q h1 h2;rw[show a.eval x= .int .i64 p from he.at hx h1,show a.eval y= .int .i64 q from he.at hy h2];obtain⟨cv,h3,h4⟩:=Sb P ρ hv t w;exact⟨cv,by simp only[Sem.run_bind,Ga _ _ _ _ (.int .i64 p) _ rfl,Result.andThen_ok,h3],h4⟩
 ·rename_i k p k' q h1 h2;rw[show a.eval x= .int k p from he.at hx h1,show a.eval y= .int k' q from he.at hy h2];obtain⟨cv,h3,h4⟩:=Sc P ρ hv t w;exact⟨cv,by simp only[Sem.run_bind,Ga _ _ _ _ (.int k p) _ rfl,Result.andThen_ok,h3],h4⟩
 ·rename_i p q h1 h2;obtain⟨b1,e1,rfl⟩:=he.at hx h1;obtain⟨b2,e2,rfl⟩:=he.at hy h2;rw[e1,e2];obtain⟨cv,h3,h4⟩:=Sa P ρ hv t w;exact⟨cv,by simp only[Sem.run_bind,Ga _ _ _ _ (.string b1) _ rfl,Result.andThen_ok,h3],h4⟩
 ·rename_i p k' q h1 h2;rw[show a.eval x= .int .i64 p from he.at hx h1,show a.eval y= .int k' q from he.at hy h2,Ir];obtain⟨cv,h3,h4⟩:=F9 ρ hv;exact⟨cv,by simp only[Sem.run_bind,Ga _ _ _ _ (.int .i64 p) _ rfl,Result.andThen_ok,h3,Sem.run_pure'],h4⟩
 ·rename_i k p q h1 h2;rw[show a.eval x= .int k p from he.at hx h1,show a.eval y= .int .i64 q from he.at hy h2,Ir];obtain⟨cv,h3,h4⟩:=F9 ρ hv;exact⟨cv,by simp only[Sem.run_bind,Ga _ _ _ _ (.int k p) _ rfl,Result.andThen_ok,h3,Sem.run_pure'],h4⟩
 ·simp at hv
theorem Sk {op:BinOp}(hop:op= .eql∨op= .neq) {x y:Operand}{x' y':O}(hx:cO x=some x') (hy:cO y=some y') {v:V}(hv:wv e (.eqb (CS op) x' y')=some v) {t:TypeId}(hu:P.underlying t=some .bool):
  ∃cv,(do eqGuard op t x y (a.eval x) (a.eval y);binOp op t (a.eval x) (a.eval y)).run P w= .ok cv w∧VR ρ v cv:=by
 simp only[wv]at hv;split at hv
 ·rename_i p q h1 h2;rw[show a.eval x= .bool p from he.at hx h1,show a.eval y= .bool q from he.at hy h2];refine⟨_,Ee hop t x y rfl (Sj hu p q),?_⟩;have:=DR (ρ:=ρ) hv;cases p <;> cases q <;> exact this
 ·simp at hv
theorem Sl {op:BinOp}(hop:op= .eql∨op= .neq) {x y:Operand}{x' y':O}(hx:cO x=some x') (hy:cO y=some y') {v:V}(hv:wv e (.eql (CS op) x' y')=some v) {t el:TypeId}(hu:P.underlying t=some (.slice el)):
  ∃cv,(do eqGuard op t x y (a.eval x) (a.eval y);binOp op t (a.eval x) (a.eval y)).run P w= .ok cv w∧VR ρ v cv:=by
 simp only[wv]at hv;split at hv
 ·rename_i h1 h2;rw[show a.eval x= .slice none 0 0 from he.at hx h1,show a.eval y= .slice none 0 0 from he.at hy h2];refine⟨_,Ee hop t x y rfl (JY hu _ _ _ _ _ _ (.inl rfl)),?_⟩;have:=DR (ρ:=ρ) hv
  simpa using this
 ·rename_i h1 h2;obtain⟨_,_,_,_,_,_,e2,_⟩:=he.at hy h2;rw[show a.eval x= .slice none 0 0 from he.at hx h1,e2];refine⟨_,Ee hop t x y rfl (JY hu _ _ _ _ _ _ (.inl rfl)),?_⟩;have:=DR (ρ:=ρ) hv
  simpa using this
 ·rename_i h1 h2;obtain⟨_,_,_,_,_,_,e1,_⟩:=he.at hx h1;rw[e1,show a.eval y= .slice none 0 0 from he.at hy h2];refine⟨_,Ee hop t x y rfl (JY hu _ _ _ _ _ _ (.inr rfl)),?_⟩;have:=DR (ρ:=ρ) hv
  simpa using this
 ·simp at hv
theorem Sn {op:BinOp}(hop:op= .eql∨op= .neq) {x y:Operand}{x' y':O}(hx:cO x=some x') (hy:cO y=some y') {v:V}(hv:wv e (.eqp (CS op) x' y')=some v) {t el:TypeId}(hu:P.underlying t=some (.pointer el)):
  ∃cv,(do eqGuard op t x y (a.eval x) (a.eval y);binOp op t (a.eval x) (a.eval y)).run P w= .ok cv w∧VR ρ v cv:=by
 simp only[wv]at hv;split at hv
 ·rename_i h1 h2;rw[show a.eval x= .pointer none from he.at hx h1,show a.eval y= .pointer none from he.at hy h2];refine⟨_,Ee hop t x y rfl (JZ hu _ _ (.inl rfl)),?_⟩;have:=DR (ρ:=ρ) hv
  simpa using this
 ·rename_i h1 h2;obtain⟨_,_,_,_,e2⟩:=he.at hy h2;rw[show a.eval x= .pointer none from he.at hx h1,e2];refine⟨_,Ee hop t x y rfl (JZ hu _ _ (.inl rfl)),?_⟩;have:=DR (ρ:=ρ) hv
  simpa using this
 ·rename_i h1 h2;obtain⟨_,_,_,_,e1⟩:=he.at hx h1;rw[e1,show a.eval y= .pointer none from he.at hy h2];refine⟨_,Ee hop t x y rfl (JZ hu _ _ (.inr rfl)),?_⟩;have:=DR (ρ:=ρ) hv
  simpa using this
 ·simp at hv
theorem So {op:BinOp}(hop:op= .eql∨op= .neq) {x y:Operand}{x' y':O}(hx:cO x=some x') (hy:cO y=some y') {v:V}(hv:wv e (.eqf (CS op) x' y')=some v) {t:TypeId}{ps rs:Array TypeId}{vr:Bool}(hu:P.underlying t=some (.func ps rs vr)):
  ∃cv,(do eqGuard op t x y (a.eval x) (a.eval y);binOp op t (a.eval x) (a.eval y)).run P w= .ok cv w∧VR ρ v cv:=by
 simp only[wv]at hv;split at hv
 ·rename_i h1 h2;rw[show a.eval x= .nilFunc from he.at hx h1,show a.eval y= .nilFunc from he.at hy h2];refine⟨_,Ee hop t x y rfl (J0 hu (.inl ⟨rfl,rfl⟩)),?_⟩;have:=DR (ρ:=ρ) hv
  simpa using this
 ·rename_i h1 h2;obtain⟨_,e2,_⟩:=he.at hy h2;rw[show a.eval x= .nilFunc from he.at hx h1,e2];refine⟨_,Ee hop t x y rfl (J0 hu (.inr (.inl ⟨rfl,_,_,_,rfl⟩))),?_⟩;have:=DR (ρ:=ρ) hv
  simpa using this
 ·rename_i h1 h2;obtain⟨_,e1,_⟩:=he.at hx h1;rw[e1,show a.eval y= .nilFunc from he.at hy h2];refine⟨_,Ee hop t x y rfl (J0 hu (.inr (.inr ⟨rfl,_,_,_,rfl⟩))),?_⟩;have:=DR (ρ:=ρ) hv
  simpa using this
 ·simp at hv
end
theorem Sp (n:Nat) (h:n≤127):(Utf8.encode (n:Int)).data.toList.map UInt8.toNat=[n]:=by
 have:∀m:Fin 128,(Utf8.encode ((m:Nat):Int)).data.toList.map UInt8.toNat=[(m:Nat)]:=by decide+kernel
 have h2:=this ⟨n,by omega⟩
 simpa only using h2
theorem Sq (bs:ByteArray) (l h:Nat) (h1:l≤h) (h2:h≤bs.size):(bs.extract l h).data.toList.map UInt8.toNat= ((bs.data.toList.map UInt8.toNat).drop l).take (h - l):=by
 simp[ByteArray.data_extract,Array.toList_extract,List.extract,List.map_take,List.map_drop]
section
variable {P:Program}{ty:TypeId→Option TyI}{ibs:FuncId→Bool}{ρ:Rho}{e:E}{a:Act}(he:ER ρ e a) (w:World)
include he
theorem Sr (hty:TyOk P ty) {op:BinOp}{t:TypeId}{x y:Operand}{x' y':O}(hx:cO x=some x') (hy:cO y=some y') {q:W}(h:JG ty op t x' y'=some q) {v:V}(hv:wv e q=some v):
  ∃cv,(do eqGuard op t x y (a.eval x) (a.eval y);binOp op t (a.eval x) (a.eval y)).run P w= .ok cv w∧VR ρ v cv:=by
 have key:∀ (hop:op= .eql∨op= .neq),(match ty t with
  |some i=>match i.u with
   | .int _=>some (W.bin op x' y')
   | .string=>some (.bin op x' y')
   | .bool=>some (.eqb (CS op) x' y')
   | .slice _=>some (.eql (CS op) x' y')
   | .pointer _=>some (.eqp (CS op) x' y')
   | .func _ _ _=>some (.eqf (CS op) x' y')
   |_=>none
  |none=>none)=some q→ ∃cv,(do eqGuard op t x y (a.eval x) (a.eval y);binOp op t (a.eval x) (a.eval y)).run P w= .ok cv w∧VR ρ v cv:=by
  intro hop h;split at h
  ·rename_i i hi;have hu:=hty.under hi;split at h <;> simp only[Af,reduceCtorEq]at h <;> subst h
   ·exact J1 he w hx hy hv t
   ·exact J1 he w hx hy hv t
   ·rename_i hd;exact Sk he w hop hx hy hv (by rw[hu,hd])
   ·rename_i hd;exact Sl he w hop hx hy hv (by rw[hu,hd])
   ·rename_i hd;exact Sn he w hop hx hy hv (by rw[hu,hd])
   ·rename_i hd;exact So he w hop hx hy hv (by rw[hu,hd])
  ·simp at h
 cases op
 case eql=>exact key (.inl rfl) h
 case neq=>exact key (.inr rfl) h
 all_goals
  simp only[JG,Af]at h;subst h;exact J1 he w hx hy hv t
theorem Ss {op:UnOp}{x:Operand}{x':O}(hx:cO x=some x') {v:V}(hv:wv e (.un op x')=some v):∃cv,(Op.unary op (a.eval x)).run P w= .ok cv w∧VR ρ v cv:=by
 simp only[wv]at hv;split at hv
 ·rename_i p h1;rw[show a.eval x= .bool p from he.at hx h1];cases op <;> simp only[reduceCtorEq]at hv
  exact⟨_,rfl,DR hv⟩
 ·rename_i p h1;rw[show a.eval x= .int .i64 p from he.at hx h1];obtain⟨cv,h3,h4⟩:=F9 ρ hv;exact⟨cv,by rw[h3];rfl,h4⟩
 ·rename_i k p h1;rw[show a.eval x= .int k p from he.at hx h1];obtain⟨cv,h3,h4⟩:=F9 ρ hv;exact⟨cv,by rw[h3];rfl,h4⟩
 ·simp at hv
theorem Su {t s:TypeId}{d:TypeDesc}{k:IntKind}(hs:P.underlying s=some d) (ht:P.underlying t=some (.int k)) {x:Operand}{x':O}(hx:cO x=some x') {v:V}(hv:wv e (.cv k x')=some v):
  ∃cv,(convert s t (a.eval x)).run P w= .ok cv w∧VR ρ v cv:=by
 simp only[wv]at hv;split at hv <;> simp only[Af,reduceCtorEq]at hv
 ·rename_i p h1;rw[show a.eval x= .int .i64 p from he.at hx h1];subst hv;exact⟨_,by unfold convert;simp only[Sem.run_bind,AY hs,AY ht,Result.andThen_ok];rfl,JS ρ _ _⟩
 ·rename_i k' p h1;rw[show a.eval x= .int k' p from he.at hx h1];subst hv;exact⟨_,by unfold convert;simp only[Sem.run_bind,AY hs,AY ht,Result.andThen_ok];rfl,JS ρ _ _⟩
theorem Sv {t s:TypeId}{k:IntKind}(hs:P.underlying s=some (.int k)) (ht:P.underlying t=some .string) {x:Operand}{x':O}(hx:cO x=some x') {v:V}(hv:wv e (.cvs x')=some v):
  ∃cv,(convert s t (a.eval x)).run P w= .ok cv w∧VR ρ v cv:=by
 have key:∀ (k':IntKind) (n:Nat),(bif Nat.ble n 127 then some (V.c (.s [n]))else(none:Option V))=some v→ ∃cv,(convert s t (.int k' (n:Int))).run P w= .ok cv w∧VR ρ v cv:=by
  intro k' n h;obtain⟨h1,h2⟩:=Bh h;simp only[Af]at h2;subst h2;exact⟨_,by unfold convert;simp only[Sem.run_bind,AY hs,AY ht,Result.andThen_ok];rfl,_,rfl,Sp n (Ce h1)⟩
 simp only[wv]at hv;split at hv
 ·rename_i p h1;rw[show a.eval x= .int .i64 (Int.ofNat p)from he.at hx h1];exact key _ _ hv
 ·rename_i k' p h1;rw[show a.eval x= .int k' (Int.ofNat p)from he.at hx h1];exact key _ _ hv
 ·simp at hv
theorem Dv {x:Option Operand}{y:Option O}(h:cOo x=some y) {d n:Nat}(hn:onD e d y=some n):
  (x.map a.eval=none∧n=d)∨ ∃k,x.map a.eval=some (.int k n):=by
 rcases Se he h hn with ⟨rfl,_,rfl⟩ |⟨x',k,rfl,h2⟩
 ·exact .inl ⟨rfl,rfl⟩
 ·exact .inr ⟨k,by simp[h2]⟩
theorem Sx {t:TypeId}(hu:P.underlying t=some .string) {x:Operand}{lo hi:Option Operand}{x':O}{lo' hi':Option O}(hx:cO x=some x') (hl:cOo lo=some lo') (hh:cOo hi=some hi') {v:V}(hv:wv e (.sls x' lo' hi')=some v):
  ∃cv,(Instr.sliceAt t (a.eval x) (lo.map a.eval) (hi.map a.eval) none).run P w= .ok cv w∧VR ρ v cv:=by
 simp only[wv]at hv;split at hv
 ·rename_i l h1;obtain⟨bs,e1,rfl⟩:=he.at hx h1;split at hv
  ·rename_i p q h2 h3;obtain⟨h4,hv⟩:=Bh hv;replace h4:=F6 h4;rw[Cq,Hk]at h4;have hsz:bs.data.toList.length=bs.size:=Array.length_toList;rw[Cq,Hk,hsz]at h3;rw[hsz]at h4;rw[e1];simp only[Af]at hv;subst hv;refine⟨.string (bs.extract p q),?_,_,rfl,?_⟩
   ·unfold Instr.sliceAt;simp only[Sem.run_bind,AY hu,Result.andThen_ok];unfold Instr.slice;simp only[Sem.run_bind,AY hu,Result.andThen_ok];simp only[Option.isSome_none,Dh,Di,Sem.run_bind,Sem.run_pure,Result.andThen_ok];rw[JV P w false bs.size bs.size p q (Dv he hl h2) (Dv he hh h3) h4.1 h4.2 (Ad _)];rfl
   ·rw[GN,GM];exact Sq bs p q h4.1 h4.2
  ·simp at hv
 ·simp at hv
end
theorem It (b o n:Nat):(⟨b,o,none⟩:Addr).add n=⟨b,o+n,none⟩:=by unfold Addr.add;split <;> simp_all
theorem Nb {a:Act}{hi mx:Option Operand}{hi' mx':Option O}(hh:cOo hi=some hi') (hm:cOo mx=some mx') (hmh:(mx'.isSome&& hi'.isNone)=false)
  (h1:hi.map a.eval=none) (h2:∃v,mx.map a.eval=some v):False:=by
 cases hi with
 |some x=>simp at h1
 |none=>
  simp only[cOo,Af]at hh;subst hh;cases mx with
  |none=>simp at h2
  |some y=>
   unfold cOo at hm;simp only at hm;split at hm
   ·simp only[Af]at hm;subst hm;simp at hmh
   ·simp at hm
section
variable {P:Program}{ty:TypeId→Option TyI}{ibs:FuncId→Bool}{ρ:Rho}{e:E}{a:Act}(he:ER ρ e a) (w:World)
include he
theorem Sy (hty:TyOk P ty) {t el:TypeId}{j:TyI}(hu:P.underlying t=some (.slice el)) (hj:ty el=some j) {x:Operand}{lo hi mx:Option Operand}{x':O}{lo' hi' mx':Option O}(hx:cO x=some x') (hl:cOo lo=some lo') (hh:cOo hi=some hi') (hm:cOo mx=some mx') (hmh:(mx'.isSome&& hi'.isNone)=false) {v:V}
  (hv:wv e (.sll j.sz x' lo' hi' mx')=some v):
  ∃cv,(Instr.sliceAt t (a.eval x) (lo.map a.eval) (hi.map a.eval) (mx.map a.eval)).run P w= .ok cv w∧VR ρ v cv:=by
 obtain⟨inf,z,hi1,hi2,_,_,_⟩:=hty.info hj;have hsz:∀w,(sizeOf el).run P w= .ok j.sz w:=fun w=>by rw[DQ hi1,hi2]
 simp only[wv]at hv;have red:∀ (q:Value),(Instr.sliceAt t q (lo.map a.eval) (hi.map a.eval) (mx.map a.eval)).run P w= (Instr.slice t q (lo.map a.eval) (hi.map a.eval) (mx.map a.eval)).run P w:=fun q=>by
  unfold Instr.sliceAt;simp only[Sem.run_bind,AY hu,Result.andThen_ok]
 rw[red];split at hv
 ·rename_i h1;rw[show a.eval x= .slice none 0 0 from he.at hx h1];split at hv
  ·rename_i h2 h3 h4;simp only[Af]at hv;subst hv;refine⟨.slice none 0 0,?_,rfl⟩;unfold Instr.slice;simp only[Sem.run_bind,AY hu,Result.andThen_ok];have hb:(Instr.sliceBounds true 0 0 (lo.map a.eval) (hi.map a.eval) (mx.map a.eval)).run P w= .ok (0,0,0) w:=by
    rcases Dv he hm h4 with ⟨hm',_⟩ |⟨k,hm'⟩
    ·rw[hm'];exact JV P w true 0 0 0 0 (Dv he hl h2) (Dv he hh h3) (Ad _) (Ad _) (Ad _)
    ·rw[hm'];rcases Dv he hh h3 with ⟨hh',_⟩ |⟨k',hh'⟩
     ·exact(Nb hh hm hmh hh' ⟨_,hm'⟩).elim
     ·exact M3 P w 0 0 0 0 0 (Dv he hl h2) ⟨k',hh'⟩ (Ad _) (Ad _) (Ad _)
   simp only[Sem.run_bind,hb,Result.andThen_ok,hsz];rfl
  ·simp at hv
 ·rename_i bl o n sz' full h1;obtain⟨cb,sh,zz,ad,cap,r1,r2,r3,r4,r5,r6,r7⟩:=he.at hx h1;replace hv:=Bh hv;obtain⟨h2,hv⟩:=hv;simp only[Bf,BQ]at h2;subst h2;rw[r2];have fin:∀ (p q m:Nat) (fl:Bool),p≤q→q≤m→m≤cap→(fl=true→m - p=q - p)→(Instr.sliceBounds true n cap (lo.map a.eval) (hi.map a.eval) (mx.map a.eval)).run P w= .ok (p,q,m) w→
    ∃cv,(Instr.slice t (.slice (some ad) n cap) (lo.map a.eval) (hi.map a.eval) (mx.map a.eval)).run P w= .ok cv w∧VR ρ (.c (.l bl (Nat.add o (Nat.mul p j.sz)) (Nat.sub q p) j.sz fl)) cv:=by
   intro p q m fl g1 g2 g3 g4 hb;refine⟨.slice (if m=p then some ad else some (ad.add (p*j.sz))) (q - p) (m - p),?_,?_⟩
   ·unfold Instr.slice;simp only[Sem.run_bind,AY hu,Result.andThen_ok,hb,hsz];rfl
   ·refine⟨cb,sh,zz,if m=p then ad else ad.add (p*j.sz),m - p,r1,?_,by show q - p≤m - p;omega,g4,?_,?_,r7⟩
    ·split <;> rfl
    ·intro hpos;rw[Ab (by omega),r5 (by omega),It]
     show(⟨cb,sh+o+p*j.sz,none⟩:Addr)=⟨cb,sh+ (o+p*j.sz),none⟩
     rw[Da]
    ·show sh+ (o+p*j.sz)+ (m - p)*j.sz≤zz
     have:p*j.sz+ (m - p)*j.sz=m*j.sz:=by rw[←Dg];congr 1;omega
     have h3:m*j.sz≤cap*j.sz:=Dq _ g3;omega
  cases mx' with
  |none=>
   simp only at hv;split at hv
   ·rename_i p q h3 h4;obtain⟨h5,hv⟩:=Bh hv;obtain⟨h5,h6⟩:=F6 h5;simp only[Af]at hv;subst hv;have hm0:mx.map a.eval=none:=by
     cases mx with
     |none=>rfl
     |some y=>unfold cOo at hm;simp only at hm;split at hm <;> simp at hm
    refine fin p q cap _ h5 (by omega) (Ad _) ?_ ?_
    ·intro hf;simp only[AH,Bf,BQ]at hf;rw[r4 hf.1,hf.2]
    ·rw[hm0];exact JV P w true n cap p q (Dv he hl h3) (Dv he hh h4) h5 h6 r3
   ·simp at hv
  |some m'=>
   simp only at hv;split at hv
   ·rename_i p q m h3 h4 h5;obtain⟨h6,hv⟩:=Bh hv;obtain⟨h6,h7,h8⟩:=MT h6;simp only[Af]at hv;subst hv;rcases Dv (d:=0) he hm (n:=m) h5 with ⟨hm',_⟩ |⟨k,hm'⟩
    ·exfalso;cases mx with
     |none=>simp[cOo]at hm
     |some y=>simp at hm'
    ·refine fin p q m _ h6 h7 (by omega) ?_ ?_
     ·intro hf;simp only[Bf,BQ]at hf;omega
     ·rw[hm'];rcases Dv he hh h4 with ⟨hh',_⟩ |⟨k',hh'⟩
      ·exact(Nb hh hm hmh hh' ⟨_,hm'⟩).elim
      ·exact M3 P w n cap p q m (Dv he hl h3) ⟨k',hh'⟩ h6 h7 (by omega)
   ·simp at hv
 ·simp at hv
theorem Sz (hty:TyOk P ty) {t:TypeId}{fs:Array Field}(hu:P.underlying t=some (.struct fs)) {k:Nat}{f:Field}(hf:fs[k]?=some f) {j:TyI}(hj:ty f.type=some j) (hz:j.sz≠0) {x:Operand}{x':O}(hx:cO x=some x') {v:V}
  (hv:wv e (.fad f.offset x')=some v):∃cv,(Instr.fieldAt t (a.eval x) k).run P w= .ok cv w∧VR ρ v cv:=by
 obtain⟨inf,z,hi1,hi2,_,_,_⟩:=hty.info hj;simp only[wv]at hv;split at hv
 ·rename_i p q h1;simp only[Af]at hv;subst hv;obtain⟨cb,sh,zz,r1,r2⟩:=he.at hx h1;rw[r2];refine⟨.pointer (some (Addr.add ⟨cb,sh+q,none⟩ f.offset)),?_,cb,sh,zz,r1,?_⟩
  ·unfold Instr.fieldAt;simp only[Sem.run_bind,AY hu,Result.andThen_ok,hf];simp only[Instr.sureAddr,fieldPlace,Sem.run_bind,Sem.run_pure,Result.andThen_ok,DQ hi1];rw[Ab (by rw[hi2];exact hz)];rfl
  ·rw[It,Da];rfl
 ·simp at hv
theorem SB (hty:TyOk P ty) {t:TypeId}{fs:Array Field}(hu:P.underlying t=some (.struct fs)) {k:Nat}{f:Field}(hf:fs[k]?=some f) {j:TyI}(hj:ty f.type=some j) {x:Operand}{x':O}(hx:cO x=some x') {v:V}
  (hv:wv e (.fld f.offset (if DL j.u then some j.sz else none) x')=some v):∃cv,(Instr.field t (a.eval x) k).run P w= .ok cv w∧VR ρ v cv:=by
 obtain⟨inf,z,hi1,hi2,_,_,_⟩:=hty.info hj;have hu2:=hty.under hj;simp only[wv]at hv;have hxv:=he.ov hx;split at hv
 ·rename_i l h1;rw[h1]at hxv;obtain⟨arr,r1,r2⟩:=hxv;rw[r1];have red:∀cv,(part f.type arr f.offset).run P w= .ok cv w→(Instr.field t (.agg arr) k).run P w= .ok cv w:=fun cv hh=>by
   unfold Instr.field;simp only[Sem.run_bind,AY hu,Result.andThen_ok,hf,asAgg,Sem.run_pure,hh]
  cases hag:DL j.u with
  |true=>
   rw[hag]at hv;simp only[DU]at hv;obtain⟨h2,hv⟩:=Bh hv;have h2:=Ce h2;simp only[Cq,Nat.add_eq]at h2;simp only[Af]at hv;subst hv;refine⟨.agg (arr.extract f.offset (f.offset+j.sz)),red _ ?_,_,rfl,?_⟩
   ·unfold part;simp only[Sem.run_bind,Is hu2,Result.andThen_ok,hag,DU,DQ hi1,hi2];rfl
   ·rw[GN,GM,Array.toList_extract,List.extract_eq_take_drop];rw[Nat.add_sub_cancel_left];exact(r2.drop _).take _
  |false=>
   rw[hag]at hv;simp only[Dh,Di]at hv;split at hv
   ·rename_i s h2;simp only[Af]at hv;subst hv;rw[Ip]at h2;obtain⟨b,h3,h4⟩:=r2.get h2;refine⟨b,red _ ?_,h4⟩;have h5:arr[f.offset]?=some b:=by simpa using h3
    unfold part;simp only[Sem.run_bind,Is hu2,Result.andThen_ok,hag,Dh,Di,h5];rfl
   ·simp at hv
 ·simp at hv
theorem SC (hty:TyOk P ty) {t el:TypeId}{j:TyI}(hu:P.underlying t=some (.slice el)) (hj:ty el=some j) {x ix:Operand}{x' ix':O}(hx:cO x=some x') (hix:cO ix=some ix') {v:V}
  (hv:wv e (.iad j.sz x' ix')=some v):∃cv,(Instr.indexAt t (a.eval x) (a.eval ix)).run P w= .ok cv w∧VR ρ v cv:=by
 obtain⟨inf,z,hi1,hi2,_,_,_⟩:=hty.info hj;simp only[wv]at hv;split at hv
 ·rename_i bl o n sz' full h1;obtain⟨cb,sh,zz,ad,cap,r1,r2,r3,r4,r5,r6,r7⟩:=he.at hx h1;split at hv
  ·rename_i i h2;replace hv:=Bh hv;obtain⟨h3,hv⟩:=hv;obtain⟨k,h4⟩:=JT he hix h2;obtain⟨h5,h6⟩:=(AH _ _).mp h3;rw[Bf,BQ]at h5;subst h5;have h6:=Ce h6;simp only[Af]at hv;subst hv;rw[r2,h4];have hlt:i < n:=h6;refine⟨.pointer (some (ad.add (i*j.sz))),?_,cb,sh,zz,r1,?_⟩
   ·unfold Instr.indexAt;simp only[asIntOf,Sem.run_bind,Sem.run_pure,Result.andThen_ok,AY hu];have hc:(0≤ (i:Int)∧(i:Int) < (n:Int)):=by omega
    simp only[hc,and_self,DU,Sem.run_bind,DQ hi1,Result.andThen_ok,hi2,KY];rfl
   ·rw[r5 (by omega),It,Da];rfl
  ·simp at hv
 ·simp at hv
theorem SD {t:TypeId}(hu:P.underlying t=some .string) {x ix:Operand}{x' ix':O}(hx:cO x=some x') (hix:cO ix=some ix') {v:V}
  (hv:wv e (.ixs x' ix')=some v):∃cv,(Instr.index t (a.eval x) (a.eval ix)).run P w= .ok cv w∧VR ρ v cv:=by
 simp only[wv]at hv;split at hv
 ·rename_i l h1;obtain⟨bs,r1,rfl⟩:=he.at hx h1;split at hv
  ·rename_i i h2;obtain⟨k,h4⟩:=JT he hix h2;split at hv
   ·rename_i b h3;simp only[Af]at hv;subst hv;rw[Ip,FJ]at h3;obtain⟨c,h5,h6⟩:=Option.map_eq_some_iff.1 h3;rw[r1,h4];subst h6;refine⟨.int .u8 c.toNat,?_,rfl⟩;have h7:bs[i]?=some c:=by
     obtain⟨h8,h9⟩:=Em.1 h5;have h10:i < bs.size:=by simpa using h8
     rw[getElem?_pos bs i h10]
     congr 1
    unfold Instr.index;simp only[asIntOf,Sem.run_bind,Sem.run_pure,Result.andThen_ok,AY hu];have hc:(0:Int)≤ (i:Int):=by omega
    simp only[hc,DU,KY,h7];rfl
   ·simp at hv
  ·simp at hv
 ·simp at hv
end
section
variable {P:Program}{ty:TypeId→Option TyI}{ibs:FuncId→Bool}{ρ:Rho}{e:E}{a:Act}(he:ER ρ e a) (w:World)
include he
theorem R8 (hty:TyOk P ty) {b:Builtin}{args:List Operand}{ts:Array TypeId}{l:List O}(hl:cOs args=some l) {q:W}(h:Fv ty b l ts.toList=some (.w q)) {v:V}(hv:wv e q=some v) (type:TypeId) (cs:Array Bool):
  ∃cv,(builtin b ts type cs (args.map a.eval).toArray).run P w= .ok (.value cv) w∧VR ρ v cv:=by
 have two:∀ {x y:O},cOs args=some [x,y]→ ∃x' y',args=[x',y']∧cO x'=some x∧cO y'=some y:=by
  intro x y h
  match args,h with
  | [x',y'],h=>
   unfold cOs at h;split at h
   ·rename_i y1 m1 h1 h2;simp only[Af,List.cons.injEq]at h;obtain⟨rfl,rfl⟩:=h;unfold cOs at h2;split at h2
    ·rename_i y2 m2 h3 h4;simp only[Af,List.cons.injEq]at h2;obtain⟨rfl,_⟩:=h2;exact⟨x',y',rfl,h1,h3⟩
    ·simp at h2
   ·simp at h
  | [],h=>simp[cOs]at h
  | [x'],h=>unfold cOs at h;split at h <;> simp_all[cOs]
  |x'::y'::z'::r,h=>
   unfold cOs at h;split at h
   ·rename_i y1 m1 h1 h2;simp only[Af,List.cons.injEq]at h;obtain⟨rfl,rfl⟩:=h;unfold cOs at h2;split at h2
    ·rename_i y2 m2 h3 h4;simp only[Af,List.cons.injEq]at h2;obtain⟨rfl,rfl⟩:=h2;unfold cOs at h4;split at h4 <;> simp at h4
    ·simp at h2
   ·simp at h
 have one:∀ {x:O},cOs args=some [x]→ ∃x',args=[x']∧cO x'=some x:=by
  intro x h
  match args,h with
  | [x'],h=>
   unfold cOs at h;split at h
   ·rename_i y1 m1 h1 h2;simp only[Af,List.cons.injEq]at h;obtain⟨rfl,rfl⟩:=h;exact⟨x',rfl,h1⟩
   ·simp at h
  | [],h=>simp[cOs]at h
  |x'::y'::r,h=>
   unfold cOs at h;split at h
   ·rename_i y1 m1 h1 h2;simp only[Af,List.cons.injEq]at h;obtain⟨rfl,rfl⟩:=h;unfold cOs at h2;split at h2 <;> simp at h2
   ·simp at h
 unfold Fv at h;split at h
 ·rename_i x t ht;obtain⟨x',rfl,hx⟩:=one hl;have ht':ts= #[t]:=by rw[←Array.toArray_toList (xs:=ts),ht]
  subst ht';split at h
  ·rename_i i hi;have hu:=hty.under hi;split at h <;> simp only[Af,reduceCtorEq,MO.w.injEq]at h <;> subst h
   ·rename_i hd;rw[hd]at hu;simp only[wv]at hv;split at hv
    ·rename_i l' h1;obtain⟨bs,r1,r2⟩:=he.at hx h1;simp only[Af]at hv;subst hv;refine⟨.int .i64 bs.size,?_,?_⟩
     ·simp only[List.map_cons,List.map_nil,r1];unfold builtin Builtin.len_;simp[AY hu,goInt]
     ·show _=_
      rw[Cq,←r2,Hk];rfl
    ·simp at hv
   ·rename_i el hd;rw[hd]at hu;simp only[wv]at hv;split at hv <;> simp only[Af,reduceCtorEq]at hv <;> subst hv
    ·rename_i h1;refine⟨.int .i64 0,?_,rfl⟩;rw[show List.map a.eval [x']=[.slice none 0 0]by simp;exact he.at hx h1];unfold builtin Builtin.len_;simp[AY hu,goInt]
    ·rename_i bl o n sz full h1;obtain⟨cb,sh,zz,ad,cap,r1,r2,_⟩:=he.at hx h1;refine⟨.int .i64 n,?_,rfl⟩;simp only[List.map_cons,List.map_nil,r2];unfold builtin Builtin.len_;simp[AY hu,goInt]
  ·simp at h
 ·rename_i x t ht;obtain⟨x',rfl,hx⟩:=one hl;have ht':ts= #[t]:=by rw[←Array.toArray_toList (xs:=ts),ht]
  subst ht';split at h
  ·rename_i i hi;have hu:=hty.under hi;split at h <;> simp only[Af,reduceCtorEq,MO.w.injEq]at h <;> subst h
   ·rename_i el hd;rw[hd]at hu;simp only[wv]at hv;split at hv
    ·rename_i h1;simp only[Af]at hv;subst hv;refine⟨.int .i64 0,?_,rfl⟩;rw[show List.map a.eval [x']=[.slice none 0 0]by simp;exact he.at hx h1];unfold builtin Builtin.cap_;simp[AY hu,goInt]
    ·rename_i bl o n sz full h1;obtain⟨hf,hv⟩:=Bh hv;simp only[Af]at hv;subst hv;obtain⟨cb,sh,zz,ad,cap,r1,r2,r3,r4,_⟩:=he.at hx h1;have r5:=r4 hf;refine⟨.int .i64 n,?_,rfl⟩;simp only[List.map_cons,List.map_nil,r2];unfold builtin Builtin.cap_;simp[AY hu,goInt,r5]
    ·simp at hv
  ·simp at h
 ·rename_i x y _;simp only[Af,MO.w.injEq]at h;subst h;obtain⟨x',y',rfl,hx,hy⟩:=two hl;simp only[wv]at hv;split at hv
  ·rename_i p q h1 h2;simp only[Af]at hv;subst hv;refine⟨.int .i64 (if q < p then q else p),?_,?_⟩
   ·rw[show List.map a.eval [x',y']=[.int .i64 p,.int .i64 q]by simp;exact⟨he.at hx h1,he.at hy h2⟩];unfold builtin Builtin.min_;simp[Builtin.min2]
   ·show _=_
    simp only[cond_false,Ed]
    congr 1
    by_cases hc:p≤q
    ·simp[hc,show ¬q < p by omega]
    ·simp[hc,show q < p by omega]
  ·simp at hv
 ·rename_i x y _;simp only[Af,MO.w.injEq]at h;subst h;obtain⟨x',y',rfl,hx,hy⟩:=two hl;simp only[wv]at hv;split at hv
  ·rename_i p q h1 h2;simp only[Af]at hv;subst hv;refine⟨.int .i64 (if q > p then q else p),?_,?_⟩
   ·rw[show List.map a.eval [x',y']=[.int .i64 p,.int .i64 q]by simp;exact⟨he.at hx h1,he.at hy h2⟩];unfold builtin Builtin.max_;simp[Builtin.max2]
   ·show _=_
    simp only[cond_true,Ed]
    congr 1
    by_cases hc:q≤p
    ·simp[hc,show ¬q > p by omega]
    ·simp[hc,show q > p by omega]
  ·simp at hv
 ·split at h
  ·split at h
   ·simp at h
   ·split at h
    ·simp at h
    ·split at h <;> simp at h
  ·simp at h
 ·split at h
  ·split at h <;> simp at h
  ·simp at h
 ·simp at h
end
theorem JQ {args:List Operand}{x y:O}(h:cOs args=some [x,y]):∃x' y',args=[x',y']∧cO x'=some x∧cO y'=some y:=by
 match args,h with
 | [x',y'],h=>
  unfold cOs at h;split at h
  ·rename_i y1 m1 h1 h2;simp only[Af,List.cons.injEq]at h;obtain⟨rfl,rfl⟩:=h;unfold cOs at h2;split at h2
   ·rename_i y2 m2 h3 h4;simp only[Af,List.cons.injEq]at h2;obtain⟨rfl,_⟩:=h2;exact⟨x',y',rfl,h1,h3⟩
   ·simp at h2
  ·simp at h
 | [],h=>simp[cOs]at h
 | [x'],h=>unfold cOs at h;split at h <;> simp_all[cOs]
 |x'::y'::z'::r,h=>
  unfold cOs at h;split at h
  ·rename_i y1 m1 h1 h2;simp only[Af,List.cons.injEq]at h;obtain⟨rfl,rfl⟩:=h;unfold cOs at h2;split at h2
   ·rename_i y2 m2 h3 h4;simp only[Af,List.cons.injEq]at h2;obtain⟨rfl,rfl⟩:=h2;unfold cOs at h4;split at h4 <;> simp at h4
   ·simp at h2
  ·simp at h
theorem MW {P:Program}{ρ:Operand→Value}{c:Call}{type:TypeId}{w:World}{f:FuncId}(hc:c.callee= .value (.func f)) (hf:ρ (.func f)= .func (.func f) #[] #[]):
  (do let d ←resolve ρ c type;invoke d.target d.args:Sem Next).run P w= (callFunc f (c.args.map ρ)).run P w:=by
 unfold resolve;simp only[hc,hf,Deferred.ofValue,Sem.run_bind,Sem.run_pure,Result.andThen_ok,invoke];simp
theorem Iq {P:Program}{ρ:Operand→Value}{c:Call}{type:TypeId}{w:World}{b:Builtin}(hc:c.callee= .builtin b):
  (do let d ←resolve ρ c type;invoke d.target d.args:Sem Next).run P w= (builtin b c.argTypes type (c.args.map fun | .const _=>true |_=>false) (c.args.map ρ)).run P w:=by
 unfold resolve;simp only[hc,Sem.run_bind,Sem.run_pure,Result.andThen_ok,invoke];rfl
theorem MX {P:Program}{ty:TypeId→Option TyI}(hty:TyOk P ty) (w:World):∀ (fs:List Field),(fs.all fun f=>(ty f.type).isSome)=true→
  (fs.mapM fun f=>(do pure (f.offset,←sizeOf f.type):Sem (Nat×Nat))).run P w= .ok (fs.map fun f=>(f.offset,((ty f.type).map (·.sz)).getD 0)) w
 | [],_=>by simp
 |f::fs,h=>by
  simp only[List.all_cons,AH]at h;obtain⟨j,hj⟩:=KV.1 h.1;obtain⟨inf,z,hi1,hi2,_,_,_⟩:=hty.info hj;simp only[List.mapM_cons,Sem.run_bind,DQ hi1,Result.andThen_ok,Sem.run_pure,MX hty w fs h.2,List.map_cons,hj,Option.map_some,Option.getD_some,hi2]
theorem R6 {P:Program}{ty:TypeId→Option TyI}(hty:TyOk P ty) {ρ:Rho}{e:E}{a:Act}(he:ER ρ e a) {t:TypeId}{i:TyI}(hi:ty t=some i) (hok:JF ty i.u=true)
  {ps:Array (Nat×Operand)} {qs:List (Nat×Nat×O)} (hq:Ft (Ey ty i.u) ps.toList=some qs) {l:List S} (hl:DI i.z e qs=some l) (w:World):
  ∃arr:Array Value,(Instr.build t (ps.map fun(i,x)=>(i,a.eval x))).run P w= .ok (.agg arr) w∧LR (SR ρ) l arr.toList:=by
 have hu:=hty.under hi;obtain⟨inf,z,hi1,hi2,hi3,hi4,hi5⟩:=hty.info hi;obtain⟨out,h1,h2⟩:=JW he hq hl (DM ρ hi5);have hps:(ps.map fun(i,x)=>(i,a.eval x)).toList=ps.toList.map fun p=>(p.1,a.eval p.2):=by simp
 refine⟨out,?_,h2⟩;unfold Instr.build;simp only[Sem.run_bind,GP hi1 hi4,Result.andThen_ok,AY hu];cases hd:i.u <;> rw[hd]at hok h1 <;> simp only[JF,Dh]at hok
 case struct fs=>
  have hm:=MX hty w fs.toList hok;have hm':(fs.mapM fun f=>(do pure (f.offset,←sizeOf f.type):Sem (Nat×Nat))).run P w= .ok (fs.toList.map fun f=>(f.offset,((ty f.type).map (·.sz)).getD 0)).toArray w:=by
   rw[Array.mapM_eq_mapM_toList,Sem.run_map,hm];rfl
  simp only[Sem.run_bind,hm',Result.andThen_ok];have hpl:(fun x=>((fs.toList.map fun f=>(f.offset,((ty f.type).map (·.sz)).getD 0)).toArray)[x]?)=Ey ty (.struct fs):=by
   funext k
   simp only[Ey,List.getElem?_toArray,FJ,Array.getElem?_toList];cases hk:fs[k]? with
   |none=>rfl
   |some f=>
    have:f∈fs.toList:=by
     obtain⟨hk1,hk2⟩:=Gq.1 hk;rw[←hk2];simp
    obtain⟨j,hj⟩:=KV.1 (Be.1 hok f this);simp[hj]
  rw[hpl,hps,h1];rfl
 case array n el=>
  obtain⟨j,hj⟩:=KV.1 hok;obtain⟨inf',z',hj1,hj2,_,_,_⟩:=hty.info hj;simp only[Sem.run_bind,DQ hj1,Result.andThen_ok,hj2];have hpl:(fun k=>some (k*j.sz,j.sz))=Ey ty (.array n el):=by
   funext k;simp[Ey,hj]
  rw[hpl,hps,h1];rfl
theorem R7 {P:Program}{ty:TypeId→Option TyI}{ibs:FuncId→Bool}(hty:TyOk P ty) (hib:Du P ibs) {op:Op}{x:W}(h:cMO ty ibs op=some (.w x)) {ρ:Rho}{e:E}{a:Act}(he:ER ρ e a)
  {v:V} (hv:wv e x=some v) (dst:Option Tmp) (type:TypeId) (pos:String) (after:Array Edge) (guard:Option (Nat×Bool)) (w:World):
  ∃cv,(execOp a.eval ⟨dst,op,type,pos,after,guard⟩).run P w= .ok (.value cv) w∧VR ρ v cv:=by
 cases op
 case move y=>
  simp only[cMO,Option.map_eq_some_iff]at h;obtain⟨y',hy,h⟩:=h;simp only[MO.w.injEq]at h;subst h;simp only[wv,Af]at hv;subst hv;exact⟨_,rfl,he.ov hy⟩
 case assign y=>
  simp only[cMO,Option.map_eq_some_iff]at h;obtain⟨y',hy,h⟩:=h;simp only[MO.w.injEq]at h;subst h;simp only[wv,Af]at hv;subst hv;exact⟨_,rfl,he.ov hy⟩
 case pick c p q=>
  simp only[cMO]at h;split at h <;> simp only[Af,reduceCtorEq,MO.w.injEq]at h
  rename_i c' p' q' h1 h2 h3;subst h;simp only[wv]at hv;split at hv
  ·rename_i b h4;simp only[Af]at hv;subst hv;have hc:a.eval c= .bool b:=he.at h1 h4;refine⟨if b then a.eval p else a.eval q,?_,?_⟩
   ·simp[execOp,hc,asBool]
   ·cases b
    ·exact he.ov h3
    ·exact he.ov h2
  ·simp at hv
 case build t ps=>
  simp only[cMO]at h;split at h
  ·rename_i i hi;split at h
   ·rename_i hok;simp only[Option.map_eq_some_iff]at h;obtain⟨l,hl,h⟩:=h;simp only[MO.w.injEq]at h;subst h;simp only[wv]at hv;split at hv
    ·rename_i m hm;simp only[Af]at hv;subst hv;obtain⟨arr,h1,h2⟩:=R6 hty he hi hok hl hm w;exact⟨_,Cr h1,arr,rfl,h2⟩
    ·simp at hv
   ·simp at h
  ·simp at h
 case nilCheck y=>
  simp only[cMO,Option.map_eq_some_iff]at h;obtain⟨y',hy,h⟩:=h;simp only[MO.w.injEq]at h;subst h;simp only[wv]at hv;split at hv <;> simp only[Af,reduceCtorEq]at hv <;> subst hv
  ·rename_i p q h1;have h2:SR ρ (.p p q) (a.eval y):=he.at hy h1;refine⟨a.eval y,?_,h2⟩;obtain⟨cb,sh,zz,r1,r2⟩:=h2;simp[execOp,r2]
  ·rename_i g cs h1;have h2:SR ρ (.f g cs) (a.eval y):=he.at hy h1;refine⟨a.eval y,?_,h2⟩;obtain⟨arr,r1,r2⟩:=h2;simp[execOp,r1]
 case binOp op t y z t'=>
  simp only[cMO]at h;split at h
  ·rename_i y' z' h1 h2;simp only[Option.map_eq_some_iff]at h;obtain⟨q,hq,h⟩:=h;simp only[MO.w.injEq]at h;subst h;obtain⟨cv,h3,h4⟩:=Sr he w hty h1 h2 hq hv;exact⟨cv,Cr h3,h4⟩
  ·simp at h
 case unOp op t y=>
  simp only[cMO,Option.map_eq_some_iff]at h;obtain⟨y',hy,h⟩:=h;simp only[MO.w.injEq]at h;subst h;obtain⟨cv,h3,h4⟩:=Ss (P:=P) he w hy hv;exact⟨cv,Cr h3,h4⟩
 case convert s d y=>
  simp only[cMO]at h;split at h
  ·rename_i i j y' h1 h2 h3;split at h
   ·rename_i k hi hj;simp only[Af,MO.w.injEq]at h;subst h;obtain⟨cv,h4,h5⟩:=Su he w (hty.under h1) (by rw[hty.under h2];exact AX _ hj) h3 hv;exact⟨cv,Cr h4,h5⟩
   ·rename_i hi hj;simp only[Af,MO.w.injEq]at h;subst h;obtain⟨cv,h4,h5⟩:=Sv he w (by rw[hty.under h1];exact AX _ hi) (by rw[hty.under h2];exact AX _ hj) h3 hv;exact⟨cv,Cr h4,h5⟩
   ·split at h
    ·split at h <;> simp at h
    ·simp at h
   ·simp at h
  ·simp at h
 case makeFunc fn first caps=>
  cases fn <;> simp only[cMO,reduceCtorEq]at h
  rename_i g;split at h
  ·rename_i hf;simp only[Option.map_eq_some_iff]at h;obtain⟨l,hl,h⟩:=h;simp only[MO.w.injEq]at h;subst h;simp only[wv]at hv;split at hv
   ·rename_i m hm;simp only[Af]at hv;subst hv;have hf':first= #[]:=by simpa using hf
    subst hf';refine⟨.func (.func g) #[] (caps.map a.eval),?_,_,rfl,?_⟩
    ·simp[execOp,Instr.makeFunc]
    ·rw[Array.toList_map];exact M9 he hl hm
   ·simp at hv
  ·simp at h
 case slice t y lo hi mx=>
  simp only[cMO]at h;split at h
  ·rename_i i y' lo' hi' mx' h1 h2 h3 h4 h5;split at h
   ·rename_i hd;split at h
    ·simp only[Af,MO.w.injEq]at h;subst h;have hm0:mx=none:=by
      cases mx with
      |none=>rfl
      |some q=>unfold cOo at h5;simp only at h5;split at h5 <;> simp at h5
     subst hm0;obtain⟨cv,h6,h7⟩:=Sx he w (by rw[hty.under h1];exact AX _ hd) h2 h3 h4 hv;exact⟨cv,Cr h6,h7⟩
    ·simp at h
   ·rename_i el hd;split at h
    ·rename_i j hj;split at h
     ·simp at h
     ·rename_i hmh;simp only[Af,MO.w.injEq]at h;subst h;obtain⟨cv,h6,h7⟩:=Sy he w hty (by rw[hty.under h1];exact AX _ hd) hj h2 h3 h4 h5 (Bool.eq_false_iff.2 hmh) hv;exact⟨cv,Cr h6,h7⟩
    ·simp at h
   ·simp at h
  ·simp at h
 case fieldAddr t y k=>
  simp only[cMO]at h;split at h
  ·rename_i i y' h1 h2;split at h
   ·rename_i fs hd;split at h
    ·rename_i f hf;split at h
     ·rename_i j hj;split at h
      ·simp at h
      ·rename_i hz;simp only[Af,MO.w.injEq]at h;subst h;obtain⟨cv,h6,h7⟩:=Sz he w hty (by rw[hty.under h1];exact AX _ hd) hf hj hz h2 hv;exact⟨cv,Cr h6,h7⟩
     ·simp at h
    ·simp at h
   ·simp at h
  ·simp at h
 case field t y k=>
  simp only[cMO]at h;split at h
  ·rename_i i y' h1 h2;split at h
   ·rename_i fs hd;split at h
    ·rename_i f hf;split at h
     ·rename_i j hj;simp only[Af,MO.w.injEq]at h;subst h;obtain⟨cv,h6,h7⟩:=SB he w hty (by rw[hty.under h1];exact AX _ hd) hf hj h2 hv;exact⟨cv,Cr h6,h7⟩
     ·simp at h
    ·simp at h
   ·simp at h
  ·simp at h
 case indexAddr t y ix=>
  simp only[cMO]at h;split at h <;> simp only[Af,reduceCtorEq,MO.w.injEq]at h
  rename_i j y' ix' h1 h2 h3;subst h;obtain⟨el,h4,h5⟩:=hty.elem h1;obtain⟨cv,h6,h7⟩:=SC he w hty h4 h5 h2 h3 hv;exact⟨cv,Cr h6,h7⟩
 case index t y ix=>
  simp only[cMO]at h;split at h
  ·rename_i i y' ix' h1 h2 h3;split at h <;> simp only[Af,reduceCtorEq,MO.w.injEq]at h
   rename_i hd;subst h;obtain⟨cv,h6,h7⟩:=SD he w (by rw[hty.under h1];exact AX _ hd) h2 h3 hv;exact⟨cv,Cr h6,h7⟩
  ·simp at h
 case extract y i=>
  simp only[cMO,Option.map_eq_some_iff]at h;obtain⟨y',hy,h⟩:=h;simp only[MO.w.injEq]at h;subst h;simp only[wv]at hv;split at hv
  ·rename_i l h1;have h2:=he.ov hy;rw[h1]at h2;obtain⟨arr,r1,r2⟩:=h2;rw[Ip]at hv;obtain⟨b,h3,h4⟩:=r2.get hv;have h5:arr[i]?=some b:=by simpa using h3
   refine⟨b,?_,VR.of0 h4⟩;simp[execOp,r1,Instr.extract,h5]
  ·simp at hv
 case call c=>
  simp only[cMO]at h;split at h
  ·rename_i l hl;split at h
   ·rename_i b hc;obtain⟨cv,h1,h2⟩:=R8 (P:=P) he w hty hl h hv type (c.args.map fun | .const _=>true |_=>false);refine⟨cv,?_,h2⟩;rw[show execOp a.eval ⟨dst,.call c,type,pos,after,guard⟩= (do let d ←resolve a.eval c type;invoke d.target d.args)from rfl,Iq hc];rw[show c.args.map a.eval= (c.args.toList.map a.eval).toArray by rw[←Array.toList_map]];exact h1
   ·rename_i f hc;split at h
    ·rename_i hf;split at h
     ·rename_i p q;simp only[Af,MO.w.injEq]at h;subst h;obtain⟨x',y',h1,h2,h3⟩:=JQ hl;simp only[wv]at hv;split at hv
      ·rename_i s n h4 h5;obtain⟨hn,hv⟩:=Bh hv;have hn:=Ce hn;simp only[Af]at hv;subst hv;obtain⟨bs,r1,r2⟩:=he.at h2 h4;have r3:a.eval y'= .int .u8 (Int.ofNat n):=he.at h3 h5;refine⟨.int .i64 (Lib.indexByte bs.data.toList (n:Int).toNat.toUInt8),?_,?_⟩
       ·rw[show execOp a.eval ⟨dst,.call c,type,pos,after,guard⟩= (do let d ←resolve a.eval c type;invoke d.target d.args)from rfl,MW hc rfl];refine hib f hf _ _ w ?_;rw[show c.args.map a.eval= #[.string bs,.int .u8 (n:Int)]by rw[←Array.toArray_toList (xs:=c.args),h1];simp[r1,r3]];exact Lib.run_indexByteString bs _ w
       ·show _=_
        have hb:(n:Int).toNat.toUInt8.toNat=n:=by
         simp only[KY,Nat.toUInt8,UInt8.toNat_ofNat'];omega
        have h6:=Na (n:Int).toNat.toUInt8 bs.data.toList 0;rw[hb,r2]at h6;rw[h6];split
        ·rename_i h7;rw[h7]
        ·simp
      ·simp at hv
     ·simp at h
    ·simp at h
   ·simp only[Option.map_eq_some_iff,reduceCtorEq,and_false,Hj]at h
   ·simp at h
  ·simp at h
 all_goals
  first
   | (simp only[cMO,reduceCtorEq]at h;done)
   | (simp only[cMO,Option.map_eq_some_iff,reduceCtorEq,and_false,Hj]at h;done)
   | (simp only[cMO]at h;(repeat' split at h) <;> simp at h;done)
def Rho.with (ρ:Rho) (x:Nat) (y:Nat×Nat×Nat):Rho:=fun k=>if k=x then some y else ρ k
theorem Rho.with_le {ρ:Rho}{x:Nat}{y:Nat×Nat×Nat}(h:ρ x=none):ρ.le (ρ.with x y):=fun k z e=>by
 unfold Rho.with
 by_cases hk:k=x
 ·subst hk;rw[h]at e;cases e
 ·rw[Ab hk];exact e
theorem Rho.with_at (ρ:Rho) (x:Nat) (y:Nat×Nat×Nat):ρ.with x y x=some y:=by simp[Rho.with]
theorem Rho.with_ne {ρ:Rho}{x k:Nat}{y:Nat×Nat×Nat}(h:k≠x):ρ.with x y k=ρ k:=by simp[Rho.with,h]
theorem Rel.none {ρ:Rho}{s:St}{w:World}(h:Rel ρ s w):ρ s.nb=Option.none:=by
 cases hx:ρ s.nb with
 |none=>rfl
 |some y=>exact absurd (h.dom _ _ hx) (Nat.lt_irrefl _)
theorem Rel.block_lt {ρ:Rho}{s:St}{w:World}(h:Rel ρ s w) {x cb sh z:Nat}(hx:ρ x=some (cb,sh,z)):cb < w.heap.size:=by
 obtain⟨cs,e,h1,_⟩:=h.blk x cb sh z hx;exact(Gq.1 h1).1
theorem Cw (s:St) (l:List S) (x:Nat):(alloc s l).h.get x=if x=s.nb then some ⟨l,0,0⟩else s.h.get x:=by
 unfold Ev.alloc;exact T.get_upd (some (⟨l,0,0⟩:Bk)) s.h s.nb x
theorem Rel.alloc' {ρ:Rho}{s:St}{w:World}(h:Rel ρ s w) {l:List S}{cells:Array Value}(hlen:l.length≤cells.size) (hl:∀ (i:Nat) sv,l[i]?=some sv→ ∃cv,cells[i]?=some cv∧SR ρ sv cv) (el:TypeId):
  Rel (ρ.with s.nb (w.heap.size,0,cells.size)) (alloc s l) (w.alloc (.cells cells el))∧Go s ρ w (alloc s l) (ρ.with s.nb (w.heap.size,0,cells.size)) (w.alloc (.cells cells el)):=by
 have hn:=h.none;have hle:ρ.le (ρ.with s.nb (w.heap.size,0,cells.size)):=Rho.with_le hn;have hcase:∀x cb sh z,ρ.with s.nb (w.heap.size,0,cells.size) x=some (cb,sh,z)→(x=s.nb∧cb=w.heap.size∧sh=0∧z=cells.size)∨(x≠s.nb∧ρ x=some (cb,sh,z)):=by
  intro x cb sh z hx;by_cases hk:x=s.nb
  ·subst hk;rw[Rho.with_at]at hx;simp only[Af,Ax]at hx;exact .inl ⟨rfl,hx.1.symm,hx.2.1.symm,hx.2.2.symm⟩
  ·exact .inr ⟨hk,by rw[Rho.with_ne hk]at hx;exact hx⟩
 refine⟨⟨?_,?_,?_,?_,?_,?_,?_⟩,⟨hle,rfl,rfl,rfl,by simp,?_,?_,AQ _,fun x y hxy=>by obtain⟨cb,sh,z⟩:=y;rcases hcase x cb sh z hxy with ⟨rfl,_⟩ |⟨_,h'⟩;exact .inr (Ad _);exact .inl h'⟩⟩
 ·intro x ⟨cb,sh,z⟩ hx
  show x < s.nb+1
  rcases hcase x cb sh z hx with ⟨rfl,_⟩ |⟨_,hx⟩
  ·omega
  ·have:=h.dom _ _ hx;omega
 ·intro x cb sh z hx;rcases hcase x cb sh z hx with ⟨rfl,rfl,rfl,rfl⟩ |⟨_,hx⟩
  ·exact⟨cells,el,heap_alloc_new w _,rfl⟩
  ·obtain⟨cs,e,h1,h2⟩:=h.blk x cb sh z hx;exact⟨cs,e,by rw[heap_alloc_old w _ _ (h.block_lt hx)];exact h1,h2⟩
 ·intro x cb sh z b hx hb;rw[Cw]at hb;rcases hcase x cb sh z hx with ⟨rfl,rfl,rfl,rfl⟩ |⟨hne,hx⟩
  ·rw[Ag rfl]at hb;simp only[Af]at hb;subst hb;refine⟨by show 0+l.length≤_;omega,fun i sv hi=> ?_⟩;obtain⟨cv,h1,h2⟩:=hl i sv hi;exact⟨cv,by rw[BU,World.cell?_alloc_new];exact h1,h2.mono hle⟩
  ·rw[Ab hne]at hb;obtain⟨h1,h2⟩:=h.con x cb sh z b hx hb;refine⟨h1,fun i sv hi=> ?_⟩;obtain⟨cv,h3,h4⟩:=h2 i sv hi;exact⟨cv,by rw[World.cell?_alloc_lt w _ _ (h.block_lt hx)];exact h3,h4.mono hle⟩
 ·intro x y cb sh sh' z z' bx b' hne hx hy hbx hby;rw[Cw]at hbx hby;rcases hcase x cb sh z hx with ⟨rfl,rfl,rfl,rfl⟩ |⟨hnx,hx⟩
  ·rcases hcase y _ sh' z' hy with ⟨rfl,_⟩ |⟨hny,hy⟩
   ·exact absurd rfl hne
   ·exact absurd (h.block_lt hy) (Nat.lt_irrefl _)
  ·rcases hcase y _ sh' z' hy with ⟨rfl,rfl,_⟩ |⟨hny,hy⟩
   ·exact absurd (h.block_lt hx) (Nat.lt_irrefl _)
   ·rw[Ab hnx]at hbx;rw[Ab hny]at hby;exact h.inj x y cb sh sh' z z' bx b' hne hx hy hbx hby
 ·intro x b f hb hf;rw[Cw]at hb;split at hb
  ·simp only[Af]at hb;subst hb;simp at hf
  ·exact h.fam x b f hb hf
 ·intro x b hb;rw[Cw]at hb;split at hb
  ·simp only[Af]at hb;subst hb;exact Av _
  ·exact h.nfl x b hb
 ·intro x b hb
  show x < s.nb+1
  rw[Cw]at hb;split at hb
  ·omega
  ·have:=h.lt x b hb;omega
 ·intro c hc _;exact heap_alloc_old w _ _ hc
 ·intro x cb sh z hx;rcases hcase x cb sh z hx with ⟨rfl,rfl,rfl,rfl⟩ |⟨_,hx⟩
  ·exact .inr (Ad _)
  ·exact .inl ⟨x,sh,z,hx⟩
theorem Rel.alloc {ρ:Rho}{s:St}{w:World}(h:Rel ρ s w) {l:List S}{cells:Array Value}(hl:LR (SR ρ) l cells.toList) (el:TypeId):
  Rel (ρ.with s.nb (w.heap.size,0,cells.size)) (Ev.alloc s l) (w.alloc (.cells cells el))∧Go s ρ w (Ev.alloc s l) (ρ.with s.nb (w.heap.size,0,cells.size)) (w.alloc (.cells cells el)):=
 h.alloc' (by rw[hl.length];simp) (fun i sv hi=>by
  obtain⟨cv,h1,h2⟩:=hl.get hi;exact⟨cv,by simpa using h1,h2⟩) el
def NO (s:St) (x o n:Nat):Prop:=
 ∀y b bx,y≠x→s.h.get x=some bx→s.h.get y=some b→b.fam=bx.fam→bx.fam≠0→ ¬(b.d < bx.d+o+n∧bx.d+o < b.d+b.c.length)
theorem JM (x lo hi:Nat) (h:T Bk):∀ (ms:List (Nat×Nat×Nat)),
  (∀y,(BI x lo hi h ms).1.get y=if(∃m∈ms,m.1=y∧m.1≠x∧m.2.1 < hi∧lo < m.2.1+m.2.2)then none else h.get y)∧
  (∀m,m∈ (BI x lo hi h ms).2↔m∈ms∧(m.1=x∨ ¬(m.2.1 < hi∧lo < m.2.1+m.2.2)))
 | []=>by
  refine⟨fun y=> ?_,fun m=> ?_⟩
  ·simp[BI]
  ·simp[BI]
 |m::ms=>by
  obtain⟨ih1,ih2⟩:=JM x lo hi h ms;have red:BI x lo hi h (m::ms)= (bif Nat.beq m.1 x then((BI x lo hi h ms).1,m::(BI x lo hi h ms).2)
   else bif Nat.ble (Nat.succ m.2.1) hi&& Nat.ble (Nat.succ lo) (Nat.add m.2.1 m.2.2)then(T.upd none (BI x lo hi h ms).1 m.1,(BI x lo hi h ms).2)
   else((BI x lo hi h ms).1,m::(BI x lo hi h ms).2)):=rfl
  rw[red];by_cases h1:m.1=x
  ·have:Nat.beq m.1 x=true:=by rw[Bf];simpa using h1
   rw[this,cond_true];refine⟨fun y=> ?_,fun m'=> ?_⟩
   ·rw[ih1]
    congr 1
    rw[eq_iff_iff];constructor
    ·rintro⟨m',hm,hh⟩;exact⟨m',List.mem_cons_of_mem _ hm,hh⟩
    ·rintro⟨m',hm,hh⟩;rcases List.mem_cons.1 hm with rfl |hm
     ·exact absurd h1 hh.2.1
     ·exact⟨m',hm,hh⟩
   ·simp only[List.mem_cons,ih2];constructor
    ·rintro(rfl |⟨a,b⟩)
     ·exact⟨.inl rfl,.inl h1⟩
     ·exact⟨.inr a,b⟩
    ·rintro⟨rfl |a,b⟩
     ·exact .inl rfl
     ·exact .inr ⟨a,b⟩
  ·have:Nat.beq m.1 x=false:=by rw[Bf];simpa using h1
   rw[this,cond_false];by_cases h2:m.2.1 < hi∧lo < m.2.1+m.2.2
   ·have:(Nat.ble (Nat.succ m.2.1) hi&& Nat.ble (Nat.succ lo) (Nat.add m.2.1 m.2.2))=true:=by
     rw[Fy,Fy];simpa [Nat.succ_le_iff] using h2
    rw[this,cond_true];refine⟨fun y=> ?_,fun m'=> ?_⟩
    ·show(T.upd none (BI x lo hi h ms).1 m.1).get y=_
     rw[T.get_upd,ih1];by_cases hy:y=m.1
     ·subst hy;rw[Ag rfl,Ag ⟨m,List.mem_cons_self ..,rfl,h1,h2⟩]
     ·rw[Ab hy]
      congr 1
      rw[eq_iff_iff];constructor
      ·rintro⟨m',hm,hh⟩;exact⟨m',List.mem_cons_of_mem _ hm,hh⟩
      ·rintro⟨m',hm,hh⟩;rcases List.mem_cons.1 hm with rfl |hm
       ·exact absurd hh.1.symm hy
       ·exact⟨m',hm,hh⟩
    ·show m'∈ (BI x lo hi h ms).2↔_
     rw[ih2];constructor
     ·rintro⟨a,b⟩;exact⟨List.mem_cons_of_mem _ a,b⟩
     ·rintro⟨a,b⟩;rcases List.mem_cons.1 a with rfl |a
      ·rcases b with b |b
       ·exact absurd b h1
       ·exact absurd h2 b
      ·exact⟨a,b⟩
   ·have:(Nat.ble (Nat.succ m.2.1) hi&& Nat.ble (Nat.succ lo) (Nat.add m.2.1 m.2.2))=false:=by
     rw[Fy,Fy];rw[Bool.eq_false_iff];intro hh;apply h2;simpa [Nat.succ_le_iff] using hh
    rw[this,cond_false];refine⟨fun y=> ?_,fun m'=> ?_⟩
    ·rw[ih1]
     congr 1
     rw[eq_iff_iff];constructor
     ·rintro⟨m',hm,hh⟩;exact⟨m',List.mem_cons_of_mem _ hm,hh⟩
     ·rintro⟨m',hm,hh⟩;rcases List.mem_cons.1 hm with rfl |hm
      ·exact absurd hh.2.2 h2
      ·exact⟨m',hm,hh⟩
    ·simp only[List.mem_cons,ih2];constructor
     ·rintro(rfl |⟨a,b⟩)
      ·exact⟨.inl rfl,.inr h2⟩
      ·exact⟨.inr a,b⟩
     ·rintro⟨rfl |a,b⟩
      ·exact .inl rfl
      ·exact .inr ⟨a,b⟩
theorem JN {ρ:Rho}{s s':St}{w:World}(h:Rel ρ s w) {x o n:Nat}(hp:GA s x o n=some s'):
  Rel ρ s' w∧NO s' x o n∧s'.nb=s.nb∧s'.nf=s.nf∧(∃b,s'.h.get x=some b∧s.h.get x=some b∧o+n≤b.c.length)∧(∀y b,s'.h.get y=some b→s.h.get y=some b):=by
 unfold GA at hp;cases hx:s.h.get x with
 |none=>rw[hx]at hp;simp at hp
 |some b=>
  rw[hx]at hp;simp only at hp;obtain⟨hle,hp⟩:=Bh hp;have hle:=Ce hle;simp only[Cq,Nat.add_eq]at hle;cases hf:b.fam with
  |zero=>
   rw[hf]at hp;simp only[Af]at hp;subst hp;refine⟨h,?_,rfl,rfl,⟨b,hx,rfl,hle⟩,fun _ _ h=>h⟩;intro y b' bx _ hbx _ _ hne;rw[hx]at hbx;simp only[Af]at hbx;subst hbx;exact absurd hf hne
  |succ f=>
   rw[hf]at hp;simp only at hp;cases hm:s.fm.get f with
   |none=>rw[hm]at hp;simp at hp
   |some ms=>
    rw[hm]at hp;simp only[Af]at hp;obtain⟨k1,k2⟩:=JM x (b.d+o) (b.d+o+n) s.h ms;subst hp;have hget:∀y bb,(BI x (b.d+o) (b.d+o+n) s.h ms).1.get y=some bb→s.h.get y=some bb:=by
     intro y bb hy;rw[k1]at hy;split at hy
     ·simp at hy
     ·exact hy
    have hx':(BI x (b.d+o) (b.d+o+n) s.h ms).1.get x=some b:=by
     rw[k1,Ab]
     ·exact hx
     ·rintro⟨m,_,e,ne,_⟩;exact ne e
    refine⟨?_,?_,rfl,rfl,⟨b,hx',rfl,hle⟩,hget⟩
    ·refine h.drop rfl rfl hget fun y bb g hy hg=> ?_
     show ∃ms',(T.upd (some (BI x (b.d+o) (b.d+o+n) s.h ms).2) s.fm f).get g=some ms'∧_
     rw[T.get_upd];obtain⟨ms',e1,e2⟩:=h.fam y bb g (hget y bb hy) hg;by_cases hgf:g=f
     ·subst hgf;rw[Ag rfl];rw[hm]at e1;simp only[Af]at e1;subst e1;refine⟨_,rfl,(k2 _).2 ⟨e2,?_⟩⟩;by_cases hyx:y=x
      ·exact .inl hyx
      ·refine .inr fun hov=> ?_;have hy':(BI x (b.d+o) (b.d+o+n) s.h ms).1.get y=some bb:=hy;rw[k1,Ag ⟨_,e2,rfl,hyx,hov⟩]at hy';simp at hy'
     ·rw[Ab hgf];exact⟨ms',e1,e2⟩
    ·intro y bb bx hyx hbx hby hfam hne hov;change (BI x (b.d+o) (b.d+o+n) s.h ms).1.get x=some bx at hbx;change (BI x (b.d+o) (b.d+o+n) s.h ms).1.get y=some bb at hby;rw[hx']at hbx;simp only[Af]at hbx;subst hbx;obtain⟨ms',e1,e2⟩:=h.fam y bb f (hget y bb hby) (by rw[hfam,hf]);rw[hm]at e1;simp only[Af]at e1;subst e1;rw[k1,Ag ⟨_,e2,rfl,hyx,hov⟩]at hby;simp at hby
theorem MA (cur:Array Value) (vs:List Value) (k i:Nat) (hl:k+vs.length≤cur.size):
  (cur.toList.take k++vs++cur.toList.drop (k+vs.length)).toArray[i]?=if k≤i∧i < k+vs.length then vs[i - k]? else cur[i]?:=by
 rw[List.getElem?_toArray,List.append_assoc];have hk:(cur.toList.take k).length=k:=by simp;omega
 by_cases h1:i < k
 ·rw[BV (by omega),Ab (by omega),Ej,Ag h1];simp
 ·rw[Cp (by omega),hk];by_cases h2:i < k+vs.length
  ·rw[BV (by omega),Ag ⟨by omega,h2⟩]
  ·rw[Cp (by omega),Ab (by omega),Hh];rw[show k+vs.length+ (i - k - vs.length)=i by omega];simp
theorem MB {ρ:Rho}{s s':St}{w:World}(h:Rel ρ s w) {x o:Nat}{l:List S}(hs:setc s x o l=some s') {cb sh z:Nat}(hx:ρ x=some (cb,sh,z)) (hno:NO s x o l.length)
  (hfit:∀b,s.h.get x=some b→o+l.length≤b.c.length) {vs:List Value} (hl:LR (SR ρ) l vs):
  ∃cur e,w.heap[cb]?=some (.cells cur e (0,0))∧sh+o+vs.length≤cur.size∧
   Rel ρ s' (w.setRow cb (cur.toList.take (sh+o)++vs++cur.toList.drop (sh+o+vs.length)).toArray)∧Go s ρ w s' ρ (w.setRow cb (cur.toList.take (sh+o)++vs++cur.toList.drop (sh+o+vs.length)).toArray):=by
 unfold setc at hs;cases hb:s.h.get x with
 |none=>rw[hb]at hs;simp at hs
 |some b=>
  rw[hb]at hs;simp only[Af]at hs;obtain⟨cur,e,hc,hz⟩:=h.blk x cb sh z hx;obtain⟨hcl,hcon⟩:=h.con x cb sh z b hx hb;have hfit':=hfit b hb;have hlen:=hl.length;have hroom:sh+o+vs.length≤cur.size:=by omega
  refine⟨cur,e,hc,hroom,?_⟩;have hput:∀i,(w.setRow cb (cur.toList.take (sh+o)++vs++cur.toList.drop (sh+o+vs.length)).toArray).cell? ⟨cb,i,none⟩=if sh+o≤i∧i < sh+o+vs.length then vs[i - (sh+o)]? else w.cell? ⟨cb,i,none⟩:=by
   intro i;rw[cell_setRow_same w cb i cur _ e (0,0) hc,MA cur vs (sh+o) i hroom]
   congr 1
   exact(FM w cb i cur e (0,0) hc).symm
  have hget:∀y,s'.h.get y=if y=x then some ⟨Bv b.c l o,b.fam,b.d⟩else s.h.get y:=by
   intro y;rw[←hs];exact T.get_upd (some (⟨Bv b.c l o,b.fam,b.d⟩:Bk)) s.h x y
  have hnb:s'.nb=s.nb:=by rw[←hs]
  have hnf:s'.nf=s.nf:=by rw[←hs]
  have hfm:s'.fm=s.fm:=by rw[←hs]
  have hputl:(Bv b.c l o).length=b.c.length:=by rw[F7];simp;omega
  have hputg:∀i,(Bv b.c l o)[i]?=if o≤i∧i < o+l.length then l[i - o]? else b.c[i]?:=by
   intro i;rw[F7];have hk:(b.c.take o).length=o:=by simp;omega
   by_cases h1:i < o
   ·rw[BV (by omega),Ab (by omega),Ej,Ag h1]
   ·rw[Cp (by omega),hk];by_cases h2:i < o+l.length
    ·rw[BV (by omega),Ag ⟨by omega,h2⟩]
    ·rw[Cp (by omega),Ab (by omega),Hh];rw[show o+l.length+ (i - o - l.length)=i by omega]
  refine⟨⟨?_,?_,?_,?_,?_,?_,?_⟩,⟨Rho.le_refl _,rfl,rfl,rfl,by simp,?_,?_,by rw[hnb];exact Ad _,fun _ _ h=> .inl h⟩⟩
  ·intro y q hy;rw[hnb];exact h.dom y q hy
  ·intro y cb' sh' z' hy;obtain⟨cs,e',h1,h2⟩:=h.blk y cb' sh' z' hy;by_cases hcc:cb'=cb
   ·subst hcc;rw[hc]at h1;simp only[Af,Obj.cells.injEq]at h1;obtain⟨rfl,rfl,_⟩:=h1;refine⟨_,e,setRow_heap w cb' cur _ e (0,0) hc,?_⟩;rw[←h2];simp;omega
   ·exact⟨cs,e',by rw[setRow_other w cb cb' _ hcc];exact h1,h2⟩
  ·intro y cb' sh' z' by' hy hby
   rw[hget]at hby;by_cases hyx:y=x
   ·subst hyx;rw[Ag rfl]at hby;simp only[Af]at hby;subst hby;rw[hx]at hy;simp only[Af,Ax]at hy;obtain⟨rfl,rfl,rfl⟩:=hy;refine⟨by rw[hputl];exact hcl,fun i sv hi=> ?_⟩;rw[hputg]at hi;rw[hput];by_cases hin:o≤i∧i < o+l.length
    ·rw[Ag hin]at hi;rw[Ag (by omega)];obtain⟨cv,h1,h2⟩:=hl.get hi;exact⟨cv,by rw[show sh+i - (sh+o)=i - o by omega];exact h1,h2⟩
    ·rw[Ab hin]at hi;rw[Ab (by omega)];exact hcon i sv hi
   ·rw[Ab hyx]at hby;obtain⟨h1,h2⟩:=h.con y cb' sh' z' by' hy hby
    refine⟨h1,fun i sv hi=> ?_⟩;obtain⟨cv,h3,h4⟩:=h2 i sv hi;refine⟨cv,?_,h4⟩;by_cases hcc:cb'=cb
    ·subst hcc;obtain⟨i1,i2,i3⟩:=h.inj y x cb' sh' sh z' z by' b hyx hy hx hby hb
     have hno':=hno y by' b hyx hb hby i1 (by rw[←i1];exact i2)
     have hi':i < by'.c.length:=(Em.1 hi).1
     rw[hput,Ab]
     ·exact h3
     ·omega
    ·rw[cell_setRow_other w cb _ _ hcc];exact h3
  ·intro y y' cb' sh1 sh2 z1 z2 b1 b2 hne h1 h2 h3 h4;rw[hget]at h3 h4;have e1:∃b1',s.h.get y=some b1'∧b1'.fam=b1.fam∧b1'.d=b1.d:=by
    split at h3
    ·rename_i hh;subst hh;simp only[Af]at h3;subst h3;exact⟨b,hb,rfl,rfl⟩
    ·exact⟨b1,h3,rfl,rfl⟩
   have e2:∃b2',s.h.get y'=some b2'∧b2'.fam=b2.fam∧b2'.d=b2.d:=by
    split at h4
    ·rename_i hh;subst hh;simp only[Af]at h4;subst h4;exact⟨b,hb,rfl,rfl⟩
    ·exact⟨b2,h4,rfl,rfl⟩
   obtain⟨b1',g1,g2,g3⟩:=e1;obtain⟨b2',g4,g5,g6⟩:=e2;have:=h.inj y y' cb' sh1 sh2 z1 z2 b1' b2' hne h1 h2 g1 g4;rw[←g2,←g3,←g5,←g6];exact this
  ·intro y bb f hy hf;rw[hget]at hy;rw[hfm];split at hy
   ·rename_i hh;subst hh;simp only[Af]at hy;subst hy;obtain⟨ms,g1,g2⟩:=h.fam y b f hb hf;exact⟨ms,g1,by simp only[hputl];exact g2⟩
   ·exact h.fam y bb f hy hf
  ·intro y bb hy;rw[hget]at hy;rw[hnf];split at hy
   ·rename_i hh;subst hh;simp only[Af]at hy;subst hy;exact h.nfl y b hb
   ·exact h.nfl y bb hy
  ·intro y bb hy;rw[hget]at hy;rw[hnb];split at hy
   ·rename_i hh;subst hh;exact h.lt y b hb
   ·exact h.lt y bb hy
  ·intro c hc' hnot;exact setRow_other w cb c _ (fun e=>hnot x sh z (by rw[e];exact hx))
  ·intro y cb' sh' z' hy;exact .inl ⟨y,sh',z',hy⟩
theorem Rp {P:Program}{t:TypeId}{u:TypeDesc}{i:TypeInfo}(hu:P.underlying t=some u) (hi:P.info? t=some i) (hag:DL u=true) (a:Addr) {cs:List Value}(hl:cs.length=i.size)
  {w:World} (hc:∀j v,cs[j]?=some v→w.cell? (a.add j)=some v):(loadVar t a).run P w= .ok (.agg cs.toArray) w:=by
 have:=run_loadCells_list (P:=P) w a cs hc;rw[hl]at this;unfold loadVar;simp only[Sem.run_bind,Is hu,Result.andThen_ok,hag,DU,DQ hi,this];rfl
theorem Rq {P:Program}{t:TypeId}{u:TypeDesc}(hu:P.underlying t=some u) (hag:DL u=false) {a:Addr}{w:World}{v:Value}(hc:w.cell? a=some v):
  (loadVar t a).run P w= .ok v w:=by
 unfold loadVar;simp only[Sem.run_bind,Is hu,Result.andThen_ok,hag,Dh,Di,run_load,hc]
theorem MD {P:Program}{ty:TypeId→Option TyI}(hty:TyOk P ty) {t:TypeId}{i:TyI}(hi:ty t=some i) {ρ:Rho}{s:St}{w:World}(h:Rel ρ s w) {q:S}{cq:Value}(hq:SR ρ q cq) {v:V}
  (hv:ldv s (if DL i.u then some i.sz else none) q=some v):∃cv a,cq= .pointer (some a)∧(loadVar t a).run P w= .ok cv w∧VR ρ v cv:=by
 obtain⟨inf,z,hi1,hi2,_,_,_⟩:=hty.info hi;have hu:=hty.under hi;unfold ldv at hv;split at hv
 ·rename_i x o;obtain⟨cb,sh,zz,r1,r2⟩:=hq;cases hag:DL i.u with
  |true=>
   rw[hag]at hv;simp only[DU]at hv;split at hv
   ·rename_i l hl;simp only[Af]at hv;subst hv;obtain⟨cs,h1,h2,h3⟩:=h.cells_there hl r1;exact⟨.agg cs.toArray,_,r2,Rp hu hi1 hag _ (by rw[h1,hi2]) h3,_,rfl,by simpa using h2⟩
   ·simp at hv
  |false=>
   rw[hag]at hv;simp only[Dh,Di]at hv;split at hv
   ·rename_i b hb;split at hv
    ·rename_i sv hs;simp only[Af]at hv;subst hv;rw[Ip]at hs;obtain⟨cv,h1,h2⟩:=(h.con x cb sh zz b r1 hb).2 o sv hs;exact⟨cv,_,r2,Rq hu hag h1,h2⟩
    ·simp at hv
   ·simp at hv
 ·simp at hv
theorem ME {ρ:Rho}:∀ {l:List S}{cs:List Value}{b:List Nat},bytesIn l=some b→LR (SR ρ) l cs→cs= (b.map fun(n:Nat)=>(n:Int)).map (Value.int .u8)
 | [],[],b,h,_=>by
  have:some []=some b:=h;simp only[Af]at this;subst this;rfl
 | [],_::_,_,_,h=>h.elim
 |_::_,[],_,_,h=>h.elim
 |x::l,c::cs,b,h,hl=>by
  have h':Gz x (bytesIn l)=some b:=h;unfold Gz at h';split at h'
  ·rename_i n m hm;obtain⟨_,h'⟩:=Bh h';simp only[Af]at h';subst h';have h1:c= .int .u8 (Int.ofNat n):=hl.1;rw[h1,ME hm hl.2];rfl
  ·simp at h'
theorem MF:∀ {l:List S}{b:List Nat},bytesIn l=some b→b.map (fun n=>(UInt8.ofNat n).toNat)=b
 | [],b,h=>by
  have:some []=some b:=h;simp only[Af]at this;subst this;rfl
 |x::l,b,h=>by
  have h':Gz x (bytesIn l)=some b:=h;unfold Gz at h';split at h'
  ·rename_i n m hm;obtain⟨hn,h'⟩:=Bh h';have hn:=Ce hn;simp only[Af]at h';subst h';rw[List.map_cons,MF hm]
   congr 1
   simp only[UInt8.toNat_ofNat'];omega
  ·simp at h'
theorem MG:∀ (l:List Nat) (b:ByteArray),((l.map fun(n:Nat)=>(n:Int)).foldl (fun r n=>r.push (UInt8.ofNat n.toNat)) b).data.toList=b.data.toList++l.map UInt8.ofNat
 | [],b=>by simp
 |x::l,b=>by
  simp only[List.map_cons,List.foldl_cons];rw[MG l];simp[ByteArray.push]
theorem Rr {P:Program}{ty:TypeId→Option TyI}{ibs:FuncId→Bool}(hty:TyOk P ty) {op:Op}{x:R}(h:cMO ty ibs op=some (.r x)) {ρ:Rho}{e:E}{a:Act}(he:ER ρ e a) {s:St}{w:World}(hr:Rel ρ s w)
  {v:V} (hv:rv e s x=some v) (dst:Option Tmp) (type:TypeId) (pos:String) (after:Array Edge) (guard:Option (Nat×Bool)):
  ∃cv,(execOp a.eval ⟨dst,op,type,pos,after,guard⟩).run P w= .ok (.value cv) w∧VR ρ v cv:=by
 cases op
 case load t y=>
  simp only[cMO]at h;split at h <;> simp only[Af,reduceCtorEq,MO.r.injEq]at h
  rename_i i y' hi hy;subst h;have hu':Ev.os e y'≠ .un:=by
   intro hh;simp only[rv,hh,ldv,reduceCtorEq]at hv
  have hq:=he.os hy rfl hu';obtain⟨cv,ad,h1,h2,h3⟩:=MD hty hi hr hq (v:=v) (by
   simp only[rv]at hv;exact hv)
  refine⟨cv,Cr ?_,h3⟩;unfold Instr.loadAt;simp only[h1,Instr.sureAddr,Sem.run_bind,Sem.run_pure,Result.andThen_ok,h2]
 case convert sT d y=>
  simp only[cMO]at h;split at h
  ·rename_i i j y' h1 h2 h3;split at h
   ·simp at h
   ·simp at h
   ·rename_i el hi hj;split at h
    ·rename_i k hk;split at h <;> simp only[Af,reduceCtorEq,MO.r.injEq]at h
     rename_i hku;subst h;have hus:P.underlying sT=some (.slice el):=by rw[hty.under h1];exact AX _ hi
     have hud:P.underlying d=some .string:=by rw[hty.under h2];exact AX _ hj
     have hue:P.underlying el=some (.int .u8):=by rw[hty.under hk];exact AX _ hku
     simp only[rv]at hv;split at hv
     ·rename_i h4;simp only[Af]at hv;subst hv;refine⟨.string .empty,Cr ?_,_,rfl,rfl⟩;rw[show a.eval y= .slice none 0 0 from he.at h3 h4];unfold convert;simp only[Sem.run_bind,AY hus,AY hud,AY hue,Result.andThen_ok];rfl
     ·rename_i bl o n sz full h4;replace hv:=Bh hv;obtain⟨h5,hv⟩:=hv;simp only[Bf,BQ]at h5;subst h5;split at hv
      ·rename_i l hl;split at hv
       ·rename_i b hb;simp only[Af]at hv;subst hv;obtain⟨cb,sh,zz,ad,cap,r1,r2,r3,r4,r5,r6,r7⟩:=he.at h3 h4;obtain⟨cs,g1,g2,g3⟩:=hr.cells_there hl r1;have g4:=ME hb g2;have g5:(loadCells ad n).run P w= .ok ((b.map fun(n:Nat)=>(n:Int)).map (Value.int .u8)).toArray w:=by
         by_cases hn:n=0
         ·subst hn;have:cs=[]:=List.eq_nil_of_length_eq_zero g1;rw[←g4,this];rfl
         ·rw[r5 (by omega),←g1,←g4];exact run_loadCells_list w _ cs g3
        refine⟨.string ((b.map fun(n:Nat)=>(n:Int)).foldl (fun r n=>r.push (UInt8.ofNat n.toNat)) ByteArray.empty),Cr ?_,_,rfl,?_⟩
        ·rw[r2];unfold convert;simp only[Sem.run_bind,AY hus,AY hud,AY hue,Result.andThen_ok];exact run_bytesToString w ad n cap _ g5
        ·rw[MG];rw[show ByteArray.empty.data.toList=[]from rfl,List.nil_append,List.map_map];exact MF hb
       ·simp at hv
      ·simp at hv
     ·simp at hv
    ·simp at h
   ·simp at h
  ·simp at h
 all_goals
  first
   | (simp only[cMO,reduceCtorEq]at h;done)
   | (simp only[cMO,Option.map_eq_some_iff,reduceCtorEq,and_false,Hj]at h;done)
   | (simp only[cMO]at h;(repeat' split at h) <;> simp at h;done)
   |skip
 case makeFunc fn first caps=>
  cases fn <;> simp only[cMO,reduceCtorEq]at h
  split at h <;> simp at h
 case call c=>
  simp only[cMO]at h;split at h
  ·split at h
   ·exact absurd h (by
     intro hh;unfold Fv at hh
     (repeat' split at hh) <;> simp at hh)
   ·(repeat' split at h) <;> simp at h
   ·simp at h
   ·simp at h
  ·simp at h
theorem GL (z:List S):∀n,(DJ z n).length=n*z.length
 |0=>by show([]:List S).length=_;simp
 |n+1=>by
  show(DP z (DJ z n)).length=_
  rw[FA,AV,GL z n,Nat.succ_mul];omega
theorem MH (z:List S):∀n i,i < n*z.length→(DJ z n)[i]?=z[i%z.length]?
 |0,i,h=>by simp at h
 |n+1,i,h=>by
  show(DP z (DJ z n))[i]?=_
  rw[FA];by_cases hi:i < z.length
  ·rw[BV hi,Nat.mod_eq_of_lt hi]
  ·have h':i < n*z.length+z.length:=by rw[←Nat.succ_mul];exact h
   rw[Cp (by omega),MH z n _ (by omega)];rw[←Nat.mod_eq_sub_mod (by omega)]
theorem Io {ρ:Rho}{z:List S}{zc:Array Value}(h:LR (SR ρ) z zc.toList) (n:Nat):LR (SR ρ) (DJ z n) ((Array.range (n*zc.size)).map (zc[· %zc.size]!)).toList:=by
 have hl:z.length=zc.size:=by rw[h.length];simp
 refine LR.of_get (by rw[GL,hl];simp) fun i a b ha hb=> ?_;have hi:i < n*z.length:=by have:=(Em.1 ha).1;rwa [GL]at this
 rw[MH z n i hi]at ha;obtain⟨c,h1,h2⟩:=h.get ha;have hpos:0 < z.length:=by
  rcases Nat.eq_zero_or_pos z.length with h0 |h0
  ·rw[h0]at hi;omega
  ·exact h0
 have hlt:i%z.length < z.length:=Nat.mod_lt _ hpos;simp only[Array.toList_map,Array.toList_range,FJ,List.getElem?_range (show i < n*zc.size by rw[←hl];exact hi),Option.map_some,Af]at hb;rw[←hb];have:zc[i%zc.size]! =c:=by
  rw[←hl];have h3:zc[i%z.length]?=some c:=by simpa using h1
  rw[getElem!_def,h3]
 rw[this];exact h2
theorem MI {P:Program}{ty:TypeId→Option TyI}{ibs:FuncId→Bool}(hty:TyOk P ty) {op:Op}{x:A}(h:cMO ty ibs op=some (.a x)) {ρ:Rho}{e:E}{a:Act}(he:ER ρ e a)
  {l:List S} {f:Nat→V} (hv:av e x=some (l,f)) (dst:Option Tmp) (type:TypeId) (pos:String) (after:Array Edge) (guard:Option (Nat×Bool)) (w:World):
  ∃cv cells el,(execOp a.eval ⟨dst,op,type,pos,after,guard⟩).run P w= .ok (.value cv) (w.alloc (.cells cells el))∧LR (SR ρ) l cells.toList∧
   ∀ (ρ':Rho) (n:Nat),ρ' n=some (w.heap.size,0,cells.size)→VR ρ' (f n) cv:=by
 cases op
 case alloc t=>
  simp only[cMO,Option.map_eq_some_iff]at h;obtain⟨i,hi,h⟩:=h;simp only[MO.a.injEq]at h;subst h;obtain⟨inf,z,hi1,hi2,hi3,hi4,hi5⟩:=hty.info hi;simp only[av,Af,Ax]at hv;obtain⟨rfl,rfl⟩:=hv;refine⟨.pointer (some ⟨w.heap.size,0,none⟩),z.cells,t,Cr ?_,DM ρ hi5,fun ρ' n hn=>⟨_,_,_,hn,rfl⟩⟩;unfold Instr.alloc;simp only[Sem.run_bind,GP hi1 hi4,Result.andThen_ok,newVar,newRow,run_newObj,Sem.run_pure];rfl
 case box t y=>
  simp only[cMO,Option.map_eq_some_iff]at h;obtain⟨y',hy,h⟩:=h;simp only[MO.a.injEq]at h;subst h;simp only[av]at hv;split at hv
  ·rename_i l' hl;simp only[Af,Ax]at hv;obtain⟨rfl,rfl⟩:=hv;refine⟨.pointer (some ⟨w.heap.size,0,none⟩),(a.eval y).cells,t,Cr ?_,VR.cells (he.ov hy) hl,fun ρ' n hn=>⟨_,_,_,hn,rfl⟩⟩;unfold Instr.box;simp only[Sem.run_bind,Result.andThen_ok,newVar,newRow,run_newObj,Sem.run_pure];rfl
  ·simp at hv
 case buildSlice t n ps=>
  simp only[cMO]at h;split at h
  ·rename_i j hj;split at h
   ·simp at h
   ·rename_i hc;simp only[not_or,Nat.not_lt,KX]at hc;obtain⟨hz,hbig,hzl⟩:=hc;simp only[Option.map_eq_some_iff]at h;obtain⟨qs,hq,h⟩:=h;simp only[MO.a.injEq]at h;subst h;obtain⟨el,hu,hj'⟩:=hty.elem hj;obtain⟨inf,z,hi1,hi2,hi3,hi4,hi5⟩:=hty.info hj';simp only[av]at hv;split at hv
    ·rename_i l' hl;simp only[Af,Ax]at hv;obtain⟨rfl,rfl⟩:=hv;have hzc:=DM ρ hi5;have hzs:z.cells.size=j.sz:=by rw[←hzl,hzc.length];simp
     obtain⟨out,h1,h2⟩:=JW he hq hl (Io hzc n);have hps:(ps.map fun(i,x)=>(i,a.eval x)).toList=ps.toList.map fun p=>(p.1,a.eval p.2):=by simp
     have hlen:out.size=n*j.sz:=by
      have e1:=h2.length;have e2:∀ {qs:List (Nat×Nat×O)} {z l:List S},DI z e qs=some l→l.length=z.length:=by
       intro qs;induction qs with
       |nil=>intro z l h;have:some z=some l:=h;simp only[Af]at this;rw[this]
       |cons p qs ih=>
        intro z l h;have h':(match cellsOf (ov e p.2.2)with
         |none=>none
         |some l'=>bif Nat.beq (Bi l') p.2.1&& Nat.ble (Nat.add p.1 p.2.1) (Bi z)then DI (Bv z l' p.1) e qs else none)=some l:=h
        cases hc:cellsOf (ov e p.2.2)with
        |none=>simp[hc]at h'
        |some l'=>
         simp only[hc]at h';obtain⟨ht,h'⟩:=Bh h';obtain⟨t1,t2⟩:=(AH _ _).mp ht;rw[Bf,BQ,Cq]at t1;have t2:=Ce t2;rw[Cq]at t2;rw[ih h',F7];simp only[AV,Hd,List.length_drop];have t3:p.1+p.2.1≤z.length:=t2;omega
      rw[e2 hl,GL,hzl]at e1
      simpa using e1.symm
     refine⟨.slice (some ⟨w.heap.size,0,none⟩) n n,out,el,Cr ?_,h2,fun ρ' m hm=>⟨_,_,_,_,n,hm,rfl,Ad _,fun _=>rfl,fun _=>rfl,by rw[hlen];omega,by omega⟩⟩;unfold Instr.buildSlice;simp only[Sem.run_bind,AY hu,Result.andThen_ok,DQ hi1,hi2];rw[Ab (by omega)];rw[hps];by_cases hn:n*j.sz=0
     ·have hn0:n=0:=by
       rcases Nat.mul_eq_zero.1 hn with h' |h'
       ·exact h'
       ·exact absurd h' hz
      subst hn0;simp only[Nat.zero_mul,DU,Sem.run_bind,Sem.run_pure,Result.andThen_ok];have e0:((Array.range 0).map fun(x:Nat)=>(#[]:Array Value)[x% (#[]:Array Value).size]!)= ((Array.range (0*z.cells.size)).map (z.cells[· %z.cells.size]!)):=by simp
      rw[e0,h1];rfl
     ·simp only[hn,Di,Sem.run_bind,GP hi1 hi4,Sem.run_pure,Result.andThen_ok];have h1':=h1;rw[hzs]at h1';rw[hzs,h1'];rfl
    ·simp at hv
  ·simp at h
 case makeSlice t n c=>
  simp only[cMO]at h;split at h
  ·rename_i j n' c' hj hn hc;split at h
   ·simp at h
   ·rename_i hcc;simp only[not_or,KX]at hcc;obtain⟨hz,hzl⟩:=hcc;simp only[Af,MO.a.injEq]at h;subst h;obtain⟨el,hu,hj'⟩:=hty.elem hj;obtain⟨inf,z,hi1,hi2,hi3,hi4,hi5⟩:=hty.info hj';simp only[av]at hv;split at hv
    ·rename_i nn cc h1 h2;obtain⟨hle,hv⟩:=Bh hv;obtain⟨hle,hbig,h63⟩:=MT hle;rw[GO]at h63;have hbig:j.by_*cc≤140737488355328:=hbig;simp only[Af,Ax]at hv;obtain⟨rfl,rfl⟩:=hv;have hzc:=DM ρ hi5;have hzs:z.cells.size=j.sz:=by rw[←hzl,hzc.length];simp
     have w1:IntKind.i64.wrap (nn:Int)=nn:=DV _ ⟨by omega,by omega⟩;have w2:IntKind.i64.wrap (cc:Int)=cc:=DV _ ⟨by omega,by omega⟩;have hl0:=Io hzc cc;rw[hzs]at hl0;refine⟨.slice (some ⟨w.heap.size,0,none⟩) nn cc,(Array.range (cc*j.sz)).map (z.cells[· %j.sz]!),el,Cr ?_,hl0,fun ρ' m hm=>⟨_,_,_,_,cc,hm,rfl,hle,?_,fun _=>rfl,?_,by omega⟩⟩
     ·rw[JU he hn h1,JU he hc h2];unfold Instr.makeSlice;simp only[Sem.run_bind,AY hu,Result.andThen_ok,asInt,asIntOf,Sem.run_pure,Sd hi1,hi3,w1,w2];have hbi:((j.by_:Int)* (cc:Int))≤140737488355328:=by have:=Int.ofNat_le.2 hbig;rw[←Int.natCast_mul];exact this
      have t1:(decide ((cc:Int) < 0) || decide ((j.by_:Int)* (cc:Int) > 2^ 48))=false:=by
       rw[Bool.or_eq_false_iff];exact⟨AG (by omega),AG (by omega)⟩
      have t2:(decide ((nn:Int) < 0))=false:=AG (by omega);have t3:(decide ((nn:Int) > (cc:Int)))=false:=AG (by omega);rw[Ab (by rw[t1,t2,t3];simp)];simp only[Sem.run_bind,run_askRoom,Result.andThen_ok,DQ hi1,hi2,KY];by_cases hn0:cc*j.sz=0
      ·simp only[hn0,DU,Sem.run_bind,Sem.run_pure,Result.andThen_ok,newRow,run_newObj];have e0:∀f:Nat→Value,(Array.range 0).map f= #[]:=fun f=>by simp
       rw[e0,e0];rfl
      ·simp only[hn0,Di,Sem.run_bind,GP hi1 hi4,Sem.run_pure,Result.andThen_ok,newRow,run_newObj,hzs];rfl
     ·intro hf;rw[Bf,BQ]at hf;exact hf.symm
     ·simp
    ·simp at hv
  ·simp at h
 all_goals
  first
   | (simp only[cMO,reduceCtorEq]at h;done)
   | (simp only[cMO,Option.map_eq_some_iff,reduceCtorEq,and_false,Hj]at h;done)
   | (simp only[cMO]at h;(repeat' split at h) <;> simp at h;done)
   |skip
 case makeFunc fn first caps=>
  cases fn <;> simp only[cMO,reduceCtorEq]at h
  split at h <;> simp at h
 case call c=>
  simp only[cMO]at h;split at h
  ·split at h
   ·exact absurd h (by
     intro hh;unfold Fv at hh
     (repeat' split at hh) <;> simp at hh)
   ·(repeat' split at h) <;> simp at h
   ·simp at h
   ·simp at h
  ·simp at h
end Go.Ev
