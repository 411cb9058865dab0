/- Parts of the proof of FnDepthsHold, FnEnds, FnMeant, FnMovedWhenever, FnSizes. -/
import Derived.Test.YtfmebaafpfkeiaaGreatY01
import Derived.Laws.Slices
import Derived.Laws.Strings
import Derived.Laws.Cover1
import Derived.Laws.Concat
import Derived.IntWalk
import Derived.Lib.Bytealg
set_option linter.unusedVariables false
set_option linter.unusedSimpArgs false
set_option maxRecDepth 1000000
set_option maxHeartbeats 16000000
namespace Go.Ev
open Go
structure TyI where
 u:TypeDesc
 sz:Nat
 by_:Nat
 z:List S
def H9:Value→Option S
 | .bool b=>some (.b b)
 | .int k n=>some (mkI k n)
 | .string bs=>some (.s (bs.data.toList.map UInt8.toNat))
 | .pointer none=>some .p0
 | .slice none 0 0=>some .l0
 | .nilFunc=>some .f0
 |_=>none
def E4:List Value→Option (List S)
 | []=>some []
 |v::l=>match H9 v,E4 l with |some s,some m=>some (s::m) |_,_=>none
def Jx:Value→Option V
 | .agg cs=>(E4 cs.toList).map .a
 |v=>(H9 v).map .c
def cO:Operand→Option O
 | .tmp t=>some (.t t)
 | .const v=>(Jx v).map .k
 | .func f=>some (.k (.c (.f f [])))
 | .global _=>none
def cOs:List Operand→Option (List O)
 | []=>some []
 |x::l=>match cO x,cOs l with |some y,some m=>some (y::m) |_,_=>none
def cOo:Option Operand→Option (Option O)
 |none=>some none
 |some x=>match cO x with |some y=>some (some y) |none=>none
def E5 (D7:Nat→Option (Nat×Nat)):List (Nat×Operand)→Option (List (Nat×Nat×O))
 | []=>some []
 | (i,x)::l=>match D7 i,cO x,E5 D7 l with
  |some (off,sz),some y,some m=>some ((off,sz,y)::m)
  |_,_,_=>none
def Di:TypeDesc→Bool
 | .struct _ | .array _ _=>true
 |_=>false
def tyI (P:Program) (t:TypeId):Option TyI:=
 match P.underlying t,P.info? t with
 |some u,some i=>match i.zero with
  |some z=>match E4 z.cells.toList with
   |some l=>some ⟨u,i.size,i.bytes,l⟩
   |none=>none
  |none=>none
 |_,_=>none
section
variable (ty:TypeId→Option TyI) (ibs:FuncId→Bool)
def D7 (u:TypeDesc) (i:Nat):Option (Nat×Nat):=
 match u with
 | .struct fs=>match fs[i]? with
  |some f=>match ty f.type with |some j=>some (f.offset,j.sz) |none=>none
  |none=>none
 | .array _ e=>match ty e with |some j=>some (i*j.sz,j.sz) |none=>none
 |_=>none
def Jy (u:TypeDesc):Bool:=
 match u with
 | .struct fs=>fs.toList.all fun f=>(ty f.type).isSome
 | .array _ e=>(ty e).isSome
 |_=>false
def E6 (t:TypeId):Option TyI:=
 match ty t with
 |some i=>match i.u with | .slice e=>ty e |_=>none
 |none=>none
def Ct:BinOp→Bool
 | .neq=>true
 |_=>false
def Jz (op:BinOp) (t:TypeId) (x y:O):Option W:=
 match op with
 | .eql | .neq=>match ty t with
  |some i=>match i.u with
   | .int _=>some (.bin op x y)
   | .string=>some (.bin op x y)
   | .bool=>some (.eqb (Ct op) x y)
   | .slice _=>some (.eql (Ct op) x y)
   | .pointer _=>some (.eqp (Ct op) x y)
   | .func _ _ _=>some (.eqf (Ct op) x y)
   |_=>none
  |none=>none
 |op=>some (.bin op x y)
noncomputable def E7 (b:Builtin) (args:List O) (ts:List TypeId):Option MO:=
 match b,args,ts with
 | .len,[x],[t]=>match ty t with
  |some i=>match i.u with | .string=>some (.w (.lns x)) | .slice _=>some (.w (.lnl x)) |_=>none
  |none=>none
 | .cap,[x],[t]=>match ty t with
  |some i=>match i.u with | .slice _=>some (.w (.cpl x)) |_=>none
  |none=>none
 | .min,[x,y],_=>some (.w (.mnx false x y))
 | .max,[x,y],_=>some (.w (.mnx true x y))
 | .append,[x,y],[t,t']=>match E6 ty t,ty t' with
  |some i,some i'=>if i.sz=0∨i.z.length≠i.sz then none else if t=t' then some (.m (.app i.sz i.by_ x y))else match i'.u with
   | .int _=>some (.m (.apz i.sz i.by_ i.z x y))
   |_=>none
  |_,_=>none
 | .clear,[x],[t]=>match E6 ty t with
  |some i=>if i.sz=0∨i.z.length≠i.sz then none else some (.m (.clr i.sz i.z x))
  |none=>none
 |_,_,_=>none
noncomputable def cMO:Op→Option MO
 | .move x=>(cO x).map fun x=> .w (.mv x)
 | .assign x=>(cO x).map fun x=> .w (.mv x)
 | .pick c a b=>match cO c,cO a,cO b with |some c,some a,some b=>some (.w (.pick c a b)) |_,_,_=>none
 | .alloc t=>(ty t).map fun i=> .a (.al i.z)
 | .box _ x=>(cO x).map fun x=> .a (.box x)
 | .build t ps=>match ty t with
  |some i=>if Jy ty i.u then(E5 (D7 ty i.u) ps.toList).map fun l=> .w (.build i.z l)else none
  |none=>none
 | .buildSlice t n ps=>match E6 ty t with
  |some j=>if j.sz=0∨n*j.sz > 16777216∨j.z.length≠j.sz then none else(E5 (fun i=>some (i*j.sz,j.sz)) ps.toList).map fun l=> .a (.bsl j.sz n (BI j.z n) l)
  |none=>none
 | .load t a=>match ty t,cO a with |some i,some a=>some (.r (.ld (if Di i.u then some i.sz else none) a)) |_,_=>none
 | .store t a v=>match ty t,cO a,cO v with |some i,some a,some v=>some (.m (.st i.sz a v)) |_,_,_=>none
 | .nilCheck x=>(cO x).map fun x=> .w (.nilc x)
 | .binOp op t x y _=>match cO x,cO y with |some x,some y=>(Jz ty op t x y).map .w |_,_=>none
 | .unOp op _ x=>(cO x).map fun x=> .w (.un op x)
 | .convert s d x=>match ty s,ty d,cO x with
  |some i,some j,some x=>match i.u,j.u with
   | .int _,.int k=>some (.w (.cv k x))
   | .int _,.string=>some (.w (.cvs x))
   | .slice e,.string=>match ty e with
    |some k=>match k.u with | .int .u8=>some (.r (.bts x)) |_=>none
    |none=>none
   |_,_=>none
  |_,_,_=>none
 | .makeFunc (.func g) first caps=>if first.isEmpty then(cOs caps.toList).map fun l=> .w (.mkf g l)else none
 | .makeSlice t n c=>match E6 ty t,cO n,cO c with |some i,some n,some c=>if i.sz=0∨i.z.length≠i.sz then none else some (.a (.mks i.sz i.by_ i.z n c)) |_,_,_=>none
 | .slice t x lo hi mx=>match ty t,cO x,cOo lo,cOo hi,cOo mx with
  |some i,some x,some lo,some hi,some mx=>match i.u with
   | .string=>match mx with |none=>some (.w (.sls x lo hi)) |some _=>none
   | .slice e=>match ty e with |some j=>if mx.isSome&& hi.isNone then none else some (.w (.sll j.sz x lo hi mx)) |none=>none
   |_=>none
  |_,_,_,_,_=>none
 | .fieldAddr t x f=>match ty t,cO x with
  |some i,some x=>match i.u with
   | .struct fs=>match fs[f]? with
    |some f=>match ty f.type with |some j=>if j.sz=0 then none else some (.w (.fad f.offset x)) |none=>none
    |none=>none
   |_=>none
  |_,_=>none
 | .field t x f=>match ty t,cO x with
  |some i,some x=>match i.u with
   | .struct fs=>match fs[f]? with
    |some f=>match ty f.type with |some j=>some (.w (.fld f.offset (if Di j.u then some j.sz else none) x)) |none=>none
    |none=>none
   |_=>none
  |_,_=>none
 | .indexAddr t x ix=>match E6 ty t,cO x,cO ix with |some j,some x,some ix=>some (.w (.iad j.sz x ix)) |_,_,_=>none
 | .index t x ix=>match ty t,cO x,cO ix with
  |some i,some x,some ix=>match i.u with | .string=>some (.w (.ixs x ix)) |_=>none
  |_,_,_=>none
 | .extract x i=>(cO x).map fun x=> .w (.ext i x)
 | .call c=>match cOs c.args.toList with
  |some l=>match c.callee with
   | .builtin b=>E7 ty b l c.argTypes.toList
   | .value (.func f)=>if ibs f then(match l with | [x,y]=>some (.w (.ibs x y)) |_=>none)else some (.m (.call f l))
   | .value x=>(cO x).map fun x=> .m (.cal x l)
   |_=>none
  |none=>none
 |_=>none
end
def TyOk (P:Program) (ty:TypeId→Option TyI):Prop:=∀t i,ty t=some i→tyI P t=some i
theorem TyOk.under {P:Program}{ty:TypeId→Option TyI}(h:TyOk P ty) {t:TypeId}{i:TyI}(hi:ty t=some i):P.underlying t=some i.u:=by
 have:=h t i hi;unfold tyI at this;split at this
 ·rename_i u j hu hj;split at this
  ·split at this
   ·simp only[Option.some.injEq]at this;subst this;exact hu
   ·simp at this
  ·simp at this
 ·simp at this
theorem TyOk.info {P:Program}{ty:TypeId→Option TyI}(h:TyOk P ty) {t:TypeId}{i:TyI}(hi:ty t=some i):
  ∃j z,P.info? t=some j∧j.size=i.sz∧j.bytes=i.by_∧j.zero=some z∧E4 z.cells.toList=some i.z:=by
 have:=h t i hi;unfold tyI at this;split at this
 ·rename_i u j hu hj;split at this
  ·rename_i z hz;split at this
   ·rename_i l hl;simp only[Option.some.injEq]at this;subst this;exact⟨j,z,hj,rfl,rfl,hz,hl⟩
   ·simp at this
  ·simp at this
 ·simp at this
theorem TyOk.elem {P:Program}{ty:TypeId→Option TyI}(h:TyOk P ty) {t:TypeId}{i:TyI}(hi:E6 ty t=some i):
  ∃e,P.underlying t=some (.slice e)∧ty e=some i:=by
 unfold E6 at hi;split at hi
 ·rename_i j hj;split at hi
  ·rename_i e he;exact⟨e,by rw[h.under hj,he],hi⟩
  ·simp at hi
 ·simp at hi
theorem Mb (ρ:Rho) {v:Value}{s:S}(h:H9 v=some s):SR ρ s v:=by
 unfold H9 at h;split at h <;> simp only[Option.some.injEq,reduceCtorEq]at h <;> subst h
 ·rfl
 ·rename_i k n;cases k <;> rfl
 ·exact⟨_,rfl,rfl⟩
 ·rfl
 ·rfl
 ·rfl
theorem Dj (ρ:Rho):∀ {l:List Value}{m:List S},E4 l=some m→LR (SR ρ) m l
 | [],m,h=>by simp[E4]at h;subst h;trivial
 |v::l,m,h=>by
  unfold E4 at h;split at h
  ·rename_i s m' h1 h2;simp only[Option.some.injEq]at h;subst h;exact⟨Mb ρ h1,Dj ρ h2⟩
  ·simp at h
theorem Rn (ρ:Rho) {v:Value}{x:V}(h:Jx v=some x):VR ρ x v:=by
 unfold Jx at h;split at h
 ·simp only[Option.map_eq_some_iff]at h;obtain⟨l,h1,rfl⟩:=h;exact⟨_,rfl,Dj ρ h1⟩
 ·simp only[Option.map_eq_some_iff]at h;obtain⟨s,h1,rfl⟩:=h;exact Mb ρ h1
def ER (ρ:Rho) (e:E) (a:Act):Prop:=∀t v,e.get t=some v→VR ρ v (a.tmps.getD t undef)
theorem ER.mono {ρ ρ':Rho}(h:ρ.le ρ') {e:E}{a:Act}(he:ER ρ e a):ER ρ' e a:=fun t v hv=>(he t v hv).mono h
theorem ER.ov {ρ:Rho}{e:E}{a:Act}(he:ER ρ e a) {x:Operand}{y:O}(h:cO x=some y):VR ρ (ov e y) (a.eval x):=by
 cases x with
 |tmp t=>
  simp only[cO,Option.some.injEq]at h;subst h;cases hg:T.get e t with
  |none=>simp only[Ev.ov,hg];trivial
  |some v=>simp only[Ev.ov,Act.eval,hg];exact he t v hg
 |const v=>
  simp only[cO,Option.map_eq_some_iff]at h;obtain⟨w,h1,rfl⟩:=h;exact Rn ρ h1
 |func f=>simp only[cO,Option.some.injEq]at h;subst h;exact⟨#[],rfl,trivial⟩
 |global g=>simp[cO]at h
theorem ER.os {ρ:Rho}{e:E}{a:Act}(he:ER ρ e a) {x:Operand}{y:O}(h:cO x=some y) {s:S}(hs:os e y=s) (hu:s≠ .un):SR ρ s (a.eval x):=by
 have:=he.ov h;unfold Ev.os at hs;cases hv:Ev.ov e y with
 |c s'=>rw[hv]at hs this;simp only at hs;subst hs;exact this
 |_=>rw[hv]at hs;simp only at hs;exact absurd hs.symm hu
theorem ER.ovs {ρ:Rho}{e:E}{a:Act}(he:ER ρ e a):∀ {xs:List Operand}{ys:List O},cOs xs=some ys→LR (VR ρ) (ovs e ys) (xs.map a.eval)
 | [],ys,h=>by simp[cOs]at h;subst h;trivial
 |x::xs,ys,h=>by
  unfold cOs at h;split at h
  ·rename_i y m h1 h2;simp only[Option.some.injEq]at h;subst h;exact⟨he.ov h1,he.ovs h2⟩
  ·simp at h
theorem Gs:m63=9223372036854775807:=rfl
theorem ML {a:Nat}(h:Nat.ble a m63=true):(a:Int)≤9223372036854775807:=by
 have h1:=Nat.le_of_ble_eq_true h;have h2:(a:Int)≤ (m63:Int):=Int.ofNat_le.2 h1;rw[Gs]at h2;exact h2
theorem MM (n:Int) (h:-9223372036854775808≤n) (h':n≤9223372036854775807):n=IntKind.i64.wrap n:=(IntWalk.i64_in n ⟨h,h'⟩).symm
theorem JM (n:Int):w64 n=IntKind.i64.wrap n:=by
 cases n with
 |ofNat a=>
  show(bif Nat.ble a m63 then Int.ofNat a else IntKind.i64.wrap (Int.ofNat a))=_
  have hn:Int.ofNat a= (a:Int):=rfl;generalize Int.ofNat a=n at hn;cases h:Nat.ble a m63 with
  |false=>rw[cond_false]
  |true=>have h1:=ML h;rw[cond_true];exact MM n (by omega) (by omega)
 |negSucc a=>
  show(bif Nat.ble a m63 then Int.negSucc a else IntKind.i64.wrap (Int.negSucc a))=_
  have hn:=Int.negSucc_eq a;generalize Int.negSucc a=n at hn;cases h:Nat.ble a m63 with
  |false=>rw[cond_false]
  |true=>have h1:=ML h;rw[cond_true];exact MM n (by omega) (by omega)
theorem DG (a b:Int):ile a b=decide (a≤b):=by
 cases a <;> cases b <;> simp only[ile,Fa] <;> rw[Bool.eq_iff_iff] <;> simp <;> omega
theorem CL (a b:Int):ieq a b= (a==b):=by
 cases a <;> cases b <;> simp only[ieq,AO] <;> rw[Bool.eq_iff_iff] <;> simp <;> omega
theorem MN {a b:IntKind}(h:Dz a b=true):a=b:=by
 cases a <;> cases b <;> first |rfl | (simp[Dz,kix]at h)
theorem JN (ρ:Rho) (k:IntKind) (n:Int):SR ρ (mkI k n) (.int k n):=by cases k <;> rfl
theorem FG (ρ:Rho) {m:Sem Value}{v:V}(h:CD m=some v):∃cv,m= .pure cv∧VR ρ v cv:=by
 unfold CD at h;split at h <;> simp only[Option.some.injEq,reduceCtorEq]at h
 ·exact⟨_,rfl,h▸JN ρ _ _⟩
 ·exact⟨_,rfl,h▸rfl⟩
theorem JO:∀ (l m:List Nat),seq l m= (l==m)
 | [],[]=>rfl
 | [],_::_=>rfl
 |_::_,[]=>rfl
 |x::l,y::m=>by
  show(Bool.rec (motive:=fun _=>Bool) false (seq l m) (Nat.beq x y))=_
  rw[JO l m,AO];by_cases h:x=y
  ·subst h;simp
  ·have:(x==y)=false:=by simpa using h
   simp[this]
theorem MP:∀ {l m:List UInt8},l.map UInt8.toNat=m.map UInt8.toNat→l=m
 | [],[],_=>rfl
 | [],_::_,h=>by simp at h
 |_::_,[],h=>by simp at h
 |x::l,y::m,h=>by
  simp only[List.map_cons,List.cons.injEq]at h;rw[MP h.2,UInt8.toNat_inj.1 h.1]
theorem Uz (l m:List UInt8):(l.map UInt8.toNat==m.map UInt8.toNat)= (l==m):=by
 rw[Bool.eq_iff_iff];simp only[beq_iff_eq];exact⟨MP,fun h=>h▸rfl⟩
theorem MQ:∀ (l m:List UInt8),slt (l.map UInt8.toNat) (m.map UInt8.toNat)=Op.bytesLess l m
 | [],[]=>rfl
 | [],_::_=>rfl
 |_::_,[]=>by simp only[List.map_nil];rfl
 |x::l,y::m=>by
  show(Bool.rec (motive:=fun _=>Bool) (Nat.ble (Nat.succ x.toNat) y.toNat) (slt (l.map UInt8.toNat) (m.map UInt8.toNat)) (Nat.beq x.toNat y.toNat))=_
  rw[MQ l m,AO,Fa,show Op.bytesLess (x::l) (y::m)= (decide (x < y) || (x==y&& Op.bytesLess l m))from rfl];by_cases h:x=y
  ·subst h;simp[UInt8.lt_irrefl]
  ·have h1:¬x.toNat=y.toNat:=fun e=>h (UInt8.toNat_inj.1 e);have:(x.toNat==y.toNat)=false:=by simpa using h1
   have h2:(x==y)=false:=by simpa using h
   simp only[this,h2,Bool.false_and,Bool.or_false];rw[Bool.eq_iff_iff];simp[UInt8.lt_iff_toNat_lt,Nat.succ_le_iff]
theorem UA (P:Program) (ρ:Rho) {op:BinOp}{a b:ByteArray}{v:V}(h:Gd op (a.data.toList.map UInt8.toNat) (b.data.toList.map UInt8.toNat)=some v) (t:TypeId) (w:World):
  ∃cv,(binOp op t (.string a) (.string b)).run P w= .ok cv w∧VR ρ v cv:=by
 cases op <;> simp only[Gd,Option.some.injEq,reduceCtorEq]at h
 case add=>
  obtain⟨hc,h⟩:=AH h;simp only[Option.some.injEq]at h;have hle:=Nat.le_of_ble_eq_true hc;simp only[AB,List.length_map,Nat.add_eq]at hle;refine⟨.string (a++b),?_,?_⟩
  ·rw[binOp_string_add];exact run_string_add_sum w a b (by show a.data.size+b.data.size≤_;simp only[Array.length_toList]at hle;omega)
  ·subst h;exact⟨a++b,rfl,by rw[D8];simp⟩
 all_goals
  subst h;refine⟨_,by simp[binOp,Op.stringOp,pure,Sem.run];rfl,?_⟩;simp[VR,SR,JO,MQ,Uz,ByteArray.toList_eq]
theorem In (op:BinOp) (t:TypeId) (k k':IntKind) (a b:Int):binOp op t (.int k a) (.int k' b)=binOp op 0 (.int k a) (.int k' b):=by cases op <;> rfl
theorem UB (P:Program) (ρ:Rho) {op:BinOp}{a b:Int}{v:V}(h:A9 op a b=some v) (t:TypeId) (w:World):
  ∃cv,(binOp op t (.int .i64 a) (.int .i64 b)).run P w= .ok cv w∧VR ρ v cv:=by
 rw[In];cases op <;> simp only[A9]at h
 case add=>simp only[Option.some.injEq]at h;subst h;exact⟨_,rfl,by show _=_;rw[JM];rfl⟩
 case sub=>simp only[Option.some.injEq]at h;subst h;exact⟨_,rfl,by show _=_;rw[JM];rfl⟩
 case mul=>simp only[Option.some.injEq]at h;subst h;exact⟨_,rfl,by show _=_;rw[JM];rfl⟩
 case eql=>simp only[Option.some.injEq]at h;subst h;exact⟨_,rfl,by show _=_;rw[CL]⟩
 case neq=>simp only[Option.some.injEq]at h;subst h;exact⟨_,rfl,by show _=_;rw[CL];rfl⟩
 case lss=>simp only[Option.some.injEq]at h;subst h;exact⟨_,rfl,by show _=_;rw[DG];congr 1;rw[Bool.eq_iff_iff];simp⟩
 case leq=>simp only[Option.some.injEq]at h;subst h;exact⟨_,rfl,by show _=_;rw[DG]⟩
 case gtr=>simp only[Option.some.injEq]at h;subst h;exact⟨_,rfl,by show _=_;rw[DG];congr 1;rw[Bool.eq_iff_iff];simp⟩
 case geq=>simp only[Option.some.injEq]at h;subst h;exact⟨_,rfl,by show _=_;rw[DG]⟩
 all_goals
  obtain⟨cv,h1,h2⟩:=FG ρ h;exact⟨cv,by rw[h1];rfl,h2⟩
theorem UC (P:Program) (ρ:Rho) {op:BinOp}{k k':IntKind}{a b:Int}{v:V}(h:Gc op k a k' b=some v) (t:TypeId) (w:World):
  ∃cv,(binOp op t (.int k a) (.int k' b)).run P w= .ok cv w∧VR ρ v cv:=by
 rw[In];have key:∀ {x:V},(bif Dz k k' then some x else none)=some v→k=k'∧x=v:=fun hh=>by
  obtain⟨h1,h2⟩:=AH hh;exact⟨MN h1,by simpa using h2⟩
 cases op <;> simp only[Gc]at h
 case eql=>obtain⟨rfl,rfl⟩:=key h;exact⟨_,by simp[binOp,Op.intCmp,pure,Sem.run];rfl,by show _=_;rw[CL]⟩
 case neq=>obtain⟨rfl,rfl⟩:=key h;exact⟨_,by simp[binOp,Op.intCmp,pure,Sem.run];rfl,by show _=_;rw[CL];rfl⟩
 case lss=>obtain⟨rfl,rfl⟩:=key h;exact⟨_,by simp[binOp,Op.intCmp,pure,Sem.run];rfl,by show _=_;rw[DG];congr 1;rw[Bool.eq_iff_iff];simp⟩
 case leq=>obtain⟨rfl,rfl⟩:=key h;exact⟨_,by simp[binOp,Op.intCmp,pure,Sem.run];rfl,by show _=_;rw[DG]⟩
 case gtr=>obtain⟨rfl,rfl⟩:=key h;exact⟨_,by simp[binOp,Op.intCmp,pure,Sem.run];rfl,by show _=_;rw[DG];congr 1;rw[Bool.eq_iff_iff];simp⟩
 case geq=>obtain⟨rfl,rfl⟩:=key h;exact⟨_,by simp[binOp,Op.intCmp,pure,Sem.run];rfl,by show _=_;rw[DG]⟩
 all_goals
  obtain⟨cv,h1,h2⟩:=FG ρ h;exact⟨cv,by rw[h1];rfl,h2⟩
def CM (P:Program) (ibs:FuncId→Bool):Prop:=
 ∀f,ibs f=true→ ∀ (args:Array Value) (v:Value) (w:World),(Extern.BytealgIndexByte.indexByte args).run P w= .ok v w→(callFunc f args).run P w= .ok (.value v) w
theorem BP {P:Program}{s:Sem Value}{cv:Value}{w w':World}(h:s.run P w= .ok cv w'):((do pure (Next.value (←s))):Sem Next).run P w= .ok (.value cv) w':=by
 simp[h]
theorem AE {P:Program}{t:TypeId}{u:TypeDesc}(h:P.underlying t=some u) (w:World):(underlying t).run P w= .ok u w:=by
 simp[underlying,h]
theorem Dn {P:Program}{t:TypeId}{i:TypeInfo}(h:P.info? t=some i) (w:World):(sizeOf t).run P w= .ok i.size w:=by
 simp[sizeOf,typeInfo,h]
theorem UD {P:Program}{t:TypeId}{i:TypeInfo}(h:P.info? t=some i) (w:World):(typeInfo t).run P w= .ok i w:=by
 simp[typeInfo,h]
theorem Gu {P:Program}{t:TypeId}{i:TypeInfo}{z:Value}(h:P.info? t=some i) (hz:i.zero=some z) (w:World):(zeroValue t).run P w= .ok z w:=by
 simp[zeroValue,typeInfo,h,hz]
theorem Io {P:Program}{t:TypeId}{u:TypeDesc}(h:P.underlying t=some u) (w:World):(isAgg t).run P w= .ok (Di u) w:=by
 unfold isAgg;simp only[Sem.run_bind,AE h,Result.andThen_ok];cases u <;> rfl
theorem ER.at {ρ:Rho}{e:E}{a:Act}(he:ER ρ e a) {x:Operand}{y:O}(h:cO x=some y) {s:S}(hs:Ev.os e y=s) (hu:s≠ .un:=by simp):SR ρ s (a.eval x):=he.os h hs hu
theorem JP {ρ:Rho}{e:E}{a:Act}(he:ER ρ e a) {x:Operand}{y:O}(h:cO x=some y) {n:Nat}(hn:onj e y=some n):∃k,a.eval x= .int k (n:Int):=by
 unfold onj at hn;split at hn <;> simp only[Option.some.injEq,reduceCtorEq]at hn
 ·rename_i m hm;subst hn;exact⟨_,he.at h hm⟩
 ·rename_i k m hm;subst hn;exact⟨_,he.at h hm⟩
theorem JQ {ρ:Rho}{e:E}{a:Act}(he:ER ρ e a) {x:Operand}{y:O}(h:cO x=some y) {n:Nat}(hn:on e y=some n):a.eval x= .int .i64 (n:Int):=by
 unfold on at hn;split at hn <;> simp only[Option.some.injEq,reduceCtorEq]at hn
 rename_i m hm;subst hn;exact he.at h hm
theorem UE {ρ:Rho}{e:E}{a:Act}(he:ER ρ e a) {x:Option Operand}{y:Option O}(h:cOo x=some y) {d n:Nat}(hn:onD e d y=some n):
  (x=none∧y=none∧n=d)∨ ∃x' k,x=some x'∧a.eval x'= .int k (n:Int):=by
 cases x with
 |none=>simp only[cOo,Option.some.injEq]at h;subst h;simp only[onD,Option.some.injEq]at hn;exact .inl ⟨rfl,rfl,hn.symm⟩
 |some x=>
  unfold cOo at h;split at h
  ·simp at*
  ·rename_i x' hx;simp only[Option.some.injEq]at hx;subst hx;split at h
   ·rename_i y' hy;simp only[Option.some.injEq]at h;subst h;obtain⟨k,hk⟩:=JP he hy (by simpa [onD] using hn);exact .inr ⟨x,k,rfl,hk⟩
   ·simp at h
theorem JR (P:Program) (w:World) (b:Bool) (len cap l h:Nat) {lo hi:Option Value}(hl:(lo=none∧l=0)∨ ∃k,lo=some (.int k l)) (hh:(hi=none∧h=len)∨ ∃k,hi=some (.int k h))
  (h1:l≤h) (h2:h≤len) (h3:len≤cap):(Instr.sliceBounds b len cap lo hi none).run P w= .ok (l,h,cap) w:=by
 have hb:∀ (k:IntKind) (i y:Nat) (c:BoundsCode),i≤y→(Instr.sliceBound (.int k i) y c).run P w= .ok i w:=fun k i y c hi=>by
  simp[Instr.sliceBound,asIntOf,hi]
 unfold Instr.sliceBounds;rcases hl with ⟨rfl,rfl⟩ |⟨k,rfl⟩ <;> rcases hh with ⟨rfl,rfl⟩ |⟨k',rfl⟩
 ·simp
 ·simp[hb k' h cap _ (by omega)]
 ·simp[hb k l h _ (by omega)]
 ·simp[hb k' h cap _ (by omega),hb k l h _ (by omega)]
theorem MR (P:Program) (w:World) (len cap l h m:Nat) {lo hi:Option Value}{k:IntKind}(hl:(lo=none∧l=0)∨ ∃k,lo=some (.int k l)) (hh:∃k,hi=some (.int k h))
  (h1:l≤h) (h2:h≤m) (h3:m≤cap):(Instr.sliceBounds true len cap lo hi (some (.int k m))).run P w= .ok (l,h,m) w:=by
 have hb:∀ (k:IntKind) (i y:Nat) (c:BoundsCode),i≤y→(Instr.sliceBound (.int k i) y c).run P w= .ok i w:=fun k i y c hi=>by
  simp[Instr.sliceBound,asIntOf,hi]
 unfold Instr.sliceBounds;obtain⟨k',rfl⟩:=hh;rcases hl with ⟨rfl,rfl⟩ |⟨k'',rfl⟩
 ·simp[hb k m cap _ h3,hb k' h m _ h2]
 ·simp[hb k m cap _ h3,hb k' h m _ h2,hb k'' l h _ h1]
theorem UF (src:List Value):∀ (off i:Nat) (cells:Array Value),off+i+src.length≤cells.size→
  ((src.zipIdx i).foldl (fun(cs:Array Value) (p:Value×Nat)=>cs.setIfInBounds (off+p.2) p.1) cells).toList=cells.toList.take (off+i)++ (src++cells.toList.drop (off+i+src.length)):=by
 induction src with
 |nil=>intro off i cells h;simp
 |cons x t ih=>
  intro off i cells h;simp only[List.zipIdx_cons,List.foldl_cons];rw[ih off (i+1) _ (by simp at h ⊢;omega)];simp only[Array.toList_setIfInBounds,List.length_cons];have hlt:off+i < cells.toList.length:=by simp at h ⊢;omega
  have e1:(cells.toList.set (off+i) x).take (off+ (i+1))=cells.toList.take (off+i)++ [x]:=by
   rw[show off+ (i+1)= (off+i)+1 by omega,List.take_add_one];rw[List.getElem?_set_self hlt,List.take_set_of_le (Nat.le_refl _)];rfl
  have e2:(cells.toList.set (off+i) x).drop (off+ (i+1)+t.length)=cells.toList.drop (off+i+ (t.length+1)):=by
   rw[show off+ (i+1)+t.length=off+i+ (t.length+1)by omega,List.drop_set_of_lt (by omega)]
  rw[e1,e2];simp
theorem JS {ρ:Rho}{e:E}{a:Act}(he:ER ρ e a) {pl:Nat→Option (Nat×Nat)}:
  ∀ {ps:List (Nat×Operand)} {qs:List (Nat×Nat×O)} {z l:List S} {cells:Array Value},E5 pl ps=some qs→Dg z e qs=some l→LR (SR ρ) z cells.toList→
   ∃out,Instr.fill pl cells (ps.map fun p=>(p.1,a.eval p.2))=some out∧LR (SR ρ) l out.toList
 | [],qs,z,l,cells,h,hp,hz=>by
  simp only[E5,Option.some.injEq]at h;subst h;have:some z=some l:=hp;simp only[Option.some.injEq]at this;subst this;exact⟨cells,rfl,hz⟩
 | (i,x)::ps,qs,z,l,cells,h,hp,hz=>by
  unfold E5 at h;split at h
  ·rename_i off sz y m h1 h2 h3;simp only[Option.some.injEq]at h;subst h;have hp':(match cellsOf (ov e y)with
    |none=>none
    |some l'=>bif Nat.beq (Ad l') sz&& Nat.ble (Nat.add off sz) (Ad z)then Dg (AD z l' off) e m else none)=some l:=hp
   cases hc:cellsOf (ov e y)with
   |none=>simp[hc]at hp'
   |some l'=>
    simp only[hc]at hp';obtain⟨ht,hp'⟩:=AH hp';simp only[Bool.and_eq_true,AO,Fa,beq_iff_eq,decide_eq_true_eq,AB,Nat.add_eq]at ht;have hcl:=VR.cells (he.ov h2) hc;have hlen:=hcl.length;have hzl:=hz.length;have hlen':(a.eval x).cells.size=sz:=by rw[←ht.1,hlen];simp
    have hfit:¬(off+ (a.eval x).cells.size > cells.size):=by
     have:z.length=cells.size:=by rw[hzl];simp
     omega
    have hfold:=UF (a.eval x).cells.toList off 0 cells (by simp at hzl ⊢;omega);have hnew:LR (SR ρ) (AD z l' off) (((a.eval x).cells.zipIdx.foldl (fun cs (c,j)=>cs.setIfInBounds (off+j) c) cells)).toList:=by
     rw[show((a.eval x).cells.zipIdx.foldl (fun cs (c,j)=>cs.setIfInBounds (off+j) c) cells)= (((a.eval x).cells.toList.zipIdx 0).foldl (fun(cs:Array Value) (p:Value×Nat)=>cs.setIfInBounds (off+p.2) p.1) cells)by
      rw[←Array.foldl_toList,Array.toList_zipIdx]]
     rw[hfold,DF];simp only[Nat.add_zero];refine(hz.take off).append (hcl.append ?_);rw[←hlen];exact hz.drop _
    obtain⟨out,ho1,ho2⟩:=JS he h3 hp' hnew;refine⟨out,?_,ho2⟩;simp only[List.map_cons,Instr.fill,h1,hlen',ne_eq,not_true_eq_false,false_or];rw[hlen']at hfit;rw[if_neg (by simpa using hfit)];exact ho1
  ·simp at h
theorem MS {ρ:Rho}{e:E}{a:Act}(he:ER ρ e a):∀ {xs:List Operand}{ys:List O}{l:List (Nat×Nat)},cOs xs=some ys→E0 e ys=some l→LR (fun(c:Nat×Nat) v=>PR ρ c.1 c.2 v) l (xs.map a.eval)
 | [],ys,l,h,hp=>by
  simp only[cOs,Option.some.injEq]at h;subst h;have:some []=some l:=hp;simp only[Option.some.injEq]at this;subst this;trivial
 |x::xs,ys,l,h,hp=>by
  unfold cOs at h;split at h
  ·rename_i y m h1 h2;simp only[Option.some.injEq]at h;subst h;have hp':(match Ev.os e y,E0 e m with | .p a b,some l=>some ((a,b)::l) |_,_=>none)=some l:=hp;split at hp'
   ·rename_i a' b' l' h3 h4;simp only[Option.some.injEq]at hp';subst hp';exact⟨he.at h1 h3,MS he h2 h4⟩
   ·simp at hp'
  ·simp at h
theorem MT (c:UInt8):∀ (l:List UInt8) (k:Nat),find c.toNat (l.map UInt8.toNat) k=if Lib.indexByte l c= -1 then -1 else(k:Int)+Lib.indexByte l c
 | [],k=>rfl
 |x::l,k=>by
  show(Bool.rec (motive:=fun _=>Int) (find c.toNat (l.map UInt8.toNat) (Nat.succ k)) (.ofNat k) (Nat.beq x.toNat c.toNat))=_
  rw[AO,MT c l];have hge:=Lib.indexByte_ge l c;rw[show Lib.indexByte (x::l) c= (if x==c then 0 else if Lib.indexByte l c== -1 then -1 else Lib.indexByte l c+1)from rfl];by_cases h:x=c
  ·subst h;simp
  ·have h1:(x.toNat==c.toNat)=false:=by simpa using fun e=>h (UInt8.toNat_inj.1 e)
   have h2:(x==c)=false:=by simpa using h
   simp only[h1,h2,Bool.false_eq_true,if_false,beq_iff_eq];by_cases h3:Lib.indexByte l c= -1
   ·simp[h3]
   ·rw[if_neg h3,if_neg h3,if_neg (by omega)];omega
theorem Do {ρ:Rho}{b:Bool}{v:V}(h:bb b=some v):VR ρ v (.bool b):=by
 simp only[bb,Option.some.injEq]at h;subst h;rfl
def JT:Value→Bool
 | .nilIface=>false
 | .agg _=>false
 |_=>true
theorem FH {P:Program}{w:World}(op:BinOp) (t:TypeId) (x y:Operand) (p q:Value) (h:JT p=true):(eqGuard op t x y p q).run P w= .ok () w:=by
 unfold eqGuard;cases op <;> first |rfl | (cases p <;> first | (simp[JT]at h;done) |rfl)
def eqV:Value→Bool
 | .bool _=>true
 | .slice _ _ _=>true
 | .pointer _=>true
 | .func _ _ _=>true
 | .nilFunc=>true
 |_=>false
theorem UG {p:Value}(h:eqV p=true):JT p=true:=by cases p <;> first |rfl | (simp[eqV]at h)
theorem UH (t:TypeId) (p q:Value) (h:eqV p=true):binOp .eql t p q= (do pure (.bool (←Op.equal t p q)):Sem Value):=by
 cases p <;> first | (simp[eqV]at h;done) |rfl | (cases q <;> rfl)
theorem UI (t:TypeId) (p q:Value) (h:eqV p=true):binOp .neq t p q= (do pure (.bool (!(←Op.equal t p q))):Sem Value):=by
 cases p <;> first | (simp[eqV]at h;done) |rfl | (cases q <;> rfl)
theorem DH {P:Program}{w:World}{op:BinOp}(hop:op= .eql∨op= .neq) (t:TypeId) (x y:Operand) {p q:Value}{r:Bool}(hp:eqV p=true)
  (hr:(Op.equal t p q).run P w= .ok r w):(do eqGuard op t x y p q;binOp op t p q:Sem Value).run P w= .ok (.bool (xor (Ct op) r)) w:=by
 simp only[Sem.run_bind,FH op t x y p q (UG hp),Result.andThen_ok];rcases hop with rfl |rfl
 ·rw[UH t p q hp];simp[hr,Ct]
 ·rw[UI t p q hp];simp[hr,Ct]
theorem UJ {P:Program}{w:World}{t:TypeId}(hu:P.underlying t=some .bool) (a b:Bool):(Op.equal t (.bool a) (.bool b)).run P w= .ok (a==b) w:=by
 show(Op.equalIn (9999+1) t (.bool a) (.bool b)).run P w=_
 unfold Op.equalIn;simp only[Sem.run_bind,AE hu,Result.andThen_ok];rfl
theorem JU {P:Program}{w:World}{t e:TypeId}(hu:P.underlying t=some (.slice e)) (a b:Option Addr) (n c m d:Nat) (h:a=none∨b=none):
  (Op.equal t (.slice a n c) (.slice b m d)).run P w= .ok (a.isNone&& b.isNone) w:=by
 show(Op.equalIn (9999+1) t _ _).run P w=_
 unfold Op.equalIn;simp only[Sem.run_bind,AE hu,Result.andThen_ok];cases a <;> cases b <;> first |rfl | (simp at h)
theorem JV {P:Program}{w:World}{t e:TypeId}(hu:P.underlying t=some (.pointer e)) (a b:Option Addr) (h:a=none∨b=none):
  (Op.equal t (.pointer a) (.pointer b)).run P w= .ok (a.isNone&& b.isNone) w:=by
 show(Op.equalIn (9999+1) t _ _).run P w=_
 unfold Op.equalIn;simp only[Sem.run_bind,AE hu,Result.andThen_ok];cases a <;> cases b <;> first |rfl | (simp at h)
theorem JW {P:Program}{w:World}{t:TypeId}{ps rs:Array TypeId}{v:Bool}(hu:P.underlying t=some (.func ps rs v)) {p q:Value}
  (h:(p= .nilFunc∧q= .nilFunc)∨(p= .nilFunc∧ ∃g x y,q= .func g x y)∨(q= .nilFunc∧ ∃g x y,p= .func g x y)):
  (Op.equal t p q).run P w= .ok (p matches .nilFunc&& q matches .nilFunc) w:=by
 show(Op.equalIn (9999+1) t _ _).run P w=_
 unfold Op.equalIn;simp only[Sem.run_bind,AE hu,Result.andThen_ok];rcases h with ⟨rfl,rfl⟩ |⟨rfl,g,x,y,rfl⟩ |⟨rfl,g,x,y,rfl⟩ <;> rfl
section
variable {P:Program}{ty:TypeId→Option TyI}{ibs:FuncId→Bool}(hty:TyOk P ty) (hib:CM P ibs) {ρ:Rho}{e:E}{a:Act}(he:ER ρ e a) (w:World)
include he
theorem JX {op:BinOp}{x y:Operand}{x' y':O}(hx:cO x=some x') (hy:cO y=some y') {v:V}(hv:wv e (.bin op x' y')=some v) (t:TypeId):
  ∃cv,(do eqGuard op t x y (a.eval x) (a.eval y);binOp op t (a.eval x) (a.eval y)).run P w= .ok cv w∧VR ρ v cv:=by
 simp only[wv]at hv;split at hv
 ·rename_i p q h1 h2;rw[show a.eval x= .int .i64 p from he.at hx h1,show a.eval y= .int .i64 q from he.at hy h2];obtain⟨cv,h3,h4⟩:=UB P ρ hv t w;exact⟨cv,by simp only[Sem.run_bind,FH _ _ _ _ (.int .i64 p) _ rfl,Result.andThen_ok,h3],h4⟩
 ·rename_i k p k' q h1 h2;rw[show a.eval x= .int k p from he.at hx h1,show a.eval y= .int k' q from he.at hy h2];obtain⟨cv,h3,h4⟩:=UC P ρ hv t w;exact⟨cv,by simp only[Sem.run_bind,FH _ _ _ _ (.int k p) _ rfl,Result.andThen_ok,h3],h4⟩
 ·rename_i p q h1 h2;obtain⟨b1,e1,rfl⟩:=he.at hx h1;obtain⟨b2,e2,rfl⟩:=he.at hy h2;rw[e1,e2];obtain⟨cv,h3,h4⟩:=UA P ρ hv t w;exact⟨cv,by simp only[Sem.run_bind,FH _ _ _ _ (.string b1) _ rfl,Result.andThen_ok,h3],h4⟩
 ·rename_i p k' q h1 h2;rw[show a.eval x= .int .i64 p from he.at hx h1,show a.eval y= .int k' q from he.at hy h2,In];obtain⟨cv,h3,h4⟩:=FG ρ hv;exact⟨cv,by simp only[Sem.run_bind,FH _ _ _ _ (.int .i64 p) _ rfl,Result.andThen_ok,h3,Sem.run_pure'],h4⟩
 ·rename_i k p q h1 h2;rw[show a.eval x= .int k p from he.at hx h1,show a.eval y= .int .i64 q from he.at hy h2,In];obtain⟨cv,h3,h4⟩:=FG ρ hv;exact⟨cv,by simp only[Sem.run_bind,FH _ _ _ _ (.int k p) _ rfl,Result.andThen_ok,h3,Sem.run_pure'],h4⟩
 ·simp at hv
theorem UK {op:BinOp}(hop:op= .eql∨op= .neq) {x y:Operand}{x' y':O}(hx:cO x=some x') (hy:cO y=some y') {v:V}(hv:wv e (.eqb (Ct op) x' y')=some v) {t:TypeId}(hu:P.underlying t=some .bool):
  ∃cv,(do eqGuard op t x y (a.eval x) (a.eval y);binOp op t (a.eval x) (a.eval y)).run P w= .ok cv w∧VR ρ v cv:=by
 simp only[wv]at hv;split at hv
 ·rename_i p q h1 h2;rw[show a.eval x= .bool p from he.at hx h1,show a.eval y= .bool q from he.at hy h2];refine⟨_,DH hop t x y rfl (UJ hu p q),?_⟩;have:=Do (ρ:=ρ) hv;cases p <;> cases q <;> exact this
 ·simp at hv
theorem UL {op:BinOp}(hop:op= .eql∨op= .neq) {x y:Operand}{x' y':O}(hx:cO x=some x') (hy:cO y=some y') {v:V}(hv:wv e (.eql (Ct op) x' y')=some v) {t el:TypeId}(hu:P.underlying t=some (.slice el)):
  ∃cv,(do eqGuard op t x y (a.eval x) (a.eval y);binOp op t (a.eval x) (a.eval y)).run P w= .ok cv w∧VR ρ v cv:=by
 simp only[wv]at hv;split at hv
 ·rename_i h1 h2;rw[show a.eval x= .slice none 0 0 from he.at hx h1,show a.eval y= .slice none 0 0 from he.at hy h2];refine⟨_,DH hop t x y rfl (JU hu _ _ _ _ _ _ (.inl rfl)),?_⟩;have:=Do (ρ:=ρ) hv
  simpa using this
 ·rename_i h1 h2;obtain⟨_,_,_,_,_,_,e2,_⟩:=he.at hy h2;rw[show a.eval x= .slice none 0 0 from he.at hx h1,e2];refine⟨_,DH hop t x y rfl (JU hu _ _ _ _ _ _ (.inl rfl)),?_⟩;have:=Do (ρ:=ρ) hv
  simpa using this
 ·rename_i h1 h2;obtain⟨_,_,_,_,_,_,e1,_⟩:=he.at hx h1;rw[e1,show a.eval y= .slice none 0 0 from he.at hy h2];refine⟨_,DH hop t x y rfl (JU hu _ _ _ _ _ _ (.inr rfl)),?_⟩;have:=Do (ρ:=ρ) hv
  simpa using this
 ·simp at hv
theorem UM {op:BinOp}(hop:op= .eql∨op= .neq) {x y:Operand}{x' y':O}(hx:cO x=some x') (hy:cO y=some y') {v:V}(hv:wv e (.eqp (Ct op) x' y')=some v) {t el:TypeId}(hu:P.underlying t=some (.pointer el)):
  ∃cv,(do eqGuard op t x y (a.eval x) (a.eval y);binOp op t (a.eval x) (a.eval y)).run P w= .ok cv w∧VR ρ v cv:=by
 simp only[wv]at hv;split at hv
 ·rename_i h1 h2;rw[show a.eval x= .pointer none from he.at hx h1,show a.eval y= .pointer none from he.at hy h2];refine⟨_,DH hop t x y rfl (JV hu _ _ (.inl rfl)),?_⟩;have:=Do (ρ:=ρ) hv
  simpa using this
 ·rename_i h1 h2;obtain⟨_,_,_,_,e2⟩:=he.at hy h2;rw[show a.eval x= .pointer none from he.at hx h1,e2];refine⟨_,DH hop t x y rfl (JV hu _ _ (.inl rfl)),?_⟩;have:=Do (ρ:=ρ) hv
  simpa using this
 ·rename_i h1 h2;obtain⟨_,_,_,_,e1⟩:=he.at hx h1;rw[e1,show a.eval y= .pointer none from he.at hy h2];refine⟨_,DH hop t x y rfl (JV hu _ _ (.inr rfl)),?_⟩;have:=Do (ρ:=ρ) hv
  simpa using this
 ·simp at hv
theorem UN {op:BinOp}(hop:op= .eql∨op= .neq) {x y:Operand}{x' y':O}(hx:cO x=some x') (hy:cO y=some y') {v:V}(hv:wv e (.eqf (Ct op) x' y')=some v) {t:TypeId}{ps rs:Array TypeId}{vr:Bool}(hu:P.underlying t=some (.func ps rs vr)):
  ∃cv,(do eqGuard op t x y (a.eval x) (a.eval y);binOp op t (a.eval x) (a.eval y)).run P w= .ok cv w∧VR ρ v cv:=by
 simp only[wv]at hv;split at hv
 ·rename_i h1 h2;rw[show a.eval x= .nilFunc from he.at hx h1,show a.eval y= .nilFunc from he.at hy h2];refine⟨_,DH hop t x y rfl (JW hu (.inl ⟨rfl,rfl⟩)),?_⟩;have:=Do (ρ:=ρ) hv
  simpa using this
 ·rename_i h1 h2;obtain⟨_,e2,_⟩:=he.at hy h2;rw[show a.eval x= .nilFunc from he.at hx h1,e2];refine⟨_,DH hop t x y rfl (JW hu (.inr (.inl ⟨rfl,_,_,_,rfl⟩))),?_⟩;have:=Do (ρ:=ρ) hv
  simpa using this
 ·rename_i h1 h2;obtain⟨_,e1,_⟩:=he.at hx h1;rw[e1,show a.eval y= .nilFunc from he.at hy h2];refine⟨_,DH hop t x y rfl (JW hu (.inr (.inr ⟨rfl,_,_,_,rfl⟩))),?_⟩;have:=Do (ρ:=ρ) hv
  simpa using this
 ·simp at hv
end
theorem UO (n:Nat) (h:n≤127):(Utf8.encode (n:Int)).data.toList.map UInt8.toNat=[n]:=by
 have:∀m:Fin 128,(Utf8.encode ((m:Nat):Int)).data.toList.map UInt8.toNat=[(m:Nat)]:=by decide+kernel
 have h2:=this ⟨n,by omega⟩
 simpa only using h2
theorem UP (bs:ByteArray) (l h:Nat) (h1:l≤h) (h2:h≤bs.size):(bs.extract l h).data.toList.map UInt8.toNat= ((bs.data.toList.map UInt8.toNat).drop l).take (h - l):=by
 simp[ByteArray.data_extract,Array.toList_extract,List.extract,List.map_take,List.map_drop]
section
variable {P:Program}{ty:TypeId→Option TyI}{ibs:FuncId→Bool}{ρ:Rho}{e:E}{a:Act}(he:ER ρ e a) (w:World)
include he
theorem UQ (hty:TyOk P ty) {op:BinOp}{t:TypeId}{x y:Operand}{x' y':O}(hx:cO x=some x') (hy:cO y=some y') {q:W}(h:Jz ty op t x' y'=some q) {v:V}(hv:wv e q=some v):
  ∃cv,(do eqGuard op t x y (a.eval x) (a.eval y);binOp op t (a.eval x) (a.eval y)).run P w= .ok cv w∧VR ρ v cv:=by
 have key:∀ (hop:op= .eql∨op= .neq),(match ty t with
  |some i=>match i.u with
   | .int _=>some (W.bin op x' y')
   | .string=>some (.bin op x' y')
   | .bool=>some (.eqb (Ct op) x' y')
   | .slice _=>some (.eql (Ct op) x' y')
   | .pointer _=>some (.eqp (Ct op) x' y')
   | .func _ _ _=>some (.eqf (Ct op) x' y')
   |_=>none
  |none=>none)=some q→ ∃cv,(do eqGuard op t x y (a.eval x) (a.eval y);binOp op t (a.eval x) (a.eval y)).run P w= .ok cv w∧VR ρ v cv:=by
  intro hop h;split at h
  ·rename_i i hi;have hu:=hty.under hi;split at h <;> simp only[Option.some.injEq,reduceCtorEq]at h <;> subst h
   ·exact JX he w hx hy hv t
   ·exact JX he w hx hy hv t
   ·rename_i hd;exact UK he w hop hx hy hv (by rw[hu,hd])
   ·rename_i hd;exact UL he w hop hx hy hv (by rw[hu,hd])
   ·rename_i hd;exact UM he w hop hx hy hv (by rw[hu,hd])
   ·rename_i hd;exact UN he w hop hx hy hv (by rw[hu,hd])
  ·simp at h
 cases op
 case eql=>exact key (.inl rfl) h
 case neq=>exact key (.inr rfl) h
 all_goals
  simp only[Jz,Option.some.injEq]at h;subst h;exact JX he w hx hy hv t
theorem UR {op:UnOp}{x:Operand}{x':O}(hx:cO x=some x') {v:V}(hv:wv e (.un op x')=some v):∃cv,(Op.unary op (a.eval x)).run P w= .ok cv w∧VR ρ v cv:=by
 simp only[wv]at hv;split at hv
 ·rename_i p h1;rw[show a.eval x= .bool p from he.at hx h1];cases op <;> simp only[reduceCtorEq]at hv
  exact⟨_,rfl,Do hv⟩
 ·rename_i p h1;rw[show a.eval x= .int .i64 p from he.at hx h1];obtain⟨cv,h3,h4⟩:=FG ρ hv;exact⟨cv,by rw[h3];rfl,h4⟩
 ·rename_i k p h1;rw[show a.eval x= .int k p from he.at hx h1];obtain⟨cv,h3,h4⟩:=FG ρ hv;exact⟨cv,by rw[h3];rfl,h4⟩
 ·simp at hv
theorem US {t s:TypeId}{d:TypeDesc}{k:IntKind}(hs:P.underlying s=some d) (ht:P.underlying t=some (.int k)) {x:Operand}{x':O}(hx:cO x=some x') {v:V}(hv:wv e (.cv k x')=some v):
  ∃cv,(convert s t (a.eval x)).run P w= .ok cv w∧VR ρ v cv:=by
 simp only[wv]at hv;split at hv <;> simp only[Option.some.injEq,reduceCtorEq]at hv
 ·rename_i p h1;rw[show a.eval x= .int .i64 p from he.at hx h1];subst hv;exact⟨_,by unfold convert;simp only[Sem.run_bind,AE hs,AE ht,Result.andThen_ok];rfl,JN ρ _ _⟩
 ·rename_i k' p h1;rw[show a.eval x= .int k' p from he.at hx h1];subst hv;exact⟨_,by unfold convert;simp only[Sem.run_bind,AE hs,AE ht,Result.andThen_ok];rfl,JN ρ _ _⟩
theorem UT {t s:TypeId}{k:IntKind}(hs:P.underlying s=some (.int k)) (ht:P.underlying t=some .string) {x:Operand}{x':O}(hx:cO x=some x') {v:V}(hv:wv e (.cvs x')=some v):
  ∃cv,(convert s t (a.eval x)).run P w= .ok cv w∧VR ρ v cv:=by
 have key:∀ (k':IntKind) (n:Nat),(bif Nat.ble n 127 then some (V.c (.s [n]))else(none:Option V))=some v→ ∃cv,(convert s t (.int k' (n:Int))).run P w= .ok cv w∧VR ρ v cv:=by
  intro k' n h;obtain⟨h1,h2⟩:=AH h;simp only[Option.some.injEq]at h2;subst h2;exact⟨_,by unfold convert;simp only[Sem.run_bind,AE hs,AE ht,Result.andThen_ok];rfl,_,rfl,UO n (Nat.le_of_ble_eq_true h1)⟩
 simp only[wv]at hv;split at hv
 ·rename_i p h1;rw[show a.eval x= .int .i64 (Int.ofNat p)from he.at hx h1];exact key _ _ hv
 ·rename_i k' p h1;rw[show a.eval x= .int k' (Int.ofNat p)from he.at hx h1];exact key _ _ hv
 ·simp at hv
theorem C0 {x:Option Operand}{y:Option O}(h:cOo x=some y) {d n:Nat}(hn:onD e d y=some n):
  (x.map a.eval=none∧n=d)∨ ∃k,x.map a.eval=some (.int k n):=by
 rcases UE he h hn with ⟨rfl,_,rfl⟩ |⟨x',k,rfl,h2⟩
 ·exact .inl ⟨rfl,rfl⟩
 ·exact .inr ⟨k,by simp[h2]⟩
theorem UU {t:TypeId}(hu:P.underlying t=some .string) {x:Operand}{lo hi:Option Operand}{x':O}{lo' hi':Option O}(hx:cO x=some x') (hl:cOo lo=some lo') (hh:cOo hi=some hi') {v:V}(hv:wv e (.sls x' lo' hi')=some v):
  ∃cv,(Instr.sliceAt t (a.eval x) (lo.map a.eval) (hi.map a.eval) none).run P w= .ok cv w∧VR ρ v cv:=by
 simp only[wv]at hv;split at hv
 ·rename_i l h1;obtain⟨bs,e1,rfl⟩:=he.at hx h1;split at hv
  ·rename_i p q h2 h3;obtain⟨h4,hv⟩:=AH hv;replace h4:=FF h4;rw[AB,List.length_map]at h4;have hsz:bs.data.toList.length=bs.size:=Array.length_toList;rw[AB,List.length_map,hsz]at h3;rw[hsz]at h4;rw[e1];simp only[Option.some.injEq]at hv;subst hv;refine⟨.string (bs.extract p q),?_,_,rfl,?_⟩
   ·unfold Instr.sliceAt;simp only[Sem.run_bind,AE hu,Result.andThen_ok];unfold Instr.slice;simp only[Sem.run_bind,AE hu,Result.andThen_ok];simp only[Option.isSome_none,Bool.false_eq_true,if_false,Sem.run_bind,Sem.run_pure,Result.andThen_ok];rw[JR P w false bs.size bs.size p q (C0 he hl h2) (C0 he hh h3) h4.1 h4.2 (Nat.le_refl _)];rfl
   ·rw[Dm,Dl];exact UP bs p q h4.1 h4.2
  ·simp at hv
 ·simp at hv
end
theorem Ip (b o n:Nat):(⟨b,o,none⟩:Addr).add n=⟨b,o+n,none⟩:=by unfold Addr.add;split <;> simp_all
theorem MU {a:Act}{hi mx:Option Operand}{hi' mx':Option O}(hh:cOo hi=some hi') (hm:cOo mx=some mx') (hmh:(mx'.isSome&& hi'.isNone)=false)
  (h1:hi.map a.eval=none) (h2:∃v,mx.map a.eval=some v):False:=by
 cases hi with
 |some x=>simp at h1
 |none=>
  simp only[cOo,Option.some.injEq]at hh;subst hh;cases mx with
  |none=>simp at h2
  |some y=>
   unfold cOo at hm;simp only at hm;split at hm
   ·simp only[Option.some.injEq]at hm;subst hm;simp at hmh
   ·simp at hm
section
variable {P:Program}{ty:TypeId→Option TyI}{ibs:FuncId→Bool}{ρ:Rho}{e:E}{a:Act}(he:ER ρ e a) (w:World)
include he
theorem UV (hty:TyOk P ty) {t el:TypeId}{j:TyI}(hu:P.underlying t=some (.slice el)) (hj:ty el=some j) {x:Operand}{lo hi mx:Option Operand}{x':O}{lo' hi' mx':Option O}(hx:cO x=some x') (hl:cOo lo=some lo') (hh:cOo hi=some hi') (hm:cOo mx=some mx') (hmh:(mx'.isSome&& hi'.isNone)=false) {v:V}
  (hv:wv e (.sll j.sz x' lo' hi' mx')=some v):
  ∃cv,(Instr.sliceAt t (a.eval x) (lo.map a.eval) (hi.map a.eval) (mx.map a.eval)).run P w= .ok cv w∧VR ρ v cv:=by
 obtain⟨inf,z,hi1,hi2,_,_,_⟩:=hty.info hj;have hsz:∀w,(sizeOf el).run P w= .ok j.sz w:=fun w=>by rw[Dn hi1,hi2]
 simp only[wv]at hv;have red:∀ (q:Value),(Instr.sliceAt t q (lo.map a.eval) (hi.map a.eval) (mx.map a.eval)).run P w= (Instr.slice t q (lo.map a.eval) (hi.map a.eval) (mx.map a.eval)).run P w:=fun q=>by
  unfold Instr.sliceAt;simp only[Sem.run_bind,AE hu,Result.andThen_ok]
 rw[red];split at hv
 ·rename_i h1;rw[show a.eval x= .slice none 0 0 from he.at hx h1];split at hv
  ·rename_i h2 h3 h4;simp only[Option.some.injEq]at hv;subst hv;refine⟨.slice none 0 0,?_,rfl⟩;unfold Instr.slice;simp only[Sem.run_bind,AE hu,Result.andThen_ok];have hb:(Instr.sliceBounds true 0 0 (lo.map a.eval) (hi.map a.eval) (mx.map a.eval)).run P w= .ok (0,0,0) w:=by
    rcases C0 he hm h4 with ⟨hm',_⟩ |⟨k,hm'⟩
    ·rw[hm'];exact JR P w true 0 0 0 0 (C0 he hl h2) (C0 he hh h3) (Nat.le_refl _) (Nat.le_refl _) (Nat.le_refl _)
    ·rw[hm'];rcases C0 he hh h3 with ⟨hh',_⟩ |⟨k',hh'⟩
     ·exact(MU hh hm hmh hh' ⟨_,hm'⟩).elim
     ·exact MR P w 0 0 0 0 0 (C0 he hl h2) ⟨k',hh'⟩ (Nat.le_refl _) (Nat.le_refl _) (Nat.le_refl _)
   simp only[Sem.run_bind,hb,Result.andThen_ok,hsz];rfl
  ·simp at hv
 ·rename_i bl o n sz' full h1;obtain⟨cb,sh,zz,ad,cap,r1,r2,r3,r4,r5,r6,r7⟩:=he.at hx h1;replace hv:=AH hv;obtain⟨h2,hv⟩:=hv;simp only[AO,beq_iff_eq]at h2;subst h2;rw[r2];have fin:∀ (p q m:Nat) (fl:Bool),p≤q→q≤m→m≤cap→(fl=true→m - p=q - p)→(Instr.sliceBounds true n cap (lo.map a.eval) (hi.map a.eval) (mx.map a.eval)).run P w= .ok (p,q,m) w→
    ∃cv,(Instr.slice t (.slice (some ad) n cap) (lo.map a.eval) (hi.map a.eval) (mx.map a.eval)).run P w= .ok cv w∧VR ρ (.c (.l bl (Nat.add o (Nat.mul p j.sz)) (Nat.sub q p) j.sz fl)) cv:=by
   intro p q m fl g1 g2 g3 g4 hb;refine⟨.slice (if m=p then some ad else some (ad.add (p*j.sz))) (q - p) (m - p),?_,?_⟩
   ·unfold Instr.slice;simp only[Sem.run_bind,AE hu,Result.andThen_ok,hb,hsz];rfl
   ·refine⟨cb,sh,zz,if m=p then ad else ad.add (p*j.sz),m - p,r1,?_,by show q - p≤m - p;omega,g4,?_,?_,r7⟩
    ·split <;> rfl
    ·intro hpos;rw[if_neg (by omega),r5 (by omega),Ip]
     show(⟨cb,sh+o+p*j.sz,none⟩:Addr)=⟨cb,sh+ (o+p*j.sz),none⟩
     rw[Nat.add_assoc]
    ·show sh+ (o+p*j.sz)+ (m - p)*j.sz≤zz
     have:p*j.sz+ (m - p)*j.sz=m*j.sz:=by rw[←Nat.add_mul];congr 1;omega
     have h3:m*j.sz≤cap*j.sz:=Nat.mul_le_mul_right _ g3;omega
  cases mx' with
  |none=>
   simp only at hv;split at hv
   ·rename_i p q h3 h4;obtain⟨h5,hv⟩:=AH hv;obtain⟨h5,h6⟩:=FF h5;simp only[Option.some.injEq]at hv;subst hv;have hm0:mx.map a.eval=none:=by
     cases mx with
     |none=>rfl
     |some y=>unfold cOo at hm;simp only at hm;split at hm <;> simp at hm
    refine fin p q cap _ h5 (by omega) (Nat.le_refl _) ?_ ?_
    ·intro hf;simp only[Bool.and_eq_true,AO,beq_iff_eq]at hf;rw[r4 hf.1,hf.2]
    ·rw[hm0];exact JR P w true n cap p q (C0 he hl h3) (C0 he hh h4) h5 h6 r3
   ·simp at hv
  |some m'=>
   simp only at hv;split at hv
   ·rename_i p q m h3 h4 h5;obtain⟨h6,hv⟩:=AH hv;obtain⟨h6,h7,h8⟩:=MH h6;simp only[Option.some.injEq]at hv;subst hv;rcases C0 (d:=0) he hm (n:=m) h5 with ⟨hm',_⟩ |⟨k,hm'⟩
    ·exfalso;cases mx with
     |none=>simp[cOo]at hm
     |some y=>simp at hm'
    ·refine fin p q m _ h6 h7 (by omega) ?_ ?_
     ·intro hf;simp only[AO,beq_iff_eq]at hf;omega
     ·rw[hm'];rcases C0 he hh h4 with ⟨hh',_⟩ |⟨k',hh'⟩
      ·exact(MU hh hm hmh hh' ⟨_,hm'⟩).elim
      ·exact MR P w n cap p q m (C0 he hl h3) ⟨k',hh'⟩ h6 h7 (by omega)
   ·simp at hv
 ·simp at hv
theorem UW (hty:TyOk P ty) {t:TypeId}{fs:Array Field}(hu:P.underlying t=some (.struct fs)) {k:Nat}{f:Field}(hf:fs[k]?=some f) {j:TyI}(hj:ty f.type=some j) (hz:j.sz≠0) {x:Operand}{x':O}(hx:cO x=some x') {v:V}
  (hv:wv e (.fad f.offset x')=some v):∃cv,(Instr.fieldAt t (a.eval x) k).run P w= .ok cv w∧VR ρ v cv:=by
 obtain⟨inf,z,hi1,hi2,_,_,_⟩:=hty.info hj;simp only[wv]at hv;split at hv
 ·rename_i p q h1;simp only[Option.some.injEq]at hv;subst hv;obtain⟨cb,sh,zz,r1,r2⟩:=he.at hx h1;rw[r2];refine⟨.pointer (some (Addr.add ⟨cb,sh+q,none⟩ f.offset)),?_,cb,sh,zz,r1,?_⟩
  ·unfold Instr.fieldAt;simp only[Sem.run_bind,AE hu,Result.andThen_ok,hf];simp only[Instr.sureAddr,fieldPlace,Sem.run_bind,Sem.run_pure,Result.andThen_ok,Dn hi1];rw[if_neg (by rw[hi2];exact hz)];rfl
  ·rw[Ip,Nat.add_assoc];rfl
 ·simp at hv
theorem UX (hty:TyOk P ty) {t:TypeId}{fs:Array Field}(hu:P.underlying t=some (.struct fs)) {k:Nat}{f:Field}(hf:fs[k]?=some f) {j:TyI}(hj:ty f.type=some j) {x:Operand}{x':O}(hx:cO x=some x') {v:V}
  (hv:wv e (.fld f.offset (if Di j.u then some j.sz else none) x')=some v):∃cv,(Instr.field t (a.eval x) k).run P w= .ok cv w∧VR ρ v cv:=by
 obtain⟨inf,z,hi1,hi2,_,_,_⟩:=hty.info hj;have hu2:=hty.under hj;simp only[wv]at hv;have hxv:=he.ov hx;split at hv
 ·rename_i l h1;rw[h1]at hxv;obtain⟨arr,r1,r2⟩:=hxv;rw[r1];have red:∀cv,(part f.type arr f.offset).run P w= .ok cv w→(Instr.field t (.agg arr) k).run P w= .ok cv w:=fun cv hh=>by
   unfold Instr.field;simp only[Sem.run_bind,AE hu,Result.andThen_ok,hf,asAgg,Sem.run_pure,hh]
  cases hag:Di j.u with
  |true=>
   rw[hag]at hv;simp only[if_true]at hv;obtain⟨h2,hv⟩:=AH hv;have h2:=Nat.le_of_ble_eq_true h2;simp only[AB,Nat.add_eq]at h2;simp only[Option.some.injEq]at hv;subst hv;refine⟨.agg (arr.extract f.offset (f.offset+j.sz)),red _ ?_,_,rfl,?_⟩
   ·unfold part;simp only[Sem.run_bind,Io hu2,Result.andThen_ok,hag,if_true,Dn hi1,hi2];rfl
   ·rw[Dm,Dl,Array.toList_extract,List.extract_eq_take_drop];rw[Nat.add_sub_cancel_left];exact(r2.drop _).take _
  |false=>
   rw[hag]at hv;simp only[Bool.false_eq_true,if_false]at hv;split at hv
   ·rename_i s h2;simp only[Option.some.injEq]at hv;subst hv;rw[Ew]at h2;obtain⟨b,h3,h4⟩:=r2.get h2;refine⟨b,red _ ?_,h4⟩;have h5:arr[f.offset]?=some b:=by simpa using h3
    unfold part;simp only[Sem.run_bind,Io hu2,Result.andThen_ok,hag,Bool.false_eq_true,if_false,h5];rfl
   ·simp at hv
 ·simp at hv
theorem UY (hty:TyOk P ty) {t el:TypeId}{j:TyI}(hu:P.underlying t=some (.slice el)) (hj:ty el=some j) {x ix:Operand}{x' ix':O}(hx:cO x=some x') (hix:cO ix=some ix') {v:V}
  (hv:wv e (.iad j.sz x' ix')=some v):∃cv,(Instr.indexAt t (a.eval x) (a.eval ix)).run P w= .ok cv w∧VR ρ v cv:=by
 obtain⟨inf,z,hi1,hi2,_,_,_⟩:=hty.info hj;simp only[wv]at hv;split at hv
 ·rename_i bl o n sz' full h1;obtain⟨cb,sh,zz,ad,cap,r1,r2,r3,r4,r5,r6,r7⟩:=he.at hx h1;split at hv
  ·rename_i i h2;replace hv:=AH hv;obtain⟨h3,hv⟩:=hv;obtain⟨k,h4⟩:=JP he hix h2;obtain⟨h5,h6⟩:=(Bool.and_eq_true _ _).mp h3;rw[AO,beq_iff_eq]at h5;subst h5;have h6:=Nat.le_of_ble_eq_true h6;simp only[Option.some.injEq]at hv;subst hv;rw[r2,h4];have hlt:i < n:=h6;refine⟨.pointer (some (ad.add (i*j.sz))),?_,cb,sh,zz,r1,?_⟩
   ·unfold Instr.indexAt;simp only[asIntOf,Sem.run_bind,Sem.run_pure,Result.andThen_ok,AE hu];have hc:(0≤ (i:Int)∧(i:Int) < (n:Int)):=by omega
    simp only[hc,and_self,if_true,Sem.run_bind,Dn hi1,Result.andThen_ok,hi2,Int.toNat_natCast];rfl
   ·rw[r5 (by omega),Ip,Nat.add_assoc];rfl
  ·simp at hv
 ·simp at hv
theorem UZ {t:TypeId}(hu:P.underlying t=some .string) {x ix:Operand}{x' ix':O}(hx:cO x=some x') (hix:cO ix=some ix') {v:V}
  (hv:wv e (.ixs x' ix')=some v):∃cv,(Instr.index t (a.eval x) (a.eval ix)).run P w= .ok cv w∧VR ρ v cv:=by
 simp only[wv]at hv;split at hv
 ·rename_i l h1;obtain⟨bs,r1,rfl⟩:=he.at hx h1;split at hv
  ·rename_i i h2;obtain⟨k,h4⟩:=JP he hix h2;split at hv
   ·rename_i b h3;simp only[Option.some.injEq]at hv;subst hv;rw[Ew,List.getElem?_map]at h3;obtain⟨c,h5,h6⟩:=Option.map_eq_some_iff.1 h3;rw[r1,h4];subst h6;refine⟨.int .u8 c.toNat,?_,rfl⟩;have h7:bs[i]?=some c:=by
     obtain⟨h8,h9⟩:=List.getElem?_eq_some_iff.1 h5;have h10:i < bs.size:=by simpa using h8
     rw[getElem?_pos bs i h10]
     congr 1
    unfold Instr.index;simp only[asIntOf,Sem.run_bind,Sem.run_pure,Result.andThen_ok,AE hu];have hc:(0:Int)≤ (i:Int):=by omega
    simp only[hc,if_true,Int.toNat_natCast,h7];rfl
   ·simp at hv
  ·simp at hv
 ·simp at hv
end
section
variable {P:Program}{ty:TypeId→Option TyI}{ibs:FuncId→Bool}{ρ:Rho}{e:E}{a:Act}(he:ER ρ e a) (w:World)
include he
theorem Uy (hty:TyOk P ty) {b:Builtin}{args:List Operand}{ts:Array TypeId}{l:List O}(hl:cOs args=some l) {q:W}(h:E7 ty b l ts.toList=some (.w q)) {v:V}(hv:wv e q=some v) (type:TypeId) (cs:Array Bool):
  ∃cv,(builtin b ts type cs (args.map a.eval).toArray).run P w= .ok (.value cv) w∧VR ρ v cv:=by
 have two:∀ {x y:O},cOs args=some [x,y]→ ∃x' y',args=[x',y']∧cO x'=some x∧cO y'=some y:=by
  intro x y h
  match args,h with
  | [x',y'],h=>
   unfold cOs at h;split at h
   ·rename_i y1 m1 h1 h2;simp only[Option.some.injEq,List.cons.injEq]at h;obtain⟨rfl,rfl⟩:=h;unfold cOs at h2;split at h2
    ·rename_i y2 m2 h3 h4;simp only[Option.some.injEq,List.cons.injEq]at h2;obtain⟨rfl,_⟩:=h2;exact⟨x',y',rfl,h1,h3⟩
    ·simp at h2
   ·simp at h
  | [],h=>simp[cOs]at h
  | [x'],h=>unfold cOs at h;split at h <;> simp_all[cOs]
  |x'::y'::z'::r,h=>
   unfold cOs at h;split at h
   ·rename_i y1 m1 h1 h2;simp only[Option.some.injEq,List.cons.injEq]at h;obtain⟨rfl,rfl⟩:=h;unfold cOs at h2;split at h2
    ·rename_i y2 m2 h3 h4;simp only[Option.some.injEq,List.cons.injEq]at h2;obtain⟨rfl,rfl⟩:=h2;unfold cOs at h4;split at h4 <;> simp at h4
    ·simp at h2
   ·simp at h
 have one:∀ {x:O},cOs args=some [x]→ ∃x',args=[x']∧cO x'=some x:=by
  intro x h
  match args,h with
  | [x'],h=>
   unfold cOs at h;split at h
   ·rename_i y1 m1 h1 h2;simp only[Option.some.injEq,List.cons.injEq]at h;obtain⟨rfl,rfl⟩:=h;exact⟨x',rfl,h1⟩
   ·simp at h
  | [],h=>simp[cOs]at h
  |x'::y'::r,h=>
   unfold cOs at h;split at h
   ·rename_i y1 m1 h1 h2;simp only[Option.some.injEq,List.cons.injEq]at h;obtain⟨rfl,rfl⟩:=h;unfold cOs at h2;split at h2 <;> simp at h2
   ·simp at h
 unfold E7 at h;split at h
 ·rename_i x t ht;obtain⟨x',rfl,hx⟩:=one hl;have ht':ts= #[t]:=by rw[←Array.toArray_toList (xs:=ts),ht]
  subst ht';split at h
  ·rename_i i hi;have hu:=hty.under hi;split at h <;> simp only[Option.some.injEq,reduceCtorEq,MO.w.injEq]at h <;> subst h
   ·rename_i hd;rw[hd]at hu;simp only[wv]at hv;split at hv
    ·rename_i l' h1;obtain⟨bs,r1,r2⟩:=he.at hx h1;simp only[Option.some.injEq]at hv;subst hv;refine⟨.int .i64 bs.size,?_,?_⟩
     ·simp only[List.map_cons,List.map_nil,r1];unfold builtin Builtin.len_;simp[AE hu,goInt]
     ·show _=_
      rw[AB,←r2,List.length_map];rfl
    ·simp at hv
   ·rename_i el hd;rw[hd]at hu;simp only[wv]at hv;split at hv <;> simp only[Option.some.injEq,reduceCtorEq]at hv <;> subst hv
    ·rename_i h1;refine⟨.int .i64 0,?_,rfl⟩;rw[show List.map a.eval [x']=[.slice none 0 0]by simp;exact he.at hx h1];unfold builtin Builtin.len_;simp[AE hu,goInt]
    ·rename_i bl o n sz full h1;obtain⟨cb,sh,zz,ad,cap,r1,r2,_⟩:=he.at hx h1;refine⟨.int .i64 n,?_,rfl⟩;simp only[List.map_cons,List.map_nil,r2];unfold builtin Builtin.len_;simp[AE hu,goInt]
  ·simp at h
 ·rename_i x t ht;obtain⟨x',rfl,hx⟩:=one hl;have ht':ts= #[t]:=by rw[←Array.toArray_toList (xs:=ts),ht]
  subst ht';split at h
  ·rename_i i hi;have hu:=hty.under hi;split at h <;> simp only[Option.some.injEq,reduceCtorEq,MO.w.injEq]at h <;> subst h
   ·rename_i el hd;rw[hd]at hu;simp only[wv]at hv;split at hv
    ·rename_i h1;simp only[Option.some.injEq]at hv;subst hv;refine⟨.int .i64 0,?_,rfl⟩;rw[show List.map a.eval [x']=[.slice none 0 0]by simp;exact he.at hx h1];unfold builtin Builtin.cap_;simp[AE hu,goInt]
    ·rename_i bl o n sz full h1;obtain⟨hf,hv⟩:=AH hv;simp only[Option.some.injEq]at hv;subst hv;obtain⟨cb,sh,zz,ad,cap,r1,r2,r3,r4,_⟩:=he.at hx h1;have r5:=r4 hf;refine⟨.int .i64 n,?_,rfl⟩;simp only[List.map_cons,List.map_nil,r2];unfold builtin Builtin.cap_;simp[AE hu,goInt,r5]
    ·simp at hv
  ·simp at h
 ·rename_i x y _;simp only[Option.some.injEq,MO.w.injEq]at h;subst h;obtain⟨x',y',rfl,hx,hy⟩:=two hl;simp only[wv]at hv;split at hv
  ·rename_i p q h1 h2;simp only[Option.some.injEq]at hv;subst hv;refine⟨.int .i64 (if q < p then q else p),?_,?_⟩
   ·rw[show List.map a.eval [x',y']=[.int .i64 p,.int .i64 q]by simp;exact⟨he.at hx h1,he.at hy h2⟩];unfold builtin Builtin.min_;simp[Builtin.min2]
   ·show _=_
    simp only[cond_false,DG]
    congr 1
    by_cases hc:p≤q
    ·simp[hc,show ¬q < p by omega]
    ·simp[hc,show q < p by omega]
  ·simp at hv
 ·rename_i x y _;simp only[Option.some.injEq,MO.w.injEq]at h;subst h;obtain⟨x',y',rfl,hx,hy⟩:=two hl;simp only[wv]at hv;split at hv
  ·rename_i p q h1 h2;simp only[Option.some.injEq]at hv;subst hv;refine⟨.int .i64 (if q > p then q else p),?_,?_⟩
   ·rw[show List.map a.eval [x',y']=[.int .i64 p,.int .i64 q]by simp;exact⟨he.at hx h1,he.at hy h2⟩];unfold builtin Builtin.max_;simp[Builtin.max2]
   ·show _=_
    simp only[cond_true,DG]
    congr 1
    by_cases hc:q≤p
    ·simp[hc,show ¬q > p by omega]
    ·simp[hc,show q > p by omega]
  ·simp at hv
 ·split at h
  ·split at h
   ·simp at h
   ·split at h
    ·simp at h
    ·split at h <;> simp at h
  ·simp at h
 ·split at h
  ·split at h <;> simp at h
  ·simp at h
 ·simp at h
end
end Go.Ev
