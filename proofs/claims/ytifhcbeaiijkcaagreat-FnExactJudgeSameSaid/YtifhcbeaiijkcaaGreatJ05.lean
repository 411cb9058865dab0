/- Parts of the proof of FnExactJudgeSame. -/
import Derived.Test.YtifhcbeaiijkcaaGreatJ03
import Derived.Test.YtifhcbeaiijkcaaGreatJ01
import Derived.Test.YtifhcbeaiijkcaaGreatJ02
import Derived.Test.YtifhcbeaiijkcaaGreatRows
import Derived.Test.YtifhcbeaiijkcaaGreatJ04
import Derived.Deep.RegionHeld3
import Derived.OwnWalk
import Derived.Test.YtifhcbeaiijkcaaGreatJ00
set_option linter.unusedVariables false
set_option linter.unusedSimpArgs false
set_option maxRecDepth 1000000
set_option maxHeartbeats 16000000
section
namespace Go.Proofs.YtifhcbeaiijkcaaGreat
open _root_.Go.World renaming alloc→Wa,setCell→Ws
open _root_.Go.Proofs.Tryz renaming prog→Pq
def Bt {α:Type}(q:α→Bool) (l:List α):Int:=match l.findIdx? q with |some k=>k |none=> -1
theorem Ef {α:Type}{q:α→Bool}{l:List α}{k:Nat}(hk:k < l.length) (h:q l[k]=true) (hj:∀j (h:j < l.length),j < k→q l[j]=false):Bt q l=k:=by
 have:l.findIdx? q=some k:=Kf.2 ⟨hk,h,fun j hlt=>by rw[hj j (by omega) hlt];simp⟩;unfold Bt;rw[this]
theorem Eg {α:Type}{q:α→Bool}{l:List α}(hj:∀j (h:j < l.length),q l[j]=false):Bt q l= -1:=by
 have:l.findIdx? q=none:=Ok.2 fun x hx=>by
  obtain⟨j,h,rfl⟩:=DG hx;exact hj j h
 unfold Bt;rw[this]
theorem Gp {α:Type}(q:α→Bool) (l:List α):(Bt q l= -1∧ ∀j (h:j < l.length),q l[j]=false)∨ ∃k,∃hk:k < l.length,Bt q l=k∧q l[k]=true∧ ∀j (h:j < l.length),j < k→q l[j]=false:=by
 cases h:l.findIdx? q with
 |none=>
  refine .inl ⟨by unfold Bt;rw[h],fun j hj=> ?_⟩;exact Ok.1 h _ (An hj)
 |some k=>
  obtain⟨hk,h1,h2⟩:=Kf.1 h;exact .inr ⟨k,hk,by unfold Bt;rw[h],h1,fun j hj hlt=>by simpa using h2 j hlt⟩
def isD (s:Str) (d:Dt):Bool:=decide (d.name=s)
def isC (s:Str) (c:Cn):Bool:=decide (c.name=s)
def dIx (ds:List Dt) (s:Str):Int:=Bt (isD s) ds
def cIx (cs:List Cn) (s:Str):Int:=Bt (isC s) cs
def ER (s:Str) (d:Dt):Bool:=decide (0≤cIx d.cons s)
def Bp (ds:List Dt) (s:Str):Int×Int:=match ds.findIdx? (ER s)with
 |some k=>(k,cIx (ds.getD k ⟨⟨#[]⟩,0,[]⟩).cons s)
 |none=>(-1, -1)
theorem K0 {ds:List Dt}{s:Str}{k:Nat}(hk:k < ds.length) (h:0≤cIx ds[k].cons s) (hj:∀j (h:j < ds.length),j < k→ ¬0≤cIx ds[j].cons s):Bp ds s= ((k:Int),cIx ds[k].cons s):=by
 have:ds.findIdx? (ER s)=some k:=Kf.2 ⟨hk,Ax h,fun j hlt=>by
  have:=hj j (by omega) hlt;unfold ER;rw[AF this];simp⟩
 unfold Bp;rw[this];simp[List.getD,Ay hk]
theorem La {ds:List Dt}{s:Str}(hj:∀j (h:j < ds.length),¬0≤cIx ds[j].cons s):Bp ds s= (-1, -1):=by
 have:ds.findIdx? (ER s)=none:=Ok.2 fun x hx=>by
  obtain⟨j,h,rfl⟩:=DG hx;unfold ER;exact AF (hj j h)
 unfold Bp;rw[this]
theorem I4 (cs:List Cn) (s:Str):(cIx cs s= -1∧ ∀j (h:j < cs.length),cs[j].name≠s)∨ ∃k,∃hk:k < cs.length,cIx cs s=k∧cs[k].name=s∧ ∀j (h:j < cs.length),j < k→cs[j].name≠s:=by
 rcases Gp (isC s) cs with ⟨h1,h2⟩ |⟨k,hk,h1,h2,h3⟩
 ·exact .inl ⟨h1,fun j hj=>of_decide_eq_false (h2 j hj)⟩
 ·exact .inr ⟨k,hk,h1,of_decide_eq_true h2,fun j hj hlt=>of_decide_eq_false (h3 j hj hlt)⟩
theorem Lb (cs:List Dt) (s:Str):(dIx cs s= -1∧ ∀j (h:j < cs.length),cs[j].name≠s)∨ ∃k,∃hk:k < cs.length,dIx cs s=k∧cs[k].name=s∧ ∀j (h:j < cs.length),j < k→cs[j].name≠s:=by
 rcases Gp (isD s) cs with ⟨h1,h2⟩ |⟨k,hk,h1,h2,h3⟩
 ·exact .inl ⟨h1,fun j hj=>of_decide_eq_false (h2 j hj)⟩
 ·exact .inr ⟨k,hk,h1,of_decide_eq_true h2,fun j hj hlt=>of_decide_eq_false (h3 j hj hlt)⟩
theorem PR {cs:List Dt}{s:Str}{k:Nat}(hk:k < cs.length) (h:cs[k].name=s) (hj:∀j (h:j < cs.length),j < k→cs[j].name≠s):dIx cs s=k:=
 Ef hk (Ax h) fun j h1 h2=>AF (hj j h1 h2)
theorem PS {cs:List Dt}{s:Str}(hj:∀j (h:j < cs.length),cs[j].name≠s):dIx cs s= -1:=Eg fun j h=>AF (hj j h)
theorem Gq (ds:List Dt) (s:Str):(Bp ds s= (-1, -1)∧ ∀i (h:i < ds.length) k (hk:k < ds[i].cons.length),ds[i].cons[k].name≠s)∨ ∃i,∃hi:i < ds.length,∃k,∃hk:k < ds[i].cons.length,Bp ds s= ((i:Int),(k:Int))∧ds[i].cons[k].name=s∧(∀j (h:j < ds[i].cons.length),j < k→ds[i].cons[j].name≠s)∧ ∀j (h:j < ds.length),j < i→ ∀l (hl:l < ds[j].cons.length),ds[j].cons[l].name≠s:=by
 have neg:∀d:Dt,¬0≤cIx d.cons s→ ∀l (hl:l < d.cons.length),d.cons[l].name≠s:=fun d h=>by
  rcases I4 d.cons s with ⟨_,h2⟩ |⟨k,hk,h1,_⟩
  ·exact h2
  ·omega
 rcases Gp (ER s) ds with ⟨-,h2⟩ |⟨i,hi, -,h2,h3⟩
 ·have h2':=fun j h=>of_decide_eq_false (h2 j h);exact .inl ⟨La h2',fun i h=>neg _ (h2' i h)⟩
 ·have h2':0≤cIx ds[i].cons s:=of_decide_eq_true h2;have h3':=fun j h hj=>of_decide_eq_false (h3 j h hj);have e:=K0 hi h2' h3';rcases I4 ds[i].cons s with ⟨h,_⟩ |⟨k,hk,h4,h5,h6⟩
  ·omega
  ·exact .inr ⟨i,hi,k,hk,by rw[e,h4],h5,h6,fun j h hj=>neg _ (h3' j h hj)⟩
def arP (ds:List Dt) (s:Str):Option Nat:=match Bp ds s with
 | (i,k)=>if 0≤i then some ((((ds.getD i.toNat ⟨⟨#[]⟩,0,[]⟩).cons.getD k.toNat ⟨⟨#[]⟩,[]⟩).args).length)else none
theorem Lc {ds:List Dt}{s:Str}{i k:Nat}(hi:i < ds.length) (hk:k < ds[i].cons.length) (h:Bp ds s= ((i:Int),(k:Int))):arP ds s=some ds[i].cons[k].args.length:=by
 unfold arP;rw[h];simp[List.getD,Ay hi,Ay hk]
theorem Ld {ds:List Dt}{s:Str}(h:Bp ds s= (-1, -1)):arP ds s=none:=by
 unfold arP;rw[h];rfl
def As (q:Tp→Bool):Tp→Bool
 | .mk op n s ks=>q (.mk op n s ks)&& allTys q ks
where allTys (q:Tp→Bool):List Tp→Bool
 | []=>true
 |k::ks=>As q k&& allTys q ks
theorem EB (q:Tp→Bool) (x:Tp):As q x= (q x&& As.allTys q x.kids):=by cases x;rfl
theorem DW (q:Tp→Bool):∀ (ks:List Tp),As.allTys q ks=ks.all (As q)
 | []=>rfl
 |k::ks=>by rw[As.allTys,DW q ks];rfl
def Bu (q:Tp→Bool) (ds:List Dt):Bool:=ds.all fun d=>d.cons.all fun c=>c.args.all (As q)
def Cs (ds:List Dt) (t:Tp):Bool:=!(decide (t.op=4)) || decide (0≤dIx ds t.s)
def ET (ds:List Dt) (s:Str):Int:=(ds.getD (dIx ds s).toNat ⟨⟨#[]⟩,0,[]⟩).vars
def Di (ds:List Dt) (t:Tp):Bool:=!(decide (t.op=4)) || decide ((t.kids.length:Int)=ET ds t.s)
def BE:List Dt→Nat
 | []=>0
 |d::ds=>d.cons.length+BE ds
def Hh (ds:List Dt):Prop:=(∀i (h:i < ds.length),dIx ds ds[i].name=i)∧ ∀i (h:i < ds.length) k (hk:k < ds[i].cons.length),Bp ds ds[i].cons[k].name= ((i:Int),(k:Int))
end Go.Proofs.YtifhcbeaiijkcaaGreat
end
section
namespace Go.Proofs.YtifhcbeaiijkcaaGreat
open Go.RowKit
open _root_.Go.World renaming alloc→Wa,setCell→Ws
open _root_.Go.Proofs.Tryz renaming prog→Pq
theorem M5 (n:Int):DD n=if 1073741823 < n.tmod 2147483648 then n.tmod 2147483648 - 2147483648 else if n.tmod 2147483648 < -1073741824 then n.tmod 2147483648+2147483648 else n.tmod 2147483648:=rfl
theorem GK (op a b:Int):Do op a b=if op=10 then DD (a+b)else if op=11 then DD (a - b)else if op=12 then DD (a*b)else if(op=13∧a < b)∨(op=14∧a=b)then 1 else 0:=by
 unfold Do;by_cases h1:op=10
 ·rw[Af h1,Af h1]
 rw[Ae h1,Ae h1];by_cases h2:op=11
 ·rw[Af h2,Af h2]
 rw[Ae h2,Ae h2];by_cases h3:op=12
 ·rw[Af h3,Af h3]
 rw[Ae h3,Ae h3];by_cases h4:op=13
 ·rw[Af h4];simp[h4]
 rw[Ae h4];by_cases h5:op=14
 ·rw[Af h5];simp[h5]
 ·rw[Ae h5];simp[h4,h5]
theorem M6 (n:Int):-2147483648 < n.tmod 2147483648∧n.tmod 2147483648 < 2147483648:=by
 constructor
 ·have:=Int.lt_tmod_of_pos n (show(0:Int) < 2147483648 by omega);omega
 ·exact Int.tmod_lt_of_pos n (by omega)
theorem TG (n:Int) (w:World):
  Calls Pq 169 #[.int .i64 n] w fun e w'=>e= .returned (.int .i64 (DD n))∧w=w':=by
 obtain⟨r,hr⟩:∃r,n.tmod 2147483648=r:=⟨_,rfl⟩;have hb:=M6 n;rw[hr]at hb;obtain⟨h1,h2⟩:=hb;have hw:IntKind.i64.wrap r=r:=AX _ (by omega);have hR:DD n=if 1073741823 < r then r - 2147483648 else if r < -1073741824 then r+2147483648 else r:=by rw[M5,hr]
 rcases Int.lt_or_le 1073741823 r with c1 |c1
 ·rw[Af c1]at hR;have HR:=Aa hR;go_enter Tryz.func169,Tryz.ntmps169;go_wp2;go_ret;rw[HR.out];exact⟨rfl,rfl⟩
 ·rw[Ae (by omega)]at hR;rcases Int.lt_or_le r (-1073741824)with c2 |c2
  ·rw[Af c2]at hR;have HR:=Aa hR;go_enter Tryz.func169,Tryz.ntmps169;go_wp2;go_ret;rw[HR.out];exact⟨rfl,rfl⟩
  ·rw[Ae (by omega)]at hR;have HR:=Aa hR;go_enter Tryz.func169,Tryz.ntmps169;go_wp2;go_ret;rw[HR.out];exact⟨rfl,rfl⟩
theorem TH (n:Int) (w:World):
  Calls Pq 217 #[.int .i64 n] w fun e w'=>e= .returned (.int .i64 (DD n))∧w=w':=by
 obtain⟨r,hr⟩:∃r,n%2147483648=r:=⟨_,rfl⟩;have hb:0≤r∧r < 2147483648:=by omega
 obtain⟨h1,h2⟩:=hb;have hw:IntKind.i64.wrap (r - 2147483648)=r - 2147483648:=AX _ (by omega);have hR:DD n=if 1073741823 < r then r - 2147483648 else r:=by
  rw[M5];have ht:n.tmod 2147483648=r∨n.tmod 2147483648=r - 2147483648:=by
   rw[Int.tmod_eq_emod];split
   ·left;omega
   ·right;rw[hr];rfl
  have hbd:=M6 n;rcases ht with e |e
  ·rw[e];split
   ·rfl
   ·rw[Ae (by omega)]
  ·rw[e]at hbd ⊢;by_cases c:1073741823 < r
   ·rw[Af c,Ae (by omega),Ae (by omega)]
   ·rw[Ae c,Ae (by omega),Af (by omega)];omega
 rcases Int.lt_or_le 1073741823 r with c1 |c1
 ·rw[Af c1]at hR;have HR:=Aa hR;go_enter Tryz.func217,Tryz.ntmps217;go_wp2;go_ret;rw[HR.out];exact⟨rfl,rfl⟩
 ·rw[Ae (by omega)]at hR;have HR:=Aa hR;go_enter Tryz.func217,Tryz.ntmps217;go_wp2;go_ret;rw[HR.out];exact⟨rfl,rfl⟩
theorem GL (op a b:Int) (ha:-1073741824≤a∧a≤1073741823) (hb:-1073741824≤b∧b≤1073741823) (w:World):
  Calls Pq 109 #[.int .i64 op,.int .i64 a,.int .i64 b] w fun e w'=>e= .returned (.int .i64 (Do op a b))∧w=w':=by
 obtain⟨a1,a2⟩:=ha;obtain⟨b1,b2⟩:=hb;have HR:=Aa TG;have hm:-1152921504606846976≤a*b∧a*b≤1152921504606846976:=by
  have:(a*b).natAbs≤1073741824*1073741824:=by rw[Int.natAbs_mul];exact Nat.mul_le_mul (by omega) (by omega)
  omega
 have e1:IntKind.i64.wrap (a+b)=a+b:=AX _ (by omega);have e2:IntKind.i64.wrap (a - b)=a - b:=AX _ (by omega);have e3:IntKind.i64.wrap (a*b)=a*b:=AX _ (by omega);obtain⟨z,hz⟩:∃z,Do op a b=z:=⟨_,rfl⟩;have HZ:=Aa hz;rw[hz];by_cases c10:op=10
 ·subst c10;clear hz hm e2 e3;go_enter Tryz.func109,Tryz.ntmps109;go_wp2_with (go_at_call 169;refine(HR.out _ _).mono ?_;rintro e w' ⟨rfl,rfl⟩);go_ret;exact⟨Ap (by rw[←HZ.out];simp[GK]),rfl⟩
 by_cases c11:op=11
 ·subst c11;clear hz hm e1 e3;go_enter Tryz.func109,Tryz.ntmps109;go_wp2_with (go_at_call 169;refine(HR.out _ _).mono ?_;rintro e w' ⟨rfl,rfl⟩);go_ret;exact⟨Ap (by rw[←HZ.out];simp[GK]),rfl⟩
 by_cases c12:op=12
 ·subst c12;clear hz hm e1 e2;go_enter Tryz.func109,Tryz.ntmps109;go_wp2_with (go_at_call 169;refine(HR.out _ _).mono ?_;rintro e w' ⟨rfl,rfl⟩);go_ret;exact⟨Ap (by rw[←HZ.out];simp[GK]),rfl⟩
 have n1:(op==10)=false:=by simp[c10]
 have n2:(op==11)=false:=by simp[c11]
 have n3:(op==12)=false:=by simp[c12]
 rw[GK]at hz;rw[Ae c10,Ae c11,Ae c12]at hz;by_cases c:(op=13∧a < b)∨(op=14∧a=b)
 ·rw[Af c]at hz;subst hz;clear HZ;rcases c with ⟨rfl,c⟩ |⟨rfl,rfl⟩
  ·go_enter Tryz.func109,Tryz.ntmps109;go_wp2;go_ret;exact⟨rfl,rfl⟩
  ·go_enter Tryz.func109,Tryz.ntmps109;go_wp2;go_ret;exact⟨rfl,rfl⟩
 ·rw[Ae c]at hz;subst hz;clear HZ;by_cases c13:op=13
  ·subst c13;have c':¬a < b:=fun h=>c (.inl ⟨rfl,h⟩);go_enter Tryz.func109,Tryz.ntmps109;go_wp2;go_ret;exact⟨rfl,rfl⟩
  ·by_cases c14:op=14
   ·subst c14;have c':¬a=b:=fun h=>c (.inr ⟨rfl,h⟩);have c'':(a==b)=false:=by simp[c']
    go_enter Tryz.func109,Tryz.ntmps109;go_wp2;go_ret;exact⟨rfl,rfl⟩
   ·have n4:(op==13)=false:=by simp[c13]
    have n5:(op==14)=false:=by simp[c14]
    go_enter Tryz.func109,Tryz.ntmps109;go_wp2;go_ret;exact⟨rfl,rfl⟩
theorem TI (b:Bool) (w:World):Calls Pq 218 #[.bool b] w fun e w'=>e= .returned (.int .i64 (if b=true then 1 else 0))∧w=w':=by
 cases b with
 |true=>
  go_enter Tryz.func218,Tryz.ntmps218;go_wp2;go_ret;exact⟨rfl,rfl⟩
 |false=>
  go_enter Tryz.func218,Tryz.ntmps218;go_wp2;go_ret;exact⟨rfl,rfl⟩
theorem TJ (op a b:Int) (ho:10≤op∧op≤14) (ha:-1073741824≤a∧a≤1073741823) (hb:-1073741824≤b∧b≤1073741823) (w:World):
  Calls Pq 178 #[.int .i64 op,.int .i64 a,.int .i64 b] w fun e w'=>e= .returned (.int .i64 (Do op a b))∧w=w':=by
 obtain⟨a1,a2⟩:=ha;obtain⟨b1,b2⟩:=hb;have HR:=Aa TH;have HB:=Aa TI;have hm:-1152921504606846976≤a*b∧a*b≤1152921504606846976:=by
  have:(a*b).natAbs≤1073741824*1073741824:=by rw[Int.natAbs_mul];exact Nat.mul_le_mul (by omega) (by omega)
  omega
 have e1:IntKind.i64.wrap (a+b)=a+b:=AX _ (by omega);have e2:IntKind.i64.wrap (a - b)=a - b:=AX _ (by omega);have e3:IntKind.i64.wrap (a*b)=a*b:=AX _ (by omega);obtain⟨z,hz⟩:∃z,Do op a b=z:=⟨_,rfl⟩;have HZ:=Aa (hz.symm.trans (GK op a b));rw[hz];clear hz;by_cases c10:op=10
 ·subst c10;clear hm e2 e3;go_enter Tryz.func178,Tryz.ntmps178;go_wp2_with (go_at_call 217;refine(HR.out _ _).mono ?_;rintro e w' ⟨rfl,rfl⟩);go_ret;exact⟨Ap (by rw[HZ.out];simp),rfl⟩
 by_cases c11:op=11
 ·subst c11;clear hm e1 e3;go_enter Tryz.func178,Tryz.ntmps178;go_wp2_with (go_at_call 217;refine(HR.out _ _).mono ?_;rintro e w' ⟨rfl,rfl⟩);go_ret;exact⟨Ap (by rw[HZ.out];simp),rfl⟩
 by_cases c12:op=12
 ·subst c12;clear hm e1 e2;go_enter Tryz.func178,Tryz.ntmps178;go_wp2_with (go_at_call 217;refine(HR.out _ _).mono ?_;rintro e w' ⟨rfl,rfl⟩);go_ret;exact⟨Ap (by rw[HZ.out];simp),rfl⟩
 clear hm e1 e2 e3;by_cases c13:op=13
 ·subst c13;by_cases h:a < b
  ·have hv:=Aa (show z=1 by rw[HZ.out];simp[h]);go_enter Tryz.func178,Tryz.ntmps178;go_wp2_with fail;refine(HB.out _ _).mono ?_;rintro e w' ⟨rfl,rfl⟩;go_wp2;go_ret;exact⟨Ap (by rw[hv.out]),rfl⟩
  ·have hv:=Aa (show z=0 by rw[HZ.out];simp;omega);go_enter Tryz.func178,Tryz.ntmps178;go_wp2_with fail;refine(HB.out _ _).mono ?_;rintro e w' ⟨rfl,rfl⟩;go_wp2;go_ret;exact⟨Ap (by rw[hv.out]),rfl⟩
 ·have c14:op=14:=by omega
  subst c14;by_cases h:a=b
  ·have hv:=Aa (show z=1 by rw[HZ.out];simp[h]);subst h;go_enter Tryz.func178,Tryz.ntmps178;go_wp2_with fail;refine(HB.out _ _).mono ?_;rintro e w' ⟨rfl,rfl⟩;go_wp2;go_ret;exact⟨Ap (by rw[hv.out]),rfl⟩
  ·have hv:=Aa (show z=0 by rw[HZ.out];simp;omega);have hb:(a==b)=false:=by simp[h]
   go_enter Tryz.func178,Tryz.ntmps178;go_wp2_with fail;refine(HB.out _ _).mono ?_;rintro e w' ⟨rfl,rfl⟩;go_wp2;go_ret;exact⟨Ap (by rw[hv.out]),rfl⟩
theorem Bx.st {w:World}{g:Nat}{cur:Array Value}(h:Bx w g cur) (i:Nat) (hi:i < cur.size) (u:Value):Bx (w.setCell ⟨g,i,none⟩ u) g (cur.setIfInBounds i u):=by
 refine⟨by rw[AP];exact h.1,fun j=> ?_,fun j=>by rw[World.frozen?_setCell];exact h.2.2 j⟩;by_cases hj:i=j
 ·subst hj;rw[World.cell?_setCell_same _ _ _ ((h.2.1 i).trans (J8 hi))];simp[hi]
 ·rw[Kh _ _ _ _ (by intro he;injection he;exact hj (by assumption)),h.2.1 j,Array.getElem?_setIfInBounds_ne hj]
structure Ev (B g:Nat) (lv:Value) (w:World) (fuel code:Int) (out:List Int) (r:Option Nat):Prop where
 bx:∃ov,Bx w g #[lv,.int .i64 fuel,.int .i64 code,ov]∧w.ownsRow B 3 1 ov out.length (out.map (Value.int .i64))∧ov.ownBlock=r
 gB:B≤g∧B≤w.heap.size
 ne:r≠some g
theorem Ev.row {B g:Nat}{lv:Value}{w:World}{f c:Int}{o:List Int}{r:Option Nat}(h:Ev B g lv w f c o r):∀k,r=some k→B≤k∧k < w.heap.size:=fun k e=>by
 obtain⟨ov, -,h2,h3⟩:=h.bx;rw[←h3]at e;exact h2.lt k e
theorem Ev.lt {B g:Nat}{lv:Value}{w:World}{f c:Int}{o:List Int}{r:Option Nat}(h:Ev B g lv w f c o r):g < w.heap.size:=by
 obtain⟨ov,h1, -, -⟩:=h.bx;exact h1.1
theorem Ev.tw {B g:Nat}{lv:Value}{w w':World}{f c:Int}{o:List Int}{r r':Option Nat}(h:Ev B g lv w f c o r) (t:Tw g r r' w w'):Below B w w':=t.below h.gB.2 h.gB.1 (fun k e=>(h.row k e).1)
theorem Ev.refl {B g:Nat}{lv:Value}{w:World}{f c:Int}{o:List Int}{r:Option Nat}(h:Ev B g lv w f c o r):Tw g r r w w:=Tw.refl (fun k e=>(h.row k e).2)
theorem Ev.same {B g:Nat}{lv:Value}{w w':World}{f c:Int}{o:List Int}{r:Option Nat}(h:Ev B g lv w f c o r) (b:Below w.heap.size w w'):Ev B g lv w' f c o r∧Tw g r r w w':=by
 obtain⟨ov,h1,h2,h3⟩:=h.bx;exact⟨⟨⟨ov,h1.below b h1.1,Bm h2 b (A5 h2),h3⟩,⟨h.gB.1,At h.gB.2 b.size⟩,h.ne⟩,Tw.of_below b (fun k e=>(h.row k e).2)⟩
theorem Tw.of_set {g:Nat}{r:Option Nat}{w:World}{i:Nat}{u:Value}(hr:∀k,r=some k→k < w.heap.size):Tw g r r w (w.setCell ⟨g,i,none⟩ u):=
 ⟨rfl,rfl,rfl,by rw[AP];exact Ad _,fun k _ hg _=>Below.heap_setCell _ _ _ _ hg,fun k e=>⟨.inl e,by rw[AP];exact hr k e⟩,id⟩
theorem Ev.setF {B g:Nat}{lv:Value}{w:World}{f c:Int}{o:List Int}{r:Option Nat}(h:Ev B g lv w f c o r) (f':Int):Ev B g lv (w.setCell ⟨g,1,none⟩ (.int .i64 f')) f' c o r∧Tw g r r w (w.setCell ⟨g,1,none⟩ (.int .i64 f')):=by
 obtain⟨ov,h1,h2,h3⟩:=h.bx;refine⟨⟨⟨ov,by simpa using h1.st 1 (by simp) (.int .i64 f'),h2.kept (grownBy.setCell w g 1 _) (.inr (by rw[h3];exact h.ne)),h3⟩,⟨h.gB.1,by rw[AP];exact h.gB.2⟩,h.ne⟩,Tw.of_set (fun k e=>(h.row k e).2)⟩
theorem Ev.setC {B g:Nat}{lv:Value}{w:World}{f c:Int}{o:List Int}{r:Option Nat}(h:Ev B g lv w f c o r) (c':Int):Ev B g lv (w.setCell ⟨g,2,none⟩ (.int .i64 c')) f c' o r∧Tw g r r w (w.setCell ⟨g,2,none⟩ (.int .i64 c')):=by
 obtain⟨ov,h1,h2,h3⟩:=h.bx;refine⟨⟨⟨ov,by simpa using h1.st 2 (by simp) (.int .i64 c'),h2.kept (grownBy.setCell w g 2 _) (.inr (by rw[h3];exact h.ne)),h3⟩,⟨h.gB.1,by rw[AP];exact h.gB.2⟩,h.ne⟩,Tw.of_set (fun k e=>(h.row k e).2)⟩
def ResI (B:Nat) (X:Nat→Prop) (g:Nat) (lv:Value) (res:Rs Vl) (tv:Value) (w:World) (r:Option Nat):Prop:=match res with
 | .ok v s=>RdX B X g r w tv (.th v)∧Ev B g lv w s.fuel 0 s.out r∧s.out.length+s.fuel≤4000∧Good (.th v)
 | .bad c o=>(c=1∨c=2)∧o.length≤4000∧ ∃f,Ev B g lv w f c o r
theorem Fx {B g:Nat}{lv:Value}{w:World}{f:Int}{o:List Int}{r:Option Nat}(h:Ev B g lv w f 0 o r) (c:Int):
  Calls Pq 102 #[.pointer (some ⟨g,0,none⟩),.int .i64 c] w fun e w'=>(∃a,e= .returned (.pointer a))∧Ev B g lv w' f c o r∧Tw g r r w w':=by
 have S1:=Aa (fun(W:World) (cur:Array Value) (e:TypeId) (hx:(w.setCell ⟨g,2,none⟩ (.int .i64 c)).alloc (.cells cur e)=W)=>(by
  obtain⟨e1,t1⟩:=h.setC c;obtain⟨b2, -⟩:=Bx.alloc hx;obtain⟨e2,t2⟩:=e1.same b2;exact⟨e2,t1.trans t2⟩:Ev B g lv W f c o r∧Tw g r r w W))
 obtain⟨ov,h1, -, -⟩:=h.bx;have q1:=h1.2.1;have f1:=h1.2.2;clear h h1;go_enter Tryz.func102,Tryz.ntmps102;go_wp2_with fail;go_ret;exact⟨⟨_,rfl⟩,S1.out _ _ _ rfl⟩
def kdV:Vl→Int | .int _=>1 | .con _ _=>2 | .fn _ _ _ _=>3
def nmV:Vl→Int | .int n=>n |_=>0
def tgV:Vl→Str | .con s _=>s |_=>eS
def ksV:Vl→List Vl | .con _ vs=>vs |_=> []
theorem RdX.th_form {B g:Nat}{X:Nat→Prop}{r:Option Nat}{w:World}{tv:Value}{v:Vl}(h:RdX B X g r w tv (.th v)):∃b kv name x bv ev,tv= .pointer (some ⟨b,0,none⟩)∧Kp X g r w b∧(∀j,w.cell? ⟨b,j,none⟩= (thC (kdV v) (nmV v) (tgV v) kv name x bv ev)[j]?)∧
  ∃pv,PvAt X g r w kv (ksV v).length pv∧ ∀j (h:j < (ksV v).length),RdX B X g r w (pv j) (.th (ksV v)[j]):=by
 cases h with
 |int b n hk hc=>exact⟨b,_,_,_,_,_,rfl,hk,hc,fun _=>AC,.inl ⟨rfl,_,_,rfl⟩,fun j h=>absurd h (Aw j)⟩
 |con b s kv vs pv hk hc hp hv=>exact⟨b,kv,_,_,_,_,rfl,hk,hc,pv,hp,hv⟩
 |fn b arg body env bv ev hk hc _ _=>exact⟨b,_,_,_,_,_,rfl,hk,hc,fun _=>AC,.inl ⟨rfl,_,_,rfl⟩,fun j h=>absurd h (Aw j)⟩
 |rec_ b sb arg self body env bv ev _ hk hc _ _ _ _=>exact⟨b,_,_,_,_,_,rfl,hk,hc,fun _=>AC,.inl ⟨rfl,_,_,rfl⟩,fun j h=>absurd h (Aw j)⟩
def AsI (B g:Nat) (lv:Value) (v:Vl) (f:Int) (o:List Int) (r:Option Nat) (w:World) (e:Ending) (w':World):Prop:=e= .returned (.int .i64 (nmV v))∧Ev B g lv w' f (if kdV v=1 then 0 else 2) o r∧Tw g r r w w'
theorem DT {B g:Nat}{X:Nat→Prop}{lv:Value}{w:World}{f:Int}{o:List Int}{r:Option Nat}{tv:Value}{v:Vl}(h:Ev B g lv w f 0 o r) (ht:RdX B X g r w tv (.th v)):
  Calls Pq 108 #[.pointer (some ⟨g,0,none⟩),tv] w (AsI B g lv v f o r w):=by
 obtain⟨b,kv,name,x,bv,ev,rfl,hk,hc, -⟩:=ht.th_form;have H:=Aa h;have HF:=Aa (Fx h 2);obtain⟨ov,h1, -, -⟩:=h.bx;have q1:=h1.2.1;clear h h1 ht;unfold thC at hc;generalize hnv:nmV v=nv at*;have NV:=Aa hnv;clear hnv;generalize tgV v=sv at*;by_cases k1:kdV v=1
 ·have K1:=Aa k1;rw[k1]at hc;clear k1;go_enter Tryz.func108,Tryz.ntmps108;go_wp2;go_ret;unfold AsI;rw[Af K1.out,NV.out];exact⟨rfl,H.out,H.out.refl⟩
 ·have hkb:(kdV v !=1)=true:=by simpa using k1
  have K1:=Aa k1;have HC:=Aa (fun(W:World) (t:Tw g r r w W)=>(fun j=>(hk.cell t).trans (hc j):∀j,W.cell? ⟨b,j,none⟩=_));generalize hkd:kdV v=kd at*;have KD:=Aa hkd;clear k1 hkd;go_enter Tryz.func108,Tryz.ntmps108;go_wp2_with fail;refine HF.out.mono ?_;rintro e w2 ⟨⟨tv,rfl⟩,e2,t2⟩;have E2:=Aa e2;have T2:=Aa t2;have hc2:=HC.out w2 t2;clear q1 hc e2 t2;go_wp2;go_ret;unfold AsI;rw[KD.out,Ae K1.out,NV.out];exact⟨rfl,E2.out,T2.out⟩
theorem F0 {B g:Nat}{X:Nat→Prop}{lv:Value}{w:World}{f c:Int}{o:List Int}{r:Option Nat}(h:Ev B g lv w f c o r) (hX:∀b,X b→b < w.heap.size) (n:Int):
  Calls Pq 103 #[.int .i64 n] w fun e w'=>∃tv,e= .returned tv∧RdX B X g r w' tv (.th (.int n))∧Ev B g lv w' f c o r∧Tw g r r w w':=by
 have S1:=Aa (fun(W:World) (e:TypeId) (hx:w.alloc (.cells (thC 1 n eS AC eS Nd.zero AC noP) e)=W)=>(by
  obtain⟨b2,k2⟩:=Bx.alloc hx;obtain⟨e2,t2⟩:=h.same b2;refine⟨.int _ _ ⟨?_,fun e=> ?_,k2.1,fun e=> ?_⟩ k2.2.1,e2,t2⟩
  ·have:=h.lt;omega
  ·have:=(h.row _ e).2;omega
  ·have:=hX _ e;omega:RdX B X g r W (.pointer (some ⟨w.heap.size,0,none⟩)) (.th (.int n))∧Ev B g lv W f c o r∧Tw g r r w W))
 clear h;go_enter Tryz.func103,Tryz.ntmps103;go_wp2_with fail;go_ret;exact⟨_,rfl,S1.out _ _ rfl⟩
theorem Ob {B g:Nat}{X:Nat→Prop}{r:Option Nat}{w:World}:∀ (e1 e2:Env) (p:Value),RdX B X g r w p (.sc e1)→RdX B X g r w p (.sc e2)→e1.length=e2.length
 | [],e2,p,h1,h2=>by
  cases h1
  cases h2
  rfl
 |a::e1,e2,p,h1,h2=>by
  obtain⟨name,v⟩:=a;cases h1 with
  |cons sb _ tv up _ _ hs hd ht hu=>
   cases h2 with
   |cons _ name' tv' up' v' e'' hs' hd' ht' hu'=>
    have hup:up'=up:=by
     have a:=hd' 2;have b:=hd 2;rw[b]at a;simp only[scC]at a;injection a with a
     exact a.symm
    subst hup;simp only[List.length_cons];rw[Ob e1 e'' up' hu hu']
noncomputable def F6 (B:Nat) (X:Nat→Prop) (g:Nat) (r:Option Nat) (w:World) (p:Value):Nat:=@dite _ (∃e:Env,RdX B X g r w p (.sc e)) (Classical.propDecidable _) (fun h=>(Classical.choose h).length) (fun _=>0)
theorem Vh {B g:Nat}{X:Nat→Prop}{r:Option Nat}{w:World}{p:Value}{e:Env}(h:RdX B X g r w p (.sc e)):F6 B X g r w p=e.length:=by
 have hp:∃e:Env,RdX B X g r w p (.sc e):=⟨e,h⟩;have e1:F6 B X g r w p= (Classical.choose hp).length:=by unfold F6;exact @dif_pos _ (Classical.propDecidable _) hp _ _ _
 rw[e1];exact Ob _ _ p (Classical.choose_spec hp) h
def LkR (B:Nat) (X:Nat→Prop) (g:Nat) (r:Option Nat) (w:World) (o:Option Vl) (e:Ending):Prop:=∃tv,e= .returned tv∧match o with |some v=>RdX B X g r w tv (.th v) |none=>tv= .pointer none
theorem Vi {B g:Nat}{X:Nat→Prop}{r:Option Nat}{w:World}{ev:Value}{env:Env}(s:Str) (h:RdX B X g r w ev (.sc env)):
  Calls Pq 104 #[ev,.string s] w fun e w'=>LkR B X g r w (look env s) e∧w'=w:=by
 have HL:=Aa (fun(p:Value) (e:Env) (h:RdX B X g r w p (.sc e))=>Vh h);have h:=Aa h;go_enter Tryz.func104,Tryz.ntmps104;go_wp2
 go_loop [0] (fun p=>∃e':Env,RdX B X g r w p (.sc e')∧Hid (look e' s=look env s)) (fun p=>F6 B X g r w p)
 case atStart=>exact⟨env,h.out,Aa rfl⟩
 case round=>
  obtain⟨e',hp,he⟩:=hrel;cases e' with
  |nil=>
   cases hp
   have hn:=Aa (he.out.symm.trans (rfl:look [] s=none));go_wp2;go_ret;refine⟨?_,rfl⟩;rw[hn.out];exact⟨_,rfl,rfl⟩
  |cons a e''=>
   obtain⟨name,v⟩:=a;have HP:=Aa hp;cases hp with
   |cons sb _ tv up _ _ hs hd ht hu=>
    have HT:=Aa ht;have HU:=Aa hu;have HLT:=Aa (show F6 B X g r w up < F6 B X g r w (.pointer (some ⟨sb,0,none⟩))by rw[HL.out _ _ HP.out,HL.out _ _ hu];simp);unfold scC at hd;clear hs ht hu;by_cases hn:name=s
    ·have hq:=Dz hn;have hy:=Aa (he.out.symm.trans (show look ((name,v)::e'') s=some v by unfold look;rw[Af hn]));clear hn;go_wp2;go_ret;refine⟨?_,rfl⟩;rw[hy.out];exact⟨_,rfl,HT.out⟩
    ·have hq:=Em hn;have hy:=Aa ((show look e'' s=look ((name,v)::e'') s by rw[look,Ae hn]).trans he.out);clear hn;go_wp2
     go_round
     case rel=>exact⟨e'',HU.out,hy⟩
     case measure=>exact HLT.out
end Go.Proofs.YtifhcbeaiijkcaaGreat
end
section
namespace Go.Proofs.YtifhcbeaiijkcaaGreat
open Go
open _root_.Go.World renaming alloc→Wa,setCell→Ws
open _root_.Go.Proofs.Tryz renaming prog→Pq
section
variable {P:Program}{ops:Array Oper}{Q:Exit→Act→World→Prop}{md:Region.Mode}{S:World→Prop}
theorem tkH {i:Nat}{oi:Oper}{v:Value}{fuel:Nat}{listed:Array Bool}{a a':Act}{w:World}(h:wpAnyH P md ops Q S fuel (listed.setIfInBounds i true) a' w) (hi:ops[i]?=some oi:=by (simp only[List.getElem?_toArray,List.getElem?_cons_succ,List.getElem?_cons_zero];rfl))
  (hs:Region.noSelect ops=true:=by kernel_rfl) (hf:Region.free md ops listed i=true:=by kernel_rfl) (hr:(Region.ready md ops listed).contains i=true:=by kernel_rfl)
  (hQ:∀c a w,Q (.panic c) (a.put oi.dst v) w→Q (.panic c) a w:=by exact fun _ _ _ h=>h) (hy:YieldsIf P ops S oi v a:=by exact Or.inl ⟨by rfl,by (intro w hSw;(try dsimp only at hSw);go_simp;(try with_reducible rfl))⟩) (hS:S w:=by assumption)
  (ha:a.put oi.dst v=a':=by first | (simp only[Act.put,List.setIfInBounds_toArray,List.set_cons_zero,List.set_cons_succ];done) | (simp only[Act.put,List.setIfInBounds_toArray,List.set_cons_zero,List.set_cons_succ];rfl) |rfl):wpAnyH P md ops Q S (fuel+1) listed a w:=by
 subst ha;exact wpAnyH_take hi hs hf hr hQ hy hS h
theorem skH {i:Nat}{oi:Oper}{fuel:Nat}{listed:Array Bool}{a a':Act}{w:World}(h:wpAnyH P md ops Q S fuel (listed.setIfInBounds i true) a' w) (hi:ops[i]?=some oi:=by (simp only[List.getElem?_toArray,List.getElem?_cons_succ,List.getElem?_cons_zero];rfl))
  (hs:Region.noSelect ops=true:=by kernel_rfl) (hf:Region.free md ops listed i=true:=by kernel_rfl) (hr:(Region.ready md ops listed).contains i=true:=by kernel_rfl)
  (hQ:∀c a w,Q (.panic c) (a.put oi.dst undef) w→Q (.panic c) a w:=by exact fun _ _ _ h=>h) (hy:YieldsIf P ops S oi undef a:=by exact Or.inr ⟨by rfl,rfl⟩) (hS:S w:=by assumption)
  (ha:a.put oi.dst undef=a':=by first | (simp only[Act.put,List.setIfInBounds_toArray,List.set_cons_zero,List.set_cons_succ];done) | (simp only[Act.put,List.setIfInBounds_toArray,List.set_cons_zero,List.set_cons_succ];rfl) |rfl):wpAnyH P md ops Q S (fuel+1) listed a w:=by
 subst ha;exact wpAnyH_take hi hs hf hr hQ hy hS h
theorem bkH {fuel:Nat}{listed:Array Bool}{a a':Act}{w:World}{K:Act→World→Prop}(hK:Shut (∀a w,S w→(S w→wpAnyH P md ops Q S fuel listed a w)→K a w)) (hS:S w) (h:S w→wpAnyH P md ops Q S fuel listed a' w)
  (ha:a=a':=by first | (simp only[Act.put,List.setIfInBounds_toArray,List.set_cons_zero,List.set_cons_succ];done) | (simp only[Act.put,List.setIfInBounds_toArray,List.set_cons_zero,List.set_cons_succ];rfl) |rfl):K a w:=by
 subst ha;exact hK.out _ _ hS h
theorem rdH {i:Nat}{o:Oper}{fuel:Nat}{listed:Array Bool}{a:Act}{w:World}(h:∀K':Act→World→Prop,Shut (∀a w,S w→(S w→wpAnyH P md ops Q S fuel (listed.setIfInBounds i true) a w)→K' a w)→if Region.wanted o (yielded ops a.tmps)=true then Oper.wp P o a w K' Q else K' (a.put o.dst undef) w)
  (hr:Region.ready md ops listed=[i]:=by kernel_rfl) (ho:ops[i]?=some o:=by (simp only[List.getElem?_toArray,List.getElem?_cons_succ,List.getElem?_cons_zero];rfl)):wpAnyH P md ops Q S (fuel+1) listed a w:=
 wpAnyH_ready hr (by simp) (AllReadyH.cons ho h AllReadyH.nil)
end
end Go.Proofs.YtifhcbeaiijkcaaGreat
end
