/- Parts of the proof of FnFuel. -/
import Derived.Below
import Derived.Deep.QuietTactic
import Derived.Deep.RegionHeld
import Derived.IntWalk
import Derived.Laws.AppendOwn
import Derived.Laws.NewBlocks
import Derived.Laws.Rows
import Derived.Laws.World
import Derived.Lib.Hide
import Derived.Orders
import Derived.OrdersHeld
import Derived.Tactics
import Derived.Laws.CopyRow
import Derived.Laws.Cells
import Derived.Laws.Slices
import Derived.Laws.Strings
import Derived.Laws.Cover1
import Derived.Laws.Concat
set_option linter.unusedVariables false
set_option linter.unusedSimpArgs false
set_option maxRecDepth 1000000
set_option maxHeartbeats 16000000
section
namespace Go
abbrev Aa:=@Go.Lib.hid
abbrev Ab:=@if_neg
abbrev Ac:=@Go.RowKit.Below.refl
abbrev Ad:=@Nat.le_refl
abbrev Af:=@Option.some.injEq
abbrev Ag:=@if_pos
abbrev Ah:=@Option.some.inj
abbrev Aj:=@Nat.lt_of_lt_of_le
abbrev An:=@Go.World.cell?_of_block
abbrev Ar:=@Nat.le_trans
abbrev As:=@List.getElem_mem
abbrev Av:=@Nat.zero_le
abbrev Ax:=@Prod.mk.injEq
abbrev Ay:=@Nat.not_lt_zero
abbrev AA:=@Go.bodyPost_ret
abbrev AG:=@decide_eq_false
abbrev AH:=@Bool.and_eq_true
abbrev AN:=@decide_eq_true
abbrev AQ:=@Nat.le_succ
abbrev AS:=@Go.World.size_setCell
abbrev AV:=@List.length_append
abbrev AX:=@congrArg
abbrev Be:=@List.all_eq_true
abbrev Bl:=@List.getElem?_eq_getElem
abbrev Bs:=@Go.wpAnyH_done
abbrev BH:=@Go.wp_region_held_drew
abbrev BM:=@Go.World.size_alloc
abbrev BQ:=@beq_iff_eq
abbrev BR:=@Bool.eq_iff_iff
abbrev BU:=@Nat.zero_add
abbrev BV:=@List.getElem?_append_left
abbrev Ce:=@Nat.le_of_ble_eq_true
abbrev Cp:=@List.getElem?_append_right
abbrev Cv:=@List.mem_append_left
abbrev CL:=@List.take_length
abbrev CM:=@Nat.lt_succ_self
abbrev Da:=@Nat.add_assoc
abbrev Dg:=@Nat.add_mul
abbrev Dh:=@Bool.false_eq_true
abbrev Di:=@if_false
abbrev Dq:=@Nat.mul_le_mul_right
abbrev DC:=@List.not_any_eq_all_not
abbrev DG:=@Go.World.frozen?_of_block
abbrev DU:=@if_true
abbrev DV:=@Go.IntWalk.i64_in
abbrev Ej:=@List.getElem?_take
abbrev Ek:=@List.mem_append
abbrev Em:=@List.getElem?_eq_some_iff
abbrev En:=@Go.mem_ready
abbrev Eo:=@Bool.and_assoc
abbrev EH:=@List.getElem_of_mem
abbrev EI:=@Nat.sub_self
abbrev EJ:=@List.mem_append_right
abbrev EK:=@Bool.or_eq_true
abbrev EM:=@List.nodup_append
abbrev Ff:=@List.drop_length
abbrev FJ:=@List.getElem?_map
abbrev FL:=@Array.size_append
abbrev FM:=@Go.cell_of_row
abbrev FN:=@Bool.not_inj_iff
abbrev FO:=@decide_eq_true_iff
abbrev FP:=@Nat.lt_or_ge
abbrev Gq:=@Array.getElem?_eq_some_iff
abbrev Gr:=@Nat.le_add_right
abbrev G9:=@List.getElem_append_left
abbrev Ha:=@List.getElem_append_right
abbrev Hb:=@Bool.true_and
abbrev Hc:=@List.getElem?_eq_none
abbrev Hd:=@List.length_take
abbrev He:=@List.take_add_one
abbrev Hg:=@List.mem_range
abbrev Hh:=@List.getElem?_drop
abbrev Hi:=@List.mem_map
abbrev Hj:=@exists_false
abbrev Hk:=@List.length_map
abbrev Hl:=@decide_eq_true_eq
abbrev Hm:=@ByteArray.size_append
abbrev IX:=@Nat.mul_comm
abbrev IY:=@Array.getElem?_eq_getElem
abbrev IZ:=@List.all_eq_false
abbrev I1:=@Go.World.cell?_setCell_other
abbrev I2:=@Bool.not_eq_true'
abbrev I3:=@Nat.eq_of_beq_eq_true
abbrev I4:=@Go.size_zeroCells
abbrev I5:=@List.prefix_refl
abbrev KI:=@Go.World.cell?_alloc_at
abbrev KJ:=@List.length_reverse
abbrev KM:=@List.any_eq_true
abbrev KN:=@Nat.lt_trichotomy
abbrev KO:=@List.findIdx?_eq_some_iff_getElem
abbrev KQ:=@Array.getElem?_eq_none
abbrev KS:=@Int.emod_nonneg
abbrev KT:=@List.contains_iff_mem
abbrev KU:=@decide_eq_false_iff_not
abbrev KV:=@Option.isSome_iff_exists
abbrev KW:=@Bool.true_eq_false
abbrev KX:=@Decidable.not_not
abbrev KY:=@Int.toNat_natCast
abbrev La:=@Go.Calls.quiet_of_same
abbrev Po:=@List.findIdx?_eq_none_iff
abbrev Pp:=@Int.eq_ofNat_of_zero_le
abbrev Pr:=@Go.World.cell?_setCell_same
abbrev Ps:=@Array.getElem?_append_left
abbrev Pt:=@List.getElem_set_self
end Go
end
section
namespace Go.Ev
inductive T (α:Type) where
 |lf:T α
 |nd:T α→Option α→T α→T α
theorem Bf (a b:Nat):Nat.beq a b= (a==b):=by
 rw[BR];simp[Nat.beq_eq]
theorem Fy (a b:Nat):Nat.ble a b=decide (a≤b):=by
 rw[BR];simp[Nat.ble_eq]
theorem Bh {α:Type}{c:Bool}{x:Option α}{y:α}(h:(bif c then x else none)=some y):c=true∧x=some y:=by cases c <;> simp_all
theorem F6 {a b c d:Nat}(h:(Nat.ble a b&& Nat.ble c d)=true):a≤b∧c≤d:=by
 obtain⟨h1,h2⟩:=(AH _ _).mp h;exact⟨Ce h1,Ce h2⟩
theorem MT {a b c d e f:Nat}(h:(Nat.ble a b&& Nat.ble c d&& Nat.ble e f)=true):a≤b∧c≤d∧e≤f:=by
 obtain⟨h1,h2⟩:=(AH _ _).mp h;obtain⟨h3,h4⟩:=F6 h1;exact⟨h3,h4,Ce h2⟩
namespace T
variable {α:Type}
noncomputable def get (t:T α):Nat→Option α:=
 T.rec (motive:=fun _=>Nat→Option α) (fun _=>none) (fun _ v _ ihl ihr k=>
  Bool.rec (Bool.rec (ihl (Nat.div k 2)) (ihr (Nat.sub (Nat.div k 2) 1)) (Nat.beq (Nat.mod k 2) 0)) v (Nat.beq k 0)) t
noncomputable def EW (x:α) (f:Nat):Nat→T α:=
 Nat.rec (motive:=fun _=>Nat→T α) (fun _=>T.lf) (fun _ ih k=>
  Bool.rec (Bool.rec (nd (ih (Nat.div k 2)) none lf) (nd lf none (ih (Nat.sub (Nat.div k 2) 1))) (Nat.beq (Nat.mod k 2) 0)) (nd lf (some x) lf) (Nat.beq k 0)) f
noncomputable def upd (o:Option α) (t:T α):Nat→T α:=
 T.rec (motive:=fun _=>Nat→T α) (fun k=>Option.rec T.lf (fun x=>EW x (Nat.succ k) k) o) (fun l v r ihl ihr k=>
  Bool.rec (Bool.rec (nd (ihl (Nat.div k 2)) v r) (nd l v (ihr (Nat.sub (Nat.div k 2) 1))) (Nat.beq (Nat.mod k 2) 0)) (nd l o r) (Nat.beq k 0)) t
theorem get_lf (k:Nat):(lf:T α).get k=none:=rfl
theorem get_nd (l:T α) (v:Option α) (r:T α) (k:Nat):
  (nd l v r).get k=bif k==0 then v else bif k%2==0 then r.get (k/2 - 1)else l.get (k/2):=by
 rw[←Bf,←Bf]
 show(Bool.rec (motive:=fun _=>Option α) (Bool.rec (motive:=fun _=>Option α) (l.get (k/2)) (r.get (k/2 - 1)) (Nat.beq (k%2) 0)) v (Nat.beq k 0))=_
 cases (Nat.beq k 0) <;> cases (Nat.beq (k%2) 0) <;> rfl
theorem RL (x:α) (f k:Nat):
  EW x (f+1) k=bif k==0 then nd lf (some x) lf else bif k%2==0 then nd lf none (EW x f (k/2 - 1))else nd (EW x f (k/2)) none lf:=by
 rw[←Bf,←Bf]
 show Bool.rec (motive:=fun _=>T α) (Bool.rec (motive:=fun _=>T α) (nd (EW x f (k/2)) none lf) (nd lf none (EW x f (k/2 - 1))) (Nat.beq (k%2) 0)) (nd lf (some x) lf) (Nat.beq k 0)=_
 cases (Nat.beq k 0) <;> cases (Nat.beq (k%2) 0) <;> rfl
theorem RM (o:Option α) (k:Nat):upd o lf k=match o with |none=>lf |some x=>EW x (k+1) k:=by cases o <;> rfl
theorem RN (o:Option α) (l:T α) (v:Option α) (r:T α) (k:Nat):
  upd o (nd l v r) k=bif k==0 then nd l o r else bif k%2==0 then nd l v (upd o r (k/2 - 1))else nd (upd o l (k/2)) v r:=by
 rw[←Bf,←Bf]
 show Bool.rec (motive:=fun _=>T α) (Bool.rec (motive:=fun _=>T α) (nd (upd o l (k/2)) v r) (nd l v (upd o r (k/2 - 1))) (Nat.beq (k%2) 0)) (nd l o r) (Nat.beq k 0)=_
 cases (Nat.beq k 0) <;> cases (Nat.beq (k%2) 0) <;> rfl
theorem RO (x:α):∀ (f k j:Nat),k < f→(EW x f k).get j=if j=k then some x else none:=by
 intro f;induction f with
 |zero=>intro k j h;omega
 |succ f ih=>
  intro k j h;rw[RL];by_cases hk:k=0
  ·subst hk;simp only[beq_self_eq_true,cond_true,get_nd,get_lf];by_cases hj:j=0
   ·simp[hj]
   ·have:(j==0)=false:=by simpa using hj
    simp[this,hj]
  ·have hk':(k==0)=false:=by simpa using hk
   simp only[hk',cond_false];by_cases h2:k%2=0
   ·have h2':(k%2==0)=true:=by simpa using h2
    simp only[h2',cond_true,get_nd,get_lf];by_cases hj:j=0
    ·subst hj;simp;omega
    ·have hj':(j==0)=false:=by simpa using hj
     simp only[hj',cond_false];by_cases hj2:j%2=0
     ·have hj2':(j%2==0)=true:=by simpa using hj2
      simp only[hj2',cond_true];rw[ih _ _ (by omega)];by_cases e:j=k
      ·subst e;simp
      ·rw[Ab e,Ab (by omega)]
     ·have hj2':(j%2==0)=false:=by simpa using hj2
      simp only[hj2',cond_false];rw[Ab (by omega)]
   ·have h2':(k%2==0)=false:=by simpa using h2
    simp only[h2',cond_false,get_nd,get_lf];by_cases hj:j=0
    ·subst hj;simp;omega
    ·have hj':(j==0)=false:=by simpa using hj
     simp only[hj',cond_false];by_cases hj2:j%2=0
     ·have hj2':(j%2==0)=true:=by simpa using hj2
      simp only[hj2',cond_true];rw[Ab (by omega)]
     ·have hj2':(j%2==0)=false:=by simpa using hj2
      simp only[hj2',cond_false];rw[ih _ _ (by omega)];by_cases e:j=k
      ·subst e;simp
      ·rw[Ab e,Ab (by omega)]
theorem get_upd (o:Option α) (t:T α):∀ (k j:Nat),(upd o t k).get j=if j=k then o else t.get j:=by
 induction t with
 |lf=>
  intro k j;rw[RM];cases o with
  |none=>simp[get_lf]
  |some x=>simp only[RO x (k+1) k j (by omega),get_lf]
 |nd l v r ihl ihr=>
  intro k j;rw[RN];by_cases hk:k=0
  ·subst hk;simp only[beq_self_eq_true,cond_true,get_nd];by_cases hj:j=0
   ·simp[hj]
   ·have hj':(j==0)=false:=by simpa using hj
    simp[hj',hj]
  ·have hk':(k==0)=false:=by simpa using hk
   simp only[hk',cond_false];by_cases h2:k%2=0
   ·have h2':(k%2==0)=true:=by simpa using h2
    simp only[h2',cond_true,get_nd];by_cases hj:j=0
    ·subst hj;simp;omega
    ·have hj':(j==0)=false:=by simpa using hj
     simp only[hj',cond_false];by_cases hj2:j%2=0
     ·have hj2':(j%2==0)=true:=by simpa using hj2
      simp only[hj2',cond_true];rw[ihr];by_cases e:j=k
      ·subst e;simp
      ·rw[Ab e,Ab (by omega)]
     ·have hj2':(j%2==0)=false:=by simpa using hj2
      simp only[hj2',cond_false];rw[Ab (by omega)]
   ·have h2':(k%2==0)=false:=by simpa using h2
    simp only[h2',cond_false,get_nd];by_cases hj:j=0
    ·subst hj;simp;omega
    ·have hj':(j==0)=false:=by simpa using hj
     simp only[hj',cond_false];by_cases hj2:j%2=0
     ·have hj2':(j%2==0)=true:=by simpa using hj2
      simp only[hj2',cond_true];rw[Ab (by omega)]
     ·have hj2':(j%2==0)=false:=by simpa using hj2
      simp only[hj2',cond_false];rw[ihl];by_cases e:j=k
      ·subst e;simp
      ·rw[Ab e,Ab (by omega)]
end T
section
variable {α:Type}
noncomputable def Fz (l:List α):Nat→Option α:=
 List.rec (motive:=fun _=>Nat→Option α) (fun _=>none) (fun x _ ih k=>Bool.rec (ih (Nat.sub k 1)) (some x) (Nat.beq k 0)) l
noncomputable def EX (l:List α):Nat→List α:=
 List.rec (motive:=fun _=>Nat→List α) (fun _=> []) (fun x t ih k=>Bool.rec (ih (Nat.sub k 1)) (x::t) (Nat.beq k 0)) l
noncomputable def EY (l:List α):Nat→List α:=
 List.rec (motive:=fun _=>Nat→List α) (fun _=> []) (fun x _ ih k=>Bool.rec (x::ih (Nat.sub k 1)) [] (Nat.beq k 0)) l
noncomputable def DP (l m:List α):List α:=List.rec (motive:=fun _=>List α) m (fun x _ ih=>x::ih) l
noncomputable def Bi (l:List α):Nat:=List.rec (motive:=fun _=>Nat→Nat) (fun a=>a) (fun _ _ ih a=>ih (Nat.succ a)) l 0
noncomputable def Bv (l m:List α) (k:Nat):List α:=DP (EY l k) (DP m (EX l (Nat.add k (Bi m))))
theorem Ip (l:List α):∀k,Fz l k=l[k]?:=by
 induction l with
 |nil=>intro k;rfl
 |cons x t ih=>
  intro k
  show Bool.rec (motive:=fun _=>Option α) (Fz t (k - 1)) (some x) (Nat.beq k 0)=_
  cases k with
  |zero=>rfl
  |succ k=>show Fz t (k+1 - 1)=_;rw[ih];simp
theorem GM (l:List α):∀k,EX l k=l.drop k:=by
 induction l with
 |nil=>intro k;simp[EX]
 |cons x t ih=>
  intro k
  show Bool.rec (motive:=fun _=>List α) (EX t (k - 1)) (x::t) (Nat.beq k 0)=_
  cases k with
  |zero=>rfl
  |succ k=>show EX t (k+1 - 1)=_;rw[ih];simp
theorem GN (l:List α):∀k,EY l k=l.take k:=by
 induction l with
 |nil=>intro k;simp[EY]
 |cons x t ih=>
  intro k
  show Bool.rec (motive:=fun _=>List α) (x::EY t (k - 1)) [] (Nat.beq k 0)=_
  cases k with
  |zero=>rfl
  |succ k=>show x::EY t (k+1 - 1)=_;rw[ih];simp
theorem FA (l m:List α):DP l m=l++m:=by
 induction l with
 |nil=>rfl
 |cons x t ih=>show x::DP t m=_;rw[ih];rfl
theorem Cq (l:List α):Bi l=l.length:=by
 have h:∀ (l:List α) (a:Nat),(List.rec (motive:=fun _=>Nat→Nat) (fun a=>a) (fun _ _ ih a=>ih (Nat.succ a)) l a:Nat)=l.length+a:=by
  intro l;induction l with
  |nil=>intro a;simp
  |cons x t ih=>intro a;show(List.rec (motive:=fun _=>Nat→Nat) (fun a=>a) (fun _ _ ih a=>ih (Nat.succ a)) t (Nat.succ a):Nat)=_;rw[ih];simp;omega
 exact(h l 0)
theorem F7 (l m:List α) (k:Nat):Bv l m k=l.take k++ (m++l.drop (k+m.length)):=by
 simp only[Bv,FA,GN,GM,Cq];rfl
end
end Go.Ev
end
section
namespace Go.Ev
open Go
inductive S where
 |un
 |b (x:Bool)
 |i (n:Int)
 |j (k:IntKind) (n:Int)
 |s (l:List Nat)
 |p0
 |p (x o:Nat)
 |l0
 |l (x o n e:Nat) (full:Bool)
 |f (g:Nat) (caps:List (Nat×Nat))
 |f0
 deriving Inhabited
inductive V where
 |o
 |c (s:S)
 |a (l:List S)
 |t (l:List V)
 deriving Inhabited
abbrev E:=T V
structure Bk where
 c:List S
 fam:Nat
 d:Nat
structure St where
 h:T Bk
 nb:Nat
 fm:T (List (Nat×Nat×Nat))
 nf:Nat
inductive O where
 |t (i:Nat)
 |k (v:V)
 deriving Inhabited
inductive W where
 |mv (x:O)
 |pick (c a b:O)
 |nilc (x:O)
 |build (z:List S) (parts:List (Nat×Nat×O))
 |bin (op:BinOp) (x y:O)
 |eqb (neg:Bool) (x y:O)
 |eql (neg:Bool) (x y:O)
 |eqp (neg:Bool) (x y:O)
 |eqf (neg:Bool) (x y:O)
 |un (op:UnOp) (x:O)
 |cv (k:IntKind) (x:O)
 |cvs (x:O)
 |mkf (g:Nat) (caps:List O)
 |sls (x:O) (lo hi:Option O)
 |sll (e:Nat) (x:O) (lo hi mx:Option O)
 |fad (off:Nat) (x:O)
 |fld (off:Nat) (n:Option Nat) (x:O)
 |iad (e:Nat) (x ix:O)
 |ixs (x ix:O)
 |ext (i:Nat) (x:O)
 |lns (x:O)
 |lnl (x:O)
 |cpl (x:O)
 |mnx (mx:Bool) (x y:O)
 |ibs (x y:O)
 deriving Inhabited
inductive A where
 |al (z:List S)
 |box (x:O)
 |bsl (e:Nat) (n:Nat) (z:List S) (parts:List (Nat×Nat×O))
 |mks (e:Nat) (bytes:Nat) (z:List S) (n c:O)
 deriving Inhabited
inductive M where
 |st (n:Nat) (a v:O)
 |app (e:Nat) (bytes:Nat) (x y:O)
 |call (g:Nat) (xs:List O)
 |cal (x:O) (xs:List O)
 |clr (e:Nat) (z:List S) (x:O)
 |apz (e:Nat) (bytes:Nat) (z:List S) (x n:O)
 deriving Inhabited
inductive R where
 |ld (n:Option Nat) (a:O)
 |bts (x:O)
 deriving Inhabited
inductive MO where
 |w (o:W)
 |r (o:R)
 |a (o:A)
 |m (o:M)
 deriving Inhabited
inductive Stp where
 |ev (dst:Option Nat) (g:Option (Nat×Bool)) (o:MO)
 |mk (dst:Option Nat) (g:Option (Nat×Bool)) (o:M) (rs:List (Nat×R)) (as_:List (Nat×A))
 |e2 (n₁:Nat) (a₁ v₁:O) (n₂:Nat) (a₂ v₂:O)
 deriving Inhabited
inductive MC where
 |skip
 |reg (l:List Stp)
 |seq (a b:MC)
 |cond (c:O) (a b:MC)
 |blk (id:Nat) (m:MC)
 |loop (m:MC)
 |exit (id:Nat)
 |ret
 deriving Inhabited
inductive MRes where
 |t (i:Nat)
 |c (n:Option Nat) (i:Nat)
 deriving Inhabited
structure MFn where
 body:MC
 res:List MRes
 deriving Inhabited
inductive Rs where
 |no (e:E) (s:St)
 |ex (id:Nat) (e:E) (s:St)
 |rt (e:E) (s:St)
 |bad
def kix:IntKind→Nat
 | .i8=>0 | .i16=>1 | .i32=>2 | .i64=>3 | .u8=>4 | .u16=>5 | .u32=>6 | .u64=>7
def Ea (a b:IntKind):Bool:=Nat.beq (kix a) (kix b)
def mkI (k:IntKind) (n:Int):S:=match k with | .i64=> .i n |k=> .j k n
def m63:Nat:=9223372036854775807
def m47:Nat:=140737488355328
def w64 (n:Int):Int:=
 match n with
 | .ofNat a=>bif Nat.ble a m63 then .ofNat a else IntKind.i64.wrap (.ofNat a)
 | .negSucc a=>bif Nat.ble a m63 then .negSucc a else IntKind.i64.wrap (.negSucc a)
def ile (a b:Int):Bool:=
 match a,b with
 | .ofNat a,.ofNat b=>Nat.ble a b
 | .ofNat _,.negSucc _=>false
 | .negSucc _,.ofNat _=>true
 | .negSucc a,.negSucc b=>Nat.ble b a
def ieq (a b:Int):Bool:=
 match a,b with
 | .ofNat a,.ofNat b=>Nat.beq a b
 | .ofNat _,.negSucc _=>false
 | .negSucc _,.ofNat _=>false
 | .negSucc a,.negSucc b=>Nat.beq a b
def EQ:Sem Value→Option V
 | .pure (.int k n)=>some (.c (mkI k n))
 | .pure (.bool b)=>some (.c (.b b))
 |_=>none
def Jp (op:BinOp) (a b:Int):Option V:=
 match op with
 | .add=>some (.c (.i (w64 (Int.add a b))))
 | .sub=>some (.c (.i (w64 (Int.sub a b))))
 | .mul=>some (.c (.i (w64 (Int.mul a b))))
 | .eql=>some (.c (.b (ieq a b)))
 | .neq=>some (.c (.b (not (ieq a b))))
 | .lss=>some (.c (.b (not (ile b a))))
 | .leq=>some (.c (.b (ile a b)))
 | .gtr=>some (.c (.b (not (ile a b))))
 | .geq=>some (.c (.b (ile b a)))
 |op=>EQ (binOp op 0 (.int .i64 a) (.int .i64 b))
def Jq (op:BinOp) (k:IntKind) (a:Int) (k':IntKind) (b:Int):Option V:=
 match op with
 | .eql=>bif Ea k k' then some (.c (.b (ieq a b)))else none
 | .neq=>bif Ea k k' then some (.c (.b (not (ieq a b))))else none
 | .lss=>bif Ea k k' then some (.c (.b (not (ile b a))))else none
 | .leq=>bif Ea k k' then some (.c (.b (ile a b)))else none
 | .gtr=>bif Ea k k' then some (.c (.b (not (ile a b))))else none
 | .geq=>bif Ea k k' then some (.c (.b (ile b a)))else none
 |op=>EQ (binOp op 0 (.int k a) (.int k' b))
noncomputable def seq (l:List Nat):List Nat→Bool:=
 List.rec (motive:=fun _=>List Nat→Bool) (fun m=>List.rec true (fun _ _ _=>false) m)
  (fun x _ ih m=>List.rec false (fun y t _=>Bool.rec false (ih t) (Nat.beq x y)) m) l
noncomputable def slt (l:List Nat):List Nat→Bool:=
 List.rec (motive:=fun _=>List Nat→Bool) (fun m=>List.rec false (fun _ _ _=>true) m)
  (fun x _ ih m=>List.rec false (fun y t _=>Bool.rec (Nat.ble (Nat.succ x) y) (ih t) (Nat.beq x y)) m) l
noncomputable def Jr (op:BinOp) (a b:List Nat):Option V:=
 match op with
 | .add=>bif Nat.ble (Nat.add (Bi a) (Bi b)) 4611686018427387904 then some (.c (.s (DP a b)))else none
 | .eql=>some (.c (.b (seq a b)))
 | .neq=>some (.c (.b (not (seq a b))))
 | .lss=>some (.c (.b (slt a b)))
 | .geq=>some (.c (.b (not (slt a b))))
 | .gtr=>some (.c (.b (not (slt a b || seq a b))))
 | .leq=>some (.c (.b (slt a b || seq a b)))
 |_=>none
noncomputable def ov (e:E):O→V
 | .t i=>match e.get i with |some v=>v |none=> .o
 | .k v=>v
noncomputable def os (e:E) (x:O):S:=match ov e x with | .c s=>s |_=> .un
def cellsOf:V→Option (List S)
 | .c s=>some [s]
 | .a l=>some l
 |_=>none
noncomputable def DI (z:List S) (e:E) (ps:List (Nat×Nat×O)):Option (List S):=
 List.rec (motive:=fun _=>List S→Option (List S)) (fun z=>some z) (fun p _ ih z=>
  match cellsOf (ov e p.2.2)with
  |none=>none
  |some l=>bif Nat.beq (Bi l) p.2.1&& Nat.ble (Nat.add p.1 p.2.1) (Bi z)then ih (Bv z l p.1)else none) ps z
noncomputable def ovs (e:E) (xs:List O):List V:=List.rec [] (fun x _ ih=>ov e x::ih) xs
noncomputable def on (e:E) (x:O):Option Nat:=match os e x with | .i (.ofNat n)=>some n |_=>none
noncomputable def onj (e:E) (x:O):Option Nat:=match os e x with | .i (.ofNat n)=>some n | .j _ (.ofNat n)=>some n |_=>none
noncomputable def onD (e:E) (d:Nat):Option O→Option Nat
 |none=>some d
 |some x=>onj e x
noncomputable def Fn (e:E) (xs:List O):Option (List (Nat×Nat)):=
 List.rec (some []) (fun x _ ih=>match os e x,ih with | .p a b,some l=>some ((a,b)::l) |_,_=>none) xs
noncomputable def Js (c:Nat) (l:List Nat):Nat→Int:=
 List.rec (motive:=fun _=>Nat→Int) (fun _=> -1) (fun x _ ih k=>Bool.rec (ih (Nat.succ k)) (.ofNat k) (Nat.beq x c)) l
def bb (b:Bool):Option V:=some (.c (.b b))
noncomputable def wv (e:E):W→Option V
 | .mv x=>some (ov e x)
 | .pick c a b=>match os e c with | .b x=>some (bif x then ov e a else ov e b) |_=>none
 | .nilc x=>match os e x with | .p a b=>some (.c (.p a b)) | .f g cs=>some (.c (.f g cs)) |_=>none
 | .build z ps=>match DI z e ps with |some l=>some (.a l) |none=>none
 | .bin op x y=>match os e x,os e y with
  | .i a,.i b=>Jp op a b
  | .j k a,.j k' b=>Jq op k a k' b
  | .s a,.s b=>Jr op a b
  | .i a,.j k' b=>EQ (binOp op 0 (.int .i64 a) (.int k' b))
  | .j k a,.i b=>EQ (binOp op 0 (.int k a) (.int .i64 b))
  |_,_=>none
 | .eqb ng x y=>match os e x,os e y with | .b a,.b b=>bb (xor ng (bif a then b else not b)) |_,_=>none
 | .eql ng x y=>match os e x,os e y with
  | .l0,.l0=>bb (not ng) | .l0,.l .. =>bb ng | .l ..,.l0=>bb ng |_,_=>none
 | .eqp ng x y=>match os e x,os e y with
  | .p0,.p0=>bb (not ng) | .p0,.p .. =>bb ng | .p ..,.p0=>bb ng |_,_=>none
 | .eqf ng x y=>match os e x,os e y with
  | .f0,.f0=>bb (not ng) | .f0,.f .. =>bb ng | .f ..,.f0=>bb ng |_,_=>none
 | .un op x=>match os e x with
  | .b a=>match op with | .not=>bb (not a) |_=>none
  | .i a=>EQ (Op.unary op (.int .i64 a))
  | .j k a=>EQ (Op.unary op (.int k a))
  |_=>none
 | .cv k x=>match os e x with
  | .i a=>some (.c (mkI k (k.wrap a)))
  | .j _ a=>some (.c (mkI k (k.wrap a)))
  |_=>none
 | .cvs x=>match os e x with
  | .i (.ofNat a)=>bif Nat.ble a 127 then some (.c (.s [a]))else none
  | .j _ (.ofNat a)=>bif Nat.ble a 127 then some (.c (.s [a]))else none
  |_=>none
 | .mkf g cs=>match Fn e cs with |some l=>some (.c (.f g l)) |none=>none
 | .sls x lo hi=>match os e x with
  | .s l=>match onD e 0 lo,onD e (Bi l) hi with
   |some a,some b=>bif Nat.ble a b&& Nat.ble b (Bi l)then some (.c (.s (EY (EX l a) (Nat.sub b a))))else none
   |_,_=>none
  |_=>none
 | .sll sz x lo hi mx=>match os e x with
  | .l0=>match onD e 0 lo,onD e 0 hi,onD e 0 mx with
   |some 0,some 0,some 0=>some (.c .l0)
   |_,_,_=>none
  | .l bl o n sz' full=>bif Nat.beq sz sz' then match mx with
   |none=>match onD e 0 lo,onD e n hi with
    |some a,some b=>bif Nat.ble a b&& Nat.ble b n then some (.c (.l bl (Nat.add o (Nat.mul a sz)) (Nat.sub b a) sz (full&& Nat.beq b n)))else none
    |_,_=>none
   |some m=>match onD e 0 lo,onD e n hi,onj e m with
    |some a,some b,some m=>bif Nat.ble a b&& Nat.ble b m&& Nat.ble m n then some (.c (.l bl (Nat.add o (Nat.mul a sz)) (Nat.sub b a) sz (Nat.beq b m)))else none
    |_,_,_=>none else none
  |_=>none
 | .fad off x=>match os e x with | .p a b=>some (.c (.p a (Nat.add b off))) |_=>none
 | .fld off n x=>match ov e x with
  | .a l=>match n with
   |none=>match Fz l off with |some s=>some (.c s) |none=>none
   |some n=>bif Nat.ble (Nat.add off n) (Bi l)then some (.a (EY (EX l off) n))else none
  |_=>none
 | .iad sz x ix=>match os e x with
  | .l bl o n sz' _=>match onj e ix with
   |some i=>bif Nat.beq sz sz'&& Nat.ble (Nat.succ i) n then some (.c (.p bl (Nat.add o (Nat.mul i sz))))else none
   |none=>none
  |_=>none
 | .ixs x ix=>match os e x with
  | .s l=>match onj e ix with
   |some i=>match Fz l i with |some b=>some (.c (.j .u8 (.ofNat b))) |none=>none
   |none=>none
  |_=>none
 | .ext i x=>match ov e x with | .t l=>Fz l i |_=>none
 | .lns x=>match os e x with
  | .s l=>some (.c (.i (.ofNat (Bi l))))
  |_=>none
 | .lnl x=>match os e x with
  | .l0=>some (.c (.i 0))
  | .l _ _ n _ _=>some (.c (.i (.ofNat n)))
  |_=>none
 | .cpl x=>match os e x with
  | .l0=>some (.c (.i 0))
  | .l _ _ n _ full=>bif full then some (.c (.i (.ofNat n)))else none
  |_=>none
 | .mnx mx x y=>match os e x,os e y with
  | .i a,.i b=>some (.c (.i (bif mx then(bif ile b a then a else b)else(bif ile a b then a else b))))
  |_,_=>none
 | .ibs x y=>match os e x,os e y with
  | .s l,.j .u8 (.ofNat c)=>bif Nat.ble c 255 then some (.c (.i (Js c l 0)))else none
  |_,_=>none
def Gz (x:S) (m:Option (List Nat)):Option (List Nat):=
 match x,m with
 | .j .u8 (.ofNat b),some l=>bif Nat.ble b 255 then some (b::l)else none
 |_,_=>none
noncomputable def bytesIn (l:List S):Option (List Nat):=List.rec (some []) (fun x _ ih=>Gz x ih) l
noncomputable def cellsAt (s:St) (x o n:Nat):Option (List S):=
 match s.h.get x with
 |some b=>bif Nat.ble (Nat.add o n) (Bi b.c)then some (EY (EX b.c o) n)else none
 |none=>none
noncomputable def ldv (s:St) (n:Option Nat):S→Option V
 | .p x o=>match n with
  |none=>match s.h.get x with
   |some b=>match Fz b.c o with |some v=>some (.c v) |none=>none
   |none=>none
  |some n=>match cellsAt s x o n with |some l=>some (.a l) |none=>none
 |_=>none
noncomputable def rv (e:E) (s:St):R→Option V
 | .ld n a=>ldv s n (os e a)
 | .bts x=>match os e x with
  | .l0=>some (.c (.s []))
  | .l x o n sz _=>bif Nat.beq sz 1 then(match cellsAt s x o n with
   |some l=>match bytesIn l with |some b=>some (.c (.s b)) |none=>none
   |none=>none)else none
  |_=>none
noncomputable def DJ (z:List S) (n:Nat):List S:=Nat.rec [] (fun _ ih=>DP z ih) n
noncomputable def av (e:E):A→Option (List S× (Nat→V))
 | .al z=>some (z,fun x=> .c (.p x 0))
 | .box x=>match cellsOf (ov e x)with |some l=>some (l,fun x=> .c (.p x 0)) |none=>none
 | .bsl sz n z ps=>match DI z e ps with |some l=>some (l,fun x=> .c (.l x 0 n sz true)) |none=>none
 | .mks sz bytes z n c=>match on e n,on e c with
  |some n,some c=>bif Nat.ble n c&& Nat.ble (Nat.mul bytes c) m47&& Nat.ble c m63 then some (DJ z c,fun x=> .c (.l x 0 n sz (Nat.beq n c)))else none
  |_,_=>none
noncomputable def alloc (s:St) (l:List S):St:= {s with h:=T.upd (some ⟨l,0,0⟩) s.h s.nb,nb:=Nat.succ s.nb}
noncomputable def BI (x lo hi:Nat) (h:T Bk) (ms:List (Nat×Nat×Nat)):T Bk×List (Nat×Nat×Nat):=
 List.rec (h,[]) (fun m _ ih=>
  bif Nat.beq m.1 x then(ih.1,m::ih.2)
  else bif Nat.ble (Nat.succ m.2.1) hi&& Nat.ble (Nat.succ lo) (Nat.add m.2.1 m.2.2)then(T.upd none ih.1 m.1,ih.2)
  else(ih.1,m::ih.2)) ms
noncomputable def GA (s:St) (x o n:Nat):Option St:=
 match s.h.get x with
 |none=>none
 |some b=>
  bif Nat.ble (Nat.add o n) (Bi b.c)then
   match b.fam with
   |0=>some s
   | .succ f=>match s.fm.get f with
    |none=>none
    |some ms=>
     let k:=BI x (Nat.add b.d o) (Nat.add (Nat.add b.d o) n) s.h ms
     some {s with h:=k.1,fm:=T.upd (some k.2) s.fm f}
  else none
noncomputable def setc (s:St) (x o:Nat) (l:List S):Option St:=
 match s.h.get x with
 |none=>none
 |some b=>some {s with h:=T.upd (some ⟨Bv b.c l o,b.fam,b.d⟩) s.h x}
noncomputable def store (s:St) (x o n:Nat) (l:List S):Option St:=
 bif Nat.beq (Bi l) n then(match GA s x o n with |some s=>setc s x o l |none=>none)else none
noncomputable def HJ (s:St) (sz:Nat):S→Option (Nat×List S)
 | .l0=>some (0,[])
 | .l x o n sz' _=>bif Nat.beq sz sz' then(match n with
  |0=>some (0,[])
  | .succ n=>match cellsAt s x o (Nat.mul (Nat.succ n) sz)with |some l=>some (Nat.succ n,l) |none=>none)else none
 |_=>none
noncomputable def Jt (s:St) (bl:Nat):Option (St×Nat×Nat×List (Nat×Nat×Nat)):=
 match s.h.get bl with
 |none=>none
 |some b=>match b.fam with
  |0=>some ({s with h:=T.upd (some ⟨b.c,Nat.succ s.nf,0⟩) s.h bl,fm:=T.upd (some [(bl,0,Bi b.c)]) s.fm s.nf,nf:=Nat.succ s.nf},0,s.nf,[(bl,0,Bi b.c)])
  | .succ f=>match s.fm.get f with
   |none=>none
   |some ms=>some (s,b.d,f,ms)
noncomputable def grow (s:St) (f d lo hi:Nat) (ms:List (Nat×Nat×Nat)) (l:List S):St:=
 let k:=BI s.nb lo hi s.h ms
 {h:=T.upd (some ⟨l,Nat.succ f,d⟩) k.1 s.nb,nb:=Nat.succ s.nb,fm:=T.upd (some ((s.nb,d,Bi l)::k.2)) s.fm f,nf:=s.nf}
noncomputable def app (s:St) (sz bytes:Nat) (x y:S):Option (V×St):=
 match HJ s sz y with
 |none=>none
 |some (m,ns)=>
  match m with
  |0=>match x with | .l0=>some (.c x,s) | .l _ _ _ _ _=>some (.c x,s) |_=>none
  | .succ _=>
   match x with
   | .l0=>bif Nat.ble (Nat.mul m bytes) m47&& Nat.ble m m63 then some (.c (.l s.nb 0 m sz false),alloc s ns)else none
   | .l bl o n sz' full=>
    bif Nat.beq sz sz'&& (Nat.ble (Nat.mul (Nat.add n m) bytes) m47&& Nat.ble (Nat.add n m) m63)then
     match (match n with |0=>some [] | .succ _=>cellsAt s bl o (Nat.mul n sz))with
     |none=>none
     |some old=>
      bif full then some (.c (.l s.nb 0 (Nat.add n m) sz false),alloc s (DP old ns))
      else match Jt s bl with
       |none=>none
       |some (s',d,f,ms)=>
        let lo:=Nat.add (Nat.add d o) (Nat.mul n sz)
        some (.c (.l s.nb 0 (Nat.add n m) sz false),grow s' f (Nat.add d o) lo (Nat.add lo (Bi ns)) ms (DP old ns))
    else none
   |_=>none
noncomputable def Ia (s:St) (sz:Nat) (z:List S):S→Option (V×St)
 | .l0=>some (.o,s)
 | .l bl o n sz' _=>bif Nat.beq sz sz' then(bif Nat.beq n 0 then some (.o,s)else match store s bl o (Nat.mul n sz) (DJ z n)with |some s=>some (.o,s) |none=>none)else none
 |_=>none
noncomputable def Ib (s:St) (sz bytes:Nat) (z:List S) (n:Option Nat):S→Option (V×St)
 | .l0=>match n with
  |some 0=>some (.c .l0,s)
  |some (.succ m)=>bif Nat.ble (Nat.mul (Nat.succ m) bytes) m47&& Nat.ble (Nat.succ m) m63 then some (.c (.l s.nb 0 (Nat.succ m) sz false),alloc s (DJ z (Nat.succ m)))else none
  |none=>none
 |_=>none
section
variable (call:Nat→List V→St→Option (V×St))
noncomputable def mv (e:E) (s:St):M→Option (V×St)
 | .st n a v=>match os e a,cellsOf (ov e v)with
  | .p x o,some l=>match store s x o n l with |some s=>some (.o,s) |none=>none
  |_,_=>none
 | .app sz bytes x y=>app s sz bytes (os e x) (os e y)
 | .call g xs=>call g (ovs e xs) s
 | .cal x xs=>match os e x with
  | .f g cs=>call g (DP (ovs e xs) (cs.map fun c=>V.c (.p c.1 c.2))) s
  |_=>none
 | .clr sz z x=>Ia s sz z (os e x)
 | .apz sz bytes z x n=>Ib s sz bytes z (on e n) (os e x)
noncomputable def put (e:E) (dst:Option Nat) (v:V):E:=match dst with |none=>e |some d=>T.upd (some v) e d
noncomputable def mo (e:E) (s:St):MO→Option (V×St)
 | .w o=>match wv e o with |some v=>some (v,s) |none=>none
 | .r o=>match rv e s o with |some v=>some (v,s) |none=>none
 | .a o=>match av e o with |some (l,f)=>some (f s.nb,alloc s l) |none=>none
 | .m o=>mv call e s o
noncomputable def Ju (l:List (Nat×Nat)):List (Nat×Nat)→Bool:=
 List.rec (motive:=fun _=>List (Nat×Nat)→Bool) (fun m=>List.rec true (fun _ _ _=>false) m)
  (fun x _ ih m=>List.rec false (fun y t _=>Bool.rec false (ih t) (Nat.beq x.1 y.1&& Nat.beq x.2 y.2)) m) l
noncomputable def sEq:S→S→Bool
 | .b x,.b y=>bif x then y else not y
 | .i a,.i b=>ieq a b
 | .j k a,.j k' b=>Ea k k'&& ieq a b
 | .s l,.s m=>seq l m
 | .p0,.p0=>true
 | .p a b,.p c d=>Nat.beq a c&& Nat.beq b d
 | .l0,.l0=>true
 | .l a b c d e,.l a' b' c' d' e'=>Nat.beq a a'&& Nat.beq b b'&& Nat.beq c c'&& Nat.beq d d'&& (bif e then e' else not e')
 | .f g l,.f g' l'=>Nat.beq g g'&& Ju l l'
 | .f0,.f0=>true
 |_,_=>false
noncomputable def lEq (l:List S):List S→Bool:=
 List.rec (motive:=fun _=>List S→Bool) (fun m=>List.rec true (fun _ _ _=>false) m)
  (fun x _ ih m=>List.rec false (fun y t _=>Bool.rec false (ih t) (sEq x y)) m) l
noncomputable def vEq:V→V→Bool
 | .c a,.c b=>sEq a b
 | .a l,.a m=>lEq l m
 |_,_=>false
noncomputable def Fo (e:E) (s:St) (l:List (Nat×R)):Bool:=
 List.rec true (fun p _ ih=>match ov e (.t p.1)with
  | .t []=>ih
  |v=>match rv e s p.2 with |some u=>vEq v u&& ih |none=>false) l
def GB:V→Option Nat
 | .c (.p x 0)=>some x
 | .c (.l x 0 _ _ _)=>some x
 |_=>none
noncomputable def Fp (e:E) (s:St) (l:List (Nat×A)):Bool:=
 List.rec true (fun p _ ih=>match ov e (.t p.1)with
  | .t []=>ih
  |v=>match av e p.2,GB v with
   |some (l,_),some x=>match s.h.get x with
    |some b=>lEq b.c l&& Nat.beq b.fam 0&& Nat.beq b.d 0&& ih
    |none=>false
   |_,_=>false) l
noncomputable def evG (e:E) (s:St) (dst:Option Nat) (g:Option (Nat×Bool)) (o:MO):Option (E×St):=
 match g with
 |none=>match mo call e s o with |some (v,s)=>some (put e dst v,s) |none=>none
 |some (t,want)=>match ov e (.t t)with
  | .c (.b x)=>bif (bif x then want else not want)then(match mo call e s o with |some (v,s)=>some (put e dst v,s) |none=>none)else some (put e dst (.t []),s)
  | .t []=>some (put e dst (.t []),s)
  |_=>none
noncomputable def stp (e:E) (s:St):Stp→Option (E×St)
 | .ev dst g o=>evG call e s dst g o
 | .mk dst g o rs as_=>match evG call e s dst g (.m o)with
  |some (e,s)=>bif Fo e s rs&& Fp e s as_ then some (e,s)else none
  |none=>none
 | .e2 n₁ a₁ v₁ n₂ a₂ v₂=>match os e a₁,cellsOf (ov e v₁),os e a₂,cellsOf (ov e v₂)with
  | .p x₁ o₁,some l₁,.p x₂ o₂,some l₂=>
   bif ((not (Nat.beq x₁ x₂)) || Nat.ble (Nat.add o₁ n₁) o₂ || Nat.ble (Nat.add o₂ n₂) o₁)&& Nat.beq (Bi l₁) n₁&& Nat.beq (Bi l₂) n₂ then
    match GA s x₁ o₁ n₁ with
    |none=>none
    |some s=>match GA s x₂ o₂ n₂ with
     |none=>none
     |some s=>match setc s x₁ o₁ l₁ with
      |none=>none
      |some s=>match setc s x₂ o₂ l₂ with
       |none=>none
       |some s=>some (e,s)
   else none
  |_,_,_,_=>none
noncomputable def reg (l:List Stp):E→St→Option (E×St):=
 List.rec (motive:=fun _=>E→St→Option (E×St)) (fun e s=>some (e,s)) (fun x _ ih e s=>match stp call e s x with |some (e,s)=>ih e s |none=>none) l
variable (N:Nat)
noncomputable def ev (m:MC):E→St→Rs:=
 MC.rec (motive:=fun _=>E→St→Rs)
  (fun e s=> .no e s)
  (fun l e s=>match reg call l e s with |some (e,s)=> .no e s |none=> .bad)
  (fun _ _ ia ib e s=>match ia e s with | .no e s=>ib e s |r=>r)
  (fun c _ _ ia ib e s=>match os e c with | .b x=>Bool.rec (ib e s) (ia e s) x |_=> .bad)
  (fun id _ im e s=>match im e s with | .ex id' e s=>bif Nat.beq id' id then .no e s else .ex id' e s |r=>r)
  (fun _ im e s=>Nat.rec (motive:=fun _=>E→St→Rs) (fun _ _=> .bad) (fun _ ih e s=>match im e s with | .no e s=>ih e s |r=>r) N e s)
  (fun id e s=> .ex id e s)
  (fun e s=> .rt e s) m
noncomputable def Ic (e:E) (s:St):MRes→Option V
 | .t i=>match ov e (.t i)with | .t _=>none |v=>some v
 | .c n i=>ldv s n (os e (.t i))
noncomputable def F0 (e:E) (s:St) (l:List MRes):Option (List V):=
 List.rec (some []) (fun x _ ih=>match Ic e s x,ih with |some v,some l=>some (v::l) |_,_=>none) l
noncomputable def results (e:E) (s:St) (l:List MRes):Option (V×St):=
 match F0 e s l with
 |some [v]=>some (v,s)
 |some l=>some (.t l,s)
 |none=>none
end
noncomputable def F1 (vs:List V):Nat→E:=
 List.rec (motive:=fun _=>Nat→E) (fun _=>T.lf) (fun v _ ih k=>T.upd (some v) (ih (Nat.succ k)) k) vs
noncomputable def fn (tbl:T MFn) (N:Nat) (ext:Nat→List V→St→Option (V×St)) (d:Nat):Nat→List V→St→Option (V×St):=
 Nat.rec (motive:=fun _=>Nat→List V→St→Option (V×St)) (fun _ _ _=>none) (fun _ ih g vs s=>
  match tbl.get g with
  |none=>ext g vs s
  |some f=>match ev ih N f.body (F1 vs 0) s with
   | .no e s=>results e s f.res
   | .rt e s=>results e s f.res
   |_=>none) d
def St.zero:St:=⟨T.lf,0,T.lf,0⟩
end Go.Ev
end
section
namespace Go.Ev
def src0:List Nat:=[100,97,116,97,32,76,105,115,116,32,97,32,61,32,78,105,108,32,124,32,67,111,110,115,32,97,32,40,76,105,115,116,32,97,41,59,10,114,101,99,32,109,97,112,32,102,32,61,32,102,117,110,32,108,32,45,62,32,99,97,115,101,32,108,32,111,102,32,123,32,78,105,108,32,45,62,32,78,105,108,59,32,67,111,110,115,32,120,32,116,32,45,62,32,67,111,110,115,32,40,102,32,120,41,32,40,109,97,112,32,102,32,116,41,32,125,32,105,110,10,114,101,99,32,115,117,109,32,108,32,61,32,99,97,115,101,32,108,32,111,102,32,123,32,78,105,108,32,45,62,32,48,59,32,67,111,110,115,32,120,32,116,32,45,62,32,120,32,43,32,115,117,109,32,116,32,125,32,105,110,10,115,117,109,32,40,109,97,112,32,40,102,117,110,32,120,32,45,62,32,120,32,42,32,120,41,32,40,67,111,110,115,32,49,32,40,67,111,110,115,32,50,32,40,67,111,110,115,32,51,32,78,105,108,41,41,41,41,10]
def src1:List Nat:=[100,97,116,97,32,80,97,105,114,32,97,32,98,32,61,32,80,97,105,114,32,97,32,98,59,10,100,97,116,97,32,66,111,111,108,32,61,32,84,114,117,101,32,124,32,70,97,108,115,101,59,10,108,101,116,32,105,100,32,61,32,102,117,110,32,120,32,45,62,32,120,32,105,110,10,108,101,116,32,112,32,61,32,80,97,105,114,32,40,105,100,32,51,41,32,40,105,100,32,84,114,117,101,41,32,105,110,10,99,97,115,101,32,112,32,111,102,32,123,32,80,97,105,114,32,110,32,84,114,117,101,32,45,62,32,112,117,116,32,40,110,32,43,32,49,41,59,32,80,97,105,114,32,95,32,70,97,108,115,101,32,45,62,32,48,32,125,10]
def src2:List Nat:=[114,101,99,32,102,97,99,116,32,110,32,61,32,105,102,32,110,32,116,104,101,110,32,110,32,42,32,102,97,99,116,32,40,110,32,45,32,49,41,32,101,108,115,101,32,49,32,105,110,10,108,101,116,32,120,32,61,32,112,117,116,32,40,102,97,99,116,32,53,41,32,105,110,10,102,97,99,116,32,50,48,10]
def src3:List Nat:=[100,97,116,97,32,84,114,101,101,32,61,32,76,101,97,102,32,124,32,78,111,100,101,32,84,114,101,101,32,73,110,116,32,84,114,101,101,59,10,114,101,99,32,105,110,115,32,120,32,61,32,102,117,110,32,116,32,45,62,32,99,97,115,101,32,116,32,111,102,32,123,32,76,101,97,102,32,45,62,32,78,111,100,101,32,76,101,97,102,32,120,32,76,101,97,102,59,32,78,111,100,101,32,108,32,121,32,114,32,45,62,32,105,102,32,120,32,60,32,121,32,116,104,101,110,32,78,111,100,101,32,40,105,110,115,32,120,32,108,41,32,121,32,114,32,101,108,115,101,32,78,111,100,101,32,108,32,121,32,40,105,110,115,32,120,32,114,41,32,125,32,105,110,10,114,101,99,32,119,97,108,107,32,116,32,61,32,99,97,115,101,32,116,32,111,102,32,123,32,76,101,97,102,32,45,62,32,48,59,32,78,111,100,101,32,108,32,121,32,114,32,45,62,32,108,101,116,32,97,32,61,32,119,97,108,107,32,108,32,105,110,32,108,101,116,32,98,32,61,32,112,117,116,32,121,32,105,110,32,97,32,43,32,119,97,108,107,32,114,32,43,32,49,32,125,32,105,110,10,119,97,108,107,32,40,105,110,115,32,51,32,40,105,110,115,32,57,32,40,105,110,115,32,49,32,40,105,110,115,32,53,32,76,101,97,102,41,41,41,41,10]
def src4:List Nat:=[100,97,116,97,32,79,112,116,32,97,32,61,32,78,111,110,101,32,124,32,83,111,109,101,32,97,59,10,100,97,116,97,32,76,105,115,116,32,97,32,61,32,78,105,108,32,124,32,67,111,110,115,32,97,32,40,76,105,115,116,32,97,41,59,10,114,101,99,32,102,105,110,100,32,107,32,61,32,102,117,110,32,108,32,45,62,32,99,97,115,101,32,108,32,111,102,32,123,32,78,105,108,32,45,62,32,78,111,110,101,59,32,67,111,110,115,32,40,83,111,109,101,32,120,41,32,116,32,45,62,32,105,102,32,120,32,61,61,32,107,32,116,104,101,110,32,83,111,109,101,32,120,32,101,108,115,101,32,102,105,110,100,32,107,32,116,59,32,67,111,110,115,32,78,111,110,101,32,116,32,45,62,32,102,105,110,100,32,107,32,116,32,125,32,105,110,10,99,97,115,101,32,102,105,110,100,32,50,32,40,67,111,110,115,32,78,111,110,101,32,40,67,111,110,115,32,40,83,111,109,101,32,50,41,32,78,105,108,41,41,32,111,102,32,123,32,78,111,110,101,32,45,62,32,48,59,32,83,111,109,101,32,50,32,45,62,32,50,50,59,32,83,111,109,101,32,110,32,45,62,32,110,32,125,10]
def src5:List Nat:=[114,101,99,32,108,111,111,112,32,110,32,61,32,105,102,32,110,32,116,104,101,110,32,108,111,111,112,32,40,110,32,45,32,49,41,32,101,108,115,101,32,55,32,105,110,32,108,111,111,112,32,54,48,10]
def src6:List Nat:=[100,97,116,97,32,78,97,116,32,61,32,90,32,124,32,83,32,78,97,116,59,10,114,101,99,32,97,100,100,32,97,32,61,32,102,117,110,32,98,32,45,62,32,99,97,115,101,32,97,32,111,102,32,123,32,90,32,45,62,32,98,59,32,83,32,110,32,45,62,32,83,32,40,97,100,100,32,110,32,98,41,32,125,32,105,110,10,108,101,116,32,116,119,111,32,61,32,83,32,40,83,32,90,41,32,105,110,10,108,101,116,32,99,111,109,112,32,61,32,102,117,110,32,102,32,45,62,32,102,117,110,32,103,32,45,62,32,102,117,110,32,120,32,45,62,32,102,32,40,103,32,120,41,32,105,110,10,99,111,109,112,32,40,97,100,100,32,116,119,111,41,32,40,97,100,100,32,116,119,111,41,32,40,83,32,90,41,10]
end Go.Ev
end
section
namespace Go.Ev
open Go
def LR {α β:Type}(R:α→β→Prop):List α→List β→Prop
 | [],[]=>True
 |a::l,b::m=>R a b∧LR R l m
 |_,_=>False
section
variable {α β:Type}{R R':α→β→Prop}
theorem LR.mono (h:∀a b,R a b→R' a b):∀ {l:List α}{m:List β},LR R l m→LR R' l m
 | [],[],_=>trivial
 |_::_,_::_,hh=>⟨h _ _ hh.1,LR.mono h hh.2⟩
 | [],_::_,hh=>hh.elim
 |_::_,[],hh=>hh.elim
theorem LR.length:∀ {l:List α}{m:List β},LR R l m→l.length=m.length
 | [],[],_=>rfl
 |_::_,_::_,hh=>by simp[LR.length hh.2]
 | [],_::_,hh=>hh.elim
 |_::_,[],hh=>hh.elim
theorem LR.get:∀ {l:List α}{m:List β}{i:Nat}{a:α},LR R l m→l[i]?=some a→ ∃b,m[i]?=some b∧R a b
 | [],[],_,_,_,h=>by simp at h
 |x::l,y::m,0,a,hh,h=>by simp at h;subst h;exact⟨y,by simp,hh.1⟩
 |_::l,_::m,i+1,a,hh,h=>by
  have:=LR.get (i:=i) hh.2 (by simpa using h)
  simpa using this
 | [],_::_,_,_,hh,_=>hh.elim
 |_::_,[],_,_,hh,_=>hh.elim
theorem LR.of_get:∀ {l:List α}{m:List β},l.length=m.length→(∀ (i:Nat) (a:α) (b:β),l[i]?=some a→m[i]?=some b→R a b)→LR R l m
 | [],[],_,_=>trivial
 |a::l,b::m,hl,h=>⟨h 0 a b (by simp) (by simp),LR.of_get (by simpa using hl) fun i a b h1 h2=>h (i+1) a b (by simpa using h1) (by simpa using h2)⟩
 | [],_::_,hl,_=>by simp at hl
 |_::_,[],hl,_=>by simp at hl
theorem LR.append:∀ {l:List α}{m:List β}{l':List α}{m':List β},LR R l m→LR R l' m'→LR R (l++l') (m++m')
 | [],[],_,_,_,h'=>h'
 |_::_,_::_,_,_,h,h'=>⟨h.1,LR.append h.2 h'⟩
 | [],_::_,_,_,h,_=>h.elim
 |_::_,[],_,_,h,_=>h.elim
theorem LR.take:∀ {l:List α}{m:List β}(n:Nat),LR R l m→LR R (l.take n) (m.take n)
 | [],[],_,_=>by simp[LR]
 |_::_,_::_,0,_=>by simp[LR]
 |_::_,_::_,n+1,h=>by simp only[List.take_succ_cons];exact⟨h.1,LR.take n h.2⟩
 | [],_::_,_,h=>h.elim
 |_::_,[],_,h=>h.elim
theorem LR.drop:∀ {l:List α}{m:List β}(n:Nat),LR R l m→LR R (l.drop n) (m.drop n)
 | [],[],_,_=>by simp[LR]
 |_::_,_::_,0,h=>h
 |_::_,_::_,n+1,h=>by simp only[List.drop_succ_cons];exact LR.drop n h.2
 | [],_::_,_,h=>h.elim
 |_::_,[],_,h=>h.elim
theorem LR.map {γ:Type}(f:γ→β):∀ {l:List α}{m:List γ},LR (fun a c=>R a (f c)) l m→LR R l (m.map f)
 | [],[],_=>trivial
 |_::_,_::_,h=>⟨h.1,LR.map f h.2⟩
 | [],_::_,h=>h.elim
 |_::_,[],h=>h.elim
theorem LR.all {Q:β→Prop}(h:∀a b,R a b→Q b):∀ {l:List α}{m:List β},LR R l m→ ∀b∈m,Q b
 | [],[],_,b,hb=>by simp at hb
 |_::_,_::_,hh,b,hb=>by
  rcases List.mem_cons.1 hb with e |hb
  ·exact e▸h _ _ hh.1
  ·exact LR.all h hh.2 b hb
 | [],_::_,hh,_,_=>hh.elim
 |_::_,[],hh,_,_=>hh.elim
end
abbrev Rho:=Nat→Option (Nat×Nat×Nat)
def Rho.le (ρ ρ':Rho):Prop:=∀x y,ρ x=some y→ρ' x=some y
theorem Rho.le_refl (ρ:Rho):ρ.le ρ:=fun _ _ h=>h
theorem Rho.le_trans {a b c:Rho}(h:a.le b) (k:b.le c):a.le c:=fun _ _ e=>k _ _ (h _ _ e)
def PR (ρ:Rho) (x o:Nat) (v:Value):Prop:=∃cb sh z,ρ x=some (cb,sh,z)∧v= .pointer (some ⟨cb,sh+o,none⟩)
def LS (ρ:Rho) (x o n e:Nat) (full:Bool) (v:Value):Prop:=
 ∃cb sh z a cap,ρ x=some (cb,sh,z)∧v= .slice (some a) n cap∧n≤cap∧(full=true→cap=n)∧(0 < cap→a=⟨cb,sh+o,none⟩)∧sh+o+cap*e≤z∧0 < e
def SR (ρ:Rho):S→Value→Prop
 | .un,v=>v.oneCell'=true
 | .b x,v=>v= .bool x
 | .i n,v=>v= .int .i64 n
 | .j k n,v=>v= .int k n
 | .s l,v=>∃bs:ByteArray,v= .string bs∧bs.data.toList.map UInt8.toNat=l
 | .p0,v=>v= .pointer none
 | .p x o,v=>PR ρ x o v
 | .l0,v=>v= .slice none 0 0
 | .l x o n e full,v=>LS ρ x o n e full v
 | .f g cs,v=>∃arr:Array Value,v= .func (.func g) #[] arr∧LR (fun(c:Nat×Nat) v=>PR ρ c.1 c.2 v) cs arr.toList
 | .f0,v=>v= .nilFunc
def VR0 (ρ:Rho):V→Value→Prop
 | .o,_=>True
 | .c s,v=>SR ρ s v
 | .a l,v=>∃arr:Array Value,v= .agg arr∧LR (SR ρ) l arr.toList
 | .t _,_=>False
def VR (ρ:Rho):V→Value→Prop
 | .t l,v=>∃arr:Array Value,v= .tuple arr∧LR (VR0 ρ) l arr.toList
 | .o,_=>True
 | .c s,v=>SR ρ s v
 | .a l,v=>∃arr:Array Value,v= .agg arr∧LR (SR ρ) l arr.toList
theorem PR.mono {ρ ρ':Rho}(h:ρ.le ρ') {x o:Nat}{v:Value}:PR ρ x o v→PR ρ' x o v:=
 fun⟨cb,sh,z,h1,h2⟩=>⟨cb,sh,z,h _ _ h1,h2⟩
theorem SR.mono {ρ ρ':Rho}(h:ρ.le ρ') {s:S}{v:Value}(hs:SR ρ s v):SR ρ' s v:=by
 cases s with
 |p x o=>exact PR.mono h hs
 |l x o n e full=>obtain⟨cb,sh,z,a,cap,h1,hr⟩:=hs;exact⟨cb,sh,z,a,cap,h _ _ h1,hr⟩
 |f g cs=>obtain⟨arr,h1,h2⟩:=hs;exact⟨arr,h1,h2.mono fun _ _=>PR.mono h⟩
 |_=>exact hs
theorem VR0.mono {ρ ρ':Rho}(h:ρ.le ρ') {s:V}{v:Value}(hs:VR0 ρ s v):VR0 ρ' s v:=by
 cases s with
 |o=>trivial
 |c s=>exact SR.mono h hs
 |a l=>obtain⟨arr,h1,h2⟩:=hs;exact⟨arr,h1,h2.mono fun _ _=>SR.mono h⟩
 |t l=>exact hs.elim
theorem VR.mono {ρ ρ':Rho}(h:ρ.le ρ') {s:V}{v:Value}(hs:VR ρ s v):VR ρ' s v:=by
 cases s with
 |o=>trivial
 |c s=>exact SR.mono h hs
 |a l=>obtain⟨arr,h1,h2⟩:=hs;exact⟨arr,h1,h2.mono fun _ _=>SR.mono h⟩
 |t l=>obtain⟨arr,h1,h2⟩:=hs;exact⟨arr,h1,h2.mono fun _ _=>VR0.mono h⟩
theorem VR.of0 {ρ:Rho}{s:V}{v:Value}(h:VR0 ρ s v):VR ρ s v:=by cases s <;> first |exact h |exact h.elim
theorem SR.one {ρ:Rho}{s:S}{v:Value}(h:SR ρ s v):v.oneCell'=true:=by
 cases s with
 |un=>exact h
 |p x o=>obtain⟨_,_,_,_,rfl⟩:=h;rfl
 |l x o n e full=>obtain⟨_,_,_,_,_,_,rfl,_⟩:=h;rfl
 |f g cs=>obtain⟨_,rfl,_⟩:=h;rfl
 |s l=>obtain⟨_,rfl,_⟩:=h;rfl
 |_=>have h':=h;simp only[SR]at h';subst h';rfl
theorem VR.cells {ρ:Rho}{v:V}{cv:Value}{l:List S}(h:VR ρ v cv) (hl:cellsOf v=some l):LR (SR ρ) l cv.cells.toList:=by
 cases v with
 |o=>simp[cellsOf]at hl
 |c s=>
  simp only[cellsOf,Af]at hl;subst hl;have h1:=SR.one h;have:cv.cells= #[cv]:=by cases cv <;> first |rfl |simp[Value.oneCell']at h1
  rw[this];exact⟨h,trivial⟩
 |a l'=>
  simp only[cellsOf,Af]at hl;subst hl;obtain⟨arr,rfl,h2⟩:=h;exact h2
 |t l'=>simp[cellsOf]at hl
structure Rel (ρ:Rho) (s:St) (w:World):Prop where
 dom:∀x y,ρ x=some y→x < s.nb
 blk:∀x cb sh z,ρ x=some (cb,sh,z)→ ∃cs e,w.heap[cb]?=some (.cells cs e (0,0))∧cs.size=z
 con:∀x cb sh z b,ρ x=some (cb,sh,z)→s.h.get x=some b→sh+b.c.length≤z∧ ∀i sv,b.c[i]?=some sv→ ∃cv,w.cell? ⟨cb,sh+i,none⟩=some cv∧SR ρ sv cv
 inj:∀x y cb sh sh' z z' bx b',x≠y→ρ x=some (cb,sh,z)→ρ y=some (cb,sh',z')→s.h.get x=some bx→s.h.get y=some b'→bx.fam=b'.fam∧bx.fam≠0∧sh+b'.d=sh'+bx.d
 fam:∀x b f,s.h.get x=some b→b.fam=f+1→ ∃ms,s.fm.get f=some ms∧(x,b.d,b.c.length)∈ms
 nfl:∀x b,s.h.get x=some b→b.fam≤s.nf
 lt:∀x b,s.h.get x=some b→x < s.nb
structure Go (s:St) (ρ:Rho) (w:World) (s':St) (ρ':Rho) (w':World):Prop where
 le:ρ.le ρ'
 os:w'.os=w.os
 tape:w'.tape=w.tape
 output:w'.output=w.output
 size:w.heap.size≤w'.heap.size
 block:∀c,c < w.heap.size→(∀x sh z,ρ x≠some (c,sh,z))→w'.heap[c]?=w.heap[c]?
 new:∀x cb sh z,ρ' x=some (cb,sh,z)→(∃x0 sh0 z0,ρ x0=some (cb,sh0,z0))∨w.heap.size≤cb
 nbs:s.nb≤s'.nb
 fresh:∀x y,ρ' x=some y→ρ x=some y∨s.nb≤x
theorem Go.refl (s:St) (ρ:Rho) (w:World):Go s ρ w s ρ w:=⟨Rho.le_refl _,rfl,rfl,rfl,Ad _,fun _ _ _=>rfl,fun x cb sh z h=> .inl ⟨x,sh,z,h⟩,Ad _,fun _ _ h=> .inl h⟩
theorem Go.trans {s₁ s₂ s₃:St}{ρ₁ ρ₂ ρ₃:Rho}{w₁ w₂ w₃:World}(h:Go s₁ ρ₁ w₁ s₂ ρ₂ w₂) (k:Go s₂ ρ₂ w₂ s₃ ρ₃ w₃):Go s₁ ρ₁ w₁ s₃ ρ₃ w₃:=
 ⟨Rho.le_trans h.le k.le,k.os.trans h.os,k.tape.trans h.tape,k.output.trans h.output,Ar h.size k.size,
 fun c hc hn=>(k.block c (Aj hc h.size) (fun x sh z e=>by
   rcases h.new x c sh z e with ⟨x0,sh0,z0,e0⟩ |h'
   ·exact hn _ _ _ e0
   ·omega)).trans (h.block c hc hn),
 fun x cb sh z e=>by
   rcases k.new x cb sh z e with ⟨x0,sh0,z0,e0⟩ |h'
   ·exact h.new _ _ _ _ e0
   ·exact .inr (Ar h.size h'),
 Ar h.nbs k.nbs,
 fun x y e=>by
   rcases k.fresh x y e with e' |e'
   ·exact h.fresh x y e'
   ·exact .inr (Ar h.nbs e')⟩
theorem Go.states {s₁ s₂ t₁ t₂:St}{ρ ρ':Rho}{w w':World}(h:Go s₁ ρ w s₂ ρ' w') (h1:t₁.nb=s₁.nb) (h2:t₂.nb=s₂.nb):Go t₁ ρ w t₂ ρ' w':=
 ⟨h.le,h.os,h.tape,h.output,h.size,h.block,h.new,by rw[h1,h2];exact h.nbs,by rw[h1];exact h.fresh⟩
theorem Rel.drop {ρ:Rho}{s s':St}{w:World}(h:Rel ρ s w) (hb:s'.nb=s.nb) (hn:s'.nf=s.nf) (hh:∀x b,s'.h.get x=some b→s.h.get x=some b)
  (hf:∀x b f,s'.h.get x=some b→b.fam=f+1→ ∃ms,s'.fm.get f=some ms∧(x,b.d,b.c.length)∈ms):Rel ρ s' w:=
 ⟨fun x y e=>hb▸h.dom x y e,h.blk,fun x cb sh z b e e'=>h.con x cb sh z b e (hh _ _ e'),
 fun x y cb sh sh' z z' bx b' hne e1 e2 e3 e4=>h.inj x y cb sh sh' z z' bx b' hne e1 e2 (hh _ _ e3) (hh _ _ e4),hf,
 fun x b e=>hn▸h.nfl x b (hh _ _ e),fun x b e=>hb▸h.lt x b (hh _ _ e)⟩
theorem Rel.drew {ρ:Rho}{s:St}{w:World}(h:Rel ρ s w):Rel ρ s w.drew:=⟨h.dom,h.blk,h.con,h.inj,h.fam,h.nfl,h.lt⟩
theorem Go.drew {s s':St}{ρ ρ':Rho}{w w':World}(h:Go s ρ w s' ρ' w'):Go s ρ w s' ρ' w'.drew:=⟨h.le,h.os,h.tape,h.output,h.size,h.block,h.new,h.nbs,h.fresh⟩
theorem Rel.cellsAt {ρ:Rho}{s:St}{w:World}(h:Rel ρ s w) {x o n:Nat}{l:List S}(hl:cellsAt s x o n=some l) {cb sh z:Nat}(hx:ρ x=some (cb,sh,z)):
  l.length=n∧sh+o+n≤z∧ ∀i sv,l[i]?=some sv→ ∃cv,w.cell? ⟨cb,sh+o+i,none⟩=some cv∧SR ρ sv cv:=by
 unfold Ev.cellsAt at hl;cases hb:s.h.get x with
 |none=>simp[hb]at hl
 |some b=>
  simp only[hb,GN,GM,Cq]at hl;obtain⟨hle,hl⟩:=Bh hl
  ·have hle':o+n≤b.c.length:=Ce hle;simp only[Af]at hl;obtain⟨h1,h2⟩:=h.con x cb sh z b hx hb;subst hl;refine⟨by simp;omega,by omega,fun i sv hi=> ?_⟩;have hi':b.c[o+i]?=some sv:=by
    rw[Ej]at hi;split at hi
    ·simpa using hi
    ·simp at hi
   have:=h2 _ _ hi'
   simpa [Da] using this
theorem Rel.cells_there {ρ:Rho}{s:St}{w:World}(h:Rel ρ s w) {x o n:Nat}{l:List S}(hl:Ev.cellsAt s x o n=some l) {cb sh z:Nat}(hx:ρ x=some (cb,sh,z)):
  ∃cs:List Value,cs.length=n∧LR (SR ρ) l cs∧ ∀j v,cs[j]?=some v→w.cell? ((⟨cb,sh+o,none⟩:Addr).add j)=some v:=by
 obtain⟨h1,_,h3⟩:=h.cellsAt hl hx;have hadd:∀j,(⟨cb,sh+o,none⟩:Addr).add j=⟨cb,sh+o+j,none⟩:=fun j=>by unfold Addr.add;split <;> simp_all
 refine⟨(List.range n).map fun j=>(w.cell? ⟨cb,sh+o+j,none⟩).getD undef,by simp,?_,?_⟩
 ·refine LR.of_get (by simp[h1]) fun i a b ha hb=> ?_;obtain⟨cv,hc,hs⟩:=h3 i a ha;have hi:i < n:=by have:=(Em.1 ha).1;omega
  simp[hi,hc]at hb;exact hb▸hs
 ·intro j v hj;have hj':j < n:=by have:=(Em.1 hj).1;simpa using this
  rw[hadd];obtain⟨cv,hc,_⟩:=h3 j (l[j]'(by omega)) (by simp);simp[hj',hc]at hj;rw[hc,hj]
structure TyI where
 u:TypeDesc
 sz:Nat
 by_:Nat
 z:List S
def Ii:Value→Option S
 | .bool b=>some (.b b)
 | .int k n=>some (mkI k n)
 | .string bs=>some (.s (bs.data.toList.map UInt8.toNat))
 | .pointer none=>some .p0
 | .slice none 0 0=>some .l0
 | .nilFunc=>some .f0
 |_=>none
def Fs:List Value→Option (List S)
 | []=>some []
 |v::l=>match Ii v,Fs l with |some s,some m=>some (s::m) |_,_=>none
def JE:Value→Option V
 | .agg cs=>(Fs cs.toList).map .a
 |v=>(Ii v).map .c
def cO:Operand→Option O
 | .tmp t=>some (.t t)
 | .const v=>(JE v).map .k
 | .func f=>some (.k (.c (.f f [])))
 | .global _=>none
def cOs:List Operand→Option (List O)
 | []=>some []
 |x::l=>match cO x,cOs l with |some y,some m=>some (y::m) |_,_=>none
def cOo:Option Operand→Option (Option O)
 |none=>some none
 |some x=>match cO x with |some y=>some (some y) |none=>none
def Ft (Ey:Nat→Option (Nat×Nat)):List (Nat×Operand)→Option (List (Nat×Nat×O))
 | []=>some []
 | (i,x)::l=>match Ey i,cO x,Ft Ey l with
  |some (off,sz),some y,some m=>some ((off,sz,y)::m)
  |_,_,_=>none
def DL:TypeDesc→Bool
 | .struct _ | .array _ _=>true
 |_=>false
def tyI (P:Program) (t:TypeId):Option TyI:=
 match P.underlying t,P.info? t with
 |some u,some i=>match i.zero with
  |some z=>match Fs z.cells.toList with
   |some l=>some ⟨u,i.size,i.bytes,l⟩
   |none=>none
  |none=>none
 |_,_=>none
section
variable (ty:TypeId→Option TyI) (ibs:FuncId→Bool)
def Ey (u:TypeDesc) (i:Nat):Option (Nat×Nat):=
 match u with
 | .struct fs=>match fs[i]? with
  |some f=>match ty f.type with |some j=>some (f.offset,j.sz) |none=>none
  |none=>none
 | .array _ e=>match ty e with |some j=>some (i*j.sz,j.sz) |none=>none
 |_=>none
def JF (u:TypeDesc):Bool:=
 match u with
 | .struct fs=>fs.toList.all fun f=>(ty f.type).isSome
 | .array _ e=>(ty e).isSome
 |_=>false
def Fu (t:TypeId):Option TyI:=
 match ty t with
 |some i=>match i.u with | .slice e=>ty e |_=>none
 |none=>none
def CS:BinOp→Bool
 | .neq=>true
 |_=>false
def JG (op:BinOp) (t:TypeId) (x y:O):Option W:=
 match op with
 | .eql | .neq=>match ty t with
  |some i=>match i.u with
   | .int _=>some (.bin op x y)
   | .string=>some (.bin op x y)
   | .bool=>some (.eqb (CS op) x y)
   | .slice _=>some (.eql (CS op) x y)
   | .pointer _=>some (.eqp (CS op) x y)
   | .func _ _ _=>some (.eqf (CS op) x y)
   |_=>none
  |none=>none
 |op=>some (.bin op x y)
noncomputable def Fv (b:Builtin) (args:List O) (ts:List TypeId):Option MO:=
 match b,args,ts with
 | .len,[x],[t]=>match ty t with
  |some i=>match i.u with | .string=>some (.w (.lns x)) | .slice _=>some (.w (.lnl x)) |_=>none
  |none=>none
 | .cap,[x],[t]=>match ty t with
  |some i=>match i.u with | .slice _=>some (.w (.cpl x)) |_=>none
  |none=>none
 | .min,[x,y],_=>some (.w (.mnx false x y))
 | .max,[x,y],_=>some (.w (.mnx true x y))
 | .append,[x,y],[t,t']=>match Fu ty t,ty t' with
  |some i,some i'=>if i.sz=0∨i.z.length≠i.sz then none else if t=t' then some (.m (.app i.sz i.by_ x y))else match i'.u with
   | .int _=>some (.m (.apz i.sz i.by_ i.z x y))
   |_=>none
  |_,_=>none
 | .clear,[x],[t]=>match Fu ty t with
  |some i=>if i.sz=0∨i.z.length≠i.sz then none else some (.m (.clr i.sz i.z x))
  |none=>none
 |_,_,_=>none
noncomputable def cMO:Op→Option MO
 | .move x=>(cO x).map fun x=> .w (.mv x)
 | .assign x=>(cO x).map fun x=> .w (.mv x)
 | .pick c a b=>match cO c,cO a,cO b with |some c,some a,some b=>some (.w (.pick c a b)) |_,_,_=>none
 | .alloc t=>(ty t).map fun i=> .a (.al i.z)
 | .box _ x=>(cO x).map fun x=> .a (.box x)
 | .build t ps=>match ty t with
  |some i=>if JF ty i.u then(Ft (Ey ty i.u) ps.toList).map fun l=> .w (.build i.z l)else none
  |none=>none
 | .buildSlice t n ps=>match Fu ty t with
  |some j=>if j.sz=0∨n*j.sz > 16777216∨j.z.length≠j.sz then none else(Ft (fun i=>some (i*j.sz,j.sz)) ps.toList).map fun l=> .a (.bsl j.sz n (DJ j.z n) l)
  |none=>none
 | .load t a=>match ty t,cO a with |some i,some a=>some (.r (.ld (if DL i.u then some i.sz else none) a)) |_,_=>none
 | .store t a v=>match ty t,cO a,cO v with |some i,some a,some v=>some (.m (.st i.sz a v)) |_,_,_=>none
 | .nilCheck x=>(cO x).map fun x=> .w (.nilc x)
 | .binOp op t x y _=>match cO x,cO y with |some x,some y=>(JG ty op t x y).map .w |_,_=>none
 | .unOp op _ x=>(cO x).map fun x=> .w (.un op x)
 | .convert s d x=>match ty s,ty d,cO x with
  |some i,some j,some x=>match i.u,j.u with
   | .int _,.int k=>some (.w (.cv k x))
   | .int _,.string=>some (.w (.cvs x))
   | .slice e,.string=>match ty e with
    |some k=>match k.u with | .int .u8=>some (.r (.bts x)) |_=>none
    |none=>none
   |_,_=>none
  |_,_,_=>none
 | .makeFunc (.func g) first caps=>if first.isEmpty then(cOs caps.toList).map fun l=> .w (.mkf g l)else none
 | .makeSlice t n c=>match Fu ty t,cO n,cO c with |some i,some n,some c=>if i.sz=0∨i.z.length≠i.sz then none else some (.a (.mks i.sz i.by_ i.z n c)) |_,_,_=>none
 | .slice t x lo hi mx=>match ty t,cO x,cOo lo,cOo hi,cOo mx with
  |some i,some x,some lo,some hi,some mx=>match i.u with
   | .string=>match mx with |none=>some (.w (.sls x lo hi)) |some _=>none
   | .slice e=>match ty e with |some j=>if mx.isSome&& hi.isNone then none else some (.w (.sll j.sz x lo hi mx)) |none=>none
   |_=>none
  |_,_,_,_,_=>none
 | .fieldAddr t x f=>match ty t,cO x with
  |some i,some x=>match i.u with
   | .struct fs=>match fs[f]? with
    |some f=>match ty f.type with |some j=>if j.sz=0 then none else some (.w (.fad f.offset x)) |none=>none
    |none=>none
   |_=>none
  |_,_=>none
 | .field t x f=>match ty t,cO x with
  |some i,some x=>match i.u with
   | .struct fs=>match fs[f]? with
    |some f=>match ty f.type with |some j=>some (.w (.fld f.offset (if DL j.u then some j.sz else none) x)) |none=>none
    |none=>none
   |_=>none
  |_,_=>none
 | .indexAddr t x ix=>match Fu ty t,cO x,cO ix with |some j,some x,some ix=>some (.w (.iad j.sz x ix)) |_,_,_=>none
 | .index t x ix=>match ty t,cO x,cO ix with
  |some i,some x,some ix=>match i.u with | .string=>some (.w (.ixs x ix)) |_=>none
  |_,_,_=>none
 | .extract x i=>(cO x).map fun x=> .w (.ext i x)
 | .call c=>match cOs c.args.toList with
  |some l=>match c.callee with
   | .builtin b=>Fv ty b l c.argTypes.toList
   | .value (.func f)=>if ibs f then(match l with | [x,y]=>some (.w (.ibs x y)) |_=>none)else some (.m (.call f l))
   | .value x=>(cO x).map fun x=> .m (.cal x l)
   |_=>none
  |none=>none
 |_=>none
end
def TyOk (P:Program) (ty:TypeId→Option TyI):Prop:=∀t i,ty t=some i→tyI P t=some i
theorem TyOk.under {P:Program}{ty:TypeId→Option TyI}(h:TyOk P ty) {t:TypeId}{i:TyI}(hi:ty t=some i):P.underlying t=some i.u:=by
 have:=h t i hi;unfold tyI at this;split at this
 ·rename_i u j hu hj;split at this
  ·split at this
   ·simp only[Af]at this;subst this;exact hu
   ·simp at this
  ·simp at this
 ·simp at this
theorem TyOk.info {P:Program}{ty:TypeId→Option TyI}(h:TyOk P ty) {t:TypeId}{i:TyI}(hi:ty t=some i):
  ∃j z,P.info? t=some j∧j.size=i.sz∧j.bytes=i.by_∧j.zero=some z∧Fs z.cells.toList=some i.z:=by
 have:=h t i hi;unfold tyI at this;split at this
 ·rename_i u j hu hj;split at this
  ·rename_i z hz;split at this
   ·rename_i l hl;simp only[Af]at this;subst this;exact⟨j,z,hj,rfl,rfl,hz,hl⟩
   ·simp at this
  ·simp at this
 ·simp at this
theorem TyOk.elem {P:Program}{ty:TypeId→Option TyI}(h:TyOk P ty) {t:TypeId}{i:TyI}(hi:Fu ty t=some i):
  ∃e,P.underlying t=some (.slice e)∧ty e=some i:=by
 unfold Fu at hi;split at hi
 ·rename_i j hj;split at hi
  ·rename_i e he;exact⟨e,by rw[h.under hj,he],hi⟩
  ·simp at hi
 ·simp at hi
theorem Ml (ρ:Rho) {v:Value}{s:S}(h:Ii v=some s):SR ρ s v:=by
 unfold Ii at h;split at h <;> simp only[Af,reduceCtorEq]at h <;> subst h
 ·rfl
 ·rename_i k n;cases k <;> rfl
 ·exact⟨_,rfl,rfl⟩
 ·rfl
 ·rfl
 ·rfl
theorem DM (ρ:Rho):∀ {l:List Value}{m:List S},Fs l=some m→LR (SR ρ) m l
 | [],m,h=>by simp[Fs]at h;subst h;trivial
 |v::l,m,h=>by
  unfold Fs at h;split at h
  ·rename_i s m' h1 h2;simp only[Af]at h;subst h;exact⟨Ml ρ h1,DM ρ h2⟩
  ·simp at h
theorem Q7 (ρ:Rho) {v:Value}{x:V}(h:JE v=some x):VR ρ x v:=by
 unfold JE at h;split at h
 ·simp only[Option.map_eq_some_iff]at h;obtain⟨l,h1,rfl⟩:=h;exact⟨_,rfl,DM ρ h1⟩
 ·simp only[Option.map_eq_some_iff]at h;obtain⟨s,h1,rfl⟩:=h;exact Ml ρ h1
def ER (ρ:Rho) (e:E) (a:Act):Prop:=∀t v,e.get t=some v→VR ρ v (a.tmps.getD t undef)
theorem ER.mono {ρ ρ':Rho}(h:ρ.le ρ') {e:E}{a:Act}(he:ER ρ e a):ER ρ' e a:=fun t v hv=>(he t v hv).mono h
theorem ER.ov {ρ:Rho}{e:E}{a:Act}(he:ER ρ e a) {x:Operand}{y:O}(h:cO x=some y):VR ρ (ov e y) (a.eval x):=by
 cases x with
 |tmp t=>
  simp only[cO,Af]at h;subst h;cases hg:T.get e t with
  |none=>simp only[Ev.ov,hg];trivial
  |some v=>simp only[Ev.ov,Act.eval,hg];exact he t v hg
 |const v=>
  simp only[cO,Option.map_eq_some_iff]at h;obtain⟨w,h1,rfl⟩:=h;exact Q7 ρ h1
 |func f=>simp only[cO,Af]at h;subst h;exact⟨#[],rfl,trivial⟩
 |global g=>simp[cO]at h
theorem ER.os {ρ:Rho}{e:E}{a:Act}(he:ER ρ e a) {x:Operand}{y:O}(h:cO x=some y) {s:S}(hs:os e y=s) (hu:s≠ .un):SR ρ s (a.eval x):=by
 have:=he.ov h;unfold Ev.os at hs;cases hv:Ev.ov e y with
 |c s'=>rw[hv]at hs this;simp only at hs;subst hs;exact this
 |_=>rw[hv]at hs;simp only at hs;exact absurd hs.symm hu
theorem ER.ovs {ρ:Rho}{e:E}{a:Act}(he:ER ρ e a):∀ {xs:List Operand}{ys:List O},cOs xs=some ys→LR (VR ρ) (ovs e ys) (xs.map a.eval)
 | [],ys,h=>by simp[cOs]at h;subst h;trivial
 |x::xs,ys,h=>by
  unfold cOs at h;split at h
  ·rename_i y m h1 h2;simp only[Af]at h;subst h;exact⟨he.ov h1,he.ovs h2⟩
  ·simp at h
theorem GO:m63=9223372036854775807:=rfl
theorem MY {a:Nat}(h:Nat.ble a m63=true):(a:Int)≤9223372036854775807:=by
 have h1:=Ce h;have h2:(a:Int)≤ (m63:Int):=Int.ofNat_le.2 h1;rw[GO]at h2;exact h2
theorem MZ (n:Int) (h:-9223372036854775808≤n) (h':n≤9223372036854775807):n=IntKind.i64.wrap n:=(DV n ⟨h,h'⟩).symm
theorem JR (n:Int):w64 n=IntKind.i64.wrap n:=by
 cases n with
 |ofNat a=>
  show(bif Nat.ble a m63 then Int.ofNat a else IntKind.i64.wrap (Int.ofNat a))=_
  have hn:Int.ofNat a= (a:Int):=rfl;generalize Int.ofNat a=n at hn;cases h:Nat.ble a m63 with
  |false=>rw[cond_false]
  |true=>have h1:=MY h;rw[cond_true];exact MZ n (by omega) (by omega)
 |negSucc a=>
  show(bif Nat.ble a m63 then Int.negSucc a else IntKind.i64.wrap (Int.negSucc a))=_
  have hn:=Int.negSucc_eq a;generalize Int.negSucc a=n at hn;cases h:Nat.ble a m63 with
  |false=>rw[cond_false]
  |true=>have h1:=MY h;rw[cond_true];exact MZ n (by omega) (by omega)
theorem Ed (a b:Int):ile a b=decide (a≤b):=by
 cases a <;> cases b <;> simp only[ile,Fy] <;> rw[BR] <;> simp <;> omega
theorem F8 (a b:Int):ieq a b= (a==b):=by
 cases a <;> cases b <;> simp only[ieq,Bf] <;> rw[BR] <;> simp <;> omega
theorem M0 {a b:IntKind}(h:Ea a b=true):a=b:=by
 cases a <;> cases b <;> first |rfl | (simp[Ea,kix]at h)
theorem JS (ρ:Rho) (k:IntKind) (n:Int):SR ρ (mkI k n) (.int k n):=by cases k <;> rfl
theorem F9 (ρ:Rho) {m:Sem Value}{v:V}(h:EQ m=some v):∃cv,m= .pure cv∧VR ρ v cv:=by
 unfold EQ at h;split at h <;> simp only[Af,reduceCtorEq]at h
 ·exact⟨_,rfl,h▸JS ρ _ _⟩
 ·exact⟨_,rfl,h▸rfl⟩
theorem seq_eq:∀ (l m:List Nat),seq l m= (l==m)
 | [],[]=>rfl
 | [],_::_=>rfl
 |_::_,[]=>rfl
 |x::l,y::m=>by
  show(Bool.rec (motive:=fun _=>Bool) false (seq l m) (Nat.beq x y))=_
  rw[seq_eq l m,Bf];by_cases h:x=y
  ·subst h;simp
  ·have:(x==y)=false:=by simpa using h
   simp[this]
theorem M1:∀ {l m:List UInt8},l.map UInt8.toNat=m.map UInt8.toNat→l=m
 | [],[],_=>rfl
 | [],_::_,h=>by simp at h
 |_::_,[],h=>by simp at h
 |x::l,y::m,h=>by
  simp only[List.map_cons,List.cons.injEq]at h;rw[M1 h.2,UInt8.toNat_inj.1 h.1]
theorem R9 (l m:List UInt8):(l.map UInt8.toNat==m.map UInt8.toNat)= (l==m):=by
 rw[BR];simp only[BQ];exact⟨M1,fun h=>h▸rfl⟩
theorem M2:∀ (l m:List UInt8),slt (l.map UInt8.toNat) (m.map UInt8.toNat)=Op.bytesLess l m
 | [],[]=>rfl
 | [],_::_=>rfl
 |_::_,[]=>by simp only[List.map_nil];rfl
 |x::l,y::m=>by
  show(Bool.rec (motive:=fun _=>Bool) (Nat.ble (Nat.succ x.toNat) y.toNat) (slt (l.map UInt8.toNat) (m.map UInt8.toNat)) (Nat.beq x.toNat y.toNat))=_
  rw[M2 l m,Bf,Fy,show Op.bytesLess (x::l) (y::m)= (decide (x < y) || (x==y&& Op.bytesLess l m))from rfl];by_cases h:x=y
  ·subst h;simp[UInt8.lt_irrefl]
  ·have h1:¬x.toNat=y.toNat:=fun e=>h (UInt8.toNat_inj.1 e);have:(x.toNat==y.toNat)=false:=by simpa using h1
   have h2:(x==y)=false:=by simpa using h
   simp only[this,h2,Bool.false_and,Bool.or_false];rw[BR];simp[UInt8.lt_iff_toNat_lt,Nat.succ_le_iff]
theorem Sa (P:Program) (ρ:Rho) {op:BinOp}{a b:ByteArray}{v:V}(h:Jr op (a.data.toList.map UInt8.toNat) (b.data.toList.map UInt8.toNat)=some v) (t:TypeId) (w:World):
  ∃cv,(binOp op t (.string a) (.string b)).run P w= .ok cv w∧VR ρ v cv:=by
 cases op <;> simp only[Jr,Af,reduceCtorEq]at h
 case add=>
  obtain⟨hc,h⟩:=Bh h;simp only[Af]at h;have hle:=Ce hc;simp only[Cq,Hk,Nat.add_eq]at hle;refine⟨.string (a++b),?_,?_⟩
  ·rw[binOp_string_add];exact run_string_add_sum w a b (by show a.data.size+b.data.size≤_;simp only[Array.length_toList]at hle;omega)
  ·subst h;exact⟨a++b,rfl,by rw[FA];simp⟩
 all_goals
  subst h;refine⟨_,by simp[binOp,Op.stringOp,pure,Sem.run];rfl,?_⟩;simp[VR,SR,seq_eq,M2,R9,ByteArray.toList_eq]
theorem Ir (op:BinOp) (t:TypeId) (k k':IntKind) (a b:Int):binOp op t (.int k a) (.int k' b)=binOp op 0 (.int k a) (.int k' b):=by cases op <;> rfl
theorem Sb (P:Program) (ρ:Rho) {op:BinOp}{a b:Int}{v:V}(h:Jp op a b=some v) (t:TypeId) (w:World):
  ∃cv,(binOp op t (.int .i64 a) (.int .i64 b)).run P w= .ok cv w∧VR ρ v cv:=by
 rw[Ir];cases op <;> simp only[Jp]at h
 case add=>simp only[Af]at h;subst h;exact⟨_,rfl,by show _=_;rw[JR];rfl⟩
 case sub=>simp only[Af]at h;subst h;exact⟨_,rfl,by show _=_;rw[JR];rfl⟩
 case mul=>simp only[Af]at h;subst h;exact⟨_,rfl,by show _=_;rw[JR];rfl⟩
 case eql=>simp only[Af]at h;subst h;exact⟨_,rfl,by show _=_;rw[F8]⟩
 case neq=>simp only[Af]at h;subst h;exact⟨_,rfl,by show _=_;rw[F8];rfl⟩
 case lss=>simp only[Af]at h;subst h;exact⟨_,rfl,by show _=_;rw[Ed];congr 1;rw[BR];simp⟩
 case leq=>simp only[Af]at h;subst h;exact⟨_,rfl,by show _=_;rw[Ed]⟩
 case gtr=>simp only[Af]at h;subst h;exact⟨_,rfl,by show _=_;rw[Ed];congr 1;rw[BR];simp⟩
 case geq=>simp only[Af]at h;subst h;exact⟨_,rfl,by show _=_;rw[Ed]⟩
 all_goals
  obtain⟨cv,h1,h2⟩:=F9 ρ h;exact⟨cv,by rw[h1];rfl,h2⟩
theorem Sc (P:Program) (ρ:Rho) {op:BinOp}{k k':IntKind}{a b:Int}{v:V}(h:Jq op k a k' b=some v) (t:TypeId) (w:World):
  ∃cv,(binOp op t (.int k a) (.int k' b)).run P w= .ok cv w∧VR ρ v cv:=by
 rw[Ir];have key:∀ {x:V},(bif Ea k k' then some x else none)=some v→k=k'∧x=v:=fun hh=>by
  obtain⟨h1,h2⟩:=Bh hh;exact⟨M0 h1,by simpa using h2⟩
 cases op <;> simp only[Jq]at h
 case eql=>obtain⟨rfl,rfl⟩:=key h;exact⟨_,by simp[binOp,Op.intCmp,pure,Sem.run];rfl,by show _=_;rw[F8]⟩
 case neq=>obtain⟨rfl,rfl⟩:=key h;exact⟨_,by simp[binOp,Op.intCmp,pure,Sem.run];rfl,by show _=_;rw[F8];rfl⟩
 case lss=>obtain⟨rfl,rfl⟩:=key h;exact⟨_,by simp[binOp,Op.intCmp,pure,Sem.run];rfl,by show _=_;rw[Ed];congr 1;rw[BR];simp⟩
 case leq=>obtain⟨rfl,rfl⟩:=key h;exact⟨_,by simp[binOp,Op.intCmp,pure,Sem.run];rfl,by show _=_;rw[Ed]⟩
 case gtr=>obtain⟨rfl,rfl⟩:=key h;exact⟨_,by simp[binOp,Op.intCmp,pure,Sem.run];rfl,by show _=_;rw[Ed];congr 1;rw[BR];simp⟩
 case geq=>obtain⟨rfl,rfl⟩:=key h;exact⟨_,by simp[binOp,Op.intCmp,pure,Sem.run];rfl,by show _=_;rw[Ed]⟩
 all_goals
  obtain⟨cv,h1,h2⟩:=F9 ρ h;exact⟨cv,by rw[h1];rfl,h2⟩
end Go.Ev
end
