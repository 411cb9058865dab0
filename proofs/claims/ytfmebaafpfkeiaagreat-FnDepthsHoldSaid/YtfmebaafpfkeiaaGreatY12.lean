/- Parts of the proof of FnDepthsHold, FnEnds, FnMeant, FnMovedWhenever, FnSizes. -/
import Derived.Test.YtfmebaafpfkeiaaGreatRows
import Derived.Test.YtfmebaafpfkeiaaGreatY11
import Derived.Lib.SliceRun
import Derived.Laws.CopyOwn
import Derived.Deep.QuietTactic
import Derived.BigQuiet
set_option linter.unusedVariables false
set_option linter.unusedSimpArgs false
set_option maxRecDepth 1000000
set_option maxHeartbeats 16000000
namespace Go.Proofs.YtfmebaafpfkeiaaGreat
open Go.RowKit
theorem JZ {zs:List Int}{n:Int}{k:Nat}(hk:k < zs.length) (h:zs.getD k 0=n):n∈zs:=by
 subst h;simp[List.getD,List.getElem?_eq_getElem hk]
theorem U2 {zs:List Int}{n:Int}(h:∀j,j < zs.length→zs.getD j 0≠n):n∉zs:=by
 intro hm;obtain⟨i,hi,he⟩:=List.getElem_of_mem hm;exact h i hi (by simp[List.getD,List.getElem?_eq_getElem hi,he])
theorem U3 (a b:Int) (w:World):
  Calls Tryz.prog 295 #[.int .i64 a,.int .i64 b] w fun e w'=>e= .returned (.bool (decide (a < b)))∧w=w':=by
 have e1:(a !=a)=false:=by simp
 go_enter Tryz.func295,Tryz.ntmps295;go_wp2;go_ret;exact⟨rfl,rfl⟩
theorem J0 {zs:List Int}(h:zs.Pairwise (·< ·)) {k m:Nat}(hk:k≤m) (hm:m < zs.length):zs.getD k 0≤zs.getD m 0:=by
 by_cases e:k=m
 ·subst e;omega
 ·have:=List.pairwise_iff_getElem.1 h k m (by omega) hm (by omega);simp[List.getD,List.getElem?_eq_getElem hm,List.getElem?_eq_getElem (show k < zs.length by omega)];omega
theorem MV {zs:List Int}{n:Int}{p:Nat}(h1:∀k,k < p→zs.getD k 0 < n) (h2:∀k,p≤k→k < zs.length→n < zs.getD k 0):n∉zs:=by
 refine U2 fun j hj=> ?_;by_cases e:j < p
 ·have:=h1 j e;omega
 ·have:=h2 j (by omega) hj;omega
theorem U4 {i j:Nat}(h:i < j) (hj:j≤9223372036854775807):i≤ (i+j)/2∧(i+j)/2 < j:=by omega
def U5 (zs:List Int) (n:Int) (e:Ending):Prop:=∃r:Int,e= .returned (.tuple #[.int .i64 r,.bool (decide (n∈zs))])
theorem U6 {B:Nat}(v:Value) (zs:List Int) (n:Int) (w:World) (hr:Rd B .i64 w v zs) (hs:zs.Pairwise (·< ·)) (hlen:zs.length≤4294967296):
  Calls Tryz.prog 214 #[v,.int .i64 n] w fun e w'=>U5 zs n e∧w=w':=by
 have HS:=Lib.hid hs;clear hs;obtain⟨a,cap,rfl⟩:=hr.form;have hc:∀k,k < zs.length→ ∃b off,a=some ⟨b,off,none⟩ ∧w.cell? ⟨b,off+k,none⟩=some (.int .i64 (zs.getD k 0)):=by
  intro k hk;rcases hr with ⟨h,_⟩ |⟨b,off,cap',hs,hB,hbs,_,hc⟩
  ·rw[h]at hk;simp at hk
  ·cases hs
   exact⟨b,off,rfl,hc k hk⟩
 clear hr;go_enter Tryz.func214,Tryz.ntmps214;go_wp2
 go_loop [7,8,9] (fun i j _=>∃p q:Nat,p≤q∧q≤zs.length∧i= .int .i64 p∧j= .int .i64 q∧Hid ((∀k,k < p→zs.getD k 0 < n)∧(∀k,q≤k→k < zs.length→n≤zs.getD k 0))) (fun i j _=>(intOf j).toNat - (intOf i).toNat)
 case atStart=>exact⟨0,zs.length,Nat.zero_le _,Nat.le_refl _,rfl,rfl,fun k hk=>by omega,fun k h1 h2=>by omega⟩
 case round=>
  obtain⟨p,q,hpq,hq,rfl,rfl,hd⟩:=hrel;by_cases hlt:p < q
  ·obtain⟨m1,m2⟩:=U4 hlt (by omega);obtain⟨b,off,rfl,c1⟩:=hc ((p+q)/2) (by omega);go_wp2_with (go_at_call 295;refine(U3 _ _ _).mono ?_;rintro e w' ⟨rfl,rfl⟩)
   ·have h:zs[(p+q)/2]?.getD 0 < n:=by assumption
    go_round
    case rel=>
     refine⟨(p+q)/2+1,q,by omega,hq,by go_num,rfl,fun k hk=> ?_,hd.out.2⟩;have:=J0 HS.out (show k≤ (p+q)/2 by omega) (by omega);simp only[List.getD]at this ⊢;omega
    case measure=>simp[intOf];omega
   ·have h:n≤zs[(p+q)/2]?.getD 0:=by assumption
    go_round
    case rel=>
     refine⟨p,(p+q)/2,by omega,by omega,rfl,by go_num,hd.out.1,fun k h1 h2=> ?_⟩;have:=J0 HS.out h1 h2;simp only[List.getD]at this ⊢;omega
    case measure=>simp[intOf];omega
  ·obtain rfl:p=q:=by omega
   by_cases hin:p < zs.length
   ·obtain⟨b,off,rfl,c1⟩:=hc p hin;obtain⟨x,hx⟩:∃x,zs.getD p 0=x:=⟨_,rfl⟩;rw[hx]at c1;have HX:=Lib.hid hx;clear hc hx;by_cases he:x=n
    ·subst he;have hfin:decide (x∈zs)=true:=by rw[decide_eq_true_iff];exact JZ hin HX.out
     have HF:=Lib.hid hfin;clear hfin;go_wp2;go_ret2;exact⟨⟨p,by rw[HF.out];rfl⟩,rfl⟩
    ·have he1:(x==n)=false:=by simpa using he
     have he2:(x !=x)=false:=by simp
     have hfin:decide (n∈zs)=false:=by
      rw[decide_eq_false_iff_not];refine MV (p:=p) hd.out.1 fun k h1 h2=> ?_;have h3:=hd.out.2 p (Nat.le_refl _) hin;have h4:=J0 HS.out h1 h2;rw[HX.out]at h3 h4;omega
     have HF:=Lib.hid hfin;clear hfin;go_wp2;go_ret2;exact⟨⟨p,by rw[HF.out];rfl⟩,rfl⟩
   ·have hfin:decide (n∈zs)=false:=by
     rw[decide_eq_false_iff_not];exact MV (p:=p) hd.out.1 fun k h1 h2=>by omega
    have HF:=Lib.hid hfin;clear hfin;go_wp2;go_ret2;exact⟨⟨p,by rw[HF.out];rfl⟩,rfl⟩
def Ax (ps:List Nat):List Int:=ps.map fun(p:Nat)=>(p:Int)
theorem De (ps:List Nat):(Ax ps).length=ps.length:=by simp[Ax]
theorem aH {ps:List Nat}{x:Int}:x∈Ax ps↔ ∃p∈ps,(p:Int)=x:=by simp[Ax]
theorem aI {ps:List Nat}(h:ps.Pairwise (·< ·)):(Ax ps).Pairwise (·< ·):=by
 unfold Ax;rw[List.pairwise_map];exact h.imp fun h=>by omega
theorem aJ {ps:List Nat}{x:Int}(h:x%2=0):Ai ps x=decide (x/2∈Ax ps):=by
 unfold Ai;rw[if_pos h];simp only[aH]
theorem P3 {ps:List Nat}{x:Int}(h:¬x%2=0):Ai ps x=A4 (x/2):=by
 unfold Ai;rw[if_neg h]
theorem Lh {B:Nat}(v:Value) (ps:List Nat) (x:Int) (w:World) (hr:Rd B .i64 w v (Ax ps)) (hs:ps.Pairwise (·< ·)) (hlen:ps.length≤4294967296):
  Calls Tryz.prog 123 #[.int .i64 x,v] w fun e w'=>e= .returned (.bool (Ai ps x))∧w=w':=by
 have hs':=U6 v (Ax ps) (x/2) w hr (aI hs) (by rw[De];exact hlen);have HS:=Lib.hid hs';obtain⟨a,cap,rfl⟩:=hr.form;clear hr hs hs';by_cases h:x%2=0
 ·have e1:(x%2==0)=true:=by simpa using h
  have HF:=Lib.hid (aJ (ps:=ps) h);clear h;go_enter Tryz.func123,Tryz.ntmps123;go_wp2_with (first | (go_at_call 72;refine(ET _ _).mono ?_;rintro e w' ⟨rfl,rfl⟩) | (go_at_call 71;refine(Be _ _).mono ?_;rintro e w' ⟨rfl,rfl⟩));refine HS.out.mono ?_;rintro e w' ⟨⟨r,rfl⟩,rfl⟩;go_wp2;go_ret;exact⟨Aq HF.out.symm,rfl⟩
 ·have e1:(x%2==0)=false:=by simpa using h
  have HF:=Lib.hid (P3 (ps:=ps) h);clear h;go_enter Tryz.func123,Tryz.ntmps123;go_wp2_with (first | (go_at_call 73;refine(DV _ _).mono ?_;rintro e w' ⟨rfl,rfl⟩) | (go_at_call 71;refine(Be _ _).mono ?_;rintro e w' ⟨rfl,rfl⟩) | (go_at_call 58;refine(CF _ _).mono ?_;rintro e w' ⟨rfl,rfl⟩));go_ret;exact⟨Aq HF.out.symm,rfl⟩
def LE (ps:List Nat) (xs:List Int) (e:Ending):Prop:=∃r:Int,e= .returned (.int .i64 r)∧(0≤r↔xs.all (Ai ps)=false)
theorem LF {ps:List Nat}{xs:List Int}{x:Int}{k:Nat}(hk:k < xs.length) (hx:xs.getD k 0=x) (h:Ai ps x=false):xs.all (Ai ps)=false:=by
 rw[List.all_eq_false];exact⟨x,JZ hk hx,by rw[h];simp⟩
theorem LG {ps:List Nat}{xs:List Int}(h:∀j,j < xs.length→Ai ps (xs.getD j 0)=true):xs.all (Ai ps)=true:=by
 rw[List.all_eq_true];intro x hx;obtain⟨i,hi,he⟩:=List.getElem_of_mem hx;have:=h i hi
 simpa [List.getD,List.getElem?_eq_getElem hi,he] using this
theorem LH {ps:List Nat}{xs:List Int}{k:Nat}(h:∀j,j < k→Ai ps (xs.getD j 0)=true) (he:Ai ps (xs.getD k 0)=true):∀j,j < k+1→Ai ps (xs.getD j 0)=true:=by
 intro j hj;by_cases e:j=k
 ·subst e;exact he
 ·exact h j (by omega)
theorem Qx {B:Nat}(g:Nat) (v:Value) (ps:List Nat) (x:Int) (w:World) (hr:Rd B .i64 w v (Ax ps)) (hs:ps.Pairwise (·< ·)) (hlen:ps.length≤4294967296) (hg:w.cell? ⟨g,0,none⟩=some v):
  Calls Tryz.prog 150 #[.int .i64 x,.pointer (some ⟨g,0,none⟩)] w fun e w'=>e= .returned (.bool (!Ai ps x))∧w=w':=by
 have HW:=Lib.hid (Lh v ps x w hr hs hlen);obtain⟨a,cap,rfl⟩:=hr.form;clear hr hs;go_enter Tryz.func150,Tryz.ntmps150;go_wp2_with fail;refine HW.out.mono ?_;rintro e w' ⟨rfl,rfl⟩;go_wp2;go_ret;exact⟨rfl,rfl⟩
theorem Qy {B B':Nat}(g:Nat) (v u:Value) (ps:List Nat) (xs:List Int) (w:World) (hr:Rd B .i64 w v (Ax ps)) (hs:ps.Pairwise (·< ·)) (hlen:ps.length≤4294967296) (hg:w.cell? ⟨g,0,none⟩=some v) (hu:Rd B' .i64 w u xs):
  Calls Tryz.prog 124 #[u,.func (.func 150) #[] #[.pointer (some ⟨g,0,none⟩)]] w fun e w'=>LE ps xs e∧w=w':=by
 have hx:=hu.len;unfold maxLen at hx;have HF:=Lib.hid (fun x=>Qx g v ps x w hr hs hlen hg);clear hr hs hg;rcases hu with ⟨rfl,a,cap,rfl⟩ |⟨b,off,cap,rfl,hB,hbs,hm,hc⟩
 ·go_enter Tryz.func124,Tryz.ntmps124;go_wp2;refine wp_loop_rounds 1 ?_;rw[rounds_succ];go_wp2;go_ret;exact⟨⟨-1,rfl,by simp⟩,rfl⟩
 ·go_enter Tryz.func124,Tryz.ntmps124;go_wp2
  go_loop [5,8] (fun _ i=>∃k:Nat,k≤xs.length∧i= .int .i64 k∧Hid (∀j,j < k→Ai ps (xs.getD j 0)=true)) (fun _ i=>xs.length - (intOf i).toNat)
  case atStart=>exact⟨0,Nat.zero_le _,rfl,fun j hj=>by omega⟩
  case round=>
   obtain⟨k,hk,rfl,hd⟩:=hrel;by_cases hlt:k < xs.length
   ·have c1:=hc k hlt;obtain⟨x,hx⟩:∃x,xs.getD k 0=x:=⟨_,rfl⟩;rw[hx]at c1;have HX:=Lib.hid hx;clear hc hx;cases he:Ai ps x
    ·go_wp2_with fail;refine(HF.out x).mono ?_;rintro e w' ⟨rfl,rfl⟩;rw[he];go_wp2;go_ret;exact⟨⟨k,rfl,by simp only[Int.natCast_nonneg,true_iff];exact LF hlt HX.out he⟩,rfl⟩
    ·go_wp2_with fail;refine(HF.out x).mono ?_;rintro e w' ⟨rfl,rfl⟩;rw[he];go_wp2
     go_round
     case rel=>exact⟨k+1,hlt,by go_num,LH hd.out (by rw[HX.out];exact he)⟩
     case measure=>simp[intOf];omega
   ·go_wp2;go_ret;exact⟨⟨-1,rfl,⟨fun h=>by omega,fun h=>by rw[LG (fun j hj=>hd.out j (by omega))]at h;cases h⟩⟩,rfl⟩
theorem Qz {B B':Nat}(g:Nat) (v u:Value) (ps:List Nat) (xs:List Int) (w:World) (hr:Rd B .i64 w v (Ax ps)) (hs:ps.Pairwise (·< ·)) (hlen:ps.length≤4294967296) (hg:w.cell? ⟨g,0,none⟩=some v) (hu:Rd B' .i64 w u xs):
  Calls Tryz.prog 56 #[u,.func (.func 150) #[] #[.pointer (some ⟨g,0,none⟩)]] w fun e w'=>e= .returned (.bool (!xs.all (Ai ps)))∧w=w':=by
 have HI:=Lib.hid (Qy g v u ps xs w hr hs hlen hg hu);clear hr hs hg hu;go_enter Tryz.func56,Tryz.ntmps56;go_wp2_with fail;refine HI.out.mono ?_;rintro e w' ⟨⟨r,rfl,hr⟩,rfl⟩;have HR:=Lib.hid hr;clear hr;go_wp2
 all_goals go_ret
 all_goals exact⟨Aq (by have:=HR.out;rw[Bool.eq_iff_iff];simp only[decide_eq_true_iff,Bool.not_eq_true'];exact this),rfl⟩
theorem QA {B:Nat}(g:Nat) (v:Value) (ps:List Nat) (x:Int) (w:World) (hr:Rd B .i64 w v (Ax ps)) (hs:ps.Pairwise (·< ·)) (hlen:ps.length≤4294967296) (hg:w.cell? ⟨g,0,none⟩=some v):
  Calls Tryz.prog 122 #[.int .i64 x,.pointer (some ⟨g,0,none⟩)] w fun e w'=>e= .returned (.bool (!Ai ps x))∧w=w':=by
 have HW:=Lib.hid (Lh v ps x w hr hs hlen);obtain⟨a,cap,rfl⟩:=hr.form;clear hr hs;go_enter Tryz.func122,Tryz.ntmps122;go_wp2_with fail;refine HW.out.mono ?_;rintro e w' ⟨rfl,rfl⟩;go_wp2;go_ret;exact⟨rfl,rfl⟩
theorem QB {B B':Nat}(g:Nat) (v u:Value) (ps:List Nat) (xs:List Int) (w:World) (hr:Rd B .i64 w v (Ax ps)) (hs:ps.Pairwise (·< ·)) (hlen:ps.length≤4294967296) (hg:w.cell? ⟨g,0,none⟩=some v) (hu:Rd B' .i64 w u xs):
  Calls Tryz.prog 124 #[u,.func (.func 122) #[] #[.pointer (some ⟨g,0,none⟩)]] w fun e w'=>LE ps xs e∧w=w':=by
 have hx:=hu.len;unfold maxLen at hx;have HF:=Lib.hid (fun x=>QA g v ps x w hr hs hlen hg);clear hr hs hg;rcases hu with ⟨rfl,a,cap,rfl⟩ |⟨b,off,cap,rfl,hB,hbs,hm,hc⟩
 ·go_enter Tryz.func124,Tryz.ntmps124;go_wp2;refine wp_loop_rounds 1 ?_;rw[rounds_succ];go_wp2;go_ret;exact⟨⟨-1,rfl,by simp⟩,rfl⟩
 ·go_enter Tryz.func124,Tryz.ntmps124;go_wp2
  go_loop [5,8] (fun _ i=>∃k:Nat,k≤xs.length∧i= .int .i64 k∧Hid (∀j,j < k→Ai ps (xs.getD j 0)=true)) (fun _ i=>xs.length - (intOf i).toNat)
  case atStart=>exact⟨0,Nat.zero_le _,rfl,fun j hj=>by omega⟩
  case round=>
   obtain⟨k,hk,rfl,hd⟩:=hrel;by_cases hlt:k < xs.length
   ·have c1:=hc k hlt;obtain⟨x,hx⟩:∃x,xs.getD k 0=x:=⟨_,rfl⟩;rw[hx]at c1;have HX:=Lib.hid hx;clear hc hx;cases he:Ai ps x
    ·go_wp2_with fail;refine(HF.out x).mono ?_;rintro e w' ⟨rfl,rfl⟩;rw[he];go_wp2;go_ret;exact⟨⟨k,rfl,by simp only[Int.natCast_nonneg,true_iff];exact LF hlt HX.out he⟩,rfl⟩
    ·go_wp2_with fail;refine(HF.out x).mono ?_;rintro e w' ⟨rfl,rfl⟩;rw[he];go_wp2
     go_round
     case rel=>exact⟨k+1,hlt,by go_num,LH hd.out (by rw[HX.out];exact he)⟩
     case measure=>simp[intOf];omega
   ·go_wp2;go_ret;exact⟨⟨-1,rfl,⟨fun h=>by omega,fun h=>by rw[LG (fun j hj=>hd.out j (by omega))]at h;cases h⟩⟩,rfl⟩
theorem QC {B B':Nat}(g:Nat) (v u:Value) (ps:List Nat) (xs:List Int) (w:World) (hr:Rd B .i64 w v (Ax ps)) (hs:ps.Pairwise (·< ·)) (hlen:ps.length≤4294967296) (hg:w.cell? ⟨g,0,none⟩=some v) (hu:Rd B' .i64 w u xs):
  Calls Tryz.prog 56 #[u,.func (.func 122) #[] #[.pointer (some ⟨g,0,none⟩)]] w fun e w'=>e= .returned (.bool (!xs.all (Ai ps)))∧w=w':=by
 have HI:=Lib.hid (QB g v u ps xs w hr hs hlen hg hu);clear hr hs hg hu;go_enter Tryz.func56,Tryz.ntmps56;go_wp2_with fail;refine HI.out.mono ?_;rintro e w' ⟨⟨r,rfl,hr⟩,rfl⟩;have HR:=Lib.hid hr;clear hr;go_wp2
 all_goals go_ret
 all_goals exact⟨Aq (by have:=HR.out;rw[Bool.eq_iff_iff];simp only[decide_eq_true_iff,Bool.not_eq_true'];exact this),rfl⟩
theorem Nd {ws : List Int} {h b n : Int} (hf : Bg ws h b n = true) : ∃ h' b' n' : Nat, h = h' ∧ b = b' ∧ n = n' ∧ Frame ws h' b' n' := by
  unfold Bg at hf
  rw [decide_eq_true_iff] at hf
  obtain ⟨h1, h2, h3, h4, h5, h6⟩ := hf
  exact ⟨h.toNat, b.toNat, n.toNat, by omega, by omega, by omega, by omega, by omega, by omega, by omega, by omega, by omega⟩
theorem Iw {ws : List Int} {h b n : Int} (hf : Bg ws h b n = false) : heapOk ws h b n = false := by simp [heapOk, hf]
theorem Vo {ws : List Int} {h b n : Int} (hf : inB h 1 3000 = false) : Bg ws h b n = false := by
  have := OF.1 hf
  simp only [Bg, decide_eq_false_iff_not]; omega
theorem Vp {ws : List Int} {h b n : Int} (hf : ¬ (ws.length : Int) = 2 * h) : Bg ws h b n = false := by
  simp only [Bg, decide_eq_false_iff_not]; omega
theorem Vq {ws : List Int} {h b n : Int} (h1 : ¬ b = 0) (h2 : ¬ b = h) : Bg ws h b n = false := by
  simp only [Bg, decide_eq_false_iff_not]; omega
theorem Vr {ws : List Int} {h b n : Int} (hf : inB n b (b + h) = false) : Bg ws h b n = false := by
  have := OF.1 hf
  simp only [Bg, decide_eq_false_iff_not]; omega
theorem Vs {ws : List Int} {h b n : Int} (h1 : inB h 1 3000 = true) (h2 : (ws.length : Int) = 2 * h) (h3 : b = 0 ∨ b = h) (h4 : inB n b (b + h) = true) : Bg ws h b n = true := by
  have := Aw.1 h1
  have := Aw.1 h4
  simp only [Bg, decide_eq_true_iff]; omega
theorem Nf {ws : List Int} {h b n : Nat} (hp : Bw ws b n = none) : heapOk ws h b n = false := by simp [heapOk, hp]
theorem Gz {ws : List Int} {h b n : Nat} {ps : List Nat} (hf : Bg ws h b n = true) (hp : Bw ws b n = some ps) : heapOk ws h b n = DL ws ps := by simp [heapOk, hp, hf]
theorem Vt (ws : List Int) (p m j : Nat) (hj : j < m) : ((ws.drop p).take m).getD j 0 = ws.getD (p + j) 0 := by
  simp [List.getD, hj]
theorem Ix {ws : List Int} {p : Nat} (h : p + 1 + hK (ws.getD p 0) ≤ ws.length) : (Ae ws p).length = hK (ws.getD p 0) := by
  unfold Ae
  generalize hK (ws.getD p 0) = m at h ⊢
  simp; omega
theorem Rd.kids {B : Nat} {w : World} {b off cap : Nat} {ws : List Int} (hB : b < B) (hbs : b < w.heap.size) (hc : ∀ j, j < ws.length → w.cell? ⟨b, off + j, none⟩ = some (.int .i64 (ws.getD j 0))) (p : Nat) (c : Nat) (h : p + 1 + hK (ws.getD p 0) ≤ ws.length) (hm : ws.length ≤ maxLen) (q : Nat) (hq : q = off + (p + 1)) (m : Nat) (hmm : m = hK (ws.getD p 0)) (hmc : m ≤ c) :
    Rd B .i64 w (.slice (some ⟨b, q, none⟩) m c) (Ae ws p) := by
  subst hq
  subst hmm
  have hl := Ix h
  refine .inr ⟨b, off + (p + 1), c, by rw [hl], hB, hbs, ⟨by omega, by omega⟩, fun j hj => ?_⟩
  rw [hl] at hj
  rw [Nat.add_assoc, hc (p + 1 + j) (by omega)]
  unfold Ae
  rw [Vt _ _ _ _ hj]
theorem Ng {ws : List Int} {ps : List Nat} {k : Nat} (h : ∀ j, j < k → (Ae ws (ps.getD j 0)).all (Ai ps) = true) (he : (Ae ws (ps.getD k 0)).all (Ai ps) = true) : ∀ j, j < k + 1 → (Ae ws (ps.getD j 0)).all (Ai ps) = true := by
  intro j hj
  by_cases e : j = k
  · subst e; exact he
  · exact h j (by omega)
theorem Vu {ws : List Int} {ps : List Nat} (h : ∀ j, j < ps.length → (Ae ws (ps.getD j 0)).all (Ai ps) = true) : DL ws ps = true := by
  unfold DL
  rw [List.all_eq_true]
  intro x hx
  obtain ⟨i, hi, he⟩ := List.getElem_of_mem hx
  have := h i hi
  simpa [List.getD, List.getElem?_eq_getElem hi, he] using this
theorem Nh {ws : List Int} {ps : List Nat} {k : Nat} (hk : k < ps.length) (h : (Ae ws (ps.getD k 0)).all (Ai ps) = false) : DL ws ps = false := by
  unfold DL
  rw [List.all_eq_false]
  exact ⟨ps.getD k 0, by simp [List.getD, List.getElem?_eq_getElem hk], by rw [h]; simp⟩
theorem J4 (ps : List Nat) (k : Nat) : (Ax ps).getD k 0 = ((ps.getD k 0 : Nat) : Int) := by
  simp only [Ax, List.getD, List.getElem?_map]
  cases ps[k]? <;> simp
theorem GA (ps : List Nat) : ps.map ofN = (Ax ps).map (Value.int .i64) := by simp [Ax, ofN, Function.comp_def]
theorem Vv {ws : List Int} {h b n : Nat} {ps : List Nat} (hp : Bw ws b n = some ps) (hF : Frame ws h b n) : ps.length ≤ 4294967296 := by
  have h1 := Iv _ _ _ hp
  have h2 := J3 _ _ _ hp
  have h3 : ps.length ≤ n := by
    have := List.Nodup.length_le_of_subset (l₁ := ps) (l₂ := List.range n) (h2.imp (fun h => Nat.ne_of_lt h)) (fun q hq => by simpa using (h1 q hq).2.1)
    simpa using this
  have := hF.n1; have := hF.h1; have := hF.base
  omega
theorem FL {ps : List Nat} {k : Nat} (hk : k < ps.length) : ps.getD k 0 ∈ ps := by simp [List.getD, List.getElem?_eq_getElem hk]
theorem Ni {B : Nat} (v : Value) (ws : List Int) (h b n : Int) (w : World) (hr : Rd B .i64 w v ws) (hw : Au ws) (hlen : ws.length ≤ 4294967296)
    (bh : -9223372036854775808 ≤ h ∧ h ≤ 9223372036854775807) (bb : -9223372036854775808 ≤ b ∧ b ≤ 9223372036854775807) (bn : -9223372036854775808 ≤ n ∧ n ≤ 9223372036854775807) :
    Calls Tryz.prog 77 #[.agg #[v, .int .i64 h, .int .i64 b, .int .i64 n]] w fun e w' => e = .returned (.bool (heapOk ws h b n)) ∧ Below w.heap.size w w' := by
  obtain ⟨h0, h1⟩ := bh
  obtain ⟨b0, b1⟩ := bb
  obtain ⟨n0, n1⟩ := bn
  have hr' := hr
  obtain ⟨a, cap, rfl⟩ := hr.form
  clear hr
  cases c1 : inB h 1 3000
  · have HF := Lib.hid (Iw (ws := ws) (b := b) (n := n) (Vo c1))
    clear hr' hw
    go_enter Tryz.func77, Tryz.ntmps77
    go_wp2_with (go_at_call 54; refine (AT _ _ _ _).mono ?_; rintro e w' ⟨rfl, rfl⟩)
    go_ret
    exact ⟨Aq HF.out.symm, (Below.refl _ _).alloc (Nat.le_refl _) _⟩
  · obtain ⟨h2, h3⟩ := Aw.1 c1
    by_cases c2 : (ws.length : Int) = 2 * h
    · have e2 : ((ws.length : Int) != 2 * h) = false := by simpa using c2
      by_cases c3 : b = 0 ∨ b = h
      · cases c4 : inB n b (b + h)
        · have HF := Lib.hid (Iw (ws := ws) (Vr c4))
          have Gr : (b != 0) = false ∨ ((b != 0) = true ∧ (b != h) = false) := by
            by_cases e : b = 0
            · left; simpa using e
            · right; exact ⟨by simpa using e, by simp; omega⟩
          have hb2 : 0 ≤ b := by omega
          have hb3 : b ≤ 3000 := by omega
          clear hr' hw c3 c2
          rcases Gr with e3 | ⟨e3, e4⟩
          all_goals
            go_enter Tryz.func77, Tryz.ntmps77
            go_wp2_with (go_at_call 54; refine (AT _ _ _ _).mono ?_; rintro e w' ⟨rfl, rfl⟩)
            go_ret
            exact ⟨Aq HF.out.symm, (Below.refl _ _).alloc (Nat.le_refl _) _⟩
        · have hFr := Vs c1 c2 c3 c4
          obtain ⟨h', b', n', rfl, rfl, rfl, hF⟩ := Nd hFr
          have Gr : ((b' : Int) != 0) = false ∨ (((b' : Int) != 0) = true ∧ ((b' : Int) != (h' : Int)) = false) := by
            by_cases e : (b' : Int) = 0
            · left; simpa using e
            · right; exact ⟨by simpa using e, by simp; omega⟩
          have HFr := Lib.hid hFr
          have hS := fun (W : World) (hb : Below w.heap.size w W) => KI _ ws h' b' n' W (hr'.below' hb) hw hF
          have HS := Lib.hid hS
          have hb3 : b' ≤ 3000 := by omega
          clear c2 c3 hFr hS
          rcases Gr with e3 | ⟨e3, e4⟩
          all_goals
            go_enter Tryz.func77, Tryz.ntmps77
            go_wp2_with (go_at_call 54; refine (AT _ _ _ _).mono ?_; rintro e w' ⟨rfl, rfl⟩)
            generalize hx : w.alloc _ = x1
            obtain ⟨bx1, k1⟩ := Bx.alloc hx
            clear hx
            refine (HS.out x1 bx1).mono ?_
            rintro e w1 ⟨ht, b1⟩
            replace k1 := k1.below b1 k1.1
            have b2 := bx1.trans (b1.mono bx1.size)
            have z1 := k1.1
            clear bx1
            cases hp : Bw ws b' n' with
            | none =>
              rw [hp] at ht
              obtain ⟨ua, un, uc, rfl⟩ := ht
              have HN := Lib.hid (Nf (h := h') hp)
              go_wp2
              go_ret
              exact ⟨Aq HN.out.symm, b2.alloc (Nat.le_trans (by omega) b2.size) _⟩
            | some ps =>
              rw [hp] at ht
              obtain ⟨u, rfl, ho⟩ := ht
              rw [GA] at ho
              have hps := Iv _ _ _ hp
              have hsrt := J3 _ _ _ hp
              have hpl : ps.length ≤ 4294967296 := Vv hp hF
              have ru := Rd.of_own (by rw [← De] at ho; exact ho)
              have HN := Lib.hid (Gz HFr.out hp)
              obtain ⟨ua, uc, rfl⟩ := ru.form
              have q1 := k1.2.1
              clear ho HS hp
              go_wp2_with fail
              generalize hx : w1.alloc _ = x2
              obtain ⟨bx2, k2⟩ := Bx.alloc hx
              clear hx q1
              replace k1 := k1.below bx2 z1
              replace ru := ru.below bx2 (Nat.le_refl _)
              have b3 := b2.trans (bx2.mono b2.size)
              have rw2 := hr'.below' b3
              have hnl := De ps
              have HL := Lib.hid hnl
              have q1 := k1.2.1
              have q2 := k2.2.1
              have y1 := k1.1
              have y2 := k2.1
              clear bx2 hr' b1 b2 hnl
              have hn3 : (Ax ps).length ≤ 4294967296 := by rw [HL.out]; exact hpl
              rcases rw2 with ⟨hnil, _⟩ | ⟨bl, off, cap', hsl, hB, hbs, hm, hc⟩
              · have h9 := hF.len; have := hF.h0; rw [hnil] at h9; simp at h9; omega
              cases hsl
              go_loop [58] (fun i => ∃ k : Nat, k ≤ (Ax ps).length ∧ i = .int .i64 k ∧ Hid (∀ j, j < k → (Ae ws (ps.getD j 0)).all (Ai ps) = true)) (fun i => (Ax ps).length - (intOf i).toNat)
              case atStart => exact ⟨0, Nat.zero_le _, rfl, fun j hj => by omega⟩
              case round =>
                obtain ⟨k, hk, rfl, hd⟩ := hrel
                by_cases hlt : k < (Ax ps).length
                · have hlt' : k < ps.length := by rw [← HL.out]; exact hlt
                  obtain ⟨p, hpe⟩ : ∃ p, ps.getD k 0 = p := ⟨_, rfl⟩
                  obtain ⟨hp1, hp2, hp3, hp4⟩ := hps p (by rw [← hpe]; exact FL hlt')
                  have ru' := ru
                  rcases ru with ⟨hnil, _⟩ | ⟨bl2, off2, cap2, hsl2, _, hbs2, _, hc2⟩
                  · rw [hnil] at hlt; simp at hlt
                  cases hsl2
                  have c1 := hc2 k hlt
                  rw [J4, hpe] at c1
                  have hpw : p < ws.length := by have := hF.len; have := hF.base; have := hF.n1; omega
                  have c2 := hc p hpw
                  have hfit : p + 1 + hK (ws.getD p 0) ≤ ws.length := by have := hF.len; have := hF.base; have := hF.n1; omega
                  have hkid := fun q c m hq hmm hmc => Rd.kids (B := w.heap.size) (cap := c) hB hbs hc p c hfit hm.1 q hq m hmm hmc
                  obtain ⟨hm1, hm2⟩ := hm
                  have hcon := fun u hu => Qz (B' := w.heap.size) w1.heap.size _ u ps (Ae ws p) x2 ru' hsrt hpl (by simpa using q2 0) hu
                  have HK := Lib.hid hkid
                  have HC := Lib.hid hcon
                  obtain ⟨x, hxx⟩ : ∃ x, ws.getD p 0 = x := ⟨_, rfl⟩
                  have hxb := hw p
                  rw [hxx] at c2 hp3 hxb hfit
                  obtain ⟨hx0, hx1⟩ := hxb
                  have hkn := FK x
                  have HKN := Lib.hid hkn
                  have hkb := Ex x
                  rw [← hkn] at hkb
                  obtain ⟨hkb1, hkb2⟩ := hkb
                  have HX := Lib.hid hxx
                  have HP := Lib.hid hpe
                  clear hkid hcon hc hc2 hps hw hxx hpe hkn
                  go_wp2_with fail
                  refine (Fc _ _ hp3 hx1).mono ?_
                  rw [← HKN.out]
                  rintro e w' ⟨rfl, rfl⟩
                  by_cases hcp : cap = p + 1
                  · have h0 : hK x = 0 := by omega
                    have hrd : Rd w.heap.size .i64 x2 (.slice (some ⟨bl, off, none⟩) (hK x) 0) (Ae ws p) := .inl ⟨by unfold Ae; rw [HX.out, h0]; simp, some ⟨bl, off, none⟩, 0, by rw [h0]⟩
                    have HRD := Lib.hid hrd
                    clear h0 hrd
                    subst hcp
                    cases hall : (Ae ws p).all (Ai ps)
                    all_goals
                      go_wp2_with fail
                      refine (HC.out _ HRD.out).mono ?_
                      rintro e w' ⟨rfl, rfl⟩
                      rw [hall]
                      go_wp2
                      first
                        | (go_ret; exact ⟨Aq (by rw [HN.out]; symm; exact Nh hlt' (by rw [HP.out]; exact hall)), b3⟩)
                        | (go_round
                           case rel => exact ⟨k + 1, hlt, by go_num, Ng hd.out (by rw [HP.out]; exact hall)⟩
                           case measure => simp [intOf]; omega)
                  · cases hall : (Ae ws p).all (Ai ps)
                    all_goals
                      go_wp2_with fail
                      refine (HC.out _ (HK.out _ _ _ (by omega) (by rw [HX.out]) (by omega))).mono ?_
                      rintro e w' ⟨rfl, rfl⟩
                      rw [hall]
                      go_wp2
                      first
                        | (go_ret; exact ⟨Aq (by rw [HN.out]; symm; exact Nh hlt' (by rw [HP.out]; exact hall)), b3⟩)
                        | (go_round
                           case rel => exact ⟨k + 1, hlt, by go_num, Ng hd.out (by rw [HP.out]; exact hall)⟩
                           case measure => simp [intOf]; omega)
                · go_wp2
                  go_ret
                  exact ⟨Aq (by rw [HN.out]; symm; exact Vu (fun j hj => hd.out j (by rw [HL.out] at hlt; omega))), b3⟩
      · have e3 : (b != 0) = true := by simp; omega
        have e4 : (b != h) = true := by simp; omega
        have HF := Lib.hid (Iw (ws := ws) (n := n) (Vq (h := h) (b := b) (by omega) (by omega)))
        clear hr' hw c3 c2
        go_enter Tryz.func77, Tryz.ntmps77
        go_wp2_with (go_at_call 54; refine (AT _ _ _ _).mono ?_; rintro e w' ⟨rfl, rfl⟩)
        go_ret
        exact ⟨Aq HF.out.symm, (Below.refl _ _).alloc (Nat.le_refl _) _⟩
    · have e2 : ((ws.length : Int) != 2 * h) = true := by simpa using c2
      have HF := Lib.hid (Iw (b := b) (n := n) (Vp c2))
      clear hr' hw c2
      go_enter Tryz.func77, Tryz.ntmps77
      go_wp2_with (go_at_call 54; refine (AT _ _ _ _).mono ?_; rintro e w' ⟨rfl, rfl⟩)
      go_ret
      exact ⟨Aq HF.out.symm, (Below.refl _ _).alloc (Nat.le_refl _) _⟩
theorem Pf {ws:List Int}{h b n:Int}(hok:heapOk ws h b n=true):Bg ws h b n=true:=by
 unfold heapOk at hok;rw[Bool.and_eq_true]at hok;exact hok.1
theorem Tryz.infoI2:(Tryz.prog.info? 3).map (fun i=>(i.zero,i.size,i.bytes))=some (some (.int .i64 0),1,8):=by kernel_rfl
theorem Rd.news {B:Nat}{k:IntKind}{w w':World}{ad:Addr}{n cap:Nat}{zs:List Int}(h:Rd B k w (.slice (some ad) n cap) zs) (hb:Below w.heap.size w w'):
  n=zs.length∧ ∀j u,(zs.map (Value.int k))[j]?=some u→w'.cell? (ad.add j)=some u:=by
 rcases h with ⟨rfl,a,c,hv⟩ |⟨b,off,c,hv,_,hbs,_,hc⟩
 ·cases hv
  exact⟨rfl,fun j u hj=>by simp at hj⟩
 ·cases hv
  refine⟨rfl,fun j u hj=> ?_⟩;have hjl:j < zs.length:=by
   rw[List.getElem?_map]at hj;by_cases h:j < zs.length
   ·exact h
   ·rw[List.getElem?_eq_none (by omega)]at hj;cases hj
  have hadd:(⟨b,off,none⟩:Addr).add j=⟨b,off+j,none⟩:=by unfold Addr.add;split <;> simp_all
  rw[hadd,hb.cell (p:=⟨b,off+j,none⟩) hbs,hc j hjl];rw[List.getElem?_map,List.getElem?_eq_getElem hjl]at hj;rw[←hj];simp[List.getD,List.getElem?_eq_getElem hjl]
theorem Rd.none_nil {B:Nat}{k:IntKind}{w:World}{n cap:Nat}{zs:List Int}(h:Rd B k w (.slice none n cap) zs):zs=[]:=by
 rcases h with ⟨rfl,_⟩ |⟨b,off,c,hv,_⟩
 ·rfl
 ·cases hv
theorem Jb (k:IntKind) (zs:List Int):∀u∈zs.map (Value.int k),u.oneCell'=true:=by
 intro u hu;obtain⟨x,_,rfl⟩:=List.mem_map.1 hu;rfl
theorem Ft {B:Nat}(v:Value) (zs:List Int) (w:World) (hr:Rd B .i64 w v zs) (hn:zs.length≤4294967296):
  Calls Tryz.prog 67 #[v] w fun e w'=>∃v',e= .returned v'∧w'.ownsRow w.heap.size 3 1 v' zs.length (zs.map (Value.int .i64))∧Below w.heap.size w w':=by
 obtain⟨a,cap,rfl⟩:=hr.form;have hrn:=fun(w:World) (n c:Nat) (x:Option Addr)=>Lib.run_eql_slice_nil (P:=Tryz.prog) w 27 3 x n c 0 0 Tryz.underlying27;obtain⟨i0,hi,hz0,hz1,hz2⟩:=info_parts Tryz.infoI2;cases a with
 |none=>
  have hz:zs=[]:=hr.none_nil;subst hz;clear hr;go_enter Tryz.func67,Tryz.ntmps67;go_wp2;go_ret;exact⟨_,rfl,World.ownsRow_nil _ _ _ _,Below.refl _ _⟩
 |some ad=>
  have hnew:=(hr.news ((Below.refl w.heap.size w).alloc (Nat.le_refl _) (.cells #[] 3))).2;have HN:=Lib.hid hnew;clear hr hnew;go_enter Tryz.func67,Tryz.ntmps67;go_wp2_with (at_builtin;refine wpList_append_own _ rfl _ _ 27 rfl w.heap.size 3 i0 (.int .i64 0) 1 8 Tryz.underlying27 hi hz0 hz1 hz2 rfl (by decide) _ 0 [] rfl ?_ ad zs.length cap (zs.map (Value.int .i64)) rfl (by simp) HN.out (Jb _ _) ?_ ?_ ?_ ?_)
  ·exact EO rfl (Nat.le_refl _)
  ·unfold maxLen;omega
  ·omega
  ·simp
  ·intro v' w1 ho hg _;have hb:Below w.heap.size w w1:=((Below.refl _ _).alloc (Nat.le_refl _) _).grown hg (by simp) (by intro k hk;simp[Value.ownBlock]at hk;omega);clear hg;go_wp2;go_ret;exact⟨_,rfl,ho,hb⟩
theorem F5 {B:Nat}(v:Value) (ws:List Int) (h b n:Int) (p:Nat) (w:World) (hr:Rd B .i64 w v ws) (hw:Au ws) (hh:hOk (ws.getD p 0)=true) (hfit:p+1+hK (ws.getD p 0)≤ws.length) (hlen:ws.length≤4294967296):
  Calls Tryz.prog 74 #[.agg #[v,.int .i64 h,.int .i64 b,.int .i64 n],.int .i64 p] w fun e w'=>
   ∃u,e= .returned (.tuple #[.bool (Ce (ws.getD p 0)),.int .i64 (Az (ws.getD p 0)),u])∧Rd B .i64 w' u (Ae ws p)∧Below w.heap.size w w':=by
 rcases hr with ⟨hnil,_⟩ |⟨bl,off,cap,rfl,hB,hbs,hm,hc⟩
 ·rw[hnil]at hfit;simp at hfit
 obtain⟨hm1,hm2⟩:=hm;have c2:=hc p (by omega);have hkid:=fun(W:World) (hb:Below w.heap.size w W) q c m hq hmm hmc=>Rd.kids (B:=B) (cap:=c) (w:=W) hB (Nat.lt_of_lt_of_le hbs hb.size) (fun j hj=>(hb.cell (p:=⟨bl,off+j,none⟩) hbs).trans (hc j hj)) p c hfit hm1 q hq m hmm hmc;have HK:=Lib.hid hkid;obtain⟨x,hxx⟩:∃x,ws.getD p 0=x:=⟨_,rfl⟩;have hx:=hw p;rw[hxx]at hx hh hfit c2 ⊢;obtain⟨hx0,hx1⟩:=hx;have HX:=Lib.hid hxx;have hkn:=FK x;have HKN:=Lib.hid hkn;have hkb:=Ex x;rw[←hkn]at hkb;obtain⟨hkb1,hkb2⟩:=hkb;clear hxx hkn hw hc hkid;by_cases hcp:cap=p+1
 ·have h0:hK x=0:=by omega
  have hrd:∀ (W:World) (m:Nat),m=hK x→Rd B .i64 W (.slice (some ⟨bl,off,none⟩) m 0) (Ae ws p):=fun W m hm=> .inl ⟨by unfold Ae;rw[HX.out,h0];simp,some ⟨bl,off,none⟩,0,by rw[hm,h0]⟩;have HRD:=Lib.hid hrd;clear h0 hrd;subst hcp;go_enter Tryz.func74,Tryz.ntmps74;go_wp2_with fail;refine(Fc _ _ hh hx1).mono ?_;rw[←HKN.out];rintro e w' ⟨rfl,rfl⟩;go_wp2_with fail;go_quiet (fail);go_wp2
  go_ret3
  exact⟨_,rfl,HRD.out _ _ (by omega),below_drewN ((Below.refl _ _).alloc (Nat.le_refl _) _) _⟩
 ·go_enter Tryz.func74,Tryz.ntmps74;go_wp2_with fail;refine(Fc _ _ hh hx1).mono ?_;rw[←HKN.out];rintro e w' ⟨rfl,rfl⟩;go_wp2_with fail;go_quiet (fail);go_wp2
  go_ret3
  exact⟨_,rfl,HK.out _ (below_drewN ((Below.refl _ _).alloc (Nat.le_refl _) _) _) _ _ _ (by omega) (by rw[HX.out];omega) (by omega),below_drewN ((Below.refl _ _).alloc (Nat.le_refl _) _) _⟩
def Lq (ws:List Int) (h b n p:Int):Option Nat:=if heapOk ws h b n then(match Bw ws b.toNat n.toNat with |none=>none |some ps=>if p∈Ax ps then some p.toNat else none)else none
theorem Qd {ws:List Int}{h b n:Nat}(hok:heapOk ws h b n=true):∃ps,Bw ws b n=some ps:=by
 cases hp:Bw ws b n with
 |none=>rw[Nf hp]at hok;cases hok
 |some ps=>exact⟨ps,rfl⟩
theorem Lg (ws:List Int) (p:Nat):(Ae ws p).length≤64:=by
 unfold Ae hK;have:=Ex (ws.getD p 0);generalize Cv (ws.getD p 0)=m at this ⊢;rw[List.length_take];omega
theorem Bx.apart {g N:Nat}{v:Value}(h1:∀k,v.ownBlock=some k→k < N) (h2:N≤g):some g≠v.ownBlock:=by
 intro h;have:=h1 g h.symm;omega
def AW (ws:List Int) (h b n:Int) (rs:List Int):Bool:=
 heapOk ws h b n&& (match Bw ws b.toNat n.toNat with |none=>false |some ps=>rs.all (Ai ps))
def seeW (o:List Nat) (x:Int):List Nat:=if x%2=0 then(if(x/2).toNat∈o then o else o++ [(x/2).toNat])else o
def seeL (o:List Nat) (xs:List Int):List Nat:=xs.foldl seeW o
def bfs (ws:List Int):Nat→Nat→List Nat→List Nat
 |0,_,o=>o
 |f+1,i,o=>if i < o.length then bfs ws f (i+1) (seeL o (Ae ws (o.getD i 0)))else o
def Ao (ws:List Int) (rs:List Int):List Nat:=bfs ws ws.length 0 (seeL [] rs)
theorem Fl {ws:List Int}{f i:Nat}{o:List Nat}(h:i < o.length):bfs ws (f+1) i o=bfs ws f (i+1) (seeL o (Ae ws (o.getD i 0))):=by rw[bfs,if_pos h]
theorem Fm {ws:List Int}{f i:Nat}{o:List Nat}(h:¬i < o.length):bfs ws f i o=o:=by
 cases f
 ·rfl
 ·rw[bfs,if_neg h]
def Bo (ps o:List Nat):Prop:=o.Nodup∧ ∀p∈o,p∈ps
theorem nodup_len:∀ (o ps:List Nat),o.Nodup→(∀p∈o,p∈ps)→o.length≤ps.length:=by
 intro o;induction o with
 |nil=>intro ps _ _;simp
 |cons a o ih=>
  intro ps hn hs;obtain⟨ha,hn⟩:=List.nodup_cons.1 hn;have h1:a∈ps:=hs a (List.mem_cons_self ..);have h2:=ih (ps.erase a) hn (fun p hp=>(List.mem_erase_of_ne (fun(e:p=a)=>ha (e▸hp))).2 (hs p (List.mem_cons_of_mem _ hp)));rw[List.length_erase_of_mem h1]at h2;have h3:0 < ps.length:=List.length_pos_of_mem h1;simp only[List.length_cons];omega
theorem Yy:∀ (ps:List Nat) (a b:Nat),ps.Pairwise (·< ·)→(∀p∈ps,a≤p∧p < b)→ps.length≤b - a:=by
 intro ps;induction ps with
 |nil=>intro a b _ _;simp
 |cons p ps ih=>
  intro a b hs hb;obtain⟨h1,h2⟩:=List.pairwise_cons.1 hs;have h3:=hb p (List.mem_cons_self ..);have h4:=ih (p+1) b h2 (fun q hq=>⟨h1 q hq,(hb q (List.mem_cons_of_mem _ hq)).2⟩);simp only[List.length_cons];omega
theorem GR {ps:List Nat}{x:Int}(h:Ai ps x=true) (he:x%2=0):∃p∈ps,(p:Int)=x/2:=by
 unfold Ai at h;rw[if_pos he]at h
 simpa using h
theorem Yz {ps o:List Nat}{x:Int}(h:Bo ps o) (hx:Ai ps x=true):Bo ps (seeW o x):=by
 unfold seeW;split
 ·rename_i he;obtain⟨p,hp,hpx⟩:=GR hx he;split
  ·exact h
  ·rename_i hn;have e:(x/2).toNat=p:=by omega
   rw[e]at hn ⊢;refine⟨List.nodup_append.2 ⟨h.1,by simp,?_⟩,fun q hq=> ?_⟩
   ·intro a ha b hb;rw[List.mem_singleton]at hb;subst hb;exact fun e=>hn (e▸ha)
   ·rcases List.mem_append.1 hq with hq |hq
    ·exact h.2 q hq
    ·rw[List.mem_singleton]at hq;rw[hq];exact hp
 ·exact h
theorem FS {ps:List Nat}:∀ {xs:List Int}{o:List Nat},Bo ps o→xs.all (Ai ps)=true→Bo ps (seeL o xs):=by
 intro xs;induction xs with
 |nil=>intro o h _;exact h
 |cons x xs ih=>
  intro o h hx;rw[List.all_cons,Bool.and_eq_true]at hx;exact ih (Yz h hx.1) hx.2
theorem YA {o:List Nat}{xs:List Int}{k:Nat}(h:k < xs.length):seeL o (xs.take (k+1))=seeW (seeL o (xs.take k)) (xs.getD k 0):=by
 unfold seeL;rw[←List.take_append_getElem h,List.foldl_append,List.getD_eq_getElem?_getD,List.getElem?_eq_getElem h];rfl
theorem YB {ps:List Nat}{xs:List Int}(k:Nat) (h:xs.all (Ai ps)=true):(xs.take k).all (Ai ps)=true:=by
 rw[List.all_eq_true]at h ⊢;exact fun x hx=>h x (List.mem_of_mem_take hx)
theorem KE {ps:List Nat}{xs:List Int}{k:Nat}(h:xs.all (Ai ps)=true) (hk:k < xs.length):Ai ps (xs.getD k 0)=true:=by
 rw[List.all_eq_true]at h;rw[List.getD_eq_getElem?_getD,List.getElem?_eq_getElem hk];exact h _ (List.getElem_mem hk)
theorem YC (o:List Nat) (x:Int):o.length≤ (seeW o x).length:=by
 unfold seeW;split
 ·split
  ·exact Nat.le_refl _
  ·simp
 ·exact Nat.le_refl _
theorem YD:∀ (xs:List Int) (o:List Nat),o.length≤ (seeL o xs).length:=by
 intro xs;induction xs with
 |nil=>intro o;exact Nat.le_refl _
 |cons x xs ih=>intro o;exact Nat.le_trans (YC o x) (ih (seeW o x))
theorem YE {o:List Nat}{xs:List Int}{i:Nat}(h:i < o.length):i+1≤ (seeL o xs).length:=Nat.le_trans h (YD xs o)
theorem I1:∀ (xs:List Int) (o:List Nat),∃t,seeL o xs=o++t:=by
 intro xs;induction xs with
 |nil=>intro o;exact⟨[],by simp[seeL]⟩
 |cons x xs ih=>
  intro o;obtain⟨t,ht⟩:=ih (seeW o x);have h1:seeL o (x::xs)=seeL (seeW o x) xs:=rfl;unfold seeW at ht h1;split at ht
  ·split at ht
   ·rename_i h2 h3;rw[if_pos h2,if_pos h3]at h1;exact⟨t,by rw[h1,ht]⟩
   ·rename_i h2 h3;rw[if_pos h2,if_neg h3]at h1;exact⟨_,by rw[h1,ht,List.append_assoc]⟩
  ·rename_i h2;rw[if_neg h2]at h1;exact⟨t,by rw[h1,ht]⟩
theorem OR {o:List Nat}{xs:List Int}{k:Nat}(h:k < o.length):(seeL o xs).getD k 0=o.getD k 0:=by
 obtain⟨t,ht⟩:=I1 xs o;rw[ht,List.getD_eq_getElem?_getD,List.getElem?_append_left h,List.getD_eq_getElem?_getD]
def numOf (o:List Nat) (p:Nat):Int:=if p∈o then(o.idxOf p:Int)else -1
def A7 (o:List Nat) (N:Nat):List Int:=(List.range N).map (numOf o)
theorem DR (o:List Nat) (N:Nat):(A7 o N).length=N:=by simp[A7]
theorem OV {o:List Nat}{N p:Nat}(h:p < N):(A7 o N).getD p 0=numOf o p:=by simp[A7,List.getD,h]
theorem YF (N:Nat):A7 [] N=List.replicate N (-1):=by
 refine List.ext_getElem (by simp[A7]) fun i h1 h2=> ?_;simp[A7,numOf]
theorem YG {o:List Nat}{p q:Nat}(h:q≠p):numOf (o++ [p]) q=numOf o q:=by
 unfold numOf;by_cases hq:q∈o
 ·rw[if_pos (List.mem_append_left _ hq),if_pos hq,List.idxOf_append,if_pos hq]
 ·rw[if_neg (by simp[hq,h]),if_neg hq]
theorem YH {o:List Nat}{p:Nat}(h:p∉o):numOf (o++ [p]) p=o.length:=by
 unfold numOf;rw[if_pos (by simp),List.idxOf_append,if_neg h];simp
theorem YI {o:List Nat}{N p:Nat}(h:p∉o) (hp:p < N):(A7 o N).set p o.length=A7 (o++ [p]) N:=by
 refine List.ext_getElem (by simp[A7]) fun i h1 h2=> ?_;rw[List.getElem_set];split
 ·rename_i e;subst e;simp[A7,YH h]
 ·rename_i e;simp[A7,YG (fun h=>e h.symm)]
theorem OW {o:List Nat}{p:Nat}(h:p∈o):0≤numOf o p∧numOf o p < o.length:=by
 unfold numOf;rw[if_pos h];exact⟨by omega,by have:=List.idxOf_lt_length_of_mem h;omega⟩
theorem OX {o:List Nat}{p:Nat}(h:p∉o):numOf o p= -1:=by unfold numOf;rw[if_neg h]
structure Right (ws:List Int) (h b n:Nat) (ps:List Nat):Prop where
 frame:Frame ws h b n
 some:Bw ws b n=some ps
 fit:DL ws ps=true
theorem Right.of {ws:List Int}{h b n:Int}(hok:heapOk ws h b n=true):∃h' b' n':Nat,∃ps,h=h'∧b=b'∧n=n'∧Right ws h' b' n' ps:=by
 obtain⟨h',b',n',rfl,rfl,rfl,hF⟩:=Nd (Pf hok);obtain⟨ps,hp⟩:=Qd hok;refine⟨h',b',n',ps,rfl,rfl,rfl,hF,hp,?_⟩;rw[Gz (Pf hok) hp]at hok;exact hok
theorem Right.at_ {ws:List Int}{h b n p:Nat}{ps:List Nat}(hR:Right ws h b n ps) (hp:p∈ps):b≤p∧p < n∧hOk (ws.getD p 0)=true∧p+1+hK (ws.getD p 0)≤n∧(Ae ws p).all (Ai ps)=true:=by
 obtain⟨h1,h2,h3,h4⟩:=Iv _ _ _ hR.some p hp;refine⟨h1,h2,h3,h4,?_⟩;have:=hR.fit;unfold DL at this;rw[List.all_eq_true]at this;exact this p hp
theorem Right.n_le {ws:List Int}{h b n:Nat}{ps:List Nat}(hR:Right ws h b n ps):n≤ws.length∧ws.length≤6000:=by
 have h1:=hR.frame.len;have h2:=hR.frame.base;have h3:=hR.frame.n1;have h4:=hR.frame.h1;omega
theorem Right.sorted {ws:List Int}{h b n:Nat}{ps:List Nat}(hR:Right ws h b n ps):ps.Pairwise (·< ·):=J3 _ _ _ hR.some
theorem Right.len {ws:List Int}{h b n:Nat}{ps:List Nat}(hR:Right ws h b n ps):ps.length≤n - b:=Yy ps b n hR.sorted (fun p hp=>⟨(hR.at_ hp).1,(hR.at_ hp).2.1⟩)
theorem Right.ord_len {ws:List Int}{h b n:Nat}{ps o:List Nat}(hR:Right ws h b n ps) (ho:Bo ps o):o.length≤ws.length:=by
 have h1:=nodup_len o ps ho.1 ho.2;have h2:=hR.len;have h3:=hR.n_le;omega
theorem Right.see {ws:List Int}{h b n:Nat}{ps o:List Nat}(hR:Right ws h b n ps) (ho:Bo ps o) {i:Nat}(hi:i < o.length):Bo ps (seeL o (Ae ws (o.getD i 0))):=
 FS ho (hR.at_ (ho.2 _ (FL hi))).2.2.2.2
theorem GS (ps:List Nat):Bo ps []:=⟨List.nodup_nil,by simp⟩
theorem OY {ws:List Int}{h b n:Int}{rs:List Int}(hr:AW ws h b n rs=true):heapOk ws h b n=true:=by
 unfold AW at hr;rw[Bool.and_eq_true]at hr;exact hr.1
theorem YJ {ws:List Int}{h b n:Int}{rs:List Int}(hr:heapOk ws h b n=false):AW ws h b n rs=false:=by simp[AW,hr]
theorem KF {ws:List Int}{h b n:Nat}{rs:List Int}{ps:List Nat}(hok:heapOk ws h b n=true) (hp:Bw ws b n=some ps):AW ws h b n rs=rs.all (Ai ps):=by simp[AW,hok,hp]
theorem O0 {ws:List Int}{h b n:Nat}{ps:List Nat}(hR:Right ws h b n ps):∀ (f i:Nat) (o:List Nat),Bo ps o→Bo ps (bfs ws f i o):=by
 intro f;induction f with
 |zero=>intro i o h;exact h
 |succ f ih=>
  intro i o ho;by_cases hi:i < o.length
  ·rw[Fl hi];exact ih _ _ (hR.see ho hi)
  ·rw[Fm hi];exact ho
def An (f:Bool) (tag:Int) (m:Nat):Int:=2* (2* (64*tag+m)+ (if f then 1 else 0))+1
theorem Hj (f:Bool) (tag:Int) (m:Nat) (h0:0≤tag) (h1:tag≤3000) (h2:m≤20):0≤An f tag m∧An f tag m≤1000000:=by unfold An;split <;> omega
def ov (ws:List Int) (p:Nat) (ks:List Int):List Int:=ws.take p++ (ks++ws.drop (p+ks.length))
theorem Fp {ws:List Int}{p:Nat}{ks:List Int}(h:p+ks.length≤ws.length):(ov ws p ks).length=ws.length:=by simp[ov];omega
theorem Li {ws:List Int}{p:Nat}(x:Int) (h:p < ws.length):ws.set p x=ov ws p [x]:=by
 unfold ov;rw[List.set_eq_take_append_cons_drop,if_pos h];rfl
theorem Lj (ws:List Int) (p:Nat) (x:Int) (ks:List Int) (h:p < ws.length):ov ws p (x::ks)=splice (ov ws p [x]) (p+1) ks:=by
 have hl:(ws.take p++ [x]).length=p+1:=by simp;omega
 have e:ov ws p [x]= (ws.take p++ [x])++ws.drop (p+1):=by unfold ov;rw[List.append_assoc];rfl
 have t1:(ov ws p [x]).take (p+1)=ws.take p++ [x]:=by rw[e];exact List.take_left' hl
 have t2:(ov ws p [x]).drop (p+1+ks.length)=ws.drop (p+1+ks.length):=by
  rw[e,List.drop_append,hl,List.drop_eq_nil_of_le (by omega),List.nil_append,List.drop_drop]
  congr 1
  omega
 unfold splice;rw[t1,t2];unfold ov;rw[List.append_assoc,List.length_cons,show p+ (ks.length+1)=p+1+ks.length from by omega];rfl
theorem P4 {zs:List Int}(j:Nat):zs.getD j 0∈zs∨zs.getD j 0=0:=by
 by_cases h:j < zs.length
 ·left;rw[List.getD_eq_getElem?_getD,List.getElem?_eq_getElem h];exact List.getElem_mem h
 ·right;rw[List.getD_eq_getElem?_getD,List.getElem?_eq_none (by omega)];rfl
theorem CB {zs:List Int}(h:∀x∈zs, -9223372036854775808≤x∧x≤9223372036854775807):Au zs:=by
 intro j;rcases P4 (zs:=zs) j with h' |h'
 ·exact h _ h'
 ·rw[h'];omega
theorem CW {zs:List Int}(h:Au zs):∀x∈zs, -9223372036854775808≤x∧x≤9223372036854775807:=by
 intro x hx;obtain⟨i,hi,rfl⟩:=List.mem_iff_getElem.1 hx;have:=h i
 rwa [List.getD_eq_getElem?_getD,List.getElem?_eq_getElem hi]at this
theorem Lk {ws:List Int}{p:Nat}{ks:List Int}(h1:Au ws) (h2:Au ks):Au (ov ws p ks):=by
 refine CB fun x hx=> ?_;unfold ov at hx;rcases List.mem_append.1 hx with h |h
 ·exact CW h1 x (List.mem_of_mem_take h)
 rcases List.mem_append.1 h with h |h
 ·exact CW h2 x h
 ·exact CW h1 x (List.mem_of_mem_drop h)
structure Put where
 ws:List Int
 next:Int
 at_:Int
 ok:Bool
def BG (ws:List Int) (h b n:Int) (f:Bool) (tag:Int) (ks:List Int):Put:=
 if heapOk ws h b n&& (inB tag 0 3000&& (decide (ks.length≤20)&& (decide (n+ (1+ks.length)≤b+h)&& heapOk (ov ws n.toNat (An f tag ks.length::ks)) h b (n+ (1+ks.length)))))then
  ⟨ov ws n.toNat (An f tag ks.length::ks),n+ (1+ks.length),n,true⟩else⟨ws,n,0,false⟩
theorem P5 {ws:List Int}{h b n:Int}{f:Bool}{tag:Int}{ks:List Int}(hn:¬(heapOk ws h b n=true∧inB tag 0 3000=true∧ks.length≤20∧n+ (1+ks.length)≤b+h)):BG ws h b n f tag ks=⟨ws,n,0,false⟩:=by
 unfold BG;rw[if_neg];simp only[Bool.and_eq_true,decide_eq_true_eq];rintro⟨a,b,c,d,e⟩;exact hn ⟨a,b,c,d⟩
theorem P6 {ws:List Int}{h b:Int}{n:Nat}{f:Bool}{tag:Int}{ks:List Int}(h1:heapOk ws h b n=true) (h2:inB tag 0 3000=true) (h3:ks.length≤20) (h4:(n:Int)+ (1+ks.length)≤b+h):
  BG ws h b n f tag ks=if heapOk (ov ws n (An f tag ks.length::ks)) h b (n+ (1+ks.length))then⟨ov ws n (An f tag ks.length::ks),n+ (1+ks.length),n,true⟩else⟨ws,n,0,false⟩:=by
 unfold BG;rw[h1,h2,decide_eq_true h3,decide_eq_true h4];simp
theorem Ll {α β:Type}(f:α→β) (xs:List α) (off:Nat) (cs:List α):splice (xs.map f) off (cs.map f)= (splice xs off cs).map f:=by simp[splice,List.map_take,List.map_drop]
theorem Lm {base:Nat}{e:TypeId}{w w':World}{g cap n:Nat}{xs:List Value}(h:w.ownsRow base e 1 (.slice (some ⟨g,0,none⟩) n cap) n xs) (cur:List Value) (hc:w.heap[g]?=some (.cells cur.toArray e (0,0))) (off:Nat) (cs:List Value) (hw:w'.heap[g]?=some (.cells (splice cur off cs).toArray e (0,0))) (hfit:off+cs.length≤n):
  w'.ownsRow base e 1 (.slice (some ⟨g,0,none⟩) n cap) n (splice xs off cs):=by
 obtain⟨h1,h2⟩:=h;rcases h2 with ⟨hh,_⟩ |⟨g',cap',cur',hv,hb,hg,hn,hm,hsz,ht⟩
 ·cases hh
 ·cases hv
  rw[hc]at hg;cases hg
  have hcl:cur.length=cap:=by simpa using hsz
  simp only[Nat.mul_one]at h1 ht;subst ht;refine⟨by rw[length_splice _ _ _ (by rw[h1];omega)];omega,.inr ⟨g,cap,_,rfl,hb,hw,hn,hm,by rw[List.size_toArray,length_splice _ _ _ (by omega)];simpa using hsz,?_⟩⟩;simp only[Nat.mul_one,splice];rw[List.take_append,List.take_append];simp only[List.length_take,List.take_take,List.drop_take];rw[Nat.min_comm n off,show min off cur.length=off from by omega,List.take_of_length_le (l:=cs) (by omega),show n - off - cs.length=n - (off+cs.length)from by omega]
theorem Hk {base:Nat}{e:TypeId}{w:World}{g cap n:Nat}{xs:List Value}(h:w.ownsRow base e 1 (.slice (some ⟨g,0,none⟩) n cap) n xs):∃cur:List Value,w.heap[g]?=some (.cells cur.toArray e (0,0))∧n≤cur.length∧base≤g∧n≤cap:=by
 rcases h.2 with ⟨hh,_⟩ |⟨g',cap',cur',hv,hb,hg,hn,hm,hsz,ht⟩
 ·cases hh
 ·cases hv
  exact⟨cur'.toList,by simpa using hg,by simp;omega,hb,hn⟩
def lay (b N:Nat) (l:List Int):List Int:=List.replicate b 0++ (l++List.replicate (N - b - l.length) 0)
theorem F6 {b N:Nat}{l:List Int}(h:b+l.length≤N):(lay b N l).length=N:=by simp[lay];omega
theorem Qn {b N:Nat}(h:b≤N):lay b N []=List.replicate N 0:=by
 unfold lay;rw[List.nil_append,List.replicate_append_replicate]
 congr 1
 simp;omega
theorem Qo {b N:Nat}{l ks:List Int}(h:b+ (l.length+ks.length)≤N):ov (lay b N l) (b+l.length) ks=lay b N (l++ks):=by
 have e:lay b N l= (List.replicate b 0++l)++List.replicate (N - b - l.length) 0:=by unfold lay;rw[List.append_assoc]
 have hl:(List.replicate b (0:Int)++l).length=b+l.length:=by simp
 unfold ov;rw[e,List.take_left' hl,List.drop_append,hl,List.drop_eq_nil_of_le (by omega),List.nil_append,List.drop_replicate];unfold lay;rw[List.append_assoc,List.append_assoc,List.length_append]
 congr 4
 omega
theorem Qp {b N i:Nat}{l:List Int}(h:i < l.length) (x:Int):(lay b N l).set (b+i) x=lay b N (l.set i x):=by
 unfold lay;rw[List.set_append_right _ _ (by simp),List.set_append_left _ _ (by simp;omega),List.length_set]
 congr 3
 simp
theorem Qq {b N i:Nat}{l:List Int}(h:i < l.length):(lay b N l).getD (b+i) 0=l.getD i 0:=by
 unfold lay;rw[List.getD_eq_getElem?_getD,List.getElem?_append_right (by simp),List.getElem?_append_left (by simp;omega),List.getD_eq_getElem?_getD]
 congr 2
 simp
theorem Jc {b N:Nat}{l:List Int}(h:Au l):Au (lay b N l):=by
 refine CB fun x hx=> ?_;unfold lay at hx;rcases List.mem_append.1 hx with h' |h'
 ·rw[List.eq_of_mem_replicate h'];omega
 rcases List.mem_append.1 h' with h' |h'
 ·exact CW h x h'
 ·rw[List.eq_of_mem_replicate h'];omega
def blk (ws:List Int) (p:Nat):List Int:=ws.getD p 0::Ae ws p
def raw (ws:List Int) (o:List Nat):List Int:=o.flatMap (blk ws)
def Cp (ws:List Int) (b:Nat) (o:List Nat) (p:Nat):Nat:=b+ (raw ws (o.take (o.idxOf p))).length
def mv (ws:List Int) (b:Nat) (o:List Nat) (x:Int):Int:=if x%2=0 then 2* (Cp ws b o (x/2).toNat:Int)else x
def D1 (ws:List Int) (b:Nat) (o:List Nat) (p:Nat):List Int:=ws.getD p 0::(Ae ws p).map (mv ws b o)
def mvd (ws:List Int) (b:Nat) (o q:List Nat):List Int:=q.flatMap (D1 ws b o)
theorem Ly (ws:List Int):raw ws []=[]:=rfl
theorem Jd (ws:List Int) (a b:List Nat):raw ws (a++b)=raw ws a++raw ws b:=by simp[raw]
theorem F7 (ws:List Int) (a:List Nat) (p:Nat):raw ws (a++ [p])=raw ws a++blk ws p:=by simp[raw]
theorem Qr (ws:List Int) (b:Nat) (o:List Nat) (p:Nat):(D1 ws b o p).length= (blk ws p).length:=by simp[D1,blk]
theorem Df (ws:List Int) (b:Nat) (o:List Nat):∀q:List Nat,(mvd ws b o q).length= (raw ws q).length:=by
 intro q;induction q with
 |nil=>rfl
 |cons p q ih=>
  unfold mvd raw at ih ⊢;rw[List.flatMap_cons,List.flatMap_cons,List.length_append,List.length_append,ih,Qr]
theorem Qs (ws:List Int) (b:Nat) (o q:List Nat) (p:Nat):mvd ws b o (q++ [p])=mvd ws b o q++D1 ws b o p:=by simp[mvd]
theorem Lz {ws:List Int}{p:Nat}(h:p+1+hK (ws.getD p 0)≤ws.length):(blk ws p).length=1+hK (ws.getD p 0):=by
 unfold blk Ae;rw[List.length_cons,List.length_take,List.length_drop];omega
theorem LA {ws:List Int}{nx:Nat}(hnx:nx≤ws.length):∀ (f p:Nat) (ps:List Nat),places ws nx f p=some ps→p≤nx→(raw ws ps).length≤nx - p:=by
 intro f;induction f with
 |zero=>intro p ps h hp;simp[places]at h;subst h;simp[raw]
 |succ f ih=>
  intro p ps h hp;by_cases hlt:p < nx
  ·by_cases hb:hOk (ws.getD p 0)=true∧p+1+hK (ws.getD p 0)≤nx
   ·rw[DK hlt hb.1 hb.2]at h;obtain⟨r,hr,rfl⟩:=Option.map_eq_some_iff.1 h;have h1:=ih _ _ hr hb.2;have h2:=Lz (ws:=ws) (p:=p) (by omega);unfold raw at h1 ⊢;rw[List.flatMap_cons,List.length_append,h2];omega
   ·rw[Ey hlt hb]at h;cases h
  ·rw[C7 hlt]at h;cases h;simp[raw]
theorem Qt {ws:List Int}:∀ {ps:List Nat}{a:Nat},a∈ps→(raw ws ps).length= (blk ws a).length+ (raw ws (ps.erase a)).length:=by
 intro ps;induction ps with
 |nil=>intro a h;cases h
 |cons p ps ih=>
  intro a h;by_cases hp:p=a
  ·subst hp;rw[List.erase_cons_head];simp[raw]
  ·rw[List.erase_cons_tail (by simpa using hp)];have h1:a∈ps:=by rcases List.mem_cons.1 h with h |h;exact absurd h.symm hp;exact h
   have h2:=ih h1;unfold raw at h2 ⊢;rw[List.flatMap_cons,List.flatMap_cons,List.length_append,List.length_append,h2];omega
theorem LB {ws:List Int}:∀ (o ps:List Nat),o.Nodup→(∀p∈o,p∈ps)→(raw ws o).length≤ (raw ws ps).length:=by
 intro o;induction o with
 |nil=>intro ps _ _;simp[raw]
 |cons a o ih=>
  intro ps hn hs;obtain⟨ha,hn⟩:=List.nodup_cons.1 hn;have h1:a∈ps:=hs a (List.mem_cons_self ..);have h2:=ih (ps.erase a) hn (fun p hp=>(List.mem_erase_of_ne (fun(e:p=a)=>ha (e▸hp))).2 (hs p (List.mem_cons_of_mem _ hp)));have h3:=Qt (ws:=ws) h1;unfold raw at h2 h3 ⊢;rw[List.flatMap_cons,List.length_append];omega
theorem Right.raw_le {ws:List Int}{h b n:Nat}{ps o:List Nat}(hR:Right ws h b n ps) (ho:Bo ps o):(raw ws o).length≤h:=by
 have h1:=LB (ws:=ws) o ps ho.1 ho.2;have h2:=LA hR.n_le.1 _ _ _ hR.some hR.frame.n0;have h3:=hR.frame.n1;omega
theorem F8 (ws:List Int) (o:List Nat) (k:Nat):(raw ws (o.take k)).length≤ (raw ws o).length:=by
 have h:=congrArg (fun l=>(raw ws l).length) (List.take_append_drop k o);simp only[Jd,List.length_append]at h;omega
theorem Qu {X:Int}(h:hOk X=true):An (Ce X) (Az X) (hK X)=X:=by
 obtain⟨h1,h2,h3,h4⟩:=FJ.1 h;have h5:=FK X;unfold An;rw[h5];unfold Ce Az Cv at*;split
 ·rename_i h6;simp at h6;omega
 ·rename_i h6;simp at h6;omega
theorem LC {ws:List Int}{h b n b':Nat}{ps o:List Nat}(hR:Right ws h b n ps) (ho:Bo ps o) (p:Nat):Cp ws b' o p≤b'+h:=by
 unfold Cp;have h1:=F8 ws o (o.idxOf p);have h2:=hR.raw_le ho;omega
structure Coll where
 ws:List Int
 base:Int
 next:Int
 roots:List Int
def D2 (ws:List Int) (h b n:Int) (rs:List Int):Coll:=
 if AW ws h b n rs then
  ⟨lay (h - b).toNat ws.length (mvd ws (h - b).toNat (Ao ws rs) (Ao ws rs)),h - b,h - b+ (raw ws (Ao ws rs)).length,rs.map (mv ws (h - b).toNat (Ao ws rs))⟩
 else⟨ws,b,n,rs⟩
theorem Qv {ws:List Int}{h b n:Int}{rs:List Int}(hn:AW ws h b n rs=false):D2 ws h b n rs=⟨ws,b,n,rs⟩:=by simp[D2,hn]
theorem Hq {ws:List Int}{h b n:Nat}{rs:List Int}(hb:b≤h) (hr:AW ws h b n rs=true):
  D2 ws h b n rs=⟨lay (h - b) ws.length (mvd ws (h - b) (Ao ws rs) (Ao ws rs)),((h - b:Nat):Int),((h - b+ (raw ws (Ao ws rs)).length:Nat):Int),rs.map (mv ws (h - b) (Ao ws rs))⟩:=by
 unfold D2;rw[if_pos hr,show((h:Int) - (b:Int)).toNat=h - b by omega]
 congr 1
 ·omega
 ·omega
def hv (v:Value) (h b n:Int):Value:= .agg #[v,.int .i64 h,.int .i64 b,.int .i64 n]
def Ez (n:Int):List Int:=if inB n 1 3000 then List.replicate (2*n.toNat) 0 else []
theorem Tryz.infoI0:(Tryz.prog.info? 3).map (fun i=>(i.zero,i.size,i.bytes))=some (some (.int .i64 0),1,8):=by kernel_rfl
theorem Vn (n:Int) (w:World):
  Calls Tryz.prog 157 #[.int .i64 n] w fun e w'=>∃v,e= .returned (.tuple #[.agg #[v,.int .i64 (if inB n 1 3000 then n else 0),.int .i64 0,.int .i64 0],.bool (inB n 1 3000)])∧
   w'.ownsRow w.heap.size 3 1 v (Ez n).length ((Ez n).map (Value.int .i64))∧Below w.heap.size w w':=by
 cases hw:inB n 1 3000
 ·have he:Ez n=[]:=by simp[Ez,hw]
  have HE:=Lib.hid he;clear he;go_enter Tryz.func157,Tryz.ntmps157;go_wp2_with (go_at_call 54;refine(AT _ _ _ _).mono ?_;rintro e w' ⟨rfl,rfl⟩);refine bodyPost_ret (v:= .tuple #[.agg #[.slice none 0 0,.int .i64 0,.int .i64 0,.int .i64 0],.bool false]) (by simp[results,Tryz.results157,go_sem]) rfl ⟨_,rfl,?_,?_⟩
  ·rw[HE.out];exact World.ownsRow_nil _ _ _ _
  ·exact(Below.refl _ _).alloc (Nat.le_refl _) _
 ·obtain⟨h0,h1⟩:=Aw.1 hw;obtain⟨m,rfl⟩:=Int.eq_ofNat_of_zero_le (show 0≤n by omega);have he:Ez m=List.replicate (2*m) 0:=by simp[Ez,hw]
  have HE:=Lib.hid he;clear he;obtain⟨i0,hi,hz0,hz1,hz2⟩:=info_parts Tryz.infoI0;go_enter Tryz.func157,Tryz.ntmps157;go_wp2_with (first | (go_at_call 54;refine(AT _ _ _ _).mono ?_;rintro e w' ⟨rfl,rfl⟩) | (refine wpList_make_full _ rfl (.tmp 9) (.tmp 9) 27 rfl (w.heap.size+1) 3 i0 (.int .i64 0) 1 Tryz.underlying27 hi hz0 hz1 .i64 .i64 _ _ (2*m) rfl rfl ?_ ?_ ?_ ?_ ?_ ?_))
  ·omega
  ·omega
  ·rw[hz2];omega
  ·unfold maxLen;omega
  ·simp
  ·intro w1 hown hg;have hblk:=(hg.block w.heap.size (by simp) (by simp)).trans (heap_alloc_new w _);have c0:w1.cell? ⟨w.heap.size,0,none⟩=some (.slice none 0 0):=by rw[cell_of_row _ _ _ _ _ _ hblk];rfl
   have c1:w1.cell? ⟨w.heap.size,1,none⟩=some (.int .i64 0):=by rw[cell_of_row _ _ _ _ _ _ hblk];rfl
   have c2:w1.cell? ⟨w.heap.size,2,none⟩=some (.int .i64 0):=by rw[cell_of_row _ _ _ _ _ _ hblk];rfl
   have c3:w1.cell? ⟨w.heap.size,3,none⟩=some (.int .i64 0):=by rw[cell_of_row _ _ _ _ _ _ hblk];rfl
   have f0:∀j,w1.frozen? ⟨w.heap.size,j,none⟩=false:=fun j=>by simp[World.frozen?,hblk]
   have HO:=Lib.hid hown;have HG:=Lib.hid hg;clear hown hg hblk;go_wp2;refine bodyPost_ret (v:= .tuple #[.agg #[.slice (some ⟨w.heap.size+1,0,none⟩) (2*m) (2*m),.int .i64 m,.int .i64 0,.int .i64 0],.bool true]) ?_ rfl ⟨_,rfl,?_,?_⟩
   ·simp[results,Tryz.results157,go_sem,c0,c1,c2,c3]
   ·have ho:=HO.out;rw[toList_madeCells_one]at ho;rw[HE.out,List.map_replicate,List.length_replicate];exact AR (ownsRow_setCell_below (ownsRow_setCell_below (ownsRow_setCell_below (ownsRow_setCell_below ho (by simp) _) (by simp) _) (by simp) _) (by simp) _) (by omega)
   ·exact((((((Below.refl _ _).alloc (Nat.le_refl _) _).grown HG.out (by simp) (by simp)).setCell (Nat.le_refl _) _).setCell (Nat.le_refl _) _).setCell (Nat.le_refl _) _).setCell (Nat.le_refl _) _
end Go.Proofs.YtfmebaafpfkeiaaGreat
