/- Parts of the proof of FnNoRoom. -/
import Derived.Test.YtfmebaafpfkeiaaGreatZ12
import Derived.Test.YtfmebaafpfkeiaaGreatRows
import Derived.Lib.SliceRun
import Derived.Laws.CopyOwn
set_option linter.unusedVariables false
set_option linter.unusedSimpArgs false
section
namespace Go.Proofs.YtfmebaafpfkeiaaGreat
open Go.RowKit
theorem Tryz.infoI1 :(Tryz.prog.info? 3).map (fun i=> (i.zero,i.size,i.bytes))=some (some (.int .i64 0),1,8) :=by kernel_rfl
def ofN (p :Nat) :Value := .int .i64 (p :Int)
def intsOk (ws :List Int) :Prop := ∀j, -9223372036854775808≤ws.getD j 0∧ws.getD j 0≤9223372036854775807
def Told (W :World) (e :Ending) (w' :World) (o :Option (List Nat)) :Prop :=
 match o with
 | none=> ∃a n c,e= .returned (.tuple #[.slice a n c, .bool false])
 | some ps=> ∃v,e= .returned (.tuple #[v, .bool true])∧w'.ownsRow W.heap.size 3 1 v ps.length (ps.map ofN)
structure Frame (ws :List Int) (h b n :Nat) :Prop where
 h0 :1≤h
 h1 :h≤3000
 len :ws.length=2*h
 base :b=0∨b=h
 n0 :b≤n
 n1 :n≤b+h
set_option maxHeartbeats 800000 in
set_option maxRecDepth 100000 in
theorem starts_any {B :Nat} (v :Value) (ws :List Int) (h b n :Nat) (w :World) (hr :Rd B .i64 w v ws) (hw :intsOk ws) (hf :Frame ws h b n) :
  Calls Tryz.prog 121 #[.agg #[v, .int .i64 h, .int .i64 b, .int .i64 n]] w fun e w'=> Told w e w' (placesOf ws b n)∧Below w.heap.size w w' :=by
 obtain ⟨f0,f1,f2,f3,f4,f5⟩ :=hf
 rcases hr with ⟨rfl,_⟩ | ⟨bl,off,cap,rfl,hB,hbs,_,hc⟩
 ·simp at f2;omega
 obtain ⟨i0,hi,hz0,hz1,hz2⟩ :=info_parts Tryz.infoI1
 obtain ⟨o,ho⟩ : ∃o,placesOf ws b n=o :=⟨_,rfl⟩
 rw [ho]
 unfold placesOf at ho
 have HO :=Lib.hid ho
 have hn2 :n≤2*h :=by rcases f3 with h' | h' <;> omega
 have f2a :ws.length≤2*h :=by omega
 have f2b :2*h≤ws.length :=by omega
 clear ho f3 f2
 go_enter Tryz.func121,Tryz.ntmps121
 go_wp2
 go_loopw [4,5] (fun q p wr=> ∃(k :Nat) (acc :List Nat),p= .int .i64 k∧b≤k∧k≤n∧wr.ownsRow (w.heap.size+1) 3 1 q acc.length (acc.map ofN)∧acc.length≤k∧Hid ((places ws n (n-k) k).map (acc++ ·)=o)∧Below (w.heap.size+1) (w.alloc (.cells #[.slice (some ⟨bl,off,none⟩) ws.length cap, .int .i64 h, .int .i64 b, .int .i64 n] 29)) wr) (fun _ p _=> n-(intOf p).toNat)
 case atStart=>
  refine ⟨b, [],rfl,Nat.le_refl _,f4,?_,Nat.zero_le _,?_,(Below.refl _ _).alloc ?_ _⟩
  ·exact own_empty (by simp) (by omega)
  ·show _=_
   rw [← HO.out]
   cases places ws n (n-b) b <;> rfl
  ·simp
 case round=>
  obtain ⟨k,acc,rfl,hk0,hk1,hown,hal,hp,hb⟩ :=hrel
  obtain ⟨qa,qc,rfl⟩ :=own_form hown
  have kb :=((Bx.alloc (w :=w) rfl).2.below hb (by omega))
  have hsz :=hb.size
  simp at hsz
  have q1 :=kb.2.1
  have y1 :=kb.1
  clear kb
  by_cases hlt :k < n
  ·have hin :k < ws.length :=by omega
   have cw :=(hb.cell (p :=⟨bl,off+k,none⟩) (by show bl < _;omega)).trans ((World.cell?_alloc_past _ _ _ hbs).trans (hc k hin))
   have hx :=hw k
   obtain ⟨x,hxx⟩ : ∃x,ws.getD k 0=x :=⟨_,rfl⟩
   rw [hxx] at cw hx
   have HX :=Lib.hid hxx
   obtain ⟨hx0,hx1⟩ :=hx
   clear hc hw hxx
   cases hh :hOk x
   ·have hp' :=hp.out
    rw [show n-k=(n-k-1)+1 from by omega,places_bad hlt (by rw [HX.out,hh];simp)] at hp'
    have HP :=Lib.hid hp'
    clear hp hp'
    go_wp2_with (go_at_call 146;refine (headed_bad _ _ hh hx1 hx0).mono ?_;rintro e w' ⟨⟨bb,tt,kk,rfl⟩,rfl⟩)
    go_ret2
    rw [← HP.out]
    exact ⟨⟨_,_,_,rfl⟩,((Below.refl _ _).alloc (Nat.le_refl _) _).trans (hb.mono (by omega))⟩
   ·have hkn :=hK_cast x
    have hkb :=hKids_nonneg x
    rw [← hkn] at hkb
    by_cases hfit :k+1+hK x≤n
    ·have hp' :=hp.out
     rw [show n-k=(n-k-1)+1 from by omega,places_go hlt (by rw [HX.out,hh]) (by rw [HX.out];exact hfit),HX.out] at hp'
     have HP :=Lib.hid hp'
     have HK :=Lib.hid hkn
     clear hp hp' hkn
     go_wp2_with fail
     refine (headed_ok _ _ hh hx1).mono ?_
     rw [← HK.out]
     rintro e w' ⟨rfl,rfl⟩
     clear hkb
     have hkb1 :hK x < 64 :=by have :=hKids_nonneg x;have :=HK.out;omega
     go_wp2_with (at_builtin;refine wpList_app1 rfl _ _ 27 rfl (w.heap.size+1) 3 i0 (.int .i64 0) 1 8 Tryz.underlying27 hi hz0 hz1 hz2 rfl (by decide) _ _ _ rfl hown #[_] rfl ?_ rfl ?_ ?_ ?_ ?_)
     ·rfl
     ·unfold maxLen;omega
     ·omega
     ·omega
     ·intro v' w1 ho' hg _
      have hb' :=hb.grown hg (by omega) (fun kk hk=> (hown.lt kk hk).1)
      have R :w1.ownsRow (w.heap.size+1) 3 1 v' (acc++ [k]).length ((acc++ [k]).map ofN)∧Hid ((places ws n (n-(k+1+hK x)) (k+1+hK x)).map ((acc++ [k])++ ·)=o) :=by
       refine ⟨by simpa [ofN] using ho',?_⟩
       show _=_
       rw [← HP.out,Option.map_map,places_fuel (n-(k+1+hK x)) (n-k-1) _ (by omega) (by omega)]
       cases places ws n (n-k-1) (k+1+hK x) <;> simp
      have y2 :=hb'.size
      clear ho' hg hb hown q1 y1
      go_wp2
      go_roundw
      case rel=> exact ⟨k+1+hK x,acc++ [k],by go_num,by omega,hfit,R.1,by simp;omega,R.2,hb'⟩
      case measure=> simp [intOf];omega
    ·have hp' :=hp.out
     rw [show n-k=(n-k-1)+1 from by omega,places_bad hlt (by rw [HX.out];omega)] at hp'
     have HP :=Lib.hid hp'
     have HK :=Lib.hid hkn
     clear hp hp' hkn
     go_wp2_with fail
     refine (headed_ok _ _ hh hx1).mono ?_
     rw [← HK.out]
     rintro e w' ⟨rfl,rfl⟩
     clear hkb
     have hkb1 :hK x < 64 :=by have :=hKids_nonneg x;have :=HK.out;omega
     go_wp2
     go_ret2
     rw [← HP.out]
     exact ⟨⟨_,_,_,rfl⟩,((Below.refl _ _).alloc (Nat.le_refl _) _).trans (hb.mono (by omega))⟩
  ·have hp' :=hp.out
   rw [places_end hlt] at hp'
   have HP :=Lib.hid hp'
   clear hp hp'
   go_wp2
   go_ret2
   rw [← HP.out]
   refine ⟨⟨_,rfl,?_⟩,((Below.refl _ _).alloc (Nat.le_refl _) _).trans (hb.mono (by omega))⟩
   simpa using own_base hown (by omega)
end Go.Proofs.YtfmebaafpfkeiaaGreat
end
section
namespace Go.Proofs.YtfmebaafpfkeiaaGreat
open Go.RowKit
theorem mem_of_get {zs :List Int} {n :Int} {k :Nat} (hk :k < zs.length) (h :zs.getD k 0=n) :n∈zs :=by
 subst h
 simp [List.getD,List.getElem?_eq_getElem hk]
theorem notin_all {zs :List Int} {n :Int} (h : ∀j,j < zs.length→zs.getD j 0≠n) :n∉zs :=by
 intro hm
 obtain ⟨i,hi,he⟩ :=List.getElem_of_mem hm
 exact h i hi (by simp [List.getD,List.getElem?_eq_getElem hi,he])
set_option maxHeartbeats 400000 in
theorem less_any (a b :Int) (w :World) :
  Calls Tryz.prog 295 #[.int .i64 a, .int .i64 b] w fun e w'=> e= .returned (.bool (decide (a < b)))∧w=w' :=by
 have e1 :(a !=a)=false :=by simp
 go_enter Tryz.func295,Tryz.ntmps295
 go_wp2
 go_ret
 exact ⟨rfl,rfl⟩
theorem sorted_le {zs :List Int} (h :zs.Pairwise (· < ·)) {k m :Nat} (hk :k≤m) (hm :m < zs.length) :zs.getD k 0≤zs.getD m 0 :=by
 by_cases e :k=m
 ·subst e;omega
 ·have :=List.pairwise_iff_getElem.1 h k m (by omega) hm (by omega)
  simp [List.getD,List.getElem?_eq_getElem hm,List.getElem?_eq_getElem (show k < zs.length by omega)]
  omega
theorem bs_no {zs :List Int} {n :Int} {p :Nat} (h1 : ∀k,k < p→zs.getD k 0 < n) (h2 : ∀k,p≤k→k < zs.length→n < zs.getD k 0) :n∉zs :=by
 refine notin_all fun j hj=> ?_
 by_cases e :j < p
 ·have :=h1 j e;omega
 ·have :=h2 j (by omega) hj;omega
theorem bs_mid {i j :Nat} (h :i < j) (hj :j≤9223372036854775807) :i≤(i+j)/2∧(i+j)/2 < j :=by omega
def Sought (zs :List Int) (n :Int) (e :Ending) :Prop := ∃r :Int,e= .returned (.tuple #[.int .i64 r, .bool (decide (n∈zs))])
set_option maxHeartbeats 400000 in
theorem search_any {B :Nat} (v :Value) (zs :List Int) (n :Int) (w :World) (hr :Rd B .i64 w v zs) (hs :zs.Pairwise (· < ·)) (hlen :zs.length≤4294967296) :
  Calls Tryz.prog 214 #[v, .int .i64 n] w fun e w'=> Sought zs n e∧w=w' :=by
 have HS :=Lib.hid hs
 clear hs
 obtain ⟨a,cap,rfl⟩ :=hr.form
 have hc : ∀k,k < zs.length→∃b off,a=some ⟨b,off,none⟩∧w.cell? ⟨b,off+k,none⟩ =some (.int .i64 (zs.getD k 0)) :=by
  intro k hk
  rcases hr with ⟨h,_⟩ | ⟨b,off,cap',hs,hB,hbs,_,hc⟩
  ·rw [h] at hk;simp at hk
  ·cases hs
   exact ⟨b,off,rfl,hc k hk⟩
 clear hr
 go_enter Tryz.func214,Tryz.ntmps214
 go_wp2
 go_loop [7,8,9] (fun i j _=> ∃p q :Nat,p≤q∧q≤zs.length∧i= .int .i64 p∧j= .int .i64 q∧Hid ((∀k,k < p→zs.getD k 0 < n)∧(∀k,q≤k→k < zs.length→n≤zs.getD k 0))) (fun i j _=> (intOf j).toNat-(intOf i).toNat)
 case atStart=> exact ⟨0,zs.length,Nat.zero_le _,Nat.le_refl _,rfl,rfl,fun k hk=> by omega,fun k h1 h2=> by omega⟩
 case round=>
  obtain ⟨p,q,hpq,hq,rfl,rfl,hd⟩ :=hrel
  by_cases hlt :p < q
  ·obtain ⟨m1,m2⟩ :=bs_mid hlt (by omega)
   obtain ⟨b,off,rfl,c1⟩ :=hc ((p+q)/2) (by omega)
   go_wp2_with (go_at_call 295;refine (less_any _ _ _).mono ?_;rintro e w' ⟨rfl,rfl⟩)
   ·have h :zs[(p+q)/2]?.getD 0 < n :=by assumption
    go_round
    case rel=>
     refine ⟨(p+q)/2+1,q,by omega,hq,by go_num,rfl,fun k hk=> ?_,hd.out.2⟩
     have :=sorted_le HS.out (show k≤(p+q)/2 by omega) (by omega)
     simp only [List.getD] at this ⊢
     omega
    case measure=> simp [intOf];omega
   ·have h :n≤zs[(p+q)/2]?.getD 0 :=by assumption
    go_round
    case rel=>
     refine ⟨p,(p+q)/2,by omega,by omega,rfl,by go_num,hd.out.1,fun k h1 h2=> ?_⟩
     have :=sorted_le HS.out h1 h2
     simp only [List.getD] at this ⊢
     omega
    case measure=> simp [intOf];omega
  ·obtain rfl :p=q :=by omega
   by_cases hin :p < zs.length
   ·obtain ⟨b,off,rfl,c1⟩ :=hc p hin
    obtain ⟨x,hx⟩ : ∃x,zs.getD p 0=x :=⟨_,rfl⟩
    rw [hx] at c1
    have HX :=Lib.hid hx
    clear hc hx
    by_cases he :x=n
    ·subst he
     have hfin :decide (x∈zs)=true :=by rw [decide_eq_true_iff];exact mem_of_get hin HX.out
     have HF :=Lib.hid hfin
     clear hfin
     go_wp2
     go_ret2
     exact ⟨⟨p,by rw [HF.out];rfl⟩,rfl⟩
    ·have he1 :(x==n)=false :=by simpa using he
     have he2 :(x !=x)=false :=by simp
     have hfin :decide (n∈zs)=false :=by
      rw [decide_eq_false_iff_not]
      refine bs_no (p :=p) hd.out.1 fun k h1 h2=> ?_
      have h3 :=hd.out.2 p (Nat.le_refl _) hin
      have h4 :=sorted_le HS.out h1 h2
      rw [HX.out] at h3 h4
      omega
     have HF :=Lib.hid hfin
     clear hfin
     go_wp2
     go_ret2
     exact ⟨⟨p,by rw [HF.out];rfl⟩,rfl⟩
   ·have hfin :decide (n∈zs)=false :=by
     rw [decide_eq_false_iff_not]
     exact bs_no (p :=p) hd.out.1 fun k h1 h2=> by omega
    have HF :=Lib.hid hfin
    clear hfin
    go_wp2
    go_ret2
    exact ⟨⟨p,by rw [HF.out];rfl⟩,rfl⟩
end Go.Proofs.YtfmebaafpfkeiaaGreat
end
section
namespace Go.Proofs.YtfmebaafpfkeiaaGreat
open Go.RowKit
def nums (ps :List Nat) :List Int :=ps.map fun (p :Nat)=> (p :Int)
theorem nums_len (ps :List Nat) :(nums ps).length=ps.length :=by simp [nums]
theorem mem_nums {ps :List Nat} {x :Int} :x∈nums ps↔∃p∈ps,(p :Int)=x :=by simp [nums]
theorem nums_sorted {ps :List Nat} (h :ps.Pairwise (· < ·)) :(nums ps).Pairwise (· < ·) :=by
 unfold nums
 rw [List.pairwise_map]
 exact h.imp fun h=> by omega
theorem wordIn_even {ps :List Nat} {x :Int} (h :x%2=0) :wordIn ps x=decide (x/2∈nums ps) :=by
 unfold wordIn
 rw [if_pos h]
 simp only [mem_nums]
theorem wordIn_odd {ps :List Nat} {x :Int} (h : ¬x%2=0) :wordIn ps x=wordB (x/2) :=by
 unfold wordIn
 rw [if_neg h]
set_option maxHeartbeats 400000 in
theorem wordOk_any {B :Nat} (v :Value) (ps :List Nat) (x :Int) (w :World) (hr :Rd B .i64 w v (nums ps)) (hs :ps.Pairwise (· < ·)) (hlen :ps.length≤4294967296) :
  Calls Tryz.prog 123 #[.int .i64 x,v] w fun e w'=> e= .returned (.bool (wordIn ps x))∧w=w' :=by
 have hs' :=search_any v (nums ps) (x/2) w hr (nums_sorted hs) (by rw [nums_len];exact hlen)
 have HS :=Lib.hid hs'
 obtain ⟨a,cap,rfl⟩ :=hr.form
 clear hr hs hs'
 by_cases h :x%2=0
 ·have e1 :(x%2==0)=true :=by simpa using h
  have HF :=Lib.hid (wordIn_even (ps :=ps) h)
  clear h
  go_enter Tryz.func123,Tryz.ntmps123
  go_wp2_with (first | (go_at_call 72;refine (iWordRef_any _ _).mono ?_;rintro e w' ⟨rfl,rfl⟩) | (go_at_call 71;refine (iIsRef_any _ _).mono ?_;rintro e w' ⟨rfl,rfl⟩))
  refine HS.out.mono ?_
  rintro e w' ⟨⟨r,rfl⟩,rfl⟩
  go_wp2
  go_ret
  exact ⟨ret_bool HF.out.symm,rfl⟩
 ·have e1 :(x%2==0)=false :=by simpa using h
  have HF :=Lib.hid (wordIn_odd (ps :=ps) h)
  clear h
  go_enter Tryz.func123,Tryz.ntmps123
  go_wp2_with (first | (go_at_call 73;refine (iWordInt_any _ _).mono ?_;rintro e w' ⟨rfl,rfl⟩) | (go_at_call 71;refine (iIsRef_any _ _).mono ?_;rintro e w' ⟨rfl,rfl⟩) | (go_at_call 58;refine (iWordOk_any _ _).mono ?_;rintro e w' ⟨rfl,rfl⟩))
  go_ret
  exact ⟨ret_bool HF.out.symm,rfl⟩
end Go.Proofs.YtfmebaafpfkeiaaGreat
end
section
namespace Go.Proofs.YtfmebaafpfkeiaaGreat
open Go.RowKit
def FoundOut (ps :List Nat) (xs :List Int) (e :Ending) :Prop := ∃r :Int,e= .returned (.int .i64 r)∧(0≤r↔xs.all (wordIn ps)=false)
theorem out_here {ps :List Nat} {xs :List Int} {x :Int} {k :Nat} (hk :k < xs.length) (hx :xs.getD k 0=x) (h :wordIn ps x=false) :xs.all (wordIn ps)=false :=by
 rw [List.all_eq_false]
 exact ⟨x,mem_of_get hk hx,by rw [h];simp⟩
theorem out_none {ps :List Nat} {xs :List Int} (h : ∀j,j < xs.length→wordIn ps (xs.getD j 0)=true) :xs.all (wordIn ps)=true :=by
 rw [List.all_eq_true]
 intro x hx
 obtain ⟨i,hi,he⟩ :=List.getElem_of_mem hx
 have :=h i hi
 simpa [List.getD,List.getElem?_eq_getElem hi,he] using this
theorem out_step {ps :List Nat} {xs :List Int} {k :Nat} (h : ∀j,j < k→wordIn ps (xs.getD j 0)=true) (he :wordIn ps (xs.getD k 0)=true) : ∀j,j < k+1→wordIn ps (xs.getD j 0)=true :=by
 intro j hj
 by_cases e :j=k
 ·subst e;exact he
 ·exact h j (by omega)
set_option maxHeartbeats 400000 in
theorem heapOk1_fun {B :Nat} (g :Nat) (v :Value) (ps :List Nat) (x :Int) (w :World) (hr :Rd B .i64 w v (nums ps)) (hs :ps.Pairwise (· < ·)) (hlen :ps.length≤4294967296) (hg :w.cell? ⟨g,0,none⟩ =some v) :
  Calls Tryz.prog 150 #[.int .i64 x, .pointer (some ⟨g,0,none⟩)] w fun e w'=> e= .returned (.bool (!wordIn ps x))∧w=w' :=by
 have HW :=Lib.hid (wordOk_any v ps x w hr hs hlen)
 obtain ⟨a,cap,rfl⟩ :=hr.form
 clear hr hs
 go_enter Tryz.func150,Tryz.ntmps150
 go_wp2_with fail
 refine HW.out.mono ?_
 rintro e w' ⟨rfl,rfl⟩
 go_wp2
 go_ret
 exact ⟨rfl,rfl⟩
set_option maxHeartbeats 400000 in
theorem heapOk1_index {B B' :Nat} (g :Nat) (v u :Value) (ps :List Nat) (xs :List Int) (w :World) (hr :Rd B .i64 w v (nums ps)) (hs :ps.Pairwise (· < ·)) (hlen :ps.length≤4294967296) (hg :w.cell? ⟨g,0,none⟩ =some v) (hu :Rd B' .i64 w u xs) :
  Calls Tryz.prog 124 #[u, .func (.func 150) #[] #[.pointer (some ⟨g,0,none⟩)]] w fun e w'=> FoundOut ps xs e∧w=w' :=by
 have hx :=hu.len
 unfold maxLen at hx
 have HF :=Lib.hid (fun x=> heapOk1_fun g v ps x w hr hs hlen hg)
 clear hr hs hg
 rcases hu with ⟨rfl,a,cap,rfl⟩ | ⟨b,off,cap,rfl,hB,hbs,hm,hc⟩
 ·go_enter Tryz.func124,Tryz.ntmps124
  go_wp2
  refine wp_loop_rounds 1 ?_
  rw [rounds_succ]
  go_wp2
  go_ret
  exact ⟨⟨-1,rfl,by simp⟩,rfl⟩
 ·go_enter Tryz.func124,Tryz.ntmps124
  go_wp2
  go_loop [5,8] (fun _ i=> ∃k :Nat,k≤xs.length∧i= .int .i64 k∧Hid (∀j,j < k→wordIn ps (xs.getD j 0)=true)) (fun _ i=> xs.length-(intOf i).toNat)
  case atStart=> exact ⟨0,Nat.zero_le _,rfl,fun j hj=> by omega⟩
  case round=>
   obtain ⟨k,hk,rfl,hd⟩ :=hrel
   by_cases hlt :k < xs.length
   ·have c1 :=hc k hlt
    obtain ⟨x,hx⟩ : ∃x,xs.getD k 0=x :=⟨_,rfl⟩
    rw [hx] at c1
    have HX :=Lib.hid hx
    clear hc hx
    cases he :wordIn ps x
    ·go_wp2_with fail
     refine (HF.out x).mono ?_
     rintro e w' ⟨rfl,rfl⟩
     rw [he]
     go_wp2
     go_ret
     exact ⟨⟨k,rfl,by simp only [Int.natCast_nonneg,true_iff];exact out_here hlt HX.out he⟩,rfl⟩
    ·go_wp2_with fail
     refine (HF.out x).mono ?_
     rintro e w' ⟨rfl,rfl⟩
     rw [he]
     go_wp2
     go_round
     case rel=> exact ⟨k+1,hlt,by go_num,out_step hd.out (by rw [HX.out];exact he)⟩
     case measure=> simp [intOf];omega
   ·go_wp2
    go_ret
    exact ⟨⟨-1,rfl,⟨fun h=> by omega,fun h=> by rw [out_none (fun j hj=> hd.out j (by omega))] at h;cases h⟩⟩,rfl⟩
set_option maxHeartbeats 400000 in
theorem heapOk1_contains {B B' :Nat} (g :Nat) (v u :Value) (ps :List Nat) (xs :List Int) (w :World) (hr :Rd B .i64 w v (nums ps)) (hs :ps.Pairwise (· < ·)) (hlen :ps.length≤4294967296) (hg :w.cell? ⟨g,0,none⟩ =some v) (hu :Rd B' .i64 w u xs) :
  Calls Tryz.prog 56 #[u, .func (.func 150) #[] #[.pointer (some ⟨g,0,none⟩)]] w fun e w'=> e= .returned (.bool (!xs.all (wordIn ps)))∧w=w' :=by
 have HI :=Lib.hid (heapOk1_index g v u ps xs w hr hs hlen hg hu)
 clear hr hs hg hu
 go_enter Tryz.func56,Tryz.ntmps56
 go_wp2_with fail
 refine HI.out.mono ?_
 rintro e w' ⟨⟨r,rfl,hr⟩,rfl⟩
 have HR :=Lib.hid hr
 clear hr
 go_wp2
 all_goals go_ret
 all_goals exact ⟨ret_bool (by have :=HR.out;rw [Bool.eq_iff_iff];simp only [decide_eq_true_iff,Bool.not_eq_true'];exact this),rfl⟩
set_option maxHeartbeats 400000 in
theorem rootsOk1_fun {B :Nat} (g :Nat) (v :Value) (ps :List Nat) (x :Int) (w :World) (hr :Rd B .i64 w v (nums ps)) (hs :ps.Pairwise (· < ·)) (hlen :ps.length≤4294967296) (hg :w.cell? ⟨g,0,none⟩ =some v) :
  Calls Tryz.prog 122 #[.int .i64 x, .pointer (some ⟨g,0,none⟩)] w fun e w'=> e= .returned (.bool (!wordIn ps x))∧w=w' :=by
 have HW :=Lib.hid (wordOk_any v ps x w hr hs hlen)
 obtain ⟨a,cap,rfl⟩ :=hr.form
 clear hr hs
 go_enter Tryz.func122,Tryz.ntmps122
 go_wp2_with fail
 refine HW.out.mono ?_
 rintro e w' ⟨rfl,rfl⟩
 go_wp2
 go_ret
 exact ⟨rfl,rfl⟩
set_option maxHeartbeats 400000 in
theorem rootsOk1_index {B B' :Nat} (g :Nat) (v u :Value) (ps :List Nat) (xs :List Int) (w :World) (hr :Rd B .i64 w v (nums ps)) (hs :ps.Pairwise (· < ·)) (hlen :ps.length≤4294967296) (hg :w.cell? ⟨g,0,none⟩ =some v) (hu :Rd B' .i64 w u xs) :
  Calls Tryz.prog 124 #[u, .func (.func 122) #[] #[.pointer (some ⟨g,0,none⟩)]] w fun e w'=> FoundOut ps xs e∧w=w' :=by
 have hx :=hu.len
 unfold maxLen at hx
 have HF :=Lib.hid (fun x=> rootsOk1_fun g v ps x w hr hs hlen hg)
 clear hr hs hg
 rcases hu with ⟨rfl,a,cap,rfl⟩ | ⟨b,off,cap,rfl,hB,hbs,hm,hc⟩
 ·go_enter Tryz.func124,Tryz.ntmps124
  go_wp2
  refine wp_loop_rounds 1 ?_
  rw [rounds_succ]
  go_wp2
  go_ret
  exact ⟨⟨-1,rfl,by simp⟩,rfl⟩
 ·go_enter Tryz.func124,Tryz.ntmps124
  go_wp2
  go_loop [5,8] (fun _ i=> ∃k :Nat,k≤xs.length∧i= .int .i64 k∧Hid (∀j,j < k→wordIn ps (xs.getD j 0)=true)) (fun _ i=> xs.length-(intOf i).toNat)
  case atStart=> exact ⟨0,Nat.zero_le _,rfl,fun j hj=> by omega⟩
  case round=>
   obtain ⟨k,hk,rfl,hd⟩ :=hrel
   by_cases hlt :k < xs.length
   ·have c1 :=hc k hlt
    obtain ⟨x,hx⟩ : ∃x,xs.getD k 0=x :=⟨_,rfl⟩
    rw [hx] at c1
    have HX :=Lib.hid hx
    clear hc hx
    cases he :wordIn ps x
    ·go_wp2_with fail
     refine (HF.out x).mono ?_
     rintro e w' ⟨rfl,rfl⟩
     rw [he]
     go_wp2
     go_ret
     exact ⟨⟨k,rfl,by simp only [Int.natCast_nonneg,true_iff];exact out_here hlt HX.out he⟩,rfl⟩
    ·go_wp2_with fail
     refine (HF.out x).mono ?_
     rintro e w' ⟨rfl,rfl⟩
     rw [he]
     go_wp2
     go_round
     case rel=> exact ⟨k+1,hlt,by go_num,out_step hd.out (by rw [HX.out];exact he)⟩
     case measure=> simp [intOf];omega
   ·go_wp2
    go_ret
    exact ⟨⟨-1,rfl,⟨fun h=> by omega,fun h=> by rw [out_none (fun j hj=> hd.out j (by omega))] at h;cases h⟩⟩,rfl⟩
set_option maxHeartbeats 400000 in
theorem rootsOk1_contains {B B' :Nat} (g :Nat) (v u :Value) (ps :List Nat) (xs :List Int) (w :World) (hr :Rd B .i64 w v (nums ps)) (hs :ps.Pairwise (· < ·)) (hlen :ps.length≤4294967296) (hg :w.cell? ⟨g,0,none⟩ =some v) (hu :Rd B' .i64 w u xs) :
  Calls Tryz.prog 56 #[u, .func (.func 122) #[] #[.pointer (some ⟨g,0,none⟩)]] w fun e w'=> e= .returned (.bool (!xs.all (wordIn ps)))∧w=w' :=by
 have HI :=Lib.hid (rootsOk1_index g v u ps xs w hr hs hlen hg hu)
 clear hr hs hg hu
 go_enter Tryz.func56,Tryz.ntmps56
 go_wp2_with fail
 refine HI.out.mono ?_
 rintro e w' ⟨⟨r,rfl,hr⟩,rfl⟩
 have HR :=Lib.hid hr
 clear hr
 go_wp2
 all_goals go_ret
 all_goals exact ⟨ret_bool (by have :=HR.out;rw [Bool.eq_iff_iff];simp only [decide_eq_true_iff,Bool.not_eq_true'];exact this),rfl⟩
end Go.Proofs.YtfmebaafpfkeiaaGreat
end
section
namespace Go.Proofs.YtfmebaafpfkeiaaGreat
open Go.RowKit
theorem heapFrame_true {ws : List Int} {h b n : Int} (hf : heapFrame ws h b n = true) : ∃ h' b' n' : Nat, h = h' ∧ b = b' ∧ n = n' ∧ Frame ws h' b' n' := by
  unfold heapFrame at hf
  rw [decide_eq_true_iff] at hf
  obtain ⟨h1, h2, h3, h4, h5, h6⟩ := hf
  exact ⟨h.toNat, b.toNat, n.toNat, by omega, by omega, by omega, by omega, by omega, by omega, by omega, by omega, by omega⟩
theorem heapOk_noframe {ws : List Int} {h b n : Int} (hf : heapFrame ws h b n = false) : heapOk ws h b n = false := by simp [heapOk, hf]
theorem frame_half {ws : List Int} {h b n : Int} (hf : inB h 1 3000 = false) : heapFrame ws h b n = false := by
  have := inB_false.1 hf
  simp only [heapFrame, decide_eq_false_iff_not]; omega
theorem frame_len {ws : List Int} {h b n : Int} (hf : ¬ (ws.length : Int) = 2 * h) : heapFrame ws h b n = false := by
  simp only [heapFrame, decide_eq_false_iff_not]; omega
theorem frame_base {ws : List Int} {h b n : Int} (h1 : ¬ b = 0) (h2 : ¬ b = h) : heapFrame ws h b n = false := by
  simp only [heapFrame, decide_eq_false_iff_not]; omega
theorem frame_next {ws : List Int} {h b n : Int} (hf : inB n b (b + h) = false) : heapFrame ws h b n = false := by
  have := inB_false.1 hf
  simp only [heapFrame, decide_eq_false_iff_not]; omega
theorem frame_all {ws : List Int} {h b n : Int} (h1 : inB h 1 3000 = true) (h2 : (ws.length : Int) = 2 * h) (h3 : b = 0 ∨ b = h) (h4 : inB n b (b + h) = true) : heapFrame ws h b n = true := by
  have := inB_true.1 h1
  have := inB_true.1 h4
  simp only [heapFrame, decide_eq_true_iff]; omega
theorem heapOk_noplaces {ws : List Int} {h b n : Nat} (hp : placesOf ws b n = none) : heapOk ws h b n = false := by simp [heapOk, hp]
theorem heapOk_places {ws : List Int} {h b n : Nat} {ps : List Nat} (hf : heapFrame ws h b n = true) (hp : placesOf ws b n = some ps) : heapOk ws h b n = blocksFit ws ps := by simp [heapOk, hp, hf]
theorem take_drop_get (ws : List Int) (p m j : Nat) (hj : j < m) : ((ws.drop p).take m).getD j 0 = ws.getD (p + j) 0 := by
  simp [List.getD, hj]
theorem kidsAt_len {ws : List Int} {p : Nat} (h : p + 1 + hK (ws.getD p 0) ≤ ws.length) : (kidsAt ws p).length = hK (ws.getD p 0) := by
  unfold kidsAt
  generalize hK (ws.getD p 0) = m at h ⊢
  simp; omega
theorem Rd.kids {B : Nat} {w : World} {b off cap : Nat} {ws : List Int} (hB : b < B) (hbs : b < w.heap.size) (hc : ∀ j, j < ws.length → w.cell? ⟨b, off + j, none⟩ = some (.int .i64 (ws.getD j 0))) (p : Nat) (c : Nat) (h : p + 1 + hK (ws.getD p 0) ≤ ws.length) (hm : ws.length ≤ maxLen) (q : Nat) (hq : q = off + (p + 1)) (m : Nat) (hmm : m = hK (ws.getD p 0)) (hmc : m ≤ c) :
    Rd B .i64 w (.slice (some ⟨b, q, none⟩) m c) (kidsAt ws p) := by
  subst hq
  subst hmm
  have hl := kidsAt_len h
  refine .inr ⟨b, off + (p + 1), c, by rw [hl], hB, hbs, ⟨by omega, by omega⟩, fun j hj => ?_⟩
  rw [hl] at hj
  rw [Nat.add_assoc, hc (p + 1 + j) (by omega)]
  unfold kidsAt
  rw [take_drop_get _ _ _ _ hj]
theorem fit_step {ws : List Int} {ps : List Nat} {k : Nat} (h : ∀ j, j < k → (kidsAt ws (ps.getD j 0)).all (wordIn ps) = true) (he : (kidsAt ws (ps.getD k 0)).all (wordIn ps) = true) : ∀ j, j < k + 1 → (kidsAt ws (ps.getD j 0)).all (wordIn ps) = true := by
  intro j hj
  by_cases e : j = k
  · subst e; exact he
  · exact h j (by omega)
theorem fit_all {ws : List Int} {ps : List Nat} (h : ∀ j, j < ps.length → (kidsAt ws (ps.getD j 0)).all (wordIn ps) = true) : blocksFit ws ps = true := by
  unfold blocksFit
  rw [List.all_eq_true]
  intro x hx
  obtain ⟨i, hi, he⟩ := List.getElem_of_mem hx
  have := h i hi
  simpa [List.getD, List.getElem?_eq_getElem hi, he] using this
theorem fit_bad {ws : List Int} {ps : List Nat} {k : Nat} (hk : k < ps.length) (h : (kidsAt ws (ps.getD k 0)).all (wordIn ps) = false) : blocksFit ws ps = false := by
  unfold blocksFit
  rw [List.all_eq_false]
  exact ⟨ps.getD k 0, by simp [List.getD, List.getElem?_eq_getElem hk], by rw [h]; simp⟩
theorem nums_get (ps : List Nat) (k : Nat) : (nums ps).getD k 0 = ((ps.getD k 0 : Nat) : Int) := by
  simp only [nums, List.getD, List.getElem?_map]
  cases ps[k]? <;> simp
theorem map_ofN (ps : List Nat) : ps.map ofN = (nums ps).map (Value.int .i64) := by simp [nums, ofN, Function.comp_def]
theorem places_len {ws : List Int} {h b n : Nat} {ps : List Nat} (hp : placesOf ws b n = some ps) (hF : Frame ws h b n) : ps.length ≤ 4294967296 := by
  have h1 := places_in _ _ _ hp
  have h2 := places_sorted _ _ _ hp
  have h3 : ps.length ≤ n := by
    have := List.Nodup.length_le_of_subset (l₁ := ps) (l₂ := List.range n) (h2.imp (fun h => Nat.ne_of_lt h)) (fun q hq => by simpa using (h1 q hq).2.1)
    simpa using this
  have := hF.n1; have := hF.h1; have := hF.base
  omega
theorem get_mem {ps : List Nat} {k : Nat} (hk : k < ps.length) : ps.getD k 0 ∈ ps := by simp [List.getD, List.getElem?_eq_getElem hk]
set_option maxHeartbeats 800000 in
set_option maxRecDepth 100000 in
theorem iHeapOk_any {B : Nat} (v : Value) (ws : List Int) (h b n : Int) (w : World) (hr : Rd B .i64 w v ws) (hw : intsOk ws) (hlen : ws.length ≤ 4294967296)
    (bh : -9223372036854775808 ≤ h ∧ h ≤ 9223372036854775807) (bb : -9223372036854775808 ≤ b ∧ b ≤ 9223372036854775807) (bn : -9223372036854775808 ≤ n ∧ n ≤ 9223372036854775807) :
    Calls Tryz.prog 77 #[.agg #[v, .int .i64 h, .int .i64 b, .int .i64 n]] w fun e w' => e = .returned (.bool (heapOk ws h b n)) ∧ Below w.heap.size w w' := by
  obtain ⟨h0, h1⟩ := bh
  obtain ⟨b0, b1⟩ := bb
  obtain ⟨n0, n1⟩ := bn
  have hr' := hr
  obtain ⟨a, cap, rfl⟩ := hr.form
  clear hr
  cases c1 : inB h 1 3000
  · have HF := Lib.hid (heapOk_noframe (ws := ws) (b := b) (n := n) (frame_half c1))
    clear hr' hw
    go_enter Tryz.func77, Tryz.ntmps77
    go_wp2_with (go_at_call 54; refine (within_any _ _ _ _).mono ?_; rintro e w' ⟨rfl, rfl⟩)
    go_ret
    exact ⟨ret_bool HF.out.symm, (Below.refl _ _).alloc (Nat.le_refl _) _⟩
  · obtain ⟨h2, h3⟩ := inB_true.1 c1
    by_cases c2 : (ws.length : Int) = 2 * h
    · have e2 : ((ws.length : Int) != 2 * h) = false := by simpa using c2
      by_cases c3 : b = 0 ∨ b = h
      · cases c4 : inB n b (b + h)
        · have HF := Lib.hid (heapOk_noframe (ws := ws) (frame_next c4))
          have main : (b != 0) = false ∨ ((b != 0) = true ∧ (b != h) = false) := by
            by_cases e : b = 0
            · left; simpa using e
            · right; exact ⟨by simpa using e, by simp; omega⟩
          have hb2 : 0 ≤ b := by omega
          have hb3 : b ≤ 3000 := by omega
          clear hr' hw c3 c2
          rcases main with e3 | ⟨e3, e4⟩
          all_goals
            go_enter Tryz.func77, Tryz.ntmps77
            go_wp2_with (go_at_call 54; refine (within_any _ _ _ _).mono ?_; rintro e w' ⟨rfl, rfl⟩)
            go_ret
            exact ⟨ret_bool HF.out.symm, (Below.refl _ _).alloc (Nat.le_refl _) _⟩
        · have hFr := frame_all c1 c2 c3 c4
          obtain ⟨h', b', n', rfl, rfl, rfl, hF⟩ := heapFrame_true hFr
          have main : ((b' : Int) != 0) = false ∨ (((b' : Int) != 0) = true ∧ ((b' : Int) != (h' : Int)) = false) := by
            by_cases e : (b' : Int) = 0
            · left; simpa using e
            · right; exact ⟨by simpa using e, by simp; omega⟩
          have HFr := Lib.hid hFr
          have hS := fun (W : World) (hb : Below w.heap.size w W) => starts_any _ ws h' b' n' W (hr'.below' hb) hw hF
          have HS := Lib.hid hS
          have hb3 : b' ≤ 3000 := by omega
          clear c2 c3 hFr hS
          rcases main with e3 | ⟨e3, e4⟩
          all_goals
            go_enter Tryz.func77, Tryz.ntmps77
            go_wp2_with (go_at_call 54; refine (within_any _ _ _ _).mono ?_; rintro e w' ⟨rfl, rfl⟩)
            generalize hx : w.alloc _ = x1
            obtain ⟨bx1, k1⟩ := Bx.alloc hx
            clear hx
            refine (HS.out x1 bx1).mono ?_
            rintro e w1 ⟨ht, b1⟩
            replace k1 := k1.below b1 k1.1
            have b2 := bx1.trans (b1.mono bx1.size)
            have z1 := k1.1
            clear bx1
            cases hp : placesOf ws b' n' with
            | none =>
              rw [hp] at ht
              obtain ⟨ua, un, uc, rfl⟩ := ht
              have HN := Lib.hid (heapOk_noplaces (h := h') hp)
              go_wp2
              go_ret
              exact ⟨ret_bool HN.out.symm, b2.alloc (Nat.le_trans (by omega) b2.size) _⟩
            | some ps =>
              rw [hp] at ht
              obtain ⟨u, rfl, ho⟩ := ht
              rw [map_ofN] at ho
              have hps := places_in _ _ _ hp
              have hsrt := places_sorted _ _ _ hp
              have hpl : ps.length ≤ 4294967296 := places_len hp hF
              have ru := Rd.of_own (by rw [← nums_len] at ho; exact ho)
              have HN := Lib.hid (heapOk_places HFr.out hp)
              obtain ⟨ua, uc, rfl⟩ := ru.form
              have q1 := k1.2.1
              clear ho HS hp
              go_wp2_with fail
              generalize hx : w1.alloc _ = x2
              obtain ⟨bx2, k2⟩ := Bx.alloc hx
              clear hx q1
              replace k1 := k1.below bx2 z1
              replace ru := ru.below bx2 (Nat.le_refl _)
              have b3 := b2.trans (bx2.mono b2.size)
              have rw2 := hr'.below' b3
              have hnl := nums_len ps
              have HL := Lib.hid hnl
              have q1 := k1.2.1
              have q2 := k2.2.1
              have y1 := k1.1
              have y2 := k2.1
              clear bx2 hr' b1 b2 hnl
              have hn3 : (nums ps).length ≤ 4294967296 := by rw [HL.out]; exact hpl
              rcases rw2 with ⟨hnil, _⟩ | ⟨bl, off, cap', hsl, hB, hbs, hm, hc⟩
              · have h9 := hF.len; have := hF.h0; rw [hnil] at h9; simp at h9; omega
              cases hsl
              go_loop [58] (fun i => ∃ k : Nat, k ≤ (nums ps).length ∧ i = .int .i64 k ∧ Hid (∀ j, j < k → (kidsAt ws (ps.getD j 0)).all (wordIn ps) = true)) (fun i => (nums ps).length - (intOf i).toNat)
              case atStart => exact ⟨0, Nat.zero_le _, rfl, fun j hj => by omega⟩
              case round =>
                obtain ⟨k, hk, rfl, hd⟩ := hrel
                by_cases hlt : k < (nums ps).length
                · have hlt' : k < ps.length := by rw [← HL.out]; exact hlt
                  obtain ⟨p, hpe⟩ : ∃ p, ps.getD k 0 = p := ⟨_, rfl⟩
                  obtain ⟨hp1, hp2, hp3, hp4⟩ := hps p (by rw [← hpe]; exact get_mem hlt')
                  have ru' := ru
                  rcases ru with ⟨hnil, _⟩ | ⟨bl2, off2, cap2, hsl2, _, hbs2, _, hc2⟩
                  · rw [hnil] at hlt; simp at hlt
                  cases hsl2
                  have c1 := hc2 k hlt
                  rw [nums_get, hpe] at c1
                  have hpw : p < ws.length := by have := hF.len; have := hF.base; have := hF.n1; omega
                  have c2 := hc p hpw
                  have hfit : p + 1 + hK (ws.getD p 0) ≤ ws.length := by have := hF.len; have := hF.base; have := hF.n1; omega
                  have hkid := fun q c m hq hmm hmc => Rd.kids (B := w.heap.size) (cap := c) hB hbs hc p c hfit hm.1 q hq m hmm hmc
                  obtain ⟨hm1, hm2⟩ := hm
                  have hcon := fun u hu => heapOk1_contains (B' := w.heap.size) w1.heap.size _ u ps (kidsAt ws p) x2 ru' hsrt hpl (by simpa using q2 0) hu
                  have HK := Lib.hid hkid
                  have HC := Lib.hid hcon
                  obtain ⟨x, hxx⟩ : ∃ x, ws.getD p 0 = x := ⟨_, rfl⟩
                  have hxb := hw p
                  rw [hxx] at c2 hp3 hxb hfit
                  obtain ⟨hx0, hx1⟩ := hxb
                  have hkn := hK_cast x
                  have HKN := Lib.hid hkn
                  have hkb := hKids_nonneg x
                  rw [← hkn] at hkb
                  obtain ⟨hkb1, hkb2⟩ := hkb
                  have HX := Lib.hid hxx
                  have HP := Lib.hid hpe
                  clear hkid hcon hc hc2 hps hw hxx hpe hkn
                  go_wp2_with fail
                  refine (headed_ok _ _ hp3 hx1).mono ?_
                  rw [← HKN.out]
                  rintro e w' ⟨rfl, rfl⟩
                  by_cases hcp : cap = p + 1
                  · have h0 : hK x = 0 := by omega
                    have hrd : Rd w.heap.size .i64 x2 (.slice (some ⟨bl, off, none⟩) (hK x) 0) (kidsAt ws p) := .inl ⟨by unfold kidsAt; rw [HX.out, h0]; simp, some ⟨bl, off, none⟩, 0, by rw [h0]⟩
                    have HRD := Lib.hid hrd
                    clear h0 hrd
                    subst hcp
                    cases hall : (kidsAt ws p).all (wordIn ps)
                    all_goals
                      go_wp2_with fail
                      refine (HC.out _ HRD.out).mono ?_
                      rintro e w' ⟨rfl, rfl⟩
                      rw [hall]
                      go_wp2
                      first
                        | (go_ret; exact ⟨ret_bool (by rw [HN.out]; symm; exact fit_bad hlt' (by rw [HP.out]; exact hall)), b3⟩)
                        | (go_round
                           case rel => exact ⟨k + 1, hlt, by go_num, fit_step hd.out (by rw [HP.out]; exact hall)⟩
                           case measure => simp [intOf]; omega)
                  · cases hall : (kidsAt ws p).all (wordIn ps)
                    all_goals
                      go_wp2_with fail
                      refine (HC.out _ (HK.out _ _ _ (by omega) (by rw [HX.out]) (by omega))).mono ?_
                      rintro e w' ⟨rfl, rfl⟩
                      rw [hall]
                      go_wp2
                      first
                        | (go_ret; exact ⟨ret_bool (by rw [HN.out]; symm; exact fit_bad hlt' (by rw [HP.out]; exact hall)), b3⟩)
                        | (go_round
                           case rel => exact ⟨k + 1, hlt, by go_num, fit_step hd.out (by rw [HP.out]; exact hall)⟩
                           case measure => simp [intOf]; omega)
                · go_wp2
                  go_ret
                  exact ⟨ret_bool (by rw [HN.out]; symm; exact fit_all (fun j hj => hd.out j (by rw [HL.out] at hlt; omega))), b3⟩
      · have e3 : (b != 0) = true := by simp; omega
        have e4 : (b != h) = true := by simp; omega
        have HF := Lib.hid (heapOk_noframe (ws := ws) (n := n) (frame_base (h := h) (b := b) (by omega) (by omega)))
        clear hr' hw c3 c2
        go_enter Tryz.func77, Tryz.ntmps77
        go_wp2_with (go_at_call 54; refine (within_any _ _ _ _).mono ?_; rintro e w' ⟨rfl, rfl⟩)
        go_ret
        exact ⟨ret_bool HF.out.symm, (Below.refl _ _).alloc (Nat.le_refl _) _⟩
    · have e2 : ((ws.length : Int) != 2 * h) = true := by simpa using c2
      have HF := Lib.hid (heapOk_noframe (b := b) (n := n) (frame_len c2))
      clear hr' hw c2
      go_enter Tryz.func77, Tryz.ntmps77
      go_wp2_with (go_at_call 54; refine (within_any _ _ _ _).mono ?_; rintro e w' ⟨rfl, rfl⟩)
      go_ret
      exact ⟨ret_bool HF.out.symm, (Below.refl _ _).alloc (Nat.le_refl _) _⟩
end Go.Proofs.YtfmebaafpfkeiaaGreat
end
section
namespace Go.Proofs.YtfmebaafpfkeiaaGreat
open Go.RowKit
def roomOf (ws :List Int) (h b n :Int) :Int :=if heapOk ws h b n then b+h-n else 0
theorem heapOk_frame {ws :List Int} {h b n :Int} (hok :heapOk ws h b n=true) :heapFrame ws h b n=true :=by
 unfold heapOk at hok
 rw [Bool.and_eq_true] at hok
 exact hok.1
set_option maxHeartbeats 800000 in
set_option maxRecDepth 100000 in
theorem iRoom_any {B :Nat} (v :Value) (ws :List Int) (h b n :Int) (w :World) (hr :Rd B .i64 w v ws) (hw :intsOk ws) (hlen :ws.length≤4294967296)
  (bh : -9223372036854775808≤h∧h≤9223372036854775807) (bb : -9223372036854775808≤b∧b≤9223372036854775807) (bn : -9223372036854775808≤n∧n≤9223372036854775807) :
  Calls Tryz.prog 25 #[.agg #[v, .int .i64 h, .int .i64 b, .int .i64 n]] w fun e w'=> e= .returned (.int .i64 (roomOf ws h b n))∧Below w.heap.size w w' :=by
 have hS :=fun (W :World) (hb :Below w.heap.size w W)=> iHeapOk_any v ws h b n W (hr.below' hb) hw hlen bh bb bn
 obtain ⟨a,cap,rfl⟩ :=hr.form
 cases hok :heapOk ws h b n
 ·rw [hok] at hS
  have HS :=Lib.hid hS
  have HF :=Lib.hid (show roomOf ws h b n=0 by simp [roomOf,hok])
  clear hS hr hw bh bb bn hok
  go_enter Tryz.func25,Tryz.ntmps25
  go_wp2_with fail
  generalize hx :w.alloc _=x
  obtain ⟨bx,k1⟩ :=Bx.alloc hx
  clear hx
  refine (HS.out _ bx).mono ?_
  rintro e w1 ⟨rfl,b1⟩
  have b2 :=bx.trans (b1.mono bx.size)
  clear bx b1 k1
  go_wp2
  go_ret
  exact ⟨ret_int HF.out.symm,b2⟩
 ·obtain ⟨h',b',n',rfl,rfl,rfl,hF⟩ :=heapFrame_true (heapOk_frame hok)
  have e1 :b'+h'≤6000 :=by have :=hF.h1;have :=hF.base;omega
  have e2 :n'≤6000 :=by have :=hF.n1;omega
  rw [hok] at hS
  have HS :=Lib.hid hS
  have HF :=Lib.hid (show roomOf ws h' b' n'=(b' :Int)+(h' :Int)-(n' :Int) by simp [roomOf,hok])
  clear hS hr hw bh bb bn hok hF
  go_enter Tryz.func25,Tryz.ntmps25
  go_wp2_with fail
  generalize hx :w.alloc _=x
  obtain ⟨bx,k1⟩ :=Bx.alloc hx
  clear hx
  refine (HS.out _ bx).mono ?_
  rintro e w1 ⟨rfl,b1⟩
  have b2 :=bx.trans (b1.mono bx.size)
  replace k1 :=k1.below b1 k1.1
  have q1 :=k1.2.1
  clear bx b1 k1
  go_wp2
  go_ret
  exact ⟨ret_int HF.out.symm,b2⟩
end Go.Proofs.YtfmebaafpfkeiaaGreat
end
section
namespace Go.Proofs.YtfmebaafpfkeiaaGreat
open Go.RowKit
theorem Tryz.infoI2 :(Tryz.prog.info? 3).map (fun i=> (i.zero,i.size,i.bytes))=some (some (.int .i64 0),1,8) :=by kernel_rfl
theorem Rd.news {B :Nat} {k :IntKind} {w w' :World} {ad :Addr} {n cap :Nat} {zs :List Int} (h :Rd B k w (.slice (some ad) n cap) zs) (hb :Below w.heap.size w w') :
  n=zs.length∧∀j u,(zs.map (Value.int k))[j]?=some u→w'.cell? (ad.add j)=some u :=by
 rcases h with ⟨rfl,a,c,hv⟩ | ⟨b,off,c,hv,_,hbs,_,hc⟩
 ·cases hv
  exact ⟨rfl,fun j u hj=> by simp at hj⟩
 ·cases hv
  refine ⟨rfl,fun j u hj=> ?_⟩
  have hjl :j < zs.length :=by
   rw [List.getElem?_map] at hj
   by_cases h :j < zs.length
   ·exact h
   ·rw [List.getElem?_eq_none (by omega)] at hj;cases hj
  have hadd :(⟨b,off,none⟩ :Addr).add j=⟨b,off+j,none⟩ :=by unfold Addr.add;split <;> simp_all
  rw [hadd,hb.cell (p :=⟨b,off+j,none⟩) hbs,hc j hjl]
  rw [List.getElem?_map,List.getElem?_eq_getElem hjl] at hj
  rw [← hj]
  simp [List.getD,List.getElem?_eq_getElem hjl]
theorem Rd.none_nil {B :Nat} {k :IntKind} {w :World} {n cap :Nat} {zs :List Int} (h :Rd B k w (.slice none n cap) zs) :zs= [] :=by
 rcases h with ⟨rfl,_⟩ | ⟨b,off,c,hv,_⟩
 ·rfl
 ·cases hv
theorem ints_one (k :IntKind) (zs :List Int) : ∀u∈zs.map (Value.int k),u.oneCell'=true :=by
 intro u hu
 obtain ⟨x,_,rfl⟩ :=List.mem_map.1 hu
 rfl
set_option maxHeartbeats 400000 in
theorem clone_any {B :Nat} (v :Value) (zs :List Int) (w :World) (hr :Rd B .i64 w v zs) (hn :zs.length≤4294967296) :
  Calls Tryz.prog 67 #[v] w fun e w'=> ∃v',e= .returned v'∧w'.ownsRow w.heap.size 3 1 v' zs.length (zs.map (Value.int .i64))∧Below w.heap.size w w' :=by
 obtain ⟨a,cap,rfl⟩ :=hr.form
 have hrn :=fun (w :World) (n c :Nat) (x :Option Addr)=> Lib.run_eql_slice_nil (P :=Tryz.prog) w 27 3 x n c 0 0 Tryz.underlying27
 obtain ⟨i0,hi,hz0,hz1,hz2⟩ :=info_parts Tryz.infoI2
 cases a with
 | none=>
  have hz :zs= [] :=hr.none_nil
  subst hz
  clear hr
  go_enter Tryz.func67,Tryz.ntmps67
  go_wp2
  go_ret
  exact ⟨_,rfl,World.ownsRow_nil _ _ _ _,Below.refl _ _⟩
 | some ad=>
  have hnew :=(hr.news ((Below.refl w.heap.size w).alloc (Nat.le_refl _) (.cells #[] 3))).2
  have HN :=Lib.hid hnew
  clear hr hnew
  go_enter Tryz.func67,Tryz.ntmps67
  go_wp2_with (at_builtin;refine wpList_append_own _ rfl _ _ 27 rfl w.heap.size 3 i0 (.int .i64 0) 1 8 Tryz.underlying27 hi hz0 hz1 hz2 rfl (by decide) _ 0 [] rfl ?_ ad zs.length cap (zs.map (Value.int .i64)) rfl (by simp) HN.out (ints_one _ _) ?_ ?_ ?_ ?_)
  ·exact own_empty rfl (Nat.le_refl _)
  ·unfold maxLen;omega
  ·omega
  ·simp
  ·intro v' w1 ho hg _
   have hb :Below w.heap.size w w1 :=((Below.refl _ _).alloc (Nat.le_refl _) _).grown hg (by simp) (by intro k hk;simp [Value.ownBlock] at hk;omega)
   clear hg
   go_wp2
   go_ret
   exact ⟨_,rfl,ho,hb⟩
end Go.Proofs.YtfmebaafpfkeiaaGreat
end
section
namespace Go.Proofs.YtfmebaafpfkeiaaGreat
open Go.RowKit
set_option maxHeartbeats 800000 in
set_option maxRecDepth 100000 in
theorem blockAt_any {B :Nat} (v :Value) (ws :List Int) (h b n :Int) (p :Nat) (w :World) (hr :Rd B .i64 w v ws) (hw :intsOk ws) (hh :hOk (ws.getD p 0)=true) (hfit :p+1+hK (ws.getD p 0)≤ws.length) (hlen :ws.length≤4294967296) :
  Calls Tryz.prog 74 #[.agg #[v, .int .i64 h, .int .i64 b, .int .i64 n], .int .i64 p] w fun e w'=>
   ∃u,e= .returned (.tuple #[.bool (hFun (ws.getD p 0)), .int .i64 (hTag (ws.getD p 0)),u])∧Rd B .i64 w' u (kidsAt ws p)∧Below w.heap.size w w' :=by
 rcases hr with ⟨hnil,_⟩ | ⟨bl,off,cap,rfl,hB,hbs,hm,hc⟩
 ·rw [hnil] at hfit;simp at hfit
 obtain ⟨hm1,hm2⟩ :=hm
 have c2 :=hc p (by omega)
 have hkid :=fun (W :World) (hb :Below w.heap.size w W) q c m hq hmm hmc=> Rd.kids (B :=B) (cap :=c) (w :=W) hB (Nat.lt_of_lt_of_le hbs hb.size) (fun j hj=> (hb.cell (p :=⟨bl,off+j,none⟩) hbs).trans (hc j hj)) p c hfit hm1 q hq m hmm hmc
 have HK :=Lib.hid hkid
 obtain ⟨x,hxx⟩ : ∃x,ws.getD p 0=x :=⟨_,rfl⟩
 have hx :=hw p
 rw [hxx] at hx hh hfit c2 ⊢
 obtain ⟨hx0,hx1⟩ :=hx
 have HX :=Lib.hid hxx
 have hkn :=hK_cast x
 have HKN :=Lib.hid hkn
 have hkb :=hKids_nonneg x
 rw [← hkn] at hkb
 obtain ⟨hkb1,hkb2⟩ :=hkb
 clear hxx hkn hw hc hkid
 by_cases hcp :cap=p+1
 ·have h0 :hK x=0 :=by omega
  have hrd : ∀(W :World) (m :Nat),m=hK x→Rd B .i64 W (.slice (some ⟨bl,off,none⟩) m 0) (kidsAt ws p) :=fun W m hm=> .inl ⟨by unfold kidsAt;rw [HX.out,h0];simp,some ⟨bl,off,none⟩,0,by rw [hm,h0]⟩
  have HRD :=Lib.hid hrd
  clear h0 hrd
  subst hcp
  go_enter Tryz.func74,Tryz.ntmps74
  go_wp2_with fail
  refine (headed_ok _ _ hh hx1).mono ?_
  rw [← HKN.out]
  rintro e w' ⟨rfl,rfl⟩
  go_wp2_with fail
  go_quiet (fail)
  go_wp2
  go_ret3
  exact ⟨_,rfl,HRD.out _ _ (by omega),below_drewN ((Below.refl _ _).alloc (Nat.le_refl _) _) _⟩
 ·go_enter Tryz.func74,Tryz.ntmps74
  go_wp2_with fail
  refine (headed_ok _ _ hh hx1).mono ?_
  rw [← HKN.out]
  rintro e w' ⟨rfl,rfl⟩
  go_wp2_with fail
  go_quiet (fail)
  go_wp2
  go_ret3
  exact ⟨_,rfl,HK.out _ (below_drewN ((Below.refl _ _).alloc (Nat.le_refl _) _) _) _ _ _ (by omega) (by rw [HX.out];omega) (by omega),below_drewN ((Below.refl _ _).alloc (Nat.le_refl _) _) _⟩
def blockOf (ws :List Int) (h b n p :Int) :Option Nat :=if heapOk ws h b n then (match placesOf ws b.toNat n.toNat with | none=> none | some ps=> if p∈nums ps then some p.toNat else none) else none
theorem heapOk_some {ws :List Int} {h b n :Nat} (hok :heapOk ws h b n=true) : ∃ps,placesOf ws b n=some ps :=by
 cases hp :placesOf ws b n with
 | none=> rw [heapOk_noplaces hp] at hok;cases hok
 | some ps=> exact ⟨ps,rfl⟩
end Go.Proofs.YtfmebaafpfkeiaaGreat
end
section
namespace Go.Proofs.YtfmebaafpfkeiaaGreat
open Go.RowKit
theorem kidsAt_le (ws :List Int) (p :Nat) :(kidsAt ws p).length≤64 :=by
 unfold kidsAt hK
 have :=hKids_nonneg (ws.getD p 0)
 generalize hKids (ws.getD p 0)=m at this ⊢
 rw [List.length_take]
 omega
theorem Bx.apart {g N :Nat} {v :Value} (h1 : ∀k,v.ownBlock=some k→k < N) (h2 :N≤g) :some g≠v.ownBlock :=by
 intro h
 have :=h1 g h.symm
 omega
end Go.Proofs.YtfmebaafpfkeiaaGreat
end
section
namespace Go.Proofs.YtfmebaafpfkeiaaGreat
open Go.RowKit
def rightOf (ws :List Int) (h b n :Int) (rs :List Int) :Bool :=
 heapOk ws h b n&&(match placesOf ws b.toNat n.toNat with | none=> false | some ps=> rs.all (wordIn ps))
def seeW (o :List Nat) (x :Int) :List Nat :=if x%2=0 then (if (x/2).toNat∈o then o else o++ [(x/2).toNat]) else o
def seeL (o :List Nat) (xs :List Int) :List Nat :=xs.foldl seeW o
def bfs (ws :List Int) :Nat→Nat→List Nat→List Nat
 | 0,_,o=> o
 | f+1,i,o=> if i < o.length then bfs ws f (i+1) (seeL o (kidsAt ws (o.getD i 0))) else o
def orderOf (ws :List Int) (rs :List Int) :List Nat :=bfs ws ws.length 0 (seeL [] rs)
theorem bfs_go {ws :List Int} {f i :Nat} {o :List Nat} (h :i < o.length) :bfs ws (f+1) i o=bfs ws f (i+1) (seeL o (kidsAt ws (o.getD i 0))) :=by rw [bfs,if_pos h]
theorem bfs_end {ws :List Int} {f i :Nat} {o :List Nat} (h : ¬i < o.length) :bfs ws f i o=o :=by
 cases f
 ·rfl
 ·rw [bfs,if_neg h]
def Ordered (ps o :List Nat) :Prop :=o.Nodup∧∀p∈o,p∈ps
theorem nodup_len : ∀(o ps :List Nat),o.Nodup→(∀p∈o,p∈ps)→o.length≤ps.length :=by
 intro o
 induction o with
 | nil=> intro ps _ _;simp
 | cons a o ih=>
  intro ps hn hs
  obtain ⟨ha,hn⟩ :=List.nodup_cons.1 hn
  have h1 :a∈ps :=hs a (List.mem_cons_self ..)
  have h2 :=ih (ps.erase a) hn (fun p hp=> (List.mem_erase_of_ne (fun (e :p=a)=> ha (e▸hp))).2 (hs p (List.mem_cons_of_mem _ hp)))
  rw [List.length_erase_of_mem h1] at h2
  have h3 :0 < ps.length :=List.length_pos_of_mem h1
  simp only [List.length_cons]
  omega
theorem sorted_len : ∀(ps :List Nat) (a b :Nat),ps.Pairwise (· < ·)→(∀p∈ps,a≤p∧p < b)→ps.length≤b-a :=by
 intro ps
 induction ps with
 | nil=> intro a b _ _;simp
 | cons p ps ih=>
  intro a b hs hb
  obtain ⟨h1,h2⟩ :=List.pairwise_cons.1 hs
  have h3 :=hb p (List.mem_cons_self ..)
  have h4 :=ih (p+1) b h2 (fun q hq=> ⟨h1 q hq,(hb q (List.mem_cons_of_mem _ hq)).2⟩)
  simp only [List.length_cons]
  omega
theorem wordIn_ref {ps :List Nat} {x :Int} (h :wordIn ps x=true) (he :x%2=0) : ∃p∈ps,(p :Int)=x/2 :=by
 unfold wordIn at h
 rw [if_pos he] at h
 simpa using h
theorem seeW_ok {ps o :List Nat} {x :Int} (h :Ordered ps o) (hx :wordIn ps x=true) :Ordered ps (seeW o x) :=by
 unfold seeW
 split
 ·rename_i he
  obtain ⟨p,hp,hpx⟩ :=wordIn_ref hx he
  split
  ·exact h
  ·rename_i hn
   have e :(x/2).toNat=p :=by omega
   rw [e] at hn ⊢
   refine ⟨List.nodup_append.2 ⟨h.1,by simp,?_⟩,fun q hq=> ?_⟩
   ·intro a ha b hb
    rw [List.mem_singleton] at hb
    subst hb
    exact fun e=> hn (e▸ha)
   ·rcases List.mem_append.1 hq with hq | hq
    ·exact h.2 q hq
    ·rw [List.mem_singleton] at hq;rw [hq];exact hp
 ·exact h
theorem seeL_ok {ps :List Nat} : ∀{xs :List Int} {o :List Nat},Ordered ps o→xs.all (wordIn ps)=true→Ordered ps (seeL o xs) :=by
 intro xs
 induction xs with
 | nil=> intro o h _;exact h
 | cons x xs ih=>
  intro o h hx
  rw [List.all_cons,Bool.and_eq_true] at hx
  exact ih (seeW_ok h hx.1) hx.2
theorem seeL_take {o :List Nat} {xs :List Int} {k :Nat} (h :k < xs.length) :seeL o (xs.take (k+1))=seeW (seeL o (xs.take k)) (xs.getD k 0) :=by
 unfold seeL
 rw [← List.take_append_getElem h,List.foldl_append,List.getD_eq_getElem?_getD,List.getElem?_eq_getElem h]
 rfl
theorem all_take {ps :List Nat} {xs :List Int} (k :Nat) (h :xs.all (wordIn ps)=true) :(xs.take k).all (wordIn ps)=true :=by
 rw [List.all_eq_true] at h ⊢
 exact fun x hx=> h x (List.mem_of_mem_take hx)
theorem all_get {ps :List Nat} {xs :List Int} {k :Nat} (h :xs.all (wordIn ps)=true) (hk :k < xs.length) :wordIn ps (xs.getD k 0)=true :=by
 rw [List.all_eq_true] at h
 rw [List.getD_eq_getElem?_getD,List.getElem?_eq_getElem hk]
 exact h _ (List.getElem_mem hk)
theorem seeW_len (o :List Nat) (x :Int) :o.length≤(seeW o x).length :=by
 unfold seeW
 split
 ·split
  ·exact Nat.le_refl _
  ·simp
 ·exact Nat.le_refl _
theorem seeL_len : ∀(xs :List Int) (o :List Nat),o.length≤(seeL o xs).length :=by
 intro xs
 induction xs with
 | nil=> intro o;exact Nat.le_refl _
 | cons x xs ih=> intro o;exact Nat.le_trans (seeW_len o x) (ih (seeW o x))
theorem seeL_grow {o :List Nat} {xs :List Int} {i :Nat} (h :i < o.length) :i+1≤(seeL o xs).length :=Nat.le_trans h (seeL_len xs o)
theorem seeL_pre : ∀(xs :List Int) (o :List Nat),∃t,seeL o xs=o++t :=by
 intro xs
 induction xs with
 | nil=> intro o;exact ⟨[],by simp [seeL]⟩
 | cons x xs ih=>
  intro o
  obtain ⟨t,ht⟩ :=ih (seeW o x)
  have h1 :seeL o (x ::xs)=seeL (seeW o x) xs :=rfl
  unfold seeW at ht h1
  split at ht
  ·split at ht
   ·rename_i h2 h3;rw [if_pos h2,if_pos h3] at h1;exact ⟨t,by rw [h1,ht]⟩
   ·rename_i h2 h3;rw [if_pos h2,if_neg h3] at h1;exact ⟨_,by rw [h1,ht,List.append_assoc]⟩
  ·rename_i h2;rw [if_neg h2] at h1;exact ⟨t,by rw [h1,ht]⟩
theorem seeL_at {o :List Nat} {xs :List Int} {k :Nat} (h :k < o.length) :(seeL o xs).getD k 0=o.getD k 0 :=by
 obtain ⟨t,ht⟩ :=seeL_pre xs o
 rw [ht,List.getD_eq_getElem?_getD,List.getElem?_append_left h,List.getD_eq_getElem?_getD]
def numOf (o :List Nat) (p :Nat) :Int :=if p∈o then (o.idxOf p :Int) else -1
def numbers (o :List Nat) (N :Nat) :List Int :=(List.range N).map (numOf o)
theorem numbers_len (o :List Nat) (N :Nat) :(numbers o N).length=N :=by simp [numbers]
theorem numbers_get {o :List Nat} {N p :Nat} (h :p < N) :(numbers o N).getD p 0=numOf o p :=by simp [numbers,List.getD,h]
theorem numbers_nil (N :Nat) :numbers [] N=List.replicate N (-1) :=by
 refine List.ext_getElem (by simp [numbers]) fun i h1 h2=> ?_
 simp [numbers,numOf]
theorem numOf_old {o :List Nat} {p q :Nat} (h :q≠p) :numOf (o++ [p]) q=numOf o q :=by
 unfold numOf
 by_cases hq :q∈o
 ·rw [if_pos (List.mem_append_left _ hq),if_pos hq,List.idxOf_append,if_pos hq]
 ·rw [if_neg (by simp [hq,h]),if_neg hq]
theorem numOf_new {o :List Nat} {p :Nat} (h :p∉o) :numOf (o++ [p]) p=o.length :=by
 unfold numOf
 rw [if_pos (by simp),List.idxOf_append,if_neg h]
 simp
theorem numbers_push {o :List Nat} {N p :Nat} (h :p∉o) (hp :p < N) :(numbers o N).set p o.length=numbers (o++ [p]) N :=by
 refine List.ext_getElem (by simp [numbers]) fun i h1 h2=> ?_
 rw [List.getElem_set]
 split
 ·rename_i e
  subst e
  simp [numbers,numOf_new h]
 ·rename_i e
  simp [numbers,numOf_old (fun h=> e h.symm)]
theorem numOf_in {o :List Nat} {p :Nat} (h :p∈o) :0≤numOf o p∧numOf o p < o.length :=by
 unfold numOf
 rw [if_pos h]
 exact ⟨by omega,by have :=List.idxOf_lt_length_of_mem h;omega⟩
theorem numOf_out {o :List Nat} {p :Nat} (h :p∉o) :numOf o p= -1 :=by unfold numOf;rw [if_neg h]
structure Right (ws :List Int) (h b n :Nat) (ps :List Nat) :Prop where
 frame :Frame ws h b n
 some :placesOf ws b n=some ps
 fit :blocksFit ws ps=true
theorem Right.of {ws :List Int} {h b n :Int} (hok :heapOk ws h b n=true) : ∃h' b' n' :Nat,∃ps,h=h'∧b=b'∧n=n'∧Right ws h' b' n' ps :=by
 obtain ⟨h',b',n',rfl,rfl,rfl,hF⟩ :=heapFrame_true (heapOk_frame hok)
 obtain ⟨ps,hp⟩ :=heapOk_some hok
 refine ⟨h',b',n',ps,rfl,rfl,rfl,hF,hp,?_⟩
 rw [heapOk_places (heapOk_frame hok) hp] at hok
 exact hok
theorem Right.at_ {ws :List Int} {h b n p :Nat} {ps :List Nat} (hR :Right ws h b n ps) (hp :p∈ps) :b≤p∧p < n∧hOk (ws.getD p 0)=true∧p+1+hK (ws.getD p 0)≤n∧(kidsAt ws p).all (wordIn ps)=true :=by
 obtain ⟨h1,h2,h3,h4⟩ :=places_in _ _ _ hR.some p hp
 refine ⟨h1,h2,h3,h4,?_⟩
 have :=hR.fit
 unfold blocksFit at this
 rw [List.all_eq_true] at this
 exact this p hp
theorem Right.n_le {ws :List Int} {h b n :Nat} {ps :List Nat} (hR :Right ws h b n ps) :n≤ws.length∧ws.length≤6000 :=by
 have h1 :=hR.frame.len
 have h2 :=hR.frame.base
 have h3 :=hR.frame.n1
 have h4 :=hR.frame.h1
 omega
theorem Right.sorted {ws :List Int} {h b n :Nat} {ps :List Nat} (hR :Right ws h b n ps) :ps.Pairwise (· < ·) :=places_sorted _ _ _ hR.some
theorem Right.len {ws :List Int} {h b n :Nat} {ps :List Nat} (hR :Right ws h b n ps) :ps.length≤n-b :=sorted_len ps b n hR.sorted (fun p hp=> ⟨(hR.at_ hp).1,(hR.at_ hp).2.1⟩)
theorem Right.ord_len {ws :List Int} {h b n :Nat} {ps o :List Nat} (hR :Right ws h b n ps) (ho :Ordered ps o) :o.length≤ws.length :=by
 have h1 :=nodup_len o ps ho.1 ho.2
 have h2 :=hR.len
 have h3 :=hR.n_le
 omega
theorem Right.see {ws :List Int} {h b n :Nat} {ps o :List Nat} (hR :Right ws h b n ps) (ho :Ordered ps o) {i :Nat} (hi :i < o.length) :Ordered ps (seeL o (kidsAt ws (o.getD i 0))) :=
 seeL_ok ho (hR.at_ (ho.2 _ (get_mem hi))).2.2.2.2
theorem ordered_nil (ps :List Nat) :Ordered ps [] :=⟨List.nodup_nil,by simp⟩
theorem rightOf_heap {ws :List Int} {h b n :Int} {rs :List Int} (hr :rightOf ws h b n rs=true) :heapOk ws h b n=true :=by
 unfold rightOf at hr
 rw [Bool.and_eq_true] at hr
 exact hr.1
theorem rightOf_not {ws :List Int} {h b n :Int} {rs :List Int} (hr :heapOk ws h b n=false) :rightOf ws h b n rs=false :=by simp [rightOf,hr]
theorem rightOf_at {ws :List Int} {h b n :Nat} {rs :List Int} {ps :List Nat} (hok :heapOk ws h b n=true) (hp :placesOf ws b n=some ps) :rightOf ws h b n rs=rs.all (wordIn ps) :=by simp [rightOf,hok,hp]
theorem bfs_ok {ws :List Int} {h b n :Nat} {ps :List Nat} (hR :Right ws h b n ps) : ∀(f i :Nat) (o :List Nat),Ordered ps o→Ordered ps (bfs ws f i o) :=by
 intro f
 induction f with
 | zero=> intro i o h;exact h
 | succ f ih=>
  intro i o ho
  by_cases hi :i < o.length
  ·rw [bfs_go hi];exact ih _ _ (hR.see ho hi)
  ·rw [bfs_end hi];exact ho
end Go.Proofs.YtfmebaafpfkeiaaGreat
end
section
namespace Go.Proofs.YtfmebaafpfkeiaaGreat
open Go.RowKit
def hdOf (f :Bool) (tag :Int) (m :Nat) :Int :=2*(2*(64*tag+m)+(if f then 1 else 0))+1
theorem hdOf_in (f :Bool) (tag :Int) (m :Nat) (h0 :0≤tag) (h1 :tag≤3000) (h2 :m≤20) :0≤hdOf f tag m∧hdOf f tag m≤1000000 :=by unfold hdOf;split <;> omega
def ov (ws :List Int) (p :Nat) (ks :List Int) :List Int :=ws.take p++(ks++ws.drop (p+ks.length))
theorem ov_len {ws :List Int} {p :Nat} {ks :List Int} (h :p+ks.length≤ws.length) :(ov ws p ks).length=ws.length :=by simp [ov];omega
theorem ov_one {ws :List Int} {p :Nat} (x :Int) (h :p < ws.length) :ws.set p x=ov ws p [x] :=by
 unfold ov
 rw [List.set_eq_take_append_cons_drop,if_pos h]
 rfl
theorem ov_cons (ws :List Int) (p :Nat) (x :Int) (ks :List Int) (h :p < ws.length) :ov ws p (x ::ks)=splice (ov ws p [x]) (p+1) ks :=by
 have hl :(ws.take p++ [x]).length=p+1 :=by simp;omega
 have e :ov ws p [x]=(ws.take p++ [x])++ws.drop (p+1) :=by unfold ov;rw [List.append_assoc];rfl
 have t1 :(ov ws p [x]).take (p+1)=ws.take p++ [x] :=by rw [e];exact List.take_left' hl
 have t2 :(ov ws p [x]).drop (p+1+ks.length)=ws.drop (p+1+ks.length) :=by
  rw [e,List.drop_append,hl,List.drop_eq_nil_of_le (by omega),List.nil_append,List.drop_drop]
  congr 1
  omega
 unfold splice
 rw [t1,t2]
 unfold ov
 rw [List.append_assoc,List.length_cons,show p+(ks.length+1)=p+1+ks.length from by omega]
 rfl
theorem getD_mem_or {zs :List Int} (j :Nat) :zs.getD j 0∈zs∨zs.getD j 0=0 :=by
 by_cases h :j < zs.length
 ·left
  rw [List.getD_eq_getElem?_getD,List.getElem?_eq_getElem h]
  exact List.getElem_mem h
 ·right
  rw [List.getD_eq_getElem?_getD,List.getElem?_eq_none (by omega)]
  rfl
theorem intsOk_of {zs :List Int} (h : ∀x∈zs, -9223372036854775808≤x∧x≤9223372036854775807) :intsOk zs :=by
 intro j
 rcases getD_mem_or (zs :=zs) j with h' | h'
 ·exact h _ h'
 ·rw [h'];omega
theorem intsOk_mem {zs :List Int} (h :intsOk zs) : ∀x∈zs, -9223372036854775808≤x∧x≤9223372036854775807 :=by
 intro x hx
 obtain ⟨i,hi,rfl⟩ :=List.mem_iff_getElem.1 hx
 have :=h i
 rwa [List.getD_eq_getElem?_getD,List.getElem?_eq_getElem hi] at this
theorem ov_ok {ws :List Int} {p :Nat} {ks :List Int} (h1 :intsOk ws) (h2 :intsOk ks) :intsOk (ov ws p ks) :=by
 refine intsOk_of fun x hx=> ?_
 unfold ov at hx
 rcases List.mem_append.1 hx with h | h
 ·exact intsOk_mem h1 x (List.mem_of_mem_take h)
 rcases List.mem_append.1 h with h | h
 ·exact intsOk_mem h2 x h
 ·exact intsOk_mem h1 x (List.mem_of_mem_drop h)
structure Put where
 ws :List Int
 next :Int
 at_ :Int
 ok :Bool
def allocOf (ws :List Int) (h b n :Int) (f :Bool) (tag :Int) (ks :List Int) :Put :=
 if heapOk ws h b n&&(inB tag 0 3000&&(decide (ks.length≤20)&&(decide (n+(1+ks.length)≤b+h)&&heapOk (ov ws n.toNat (hdOf f tag ks.length ::ks)) h b (n+(1+ks.length))))) then
  ⟨ov ws n.toNat (hdOf f tag ks.length ::ks),n+(1+ks.length),n,true⟩ else ⟨ws,n,0,false⟩
theorem alloc_not {ws :List Int} {h b n :Int} {f :Bool} {tag :Int} {ks :List Int} (hn : ¬(heapOk ws h b n=true∧inB tag 0 3000=true∧ks.length≤20∧n+(1+ks.length)≤b+h)) :allocOf ws h b n f tag ks=⟨ws,n,0,false⟩ :=by
 unfold allocOf
 rw [if_neg]
 simp only [Bool.and_eq_true,decide_eq_true_eq]
 rintro ⟨a,b,c,d,e⟩
 exact hn ⟨a,b,c,d⟩
theorem alloc_if {ws :List Int} {h b :Int} {n :Nat} {f :Bool} {tag :Int} {ks :List Int} (h1 :heapOk ws h b n=true) (h2 :inB tag 0 3000=true) (h3 :ks.length≤20) (h4 :(n :Int)+(1+ks.length)≤b+h) :
  allocOf ws h b n f tag ks=if heapOk (ov ws n (hdOf f tag ks.length ::ks)) h b (n+(1+ks.length)) then ⟨ov ws n (hdOf f tag ks.length ::ks),n+(1+ks.length),n,true⟩ else ⟨ws,n,0,false⟩ :=by
 unfold allocOf
 rw [h1,h2,decide_eq_true h3,decide_eq_true h4]
 simp
theorem splice_map {α β :Type} (f :α→β) (xs :List α) (off :Nat) (cs :List α) :splice (xs.map f) off (cs.map f)=(splice xs off cs).map f :=by simp [splice,List.map_take,List.map_drop]
theorem own_splice {base :Nat} {e :TypeId} {w w' :World} {g cap n :Nat} {xs :List Value} (h :w.ownsRow base e 1 (.slice (some ⟨g,0,none⟩) n cap) n xs) (cur :List Value) (hc :w.heap[g]?=some (.cells cur.toArray e (0,0))) (off :Nat) (cs :List Value) (hw :w'.heap[g]?=some (.cells (splice cur off cs).toArray e (0,0))) (hfit :off+cs.length≤n) :
  w'.ownsRow base e 1 (.slice (some ⟨g,0,none⟩) n cap) n (splice xs off cs) :=by
 obtain ⟨h1,h2⟩ :=h
 rcases h2 with ⟨hh,_⟩ | ⟨g',cap',cur',hv,hb,hg,hn,hm,hsz,ht⟩
 ·cases hh
 ·cases hv
  rw [hc] at hg
  cases hg
  have hcl :cur.length=cap :=by simpa using hsz
  simp only [Nat.mul_one] at h1 ht
  subst ht
  refine ⟨by rw [length_splice _ _ _ (by rw [h1];omega)];omega, .inr ⟨g,cap,_,rfl,hb,hw,hn,hm,by rw [List.size_toArray,length_splice _ _ _ (by omega)];simpa using hsz,?_⟩⟩
  simp only [Nat.mul_one,splice]
  rw [List.take_append,List.take_append]
  simp only [List.length_take,List.take_take,List.drop_take]
  rw [Nat.min_comm n off,show min off cur.length=off from by omega,List.take_of_length_le (l :=cs) (by omega),show n-off-cs.length=n-(off+cs.length) from by omega]
theorem own_cells {base :Nat} {e :TypeId} {w :World} {g cap n :Nat} {xs :List Value} (h :w.ownsRow base e 1 (.slice (some ⟨g,0,none⟩) n cap) n xs) : ∃cur :List Value,w.heap[g]?=some (.cells cur.toArray e (0,0))∧n≤cur.length∧base≤g∧n≤cap :=by
 rcases h.2 with ⟨hh,_⟩ | ⟨g',cap',cur',hv,hb,hg,hn,hm,hsz,ht⟩
 ·cases hh
 ·cases hv
  exact ⟨cur'.toList,by simpa using hg,by simp;omega,hb,hn⟩
end Go.Proofs.YtfmebaafpfkeiaaGreat
end
