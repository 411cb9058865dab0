/- Parts of the proof of FnNoRoom. -/
import Derived.Test.YtfmebaafpfkeiaaGreatZ13
import Derived.Test.YtfmebaafpfkeiaaGreatZ12
import Derived.Test.YtfmebaafpfkeiaaGreatRows
import Derived.Deep.QuietTactic
import Derived.BigQuiet
import Derived.Maps.AppendAt
import Derived.Deep.RegionHeld3
import Derived.Deep.DrawnRows
import Derived.Deep.AppendLies
import Derived.StillTailTactics
set_option linter.unusedVariables false
set_option linter.unusedSimpArgs false
section
namespace Go.Proofs.YtfmebaafpfkeiaaGreat
open Go.RowKit
def lay (b N :Nat) (l :List Int) :List Int :=List.replicate b 0++(l++List.replicate (N-b-l.length) 0)
theorem lay_len {b N :Nat} {l :List Int} (h :b+l.length≤N) :(lay b N l).length=N :=by simp [lay];omega
theorem lay_nil {b N :Nat} (h :b≤N) :lay b N []=List.replicate N 0 :=by
 unfold lay
 rw [List.nil_append,List.replicate_append_replicate]
 congr 1
 simp
 omega
theorem lay_push {b N :Nat} {l ks :List Int} (h :b+(l.length+ks.length)≤N) :ov (lay b N l) (b+l.length) ks=lay b N (l++ks) :=by
 have e :lay b N l=(List.replicate b 0++l)++List.replicate (N-b-l.length) 0 :=by unfold lay;rw [List.append_assoc]
 have hl :(List.replicate b (0 :Int)++l).length=b+l.length :=by simp
 unfold ov
 rw [e,List.take_left' hl,List.drop_append,hl,List.drop_eq_nil_of_le (by omega),List.nil_append,List.drop_replicate]
 unfold lay
 rw [List.append_assoc,List.append_assoc,List.length_append]
 congr 4
 omega
theorem lay_set {b N i :Nat} {l :List Int} (h :i < l.length) (x :Int) :(lay b N l).set (b+i) x=lay b N (l.set i x) :=by
 unfold lay
 rw [List.set_append_right _ _ (by simp),List.set_append_left _ _ (by simp;omega),List.length_set]
 congr 3
 simp
theorem lay_get {b N i :Nat} {l :List Int} (h :i < l.length) :(lay b N l).getD (b+i) 0=l.getD i 0 :=by
 unfold lay
 rw [List.getD_eq_getElem?_getD,List.getElem?_append_right (by simp),List.getElem?_append_left (by simp;omega),List.getD_eq_getElem?_getD]
 congr 2
 simp
theorem lay_ok {b N :Nat} {l :List Int} (h :intsOk l) :intsOk (lay b N l) :=by
 refine intsOk_of fun x hx=> ?_
 unfold lay at hx
 rcases List.mem_append.1 hx with h' | h'
 ·rw [List.eq_of_mem_replicate h'];omega
 rcases List.mem_append.1 h' with h' | h'
 ·exact intsOk_mem h x h'
 ·rw [List.eq_of_mem_replicate h'];omega
def blk (ws :List Int) (p :Nat) :List Int :=ws.getD p 0 ::kidsAt ws p
def raw (ws :List Int) (o :List Nat) :List Int :=o.flatMap (blk ws)
def newAt (ws :List Int) (b :Nat) (o :List Nat) (p :Nat) :Nat :=b+(raw ws (o.take (o.idxOf p))).length
def mv (ws :List Int) (b :Nat) (o :List Nat) (x :Int) :Int :=if x%2=0 then 2*(newAt ws b o (x/2).toNat :Int) else x
def mblk (ws :List Int) (b :Nat) (o :List Nat) (p :Nat) :List Int :=ws.getD p 0 ::(kidsAt ws p).map (mv ws b o)
def mvd (ws :List Int) (b :Nat) (o q :List Nat) :List Int :=q.flatMap (mblk ws b o)
theorem raw_nil (ws :List Int) :raw ws []= [] :=rfl
theorem raw_append (ws :List Int) (a b :List Nat) :raw ws (a++b)=raw ws a++raw ws b :=by simp [raw]
theorem raw_snoc (ws :List Int) (a :List Nat) (p :Nat) :raw ws (a++ [p])=raw ws a++blk ws p :=by simp [raw]
theorem mblk_len (ws :List Int) (b :Nat) (o :List Nat) (p :Nat) :(mblk ws b o p).length=(blk ws p).length :=by simp [mblk,blk]
theorem mvd_len (ws :List Int) (b :Nat) (o :List Nat) : ∀q :List Nat,(mvd ws b o q).length=(raw ws q).length :=by
 intro q
 induction q with
 | nil=> rfl
 | cons p q ih=>
  unfold mvd raw at ih ⊢
  rw [List.flatMap_cons,List.flatMap_cons,List.length_append,List.length_append,ih,mblk_len]
theorem mvd_snoc (ws :List Int) (b :Nat) (o q :List Nat) (p :Nat) :mvd ws b o (q++ [p])=mvd ws b o q++mblk ws b o p :=by simp [mvd]
theorem blk_len {ws :List Int} {p :Nat} (h :p+1+hK (ws.getD p 0)≤ws.length) :(blk ws p).length=1+hK (ws.getD p 0) :=by
 unfold blk kidsAt
 rw [List.length_cons,List.length_take,List.length_drop]
 omega
theorem raw_places {ws :List Int} {nx :Nat} (hnx :nx≤ws.length) : ∀(f p :Nat) (ps :List Nat),places ws nx f p=some ps→p≤nx→(raw ws ps).length≤nx-p :=by
 intro f
 induction f with
 | zero=> intro p ps h hp;simp [places] at h;subst h;simp [raw]
 | succ f ih=>
  intro p ps h hp
  by_cases hlt :p < nx
  ·by_cases hb :hOk (ws.getD p 0)=true∧p+1+hK (ws.getD p 0)≤nx
   ·rw [places_go hlt hb.1 hb.2] at h
    obtain ⟨r,hr,rfl⟩ :=Option.map_eq_some_iff.1 h
    have h1 :=ih _ _ hr hb.2
    have h2 :=blk_len (ws :=ws) (p :=p) (by omega)
    unfold raw at h1 ⊢
    rw [List.flatMap_cons,List.length_append,h2]
    omega
   ·rw [places_bad hlt hb] at h;cases h
  ·rw [places_end hlt] at h;cases h;simp [raw]
theorem raw_erase {ws :List Int} : ∀{ps :List Nat} {a :Nat},a∈ps→(raw ws ps).length=(blk ws a).length+(raw ws (ps.erase a)).length :=by
 intro ps
 induction ps with
 | nil=> intro a h;cases h
 | cons p ps ih=>
  intro a h
  by_cases hp :p=a
  ·subst hp
   rw [List.erase_cons_head]
   simp [raw]
  ·rw [List.erase_cons_tail (by simpa using hp)]
   have h1 :a∈ps :=by rcases List.mem_cons.1 h with h | h;exact absurd h.symm hp;exact h
   have h2 :=ih h1
   unfold raw at h2 ⊢
   rw [List.flatMap_cons,List.flatMap_cons,List.length_append,List.length_append,h2]
   omega
theorem raw_sub {ws :List Int} : ∀(o ps :List Nat),o.Nodup→(∀p∈o,p∈ps)→(raw ws o).length≤(raw ws ps).length :=by
 intro o
 induction o with
 | nil=> intro ps _ _;simp [raw]
 | cons a o ih=>
  intro ps hn hs
  obtain ⟨ha,hn⟩ :=List.nodup_cons.1 hn
  have h1 :a∈ps :=hs a (List.mem_cons_self ..)
  have h2 :=ih (ps.erase a) hn (fun p hp=> (List.mem_erase_of_ne (fun (e :p=a)=> ha (e▸hp))).2 (hs p (List.mem_cons_of_mem _ hp)))
  have h3 :=raw_erase (ws :=ws) h1
  unfold raw at h2 h3 ⊢
  rw [List.flatMap_cons,List.length_append]
  omega
theorem Right.raw_le {ws :List Int} {h b n :Nat} {ps o :List Nat} (hR :Right ws h b n ps) (ho :Ordered ps o) :(raw ws o).length≤h :=by
 have h1 :=raw_sub (ws :=ws) o ps ho.1 ho.2
 have h2 :=raw_places hR.n_le.1 _ _ _ hR.some hR.frame.n0
 have h3 :=hR.frame.n1
 omega
theorem raw_take_le (ws :List Int) (o :List Nat) (k :Nat) :(raw ws (o.take k)).length≤(raw ws o).length :=by
 have h :=congrArg (fun l=> (raw ws l).length) (List.take_append_drop k o)
 simp only [raw_append,List.length_append] at h
 omega
theorem hd_of {X :Int} (h :hOk X=true) :hdOf (hFun X) (hTag X) (hK X)=X :=by
 obtain ⟨h1,h2,h3,h4⟩ :=hOk_true.1 h
 have h5 :=hK_cast X
 unfold hdOf
 rw [h5]
 unfold hFun hTag hKids at*
 split
 ·rename_i h6;simp at h6;omega
 ·rename_i h6;simp at h6;omega
theorem newAt_le {ws :List Int} {h b n b' :Nat} {ps o :List Nat} (hR :Right ws h b n ps) (ho :Ordered ps o) (p :Nat) :newAt ws b' o p≤b'+h :=by
 unfold newAt
 have h1 :=raw_take_le ws o (o.idxOf p)
 have h2 :=hR.raw_le ho
 omega
structure Coll where
 ws :List Int
 base :Int
 next :Int
 roots :List Int
def collectOf (ws :List Int) (h b n :Int) (rs :List Int) :Coll :=
 if rightOf ws h b n rs then
  ⟨lay (h-b).toNat ws.length (mvd ws (h-b).toNat (orderOf ws rs) (orderOf ws rs)),h-b,h-b+(raw ws (orderOf ws rs)).length,rs.map (mv ws (h-b).toNat (orderOf ws rs))⟩
 else ⟨ws,b,n,rs⟩
theorem collect_not {ws :List Int} {h b n :Int} {rs :List Int} (hn :rightOf ws h b n rs=false) :collectOf ws h b n rs=⟨ws,b,n,rs⟩ :=by simp [collectOf,hn]
theorem collect_yes {ws :List Int} {h b n :Nat} {rs :List Int} (hb :b≤h) (hr :rightOf ws h b n rs=true) :
  collectOf ws h b n rs=⟨lay (h-b) ws.length (mvd ws (h-b) (orderOf ws rs) (orderOf ws rs)),((h-b :Nat) :Int),((h-b+(raw ws (orderOf ws rs)).length :Nat) :Int),rs.map (mv ws (h-b) (orderOf ws rs))⟩ :=by
 unfold collectOf
 rw [if_pos hr,show ((h :Int)-(b :Int)).toNat=h-b by omega]
 congr 1
 ·omega
 ·omega
end Go.Proofs.YtfmebaafpfkeiaaGreat
end
section
namespace Go.Proofs.YtfmebaafpfkeiaaGreat
open Go.RowKit
def hv (v :Value) (h b n :Int) :Value := .agg #[v, .int .i64 h, .int .i64 b, .int .i64 n]
def newWords (n :Int) :List Int :=if inB n 1 3000 then List.replicate (2*n.toNat) 0 else []
theorem Tryz.infoI0 :(Tryz.prog.info? 3).map (fun i=> (i.zero,i.size,i.bytes))=some (some (.int .i64 0),1,8) :=by kernel_rfl
set_option maxHeartbeats 400000 in
set_option maxRecDepth 100000 in
theorem iHeapNew_any (n :Int) (w :World) :
  Calls Tryz.prog 157 #[.int .i64 n] w fun e w'=> ∃v,e= .returned (.tuple #[.agg #[v, .int .i64 (if inB n 1 3000 then n else 0), .int .i64 0, .int .i64 0], .bool (inB n 1 3000)])∧
   w'.ownsRow w.heap.size 3 1 v (newWords n).length ((newWords n).map (Value.int .i64))∧Below w.heap.size w w' :=by
 cases hw :inB n 1 3000
 ·have he :newWords n= [] :=by simp [newWords,hw]
  have HE :=Lib.hid he
  clear he
  go_enter Tryz.func157,Tryz.ntmps157
  go_wp2_with (go_at_call 54;refine (within_any _ _ _ _).mono ?_;rintro e w' ⟨rfl,rfl⟩)
  refine bodyPost_ret (v := .tuple #[.agg #[.slice none 0 0, .int .i64 0, .int .i64 0, .int .i64 0], .bool false]) (by simp [results,Tryz.results157,go_sem]) rfl ⟨_,rfl,?_,?_⟩
  ·rw [HE.out];exact World.ownsRow_nil _ _ _ _
  ·exact (Below.refl _ _).alloc (Nat.le_refl _) _
 ·obtain ⟨h0,h1⟩ :=inB_true.1 hw
  obtain ⟨m,rfl⟩ :=Int.eq_ofNat_of_zero_le (show 0≤n by omega)
  have he :newWords m=List.replicate (2*m) 0 :=by simp [newWords,hw]
  have HE :=Lib.hid he
  clear he
  obtain ⟨i0,hi,hz0,hz1,hz2⟩ :=info_parts Tryz.infoI0
  go_enter Tryz.func157,Tryz.ntmps157
  go_wp2_with (first | (go_at_call 54;refine (within_any _ _ _ _).mono ?_;rintro e w' ⟨rfl,rfl⟩) | (refine wpList_make_full _ rfl (.tmp 9) (.tmp 9) 27 rfl (w.heap.size+1) 3 i0 (.int .i64 0) 1 Tryz.underlying27 hi hz0 hz1 .i64 .i64 _ _ (2*m) rfl rfl ?_ ?_ ?_ ?_ ?_ ?_))
  ·omega
  ·omega
  ·rw [hz2];omega
  ·unfold maxLen;omega
  ·simp
  ·intro w1 hown hg
   have hblk :=(hg.block w.heap.size (by simp) (by simp)).trans (heap_alloc_new w _)
   have c0 :w1.cell? ⟨w.heap.size,0,none⟩ =some (.slice none 0 0) :=by rw [cell_of_row _ _ _ _ _ _ hblk];rfl
   have c1 :w1.cell? ⟨w.heap.size,1,none⟩ =some (.int .i64 0) :=by rw [cell_of_row _ _ _ _ _ _ hblk];rfl
   have c2 :w1.cell? ⟨w.heap.size,2,none⟩ =some (.int .i64 0) :=by rw [cell_of_row _ _ _ _ _ _ hblk];rfl
   have c3 :w1.cell? ⟨w.heap.size,3,none⟩ =some (.int .i64 0) :=by rw [cell_of_row _ _ _ _ _ _ hblk];rfl
   have f0 : ∀j,w1.frozen? ⟨w.heap.size,j,none⟩ =false :=fun j=> by simp [World.frozen?,hblk]
   have HO :=Lib.hid hown
   have HG :=Lib.hid hg
   clear hown hg hblk
   go_wp2
   refine bodyPost_ret (v := .tuple #[.agg #[.slice (some ⟨w.heap.size+1,0,none⟩) (2*m) (2*m), .int .i64 m, .int .i64 0, .int .i64 0], .bool true]) ?_ rfl ⟨_,rfl,?_,?_⟩
   ·simp [results,Tryz.results157,go_sem,c0,c1,c2,c3]
   ·have ho :=HO.out
    rw [toList_madeCells_one] at ho
    rw [HE.out,List.map_replicate,List.length_replicate]
    exact own_base (ownsRow_setCell_below (ownsRow_setCell_below (ownsRow_setCell_below (ownsRow_setCell_below ho (by simp) _) (by simp) _) (by simp) _) (by simp) _) (by omega)
   ·exact ((((((Below.refl _ _).alloc (Nat.le_refl _) _).grown HG.out (by simp) (by simp)).setCell (Nat.le_refl _) _).setCell (Nat.le_refl _) _).setCell (Nat.le_refl _) _).setCell (Nat.le_refl _) _
end Go.Proofs.YtfmebaafpfkeiaaGreat
end
section
namespace Go.Proofs.YtfmebaafpfkeiaaGreat
open Go.RowKit
theorem ov_low {ws :List Int} {p j :Nat} {ks :List Int} (h :j < p) (hp :p≤ws.length) :(ov ws p ks).getD j 0=ws.getD j 0 :=by
 unfold ov
 rw [List.getD_eq_getElem?_getD,List.getElem?_append_left (by simp;omega),List.getElem?_take,if_pos h,List.getD_eq_getElem?_getD]
theorem ov_at {ws :List Int} {p j :Nat} {ks :List Int} (h :j < ks.length) (hp :p≤ws.length) :(ov ws p ks).getD (p+j) 0=ks.getD j 0 :=by
 have hl :(ws.take p).length=p :=by simp;omega
 unfold ov
 rw [List.getD_eq_getElem?_getD,List.getElem?_append_right (by omega),hl,List.getElem?_append_left (by omega),List.getD_eq_getElem?_getD]
 congr 2
 omega
theorem places_snoc {ws ws' :List Int} {nx nx' :Nat} (hlow : ∀j,j < nx→ws'.getD j 0=ws.getD j 0) (hh :hOk (ws'.getD nx 0)=true) (hnx :nx'=nx+1+hK (ws'.getD nx 0)) :
  ∀(f f' p :Nat) (ps :List Nat),places ws nx f p=some ps→p≤nx→nx-p≤f→nx'-p≤f'→places ws' nx' f' p=some (ps++ [nx]) :=by
 have hend : ∀f' p,p=nx→nx'-p≤f'→places ws' nx' f' p=some [nx] :=by
  intro f' p hp hf
  subst hp
  obtain ⟨g,rfl⟩ : ∃g,f'=g+1 :=⟨f'-1,by omega⟩
  rw [places_go (by omega) hh (by omega),places_end (by omega)]
  rfl
 intro f
 induction f with
 | zero=>
  intro f' p ps h hp hf hf'
  rw [places_end (by omega)] at h
  cases h
  exact hend f' p (by omega) hf'
 | succ f ih=>
  intro f' p ps h hp hf hf'
  by_cases hlt :p < nx
  ·by_cases hb :hOk (ws.getD p 0)=true∧p+1+hK (ws.getD p 0)≤nx
   ·rw [places_go hlt hb.1 hb.2] at h
    obtain ⟨r,hr,rfl⟩ :=Option.map_eq_some_iff.1 h
    obtain ⟨g,rfl⟩ : ∃g,f'=g+1 :=⟨f'-1,by omega⟩
    have e :=hlow p hlt
    rw [places_go (by omega) (by rw [e];exact hb.1) (by rw [e];omega),e,ih g _ r hr (by omega) (by omega) (by omega)]
    rfl
   ·rw [places_bad hlt hb] at h;cases h
  ·rw [places_end hlt] at h
   cases h
   exact hend f' p (by omega) hf'
theorem hdOf_told (f :Bool) (tag :Int) (m :Nat) (h0 :0≤tag) (h1 :tag≤3000) (h2 :m≤20) :hOk (hdOf f tag m)=true∧hFun (hdOf f tag m)=f∧hTag (hdOf f tag m)=tag∧hK (hdOf f tag m)=m :=by
 have k1 :hKids (hdOf f tag m)=m :=by unfold hKids hdOf;split <;> omega
 have k2 :hTag (hdOf f tag m)=tag :=by unfold hTag hdOf;split <;> omega
 refine ⟨hOk_true.2 ⟨?_,?_,by omega,by omega⟩,?_,k2,?_⟩
 ·unfold hdOf;split <;> omega
 ·unfold hdOf;split <;> omega
 ·unfold hFun hdOf
  cases f
  ·simp;omega
  ·simp;omega
 ·unfold hK;rw [k1];simp
structure Putd (ws :List Int) (h b n :Nat) (f :Bool) (tag :Int) (ks :List Int) (P :Put) :Prop where
 ws_ :P.ws=ov ws n (hdOf f tag ks.length ::ks)
 next :P.next=((n+1+ks.length :Nat) :Int)
 at_ :P.at_=(n :Int)
 ok :P.ok=true
 tag0 :0≤tag∧tag≤3000
 kids :ks.length≤20
 fit :n+1+ks.length≤b+h
 right :heapOk P.ws h b P.next=true
theorem alloc_ok {ws :List Int} {h b n :Int} {f :Bool} {tag :Int} {ks :List Int} (hk :(allocOf ws h b n f tag ks).ok=true) :
  ∃(h' b' n' :Nat) (ps :List Nat),h=h'∧b=b'∧n=n'∧Right ws h' b' n' ps∧Putd ws h' b' n' f tag ks (allocOf ws h b n f tag ks) :=by
 by_cases hc :heapOk ws h b n=true∧inB tag 0 3000=true∧ks.length≤20∧n+(1+ks.length)≤b+h
 ·obtain ⟨h1,h2,h3,h4⟩ :=hc
  obtain ⟨h',b',n',ps,rfl,rfl,rfl,hR⟩ :=Right.of h1
  refine ⟨h',b',n',ps,rfl,rfl,rfl,hR,?_⟩
  have h2' :=inB_true.1 h2
  rw [alloc_if h1 h2 h3 h4] at hk ⊢
  split at hk
  ·rename_i h5
   rw [if_pos h5]
   exact ⟨rfl,by dsimp only;omega,rfl,rfl,h2',h3,by omega,h5⟩
  ·cases hk
 ·rw [alloc_not hc] at hk
  cases hk
theorem alloc_no {ws :List Int} {h b n :Int} {f :Bool} {tag :Int} {ks :List Int} (hk :(allocOf ws h b n f tag ks).ok=false) :allocOf ws h b n f tag ks=⟨ws,n,0,false⟩ :=by
 unfold allocOf at hk ⊢
 split at hk
 ·cases hk
 ·rename_i h;rw [if_neg h]
theorem Putd.block {ws :List Int} {h b n :Nat} {f :Bool} {tag :Int} {ks :List Int} {P :Put} {ps :List Nat} (hP :Putd ws h b n f tag ks P) (hR :Right ws h b n ps) :
  blockOf P.ws h b P.next P.at_=some n∧hFun (P.ws.getD n 0)=f∧hTag (P.ws.getD n 0)=tag∧kidsAt P.ws n=ks :=by
 obtain ⟨t0,t1,t2,t3⟩ :=hdOf_told f tag ks.length hP.tag0.1 hP.tag0.2 hP.kids
 have hnl :=hR.n_le
 have hfr :=hR.frame.len
 have hb0 :=hR.frame.n0
 have hbb :=hR.frame.base
 have hfit :=hP.fit
 have e0 :P.ws.getD n 0=hdOf f tag ks.length :=by
  rw [hP.ws_]
  exact ov_at (ws :=ws) (p :=n) (j :=0) (ks :=hdOf f tag ks.length ::ks) (by simp) (by omega)
 rw [e0]
 refine ⟨?_,t1,t2,?_⟩
 ·unfold blockOf
  rw [if_pos hP.right,hP.next,hP.at_]
  have hp :placesOf P.ws ((b :Int)).toNat (((n+1+ks.length :Nat) :Int)).toNat=some (ps++ [n]) :=by
   unfold placesOf
   rw [Int.toNat_natCast,Int.toNat_natCast]
   exact places_snoc (ws :=ws) (nx :=n) (fun j hj=> by rw [hP.ws_];exact ov_low hj (by omega)) (by rw [e0];exact t0) (by rw [e0,t3]) _ _ _ _ hR.some hb0 (Nat.le_refl _) (Nat.le_refl _)
  rw [hp]
  have hm :(n :Int)∈nums (ps++ [n]) :=by simp [nums]
  simp only [hm,if_true,Int.toNat_natCast]
 ·unfold kidsAt
  rw [e0,t3,hP.ws_]
  unfold ov
  have hl :(ws.take n).length=n :=by simp;omega
  rw [List.drop_append,hl,List.drop_eq_nil_of_le (by omega),List.nil_append,show n+1-n=1 by omega,List.cons_append,List.drop_succ_cons,List.drop_zero,List.take_left]
end Go.Proofs.YtfmebaafpfkeiaaGreat
end
section
namespace Go.Proofs.YtfmebaafpfkeiaaGreat
open Go.RowKit
section
variable {P :Program} (w :World)
end
theorem wpList_app1_at {P :Program} {w :World} {ops :Array Oper} {rest :List Oper} {o :Oper} {a :Act} {Q :Exit→Act→World→Prop} (hgd :o.guard=none) (s x :Operand) (t :TypeId)
  (ho :o.op= .call {callee := .builtin .append,args := #[s,x],argTypes := #[t,t]})
  (base :Nat) (e :TypeId) (i :TypeInfo) (z :Value) (size bytes :Nat) (ht :P.underlying t=some (.slice e)) (hi :P.info? e=some i) (hz :i.zero=some z)
  (hsize :i.size=size) (hby :i.bytes=bytes) (hzs :z.cells.size=size) (hsz :0 < size)
  (v :Value) (n :Nat) (xs :List Value) (hs :a.eval s=v) (hown :w.ownsRow base e size v n xs) (us :Array Value) (hus :us.size=size) (h1 : ∀u∈us.toList,u.oneCell'=true)
  (H :Nat) (hH :w.heap.size=H) (hx :a.eval x= .slice (some ⟨H,0,none⟩) 1 1)
  (h63 :n+1≤maxLen) (hbytes :(n+1)*bytes≤140737488355328) (hbase :base≤w.heap.size)
  (h : ∀v' w',w'.ownsRow base e size v' (n+1) (xs++us.toList)→w.grownBy w' v.ownBlock→(v'.ownBlock=v.ownBlock∨v'.ownBlock=some (H+1))→wpList P ops Q rest (a.put o.dst v') w') :
  wpList P ops Q (o ::rest) a (w.alloc (.cells us e)) :=by
 subst hH
 refine wpList_plain hgd fun K hK=> ?_
 obtain ⟨v',w',hrun,h2,h3,_,h5⟩ :=run_append_own_at (P :=P) (w.alloc (.cells us e)) base t o.type e i z size bytes ht hi hz hsize hby hzs hsz v n xs (hown.alloc _) ⟨w.heap.size,0,none⟩ 1 1 us.toList (by simp [hus]) (by
  intro j u hj
  have hadd :(⟨w.heap.size,0,none⟩ :Addr).add j=⟨w.heap.size,j,none⟩ :=by unfold Addr.add;split <;> simp_all
  rw [hadd,World.cell?_alloc_at _ _ _ _ rfl]
  simpa using hj) h1 h63 hbytes (by simp;omega)
 unfold Oper.wp execOp
 simp only [ho,resolve,invoke,builtin,Sem.run_bind,Sem.run_pure,Result.andThen_ok,List.map_toArray,List.map_cons,List.map_nil,hs,hx,hrun]
 exact hK _ _ (h v' w' h2 ((World.grownBy_alloc w _ _).trans' h3) (by simpa using h5))
theorem own_cell_any {base :Nat} {e :TypeId} {w :World} {a :Option Addr} {cap n :Nat} {xs :List Value} (h :w.ownsRow base e 1 (.slice a n cap) n xs) (j :Nat) (hj :j < n) : ∃g,a=some ⟨g,0,none⟩∧w.cell? ⟨g,j,none⟩ =xs[j]? :=by
 rcases h.2 with ⟨hv,_⟩ | ⟨g,cap',cur,hv,_⟩
 ·injection hv with _ h2 _
  omega
 ·cases hv
  exact ⟨g,rfl,own_cell h j hj⟩
theorem alloc_cell {x :World} {o :Obj} {p :Addr} (h :p.block < x.heap.size) :(x.alloc o).cell? p=x.cell? p :=((Below.refl x.heap.size x).alloc (Nat.le_refl _) o).cell h
def cellAt (w :World) (p :Addr) :Value :=(w.cell? p).getD undef
def Has (w :World) (p :Addr) :Prop := ∃u,w.cell? p=some u
theorem Has.drew {w :World} {p :Addr} (h :Has w p) :Has w.drew p :=h
theorem Has.alloc {w :World} {p :Addr} (h :Has w p) (hp :p.block < w.heap.size) (o :Obj) :Has (w.alloc o) p :=by
 obtain ⟨u,hu⟩ :=h
 exact ⟨u,(alloc_cell hp).trans hu⟩
theorem Has.grown {w w' :World} {p :Addr} {row :Option Nat} (h :Has w p) (hg :w.grownBy w' row) (hp :p.block < w.heap.size) (hne :some p.block≠row) :Has w' p :=by
 obtain ⟨u,hu⟩ :=h
 exact ⟨u,(hg.cell_far p hp hne).trans hu⟩
theorem Has.setCell {w :World} {p :Addr} (h :Has w p) (q :Addr) (x :Value) :Has (w.setCell q x) p :=by
 obtain ⟨u,hu⟩ :=h
 obtain ⟨v,hv⟩ :=cell?_setCell_some (w :=w) (p :=q) (x :=x) (q :=p) (v :=u) hu
 exact ⟨v,hv⟩
end Go.Proofs.YtfmebaafpfkeiaaGreat
end
section
namespace Go.Proofs.YtfmebaafpfkeiaaGreat
open Go.RowKit
set_option maxHeartbeats 400000 in
theorem header_any (f :Bool) (tag :Int) (m :Nat) (w :World) (h0 :0≤tag) (h1 :tag≤3000) (h2 :m≤20) :
  Calls Tryz.prog 229 #[.bool f, .int .i64 tag, .int .i64 m] w fun e w'=> e= .returned (.int .i64 (hdOf f tag m))∧w'=w :=by
 have HI :=Lib.hid (fun (n :Int) (h :0≤n) (h' :n≤1000000)=> (show intW n=2*n+1 from if_pos (inB_true.2 ⟨by omega,by omega⟩)))
 cases f
 ·have HD :=Lib.hid (show hdOf false tag m=2*(2*(64*tag+m))+1 by simp [hdOf])
  go_enter Tryz.func229,Tryz.ntmps229
  go_wp2_with (go_at_call 158;refine (iIntWord_any _ _).mono ?_;rw [HI.out _ (by omega) (by omega)];rintro e w' ⟨rfl,rfl⟩)
  go_ret
  exact ⟨ret_int HD.out.symm,rfl⟩
 ·have HD :=Lib.hid (show hdOf true tag m=2*(2*(64*tag+m)+1)+1 by simp [hdOf])
  go_enter Tryz.func229,Tryz.ntmps229
  go_wp2_with (go_at_call 158;refine (iIntWord_any _ _).mono ?_;rw [HI.out _ (by omega) (by omega)];rintro e w' ⟨rfl,rfl⟩)
  go_ret
  exact ⟨ret_int HD.out.symm,rfl⟩
theorem alloc_box2 {w x :World} {A B :Array Value} {e f :TypeId} (h :(w.alloc (.cells A e)).alloc (.cells B f)=x) :
  Below w.heap.size w x∧Bx x w.heap.size A∧Bx x (w.heap.size+1) B∧x.heap.size=w.heap.size+2 :=by
 obtain ⟨b1,k1⟩ :=Bx.alloc (w :=w) (cur :=A) (e :=e) rfl
 obtain ⟨b2,k2⟩ :=Bx.alloc (w :=w.alloc (.cells A e)) (cur :=B) (e :=f) rfl
 have s1 :(w.alloc (.cells A e)).heap.size=w.heap.size+1 :=by simp
 rw [s1] at k2 b2
 subst h
 exact ⟨b1.trans (b2.mono (by omega)),k1.below b2 (by omega),k2,by simp⟩
set_option maxHeartbeats 800000 in
set_option maxRecDepth 100000 in
theorem copyHeap_any {B :Nat} (v :Value) (zs :List Int) (h b nx :Int) (w :World) (hr :Rd B .i64 w v zs) (hn :zs.length≤4294967296) :
  Calls Tryz.prog 66 #[.agg #[v, .int .i64 h, .int .i64 b, .int .i64 nx]] w fun e w'=> ∃v',e= .returned (.agg #[v', .int .i64 h, .int .i64 b, .int .i64 nx])∧
   w'.ownsRow w.heap.size 3 1 v' zs.length (zs.map (Value.int .i64))∧Below w.heap.size w w' :=by
 have hr' :=fun (w' :World) (hb :Below w.heap.size w w')=> hr.below' hb
 obtain ⟨a,cap,rfl⟩ :=hr.form
 clear hr
 go_enter Tryz.func66,Tryz.ntmps66
 go_wp2_with fail
 generalize hx :(w.alloc _).alloc _=x
 obtain ⟨bx,k1,k2,sx⟩ :=alloc_box2 hx
 clear hx
 have q1 :=k1.2.1
 have y1 :=k1.1
 go_wp2_with fail
 refine (clone_any _ _ _ (hr' _ bx) hn).mono ?_
 rintro e w1 ⟨v1,rfl,o1,b1⟩
 obtain ⟨a1,c1,rfl⟩ :=own_form o1
 clear q1 y1
 replace k1 :=k1.below b1 k1.1
 replace k2 :=k2.below b1 k2.1
 have q1 :=k1.2.1
 have q2 :=k2.2.1
 have f1 :=k1.2.2
 have f2 :=k2.2.2
 have y1 :=k1.1
 have y2 :=k2.1
 have HS :=Lib.hid sx
 clear k1 k2 sx hr'
 have HO :=Lib.hid o1
 have b2 :=bx.trans (b1.mono bx.size)
 clear o1 bx b1
 go_wp2
 refine bodyPost_ret (v := .agg #[.slice a1 zs.length c1, .int .i64 h, .int .i64 b, .int .i64 nx]) ?_ rfl ⟨_,rfl,?_,?_⟩
 ·simp [results,Tryz.results66,go_sem,q2]
 ·have hs :=HS.out
  refine own_base (base :=x.heap.size) ?_ (by omega)
  repeat (refine ownsRow_setCell_below ?_ (by dsimp only;omega) _)
  exact HO.out
 ·repeat (refine Below.setCell ?_ (by dsimp only;omega) _)
  exact b2
end Go.Proofs.YtfmebaafpfkeiaaGreat
end
section
namespace Go.Proofs.YtfmebaafpfkeiaaGreat
open Go.RowKit
theorem Bx.set {w :World} {g :Nat} {cur :Array Value} (h :Bx w g cur) (i :Nat) (hi :i < cur.size) (u :Value) :Bx (w.setCell ⟨g,i,none⟩ u) g (cur.setIfInBounds i u) :=by
 refine ⟨by rw [World.size_setCell];exact h.1,fun j=> ?_,fun j=> by rw [World.frozen?_setCell];exact h.2.2 j⟩
 by_cases hj :i=j
 ·subst hj
  rw [World.cell?_setCell_same _ _ _ ((h.2.1 i).trans (Array.getElem?_eq_getElem hi))]
  simp [hi]
 ·rw [World.cell?_setCell_other _ _ _ _ (by intro he;injection he;exact hj (by assumption)),h.2.1 j,Array.getElem?_setIfInBounds_ne hj]
theorem grownBy.row {w w' :World} {g :Nat} (cs :Array Value) (h :w.setRow g cs=w') :w.grownBy w' (some g) :=by
 subst h
 exact ⟨rfl,rfl,rfl,by simp,fun k _ hne=> setRow_other w g k cs (by intro h;exact hne (by rw [h]))⟩
def Kept2 (w w' :World) (g gr :Nat) :Prop :=w.heap.size≤w'.heap.size∧∀i,i < w.heap.size→i≠g→i≠gr→w'.heap[i]?=w.heap[i]?
theorem Kept2.grown {a b c :World} {g gr :Nat} {row :Option Nat} (h :Kept2 a b g gr) (k :b.grownBy c row) (hr :row=some g∨row=some gr) :Kept2 a c g gr :=
 ⟨Nat.le_trans h.1 k.size,fun i hi h1 h2=> (k.block i (Nat.lt_of_lt_of_le hi h.1) (by rcases hr with e | e <;> (rw [e];intro hh;have :=Option.some.inj hh;omega))).trans (h.2 i hi h1 h2)⟩
theorem Kept2.drew (w :World) (g gr :Nat) :Kept2 w w.drew g gr :=⟨Nat.le_refl _,fun i _ _ _=> rfl⟩
set_option maxHeartbeats 800000 in
set_option maxRecDepth 100000 in
theorem alloc_any2 {base B g :Nat} (v vk :Value) (ws ks :List Int) (h b :Int) (n :Nat) (f :Bool) (tag :Int) (w :World) (kb :Bx w g #[v, .int .i64 h, .int .i64 b, .int .i64 n])
  (ho :w.ownsRow base 3 1 v ws.length (ws.map (Value.int .i64))) (hg :base≤g) (hne :some g≠v.ownBlock) (rk :Rd B .i64 w vk ks) (hB :B≤base) (h0 :0≤tag) (h1 :tag≤3000) (h2 :ks.length≤20) (hfit :n+1+ks.length≤ws.length) (hlen :ws.length≤6000) :
  Calls Tryz.prog 142 #[.pointer (some ⟨g,0,none⟩), .bool f, .int .i64 tag,vk] w fun e w'=> e= .returned (.int .i64 n)∧
   w'.ownsRow base 3 1 v ws.length ((ov ws n (hdOf f tag ks.length ::ks)).map (Value.int .i64))∧Bx w' g #[v, .int .i64 h, .int .i64 b, .int .i64 (n+(1+ks.length))]∧Below base w w'∧∀gr,v.ownBlock=some gr→Kept2 w w' g gr :=by
 obtain ⟨a,cap,rfl⟩ :=own_form ho
 obtain ⟨ka,kc,rfl⟩ :=rk.form
 rcases ho.2 with ⟨hv,_⟩ | ⟨gr,cap',cur',hv,_⟩
 ·injection hv;omega
 cases hv
 have hbg :base≤gr :=(ho.lt gr rfl).1
 have hcap :ws.length≤cap :=by obtain ⟨_,_,_,_,h⟩ :=own_cells ho;exact h
 have q1 :=kb.2.1
 have f1 :=kb.2.2
 have y1 :=kb.1
 have hnn :(n :Int) < (ws.length :Int) :=by omega
 have hgr : ¬g=gr :=fun h=> hne (by rw [h];rfl)
 have hgr' : ¬gr=g :=fun h=> hgr h.symm
 obtain ⟨i0,hi,hz0,hz1,hz2⟩ :=info_parts Tryz.infoI2
 have hhd :=hdOf_in f tag ks.length h0 h1 h2
 obtain ⟨hd,hhe⟩ : ∃hd,hdOf f tag ks.length=hd :=⟨_,rfl⟩
 have hC :=fun (w :World)=> header_any f tag ks.length w h0 h1 h2
 rw [hhe] at hC hhd ⊢
 obtain ⟨hd0,hd1⟩ :=hhd
 have HC :=Lib.hid hC
 clear hC hhe
 generalize hwd :w.drew=w2
 have bd :Below w.heap.size w w2 :=by rw [← hwd];exact (Below.refl _ _).drew
 have k2 :=kb.below bd y1
 have bb :=bd.mono (show base≤w.heap.size by omega)
 have o2 :=own_below ho bd (own_lt ho)
 have o3 :=own_set o2 n (by omega) (.int .i64 hd)
 rw [← List.map_set,ov_one _ (by omega)] at o3
 have k3 :=k2.grown (grownBy.setCell w2 gr n (.int .i64 hd)) (fun h=> hgr (Option.some.inj h))
 have bb3 :=bb.setCell (p :=⟨gr,n,none⟩) hbg (.int .i64 hd)
 have r3 :=rk.below bb3 hB
 have c1 :=own_cell o2 n (by omega)
 rw [List.getElem?_map,List.getElem?_eq_getElem (by omega),Option.map_some] at c1
 have c2 :=own_frozen o2 n
 have q2 :=k2.2.1
 have f2 :=k2.2.2
 have q3 :=k3.2.1
 have kp :=(Kept2.drew w g gr)
 rw [hwd] at kp
 have KP :=Lib.hid (kp.grown (grownBy.setCell w2 gr n (.int .i64 hd)) (.inr rfl))
 clear kp
 have HW :=Lib.hid hwd
 have O3 :=Lib.hid o3
 have K3 :=Lib.hid k3
 have B3 :=Lib.hid bb3
 have R3 :=Lib.hid r3
 clear kb ho k2 bb bd o2 o3 k3 bb3 r3 rk hwd
 by_cases hk :ks.length=0
 ·have hkn :ks= [] :=List.eq_nil_of_length_eq_zero hk
  subst hkn
  by_cases hcp :cap=n+1
  ·subst hcp
   go_enter Tryz.func142,Tryz.ntmps142
   go_wp2_with fail
   go_still_tail 11,(by kernel_rfl)
   still_call (HC.out _)
   repeat still_step
   try refine wpStill_nil ?_
   change wpList _ _ _ _ _ w.drew
   rw [HW.out]
   go_wp2_with ((with_reducible (show wpList _ _ _ (⟨_, .call ⟨.builtin .copy,_,_⟩,_,_,_,_⟩ ::_) _ _));refine wpList_copy_nothing rfl _ _ 27 27 rfl 3 Tryz.underlying27 (by kernel_rfl) _ _ _ _ _ _ rfl rfl (Nat.zero_min _) ?_)
   have o4 :=O3.out
   have k4 :=K3.out
   have bb4 :=B3.out
   have q4 :=k4.2.1
   have f4 :=k4.2.2
   have K4 :=Lib.hid k4
   have O4 :=Lib.hid o4
   have B4 :=Lib.hid bb4
   clear k4 o4 bb4
   go_wp2
   go_ret
   exact ⟨rfl,ownsRow_setCell_other O4.out (by intro h;exact hgr' (Option.some.inj h)) _,K4.out.set 3 (by simp) _,B4.out.setCell hg _,fun r hr=> by cases hr;exact KP.out.grown (grownBy.setCell _ g 3 _) (.inl rfl)⟩
  ·go_enter Tryz.func142,Tryz.ntmps142
   go_wp2_with fail
   go_still_tail 11,(by kernel_rfl)
   still_call (HC.out _)
   repeat still_step
   try refine wpStill_nil ?_
   change wpList _ _ _ _ _ w.drew
   rw [HW.out]
   go_wp2_with ((with_reducible (show wpList _ _ _ (⟨_, .call ⟨.builtin .copy,_,_⟩,_,_,_,_⟩ ::_) _ _));refine wpList_copy_nothing rfl _ _ 27 27 rfl 3 Tryz.underlying27 (by kernel_rfl) _ _ _ _ _ _ rfl rfl (Nat.zero_min _) ?_)
   have o4 :=O3.out
   have k4 :=K3.out
   have bb4 :=B3.out
   have q4 :=k4.2.1
   have f4 :=k4.2.2
   have K4 :=Lib.hid k4
   have O4 :=Lib.hid o4
   have B4 :=Lib.hid bb4
   clear k4 o4 bb4
   go_wp2
   go_ret
   exact ⟨rfl,ownsRow_setCell_other O4.out (by intro h;exact hgr' (Option.some.inj h)) _,K4.out.set 3 (by simp) _,B4.out.setCell hg _,fun r hr=> by cases hr;exact KP.out.grown (grownBy.setCell _ g 3 _) (.inl rfl)⟩
 ·have hcp : ¬cap=n+1 :=by omega
  have hka : ∃ad,ka=some ad :=by
   rcases R3.out with ⟨h,_⟩ | ⟨_,_,_,h,_⟩
   ·exact absurd (by rw [h];rfl) hk
   ·injection h with h;exact ⟨_,h⟩
  obtain ⟨ad,rfl⟩ :=hka
  have hnews :=(R3.out.news (Below.refl _ _)).2
  obtain ⟨cur,hc,hcl,_,_⟩ :=own_cells O3.out
  have HN :=Lib.hid hnews
  have HCU :=Lib.hid hc
  clear hnews hc
  go_enter Tryz.func142,Tryz.ntmps142
  go_wp2_with fail
  go_still_tail 11,(by kernel_rfl)
  still_call (HC.out _)
  repeat still_step
  try refine wpStill_nil ?_
  change wpList _ _ _ _ _ w.drew
  rw [HW.out]
  go_wp2_with ((with_reducible (show wpList _ _ _ (⟨_, .call ⟨.builtin .copy,_,_⟩,_,_,_,_⟩ ::_) _ _));refine wpList_copy_own rfl _ _ 27 27 rfl 3 Tryz.underlying27 (by kernel_rfl) gr (n+1) _ _ ad _ _ rfl rfl cur.toArray 3 HCU.out (ks.map (Value.int .i64)) (by rw [List.length_map];exact (Nat.min_eq_left (by omega)).symm) HN.out (by rw [List.size_toArray,List.length_map];omega) (ints_one _ _) ?_;generalize hw4 :World.setRow _ _ _=w4;have g4 :=grownBy.row _ hw4;have hh4 :w4.heap[gr]?=some (.cells (splice cur (n+1) (ks.map (Value.int .i64))).toArray 3 (0,0)) :=(by rw [← hw4,setRow_heap _ gr _ _ _ _ HCU.out];simp [splice]);have k4 :=K3.out.grown g4 (fun h=> hgr (Option.some.inj h));have q4 :=k4.2.1;have f4 :=k4.2.2;have K4 :=Lib.hid k4;have H4 :=Lib.hid hh4;have G4 :=Lib.hid g4;clear k4 hh4 g4 hw4)
  have o4 :=own_splice O3.out cur HCU.out (n+1) (ks.map (Value.int .i64)) H4.out (by simp;omega)
  rw [show splice ((ov ws n [hd]).map (Value.int .i64)) (n+1) (ks.map (Value.int .i64))=(ov ws n (hd ::ks)).map (Value.int .i64) by rw [splice_map];exact congrArg _ (ov_cons _ _ _ _ (by omega)).symm] at o4
  have bb4 :=B3.out.trans (Below.of_grown (B :=base) G4.out (by have :=B3.out.size;omega) (fun k h=> by cases h;exact hbg))
  have O4 :=Lib.hid o4
  have B4 :=Lib.hid bb4
  clear o4 bb4
  go_ret
  exact ⟨rfl,ownsRow_setCell_other O4.out (by intro h;exact hgr' (Option.some.inj h)) _,K4.out.set 3 (by simp) _,B4.out.setCell hg _,fun r hr=> by cases hr;exact (KP.out.grown G4.out (.inr rfl)).grown (grownBy.setCell _ g 3 _) (.inl rfl)⟩
end Go.Proofs.YtfmebaafpfkeiaaGreat
end
section
namespace Go.Proofs.YtfmebaafpfkeiaaGreat
open Go.RowKit
structure Seen (w :World) (base gn go gr N cap :Nat) (ov :Value) (o :List Nat) :Prop where
 bn :Bx w gn #[.slice (some ⟨gr,0,none⟩) N cap]
 bo :Bx w go #[ov]
 on :w.ownsRow base 3 1 (.slice (some ⟨gr,0,none⟩) N cap) N ((numbers o N).map (Value.int .i64))
 oo :w.ownsRow base 3 1 ov o.length (o.map ofN)
 ap : ∀k,ov.ownBlock=some k→k≠gn∧k≠go∧k≠gr
structure Apart (base gn go gr :Nat) :Prop where
 a :base≤gn
 b :base≤go
 c :gn≠go
 d :gr≠gn
 e :gr≠go
theorem Seen.below {w w' :World} {base gn go gr N cap :Nat} {ov :Value} {o :List Nat} (h :Seen w base gn go gr N cap ov o) (hb :Below w.heap.size w w') :Seen w' base gn go gr N cap ov o :=
 ⟨h.bn.below hb h.bn.1,h.bo.below hb h.bo.1,own_below h.on hb (own_lt h.on),own_below h.oo hb (own_lt h.oo),h.ap⟩
set_option maxHeartbeats 1600000 in
set_option maxRecDepth 100000 in
theorem see_any {B base gn go gr N cap :Nat} (hA :Apart base gn go gr) (ov v :Value) (ps o :List Nat) (xs :List Int) (w :World) (hS :Seen w base gn go gr N cap ov o) (hr :Rd B .i64 w v xs) (hB :B≤base)
  (ho :Ordered ps o) (hx :xs.all (wordIn ps)=true) (hp : ∀p∈ps,p < N) (hN :N≤6000) (hpl :ps.length≤6000) (hxl :xs.length≤4294967296) :
  Calls Tryz.prog 145 #[v, .pointer (some ⟨gn,0,none⟩), .pointer (some ⟨go,0,none⟩)] w fun e w'=> e= .returned (.tuple #[])∧(∃ov',Seen w' base gn go gr N cap ov' (seeL o xs))∧Below base w w' :=by
 obtain ⟨a,c,rfl⟩ :=hr.form
 obtain ⟨i0,hi,hz0,hz1,hz2⟩ :=info_parts Tryz.infoI2
 have RK :=Lib.hid (fun (W :World) (hb :Below base w W)=> hr.below hb hB)
 clear hr
 go_enter Tryz.func145,Tryz.ntmps145
 have hA1 :=hA.a
 have hA2 :=hA.b
 have hA3 :=hA.c
 have hA4 :=hA.d
 have hA5 :=hA.e
 have hA3' : ¬go=gn :=fun h=> hA3 h.symm
 clear hA
 go_wp2
 go_loopw [9] (fun i wr=> ∃(k :Nat) (ov' :Value),k≤xs.length∧i= .int .i64 k∧Seen wr base gn go gr N cap ov' (seeL o (xs.take k))∧Below base w wr) (fun i _=> xs.length-(intOf i).toNat)
 case atStart=> exact ⟨0,ov,Nat.zero_le _,rfl,hS,Below.refl _ _⟩
 case round=>
  clear hS
  obtain ⟨k,ov',hk,rfl,hS,hb⟩ :=hrel
  by_cases hlt :k < xs.length
  ·rcases RK.out _ hb with ⟨h',_⟩ | ⟨bl,off,c',hv,_,hbs,_,hc⟩
   ·rw [h'] at hlt;simp at hlt
   cases hv
   have c0 :=hc k hlt
   have hx1 :=all_get hx hlt
   have hoS :=seeL_ok ho (all_take k hx)
   have hst :=seeL_take (o :=o) hlt
   obtain ⟨S,hSe⟩ : ∃S,seeL o (xs.take k)=S :=⟨_,rfl⟩
   obtain ⟨x,hxx⟩ : ∃x,xs.getD k 0=x :=⟨_,rfl⟩
   rw [hSe] at hS hoS hst
   rw [hxx] at c0 hx1 hst
   have hSl :S.length≤6000 :=Nat.le_trans (nodup_len S ps hoS.1 hoS.2) hpl
   have HST :=Lib.hid hst
   clear hst hSe hxx hc
   have hkx :(k :Int) < (xs.length :Int) :=by omega
   by_cases hev :x%2=0
   ·obtain ⟨p,hpp,hpx⟩ :=wordIn_ref hx1 hev
    have hpN :=hp p hpp
    have HX :=Lib.hid hpx
    have hpe :(x/2).toNat=p :=by omega
    have HSW :=Lib.hid (show seeW S x=if p∈S then S else S++ [p] by unfold seeW;rw [if_pos hev,hpe])
    have e1 :(x%2==0)=true :=by simp;omega
    have cn :=own_cell hS.on p hpN
    rw [List.getElem?_map,List.getElem?_eq_getElem (by rw [numbers_len];exact hpN),Option.map_some,show (numbers S N)[p]'(by rw [numbers_len];exact hpN)=numOf S p by simp [numbers]] at cn
    have fn :=own_frozen hS.on p
    have q1 :=hS.bn.2.1
    have y1 :=hS.bn.1
    clear hpx hpe
    by_cases hin :p∈S
    ·have hm :=(numOf_in hin).1
     obtain ⟨m,hmm⟩ : ∃m,numOf S p=m :=⟨_,rfl⟩
     rw [hmm] at cn hm
     have HS :=Lib.hid hS
     have HIN :=Lib.hid hin
     have HB :=Lib.hid hb
     clear hmm hS hin hb
     have hpi :(p :Int) < (N :Int) :=by omega
     go_wp2_with (first | (go_at_call 72;refine (iWordRef_any _ _).mono ?_;rw [← HX.out];rintro e w' ⟨rfl,rfl⟩) | (go_at_call 71;refine (iIsRef_any _ _).mono ?_;rintro e w' ⟨rfl,rfl⟩))
     go_roundw
     case rel=> exact ⟨k+1,ov',hlt,by go_num,by rw [HST.out,HSW.out,if_pos HIN.out];exact HS.out,HB.out⟩
     case measure=> simp [intOf];omega
    ·rw [numOf_out hin] at cn
     have on3 :=own_set hS.on p hpN (.int .i64 S.length)
     rw [← List.map_set,numbers_push hin hpN] at on3
     have g3 :=grownBy.setCell wr gr p (.int .i64 S.length)
     have bn3 :=hS.bn.grown g3 (fun h=> hA4 (Option.some.inj h).symm)
     have bo3 :=hS.bo.grown g3 (fun h=> hA5 (Option.some.inj h).symm)
     have oo3 :=ownsRow_setCell_other (a :=⟨gr,p,none⟩) hS.oo (fun h=> (hS.ap _ h).2.2 rfl) (.int .i64 S.length)
     have hb3 :=hb.setCell (p :=⟨gr,p,none⟩) (hS.on.lt gr rfl).1 (.int .i64 S.length)
     have hap :=hS.ap
     obtain ⟨oa,oc,rfl⟩ :=own_form hS.oo
     have q2 :=hS.bo.2.1
     have y2 :=hS.bo.1
     have y3 :=(hS.on.lt gr rfl).2
     have ON :=Lib.hid on3
     have BN :=Lib.hid bn3
     have BO :=Lib.hid bo3
     have OO :=Lib.hid oo3
     have HB :=Lib.hid hb3
     have AP :=Lib.hid hap
     have HIN :=Lib.hid hin
     have hpi :(p :Int) < (N :Int) :=by omega
     have nz :=hb.size
     clear hS hb on3 g3 bn3 bo3 oo3 hb3 hap hin
     go_wp2_with (first | (go_at_call 72;refine (iWordRef_any _ _).mono ?_;rw [← HX.out];rintro e w' ⟨rfl,rfl⟩) | (go_at_call 71;refine (iIsRef_any _ _).mono ?_;rintro e w' ⟨rfl,rfl⟩) | (at_builtin;refine wpList_app1_at rfl _ _ 27 rfl base 3 i0 (.int .i64 0) 1 8 Tryz.underlying27 hi hz0 hz1 hz2 rfl (by decide) _ _ _ rfl OO.out #[_] rfl ?_ wr.heap.size (World.size_setCell _ _ _) rfl ?_ ?_ ?_ ?_))
     ·rfl
     ·unfold maxLen;omega
     ·omega
     ·simp;omega
     ·intro v' w4 ho4 hg4 hat4
      have wz :(wr.setCell ⟨gr,p,none⟩ (.int .i64 S.length)).heap.size=wr.heap.size :=by simp
      have ha4 : ∀k,v'.ownBlock=some k→k≠gn∧k≠go∧k≠gr :=by
       intro k hk
       rcases hat4 with h | h
       ·exact AP.out k (h▸hk)
       ·rw [h] at hk
        have :=Option.some.inj hk
        omega
      have on4 :=ON.out.kept hg4 (.inr (fun h=> by have :=AP.out _ h.symm;exact this.2.2 rfl))
      have bn4 :=BN.out.grown hg4 (fun h=> (AP.out _ h.symm).1 rfl)
      have bo4 :=BO.out.grown hg4 (fun h=> (AP.out _ h.symm).2.1 rfl)
      have hb4 :=HB.out.trans (Below.of_grown (B :=base) hg4 (by rw [wz];omega) (fun k hk=> (OO.out.lt k hk).1))
      have S5 :Seen (w4.setCell ⟨go,0,none⟩ v') base gn go gr N cap v' (seeL o (xs.take (k+1))) :=by
       rw [HST.out,HSW.out,if_neg HIN.out]
       refine ⟨bn4.grown (grownBy.setCell w4 go 0 v') (fun h=> hA3 (Option.some.inj h)),bo4.set 0 (by simp) v',ownsRow_setCell_other (a :=⟨go,0,none⟩) on4 (fun h=> hA5 (Option.some.inj h)) v',?_,ha4⟩
       refine ownsRow_setCell_other (a :=⟨go,0,none⟩) ?_ (fun h=> (ha4 _ h).2.1 rfl) v'
       simpa [ofN] using ho4
      have B5 :Below base w (w4.setCell ⟨go,0,none⟩ v') :=hb4.setCell hA2 v'
      have q5 :=bo4.2.1
      have f5 :=bo4.2.2
      have hv5 : ∃a c,v'= .slice a (S.length+1) c :=own_form ho4
      obtain ⟨a5,c5,rfl⟩ :=hv5
      have HS5 :=Lib.hid S5
      have HB5 :=Lib.hid B5
      clear S5 B5 bn4 on4 bo4 hb4 ha4 hat4 hg4 ho4 wz q1 q2
      go_wp2
      go_roundw
      case rel=> exact ⟨k+1,_,hlt,by go_num,HS5.out,HB5.out⟩
      case measure=> simp [intOf];omega
   ·have e1 :(x%2==0)=false :=by simp;omega
    have HSW :=Lib.hid (show seeW S x=S by unfold seeW;rw [if_neg hev])
    have HS :=Lib.hid hS
    have HB :=Lib.hid hb
    clear hev hS hb
    go_wp2_with (first | (go_at_call 72;refine (iWordRef_any _ _).mono ?_;rintro e w' ⟨rfl,rfl⟩) | (go_at_call 71;refine (iIsRef_any _ _).mono ?_;rintro e w' ⟨rfl,rfl⟩))
    go_roundw
    case rel=> exact ⟨k+1,ov',hlt,by go_num,by rw [HST.out,HSW.out];exact HS.out,HB.out⟩
    case measure=> simp [intOf];omega
  ·obtain rfl :k=xs.length :=by omega
   rw [List.take_of_length_le (Nat.le_refl _)] at hS
   have HS :=Lib.hid hS
   have HB :=Lib.hid hb
   clear hS hb
   go_wp2
   go_end0
   exact ⟨rfl,⟨ov',HS.out⟩,HB.out⟩
end Go.Proofs.YtfmebaafpfkeiaaGreat
end
section
namespace Go.Proofs.YtfmebaafpfkeiaaGreat
open Go.RowKit
theorem mkRow_numbers (xs :List Value) (N :Nat) (h :xs.length=N) :mkRow (fun _=> Value.int .i64 (-1)) xs N=(numbers [] N).map (Value.int .i64) :=by
 rw [mkRow_all _ _ _ h,numbers_nil,List.map_replicate]
 refine List.ext_getElem (by simp) fun i h1 h2=> by simp
set_option maxHeartbeats 4000000 in
set_option maxRecDepth 100000 in
theorem met_any {B :Nat} (v vr :Value) (ws rs :List Int) (h b n :Nat) (ps :List Nat) (w :World) (hR :Right ws h b n ps) (hr :Rd B .i64 w v ws) (hw :intsOk ws) (hq :Rd B .i64 w vr rs) (hx :rs.all (wordIn ps)=true) (hrl :rs.length≤4294967296) :
  Calls Tryz.prog 69 #[.agg #[v, .int .i64 h, .int .i64 b, .int .i64 n],vr] w fun e w'=> ∃ov nv,e= .returned (.tuple #[ov,nv])∧w'.ownsRow w.heap.size 3 1 ov (orderOf ws rs).length ((orderOf ws rs).map ofN)∧
   Rd w'.heap.size .i64 w' nv (numbers (orderOf ws rs) ws.length)∧Below w.heap.size w w' :=by
 obtain ⟨i0,hi,hz0,hz1,hz2⟩ :=info_parts Tryz.infoI2
 have hN0 :=hR.n_le
 have hNz :0 < ws.length :=by have :=hR.frame.len;have :=hR.frame.h0;omega
 obtain ⟨hN1,hN2⟩ :=hN0
 have hbl :=fun (B :Nat) (W :World) (p :Nat) (hp :p∈ps) (hr :Rd B .i64 W v ws)=> blockAt_any v ws h b n p W hr hw (hR.at_ hp).2.2.1 (Nat.le_trans (hR.at_ hp).2.2.2.1 hN1) (by omega)
 have HBL :=Lib.hid hbl
 have hpN : ∀p∈ps,p < ws.length :=fun p hp=> Nat.lt_of_lt_of_le (hR.at_ hp).2.1 hN1
 have hpl :ps.length≤6000 :=by have :=hR.len;omega
 have RW :=Lib.hid (fun (W :World) (hb :Below w.heap.size w W)=> hr.below' hb)
 have RQ :=Lib.hid (fun (W :World) (hb :Below w.heap.size w W)=> hq.below' hb)
 have HRi :=Lib.hid hR
 have HPN :=Lib.hid hpN
 have HXR :=Lib.hid hx
 have hkl :=fun (p :Nat)=> kidsAt_le ws p
 have HKL :=Lib.hid hkl
 obtain ⟨a,cap,rfl⟩ :=hr.form
 obtain ⟨qa,qc,rfl⟩ :=hq.form
 clear hr hq hw hbl hR hpN hx hkl
 go_enter Tryz.func69,Tryz.ntmps69
 go_wp2_with (refine wpList_make_full _ rfl (.tmp 17) (.tmp 17) 27 rfl (w.heap.size+1) 3 i0 (.int .i64 0) 1 Tryz.underlying27 hi hz0 hz1 .i64 .i64 _ _ ws.length rfl rfl rfl rfl ?_ ?_ ?_ ?_)
 ·rw [hz2];omega
 ·unfold maxLen;omega
 ·simp
 ·intro w1 hown hgrow
  generalize hx :((w.alloc _).alloc _).alloc _=x at hgrow
  have hoo :x.ownsRow (w.heap.size+1) 3 1 (.slice (some ⟨w.heap.size+1,0,none⟩) 0 0) 0 [] :=by
   rw [← hx]
   exact (own_empty (by simp) (by simp)).alloc _
  obtain ⟨bx,k1,_,k3,sx⟩ :=alloc_box3 hx
  have b1 :Below w.heap.size w w1 :=bx.trans (Below.of_grown hgrow (by omega) (fun k hk=> by cases hk))
  have k11 :=k1.grown hgrow (fun h=> by cases h)
  have k13 :=k3.grown hgrow (fun h=> by cases h)
  have oo1 :=hoo.kept hgrow (.inr (fun h=> by cases h))
  obtain ⟨xs,hown,hlen⟩ : ∃xs,w1.ownsRow (w.heap.size+1) 3 1 (.slice (some ⟨w.heap.size+1+1+1,0,none⟩) ws.length ws.length) ws.length xs∧xs.length=ws.length :=⟨_,hown,by simpa using hown.1⟩
  have HL :=Lib.hid hlen
  have hg1 :=(hown.lt _ rfl).2
  obtain ⟨gr,hgr⟩ : ∃gr,w.heap.size+1+1+1=gr :=⟨_,rfl⟩
  rw [hgr] at hown hg1 ⊢
  obtain ⟨go,hgo⟩ : ∃go,w.heap.size+2=go :=⟨_,rfl⟩
  rw [hgo] at k13
  have hgo' :w.heap.size+1+1=go :=hgo
  have e1 :w.heap.size+1 < go :=by omega
  have e2 :go < gr :=by omega
  clear hgrow hlen hoo bx k1 k3 hx sx
  go_wp2
  generalize hx :w1.alloc _=x1
  obtain ⟨bx,k2⟩ :=Bx.alloc hx
  have z1 :=bx.size
  have k21 :=k11.below bx k11.1
  have k23 :=k13.below bx k13.1
  have oo2 :=own_below oo1 bx (own_lt oo1)
  have on2 :=own_below hown bx (own_lt hown)
  have b2 :=b1.trans (bx.mono b1.size)
  obtain ⟨gn,hgn⟩ : ∃gn,w1.heap.size=gn :=⟨_,rfl⟩
  rw [hgn] at k2 ⊢
  have e3 :gr < gn :=by omega
  have e4 :gn < x1.heap.size :=k2.1
  have HGO :=Lib.hid hgo
  have HGR :=Lib.hid hgr
  have HGN :=Lib.hid hgn
  have K21 :=Lib.hid k21
  have K23 :=Lib.hid k23
  have K2 :=Lib.hid k2
  have OO2 :=Lib.hid oo2
  have ON2 :=Lib.hid on2
  have B2 :=Lib.hid b2
  clear hx bx k11 k13 oo1 hown b1 hgo hgr hgn hgo' k21 k23 oo2 on2 b2 hg1
  clear k2
  go_loopw [21] (fun i wr=> ∃k :Nat,k≤ws.length∧i= .int .i64 k∧wr.ownsRow (w.heap.size+1) 3 1 (.slice (some ⟨gr,0,none⟩) ws.length ws.length) ws.length (mkRow (fun _=> Value.int .i64 (-1)) xs k)∧
   Bx wr w.heap.size #[.slice a ws.length cap, .int .i64 h, .int .i64 b, .int .i64 n]∧Bx wr go #[.slice (some ⟨w.heap.size+1,0,none⟩) 0 0]∧Bx wr gn #[.slice (some ⟨gr,0,none⟩) ws.length ws.length]∧
   wr.ownsRow (w.heap.size+1) 3 1 (.slice (some ⟨w.heap.size+1,0,none⟩) 0 0) 0 []∧Below w.heap.size w wr) (fun i _=> ws.length-(intOf i).toNat)
  case atStart=> exact ⟨0,Nat.zero_le _,rfl,by rw [mkRow_zero];exact ON2.out,K21.out,K23.out,K2.out,OO2.out,B2.out⟩
  case round=>
   clear K21 K23 K2 OO2 ON2 B2
   obtain ⟨k,hk,rfl,hon,k1,k3,k2,hoo,hb⟩ :=hrel
   by_cases hlt :k < ws.length
   ·have c1 :=own_cell hon k hlt
    rw [mkRow_get _ _ _ (by rw [HL.out];exact hlt)] at c1
    have f1 :=own_frozen hon k
    have on3 :=own_set hon k hlt (.int .i64 (-1))
    rw [mkRow_set (fun _=> Value.int .i64 (-1)) xs k (by rw [HL.out];exact hlt)] at on3
    have g3 :=grownBy.setCell wr gr k (.int .i64 (-1))
    have k13 :=k1.grown g3 (fun h=> by have :=Option.some.inj h;omega)
    have k33 :=k3.grown g3 (fun h=> by have :=Option.some.inj h;omega)
    have k23 :=k2.grown g3 (fun h=> by have :=Option.some.inj h;omega)
    have oo3 :=hoo.kept g3 (.inr (fun h=> absurd (Option.some.inj h) (by show ¬(w.heap.size+1=gr);omega)))
    have b3 :=hb.setCell (p :=⟨gr,k,none⟩) (by dsimp only;omega) (.int .i64 (-1))
    have q2 :=k2.2.1
    have hki :(k :Int) < (ws.length :Int) :=by omega
    have K13 :=Lib.hid k13
    have K33 :=Lib.hid k33
    have K23 :=Lib.hid k23
    have OO3 :=Lib.hid oo3
    have ON3 :=Lib.hid on3
    have B3 :=Lib.hid b3
    clear k13 k33 k23 oo3 on3 b3 g3 hon hoo hb k1 k2 k3
    go_wp2
    go_roundw
    case rel=> exact ⟨k+1,hlt,by go_num,ON3.out,K13.out,K33.out,K23.out,OO3.out,B3.out⟩
    case measure=> simp [intOf];omega
   ·obtain rfl :k=ws.length :=by omega
    rw [mkRow_numbers _ _ HL.out] at hon
    have hA :Apart (w.heap.size+1) gn go gr :=⟨by omega,by omega,by omega,by omega,by omega⟩
    have hS :Seen wr (w.heap.size+1) gn go gr ws.length ws.length (.slice (some ⟨w.heap.size+1,0,none⟩) 0 0) [] :=⟨k2,k3,hon,hoo,fun k h=> by have e :w.heap.size+1=k :=Option.some.inj h;subst e;exact ⟨by omega,by omega,by omega⟩⟩
    have HC :=Lib.hid (see_any (B :=w.heap.size) hA _ (.slice qa rs.length qc) ps [] rs wr hS (RQ.out _ hb) (by omega) (ordered_nil ps) HXR.out HPN.out (by omega) hpl hrl)
    have K1 :=Lib.hid k1
    have HB :=Lib.hid hb
    clear hA hS hon hoo k1 k2 k3 hb
    go_wp2_with fail
    refine HC.out.mono ?_
    rintro e w2 ⟨rfl,⟨ov,hS⟩,b2⟩
    have k1 :=K1.out.below b2 (by omega)
    have b4 :=HB.out.trans (b2.mono (by have :=HB.out.size;omega))
    have hoS :=seeL_ok (ordered_nil ps) HXR.out
    have hbf :bfs ws (ws.length-0) 0 (seeL [] rs)=orderOf ws rs :=rfl
    obtain ⟨S0,hS0⟩ : ∃S0,seeL [] rs=S0 :=⟨_,rfl⟩
    rw [hS0] at hS hoS hbf
    have K4 :=Lib.hid k1
    have S4 :=Lib.hid hS
    have O4 :=Lib.hid hoS
    have F4 :=Lib.hid hbf
    have B4 :=Lib.hid b4
    clear hS hoS hbf k1 b4 b2 K1 HB hS0 HC
    go_wp2
    go_loopw [10] (fun t wr=> ∃(i :Nat) (ov' :Value) (S :List Nat),t= .int .i64 i∧i≤S.length∧Seen wr (w.heap.size+1) gn go gr ws.length ws.length ov' S∧Ordered ps S∧Hid (bfs ws (ws.length-i) i S=orderOf ws rs)∧
     Bx wr w.heap.size #[.slice a ws.length cap, .int .i64 h, .int .i64 b, .int .i64 n]∧Below w.heap.size w wr) (fun t _=> ws.length-(intOf t).toNat)
    case atStart=> exact ⟨0,ov,S0,rfl,Nat.zero_le _,S4.out,O4.out,F4.out,K4.out,B4.out⟩
    case round=>
     clear S4 O4 F4 K4 B4
     obtain ⟨i,ov',S,rfl,hiS,hS,hO,hf,k1,hb⟩ :=hrel
     have hSl :=HRi.out.ord_len hO
     obtain ⟨oa,oc,rfl⟩ :=own_form hS.oo
     by_cases hlt :i < S.length
     ·have hpm :S.getD i 0∈ps :=hO.2 _ (get_mem hlt)
      have co :=own_cell_any hS.oo i hlt
      have hf' :=hf.out
      rw [show ws.length-i=(ws.length-(i+1))+1 by omega,bfs_go hlt] at hf'
      have hO' :=HRi.out.see hO hlt
      obtain ⟨oad,rfl,co⟩ :=co
      rw [List.getElem?_map,List.getElem?_eq_getElem hlt,Option.map_some,show S[i]=S.getD i 0 by simp [List.getD,List.getElem?_eq_getElem hlt]] at co
      obtain ⟨p,hpp⟩ : ∃p,S.getD i 0=p :=⟨_,rfl⟩
      rw [hpp] at hpm co hf' hO'
      have q1 :=k1.2.1
      have q3 :=hS.bo.2.1
      have hii :(i :Int) < (S.length :Int) :=by omega
      have q10 :=q1 0
      have q11 :=q1 1
      have q12 :=q1 2
      have q13 :=q1 3
      have q30 :=q3 0
      simp at q10 q11 q12 q13 q30
      have lg :=(hS.oo.lt oad rfl).2
      have lo :=hS.bo.1
      have l1 :=k1.1
      have S3 :=Lib.hid hS
      have K3 :=Lib.hid k1
      have B3 :=Lib.hid hb
      have F3 :=Lib.hid hf'
      have O3 :=Lib.hid hO'
      have OO :=Lib.hid hO
      clear hS hO hf k1 hb hf' hO' hpp q1 q3
      go_wp2_with fail
      go_region_held3 (fun w'=> w'.cell? ⟨w.heap.size,0,none⟩ =some (.slice a ws.length cap)∧w'.cell? ⟨w.heap.size,1,none⟩ =some (.int .i64 h)∧w'.cell? ⟨w.heap.size,2,none⟩ =some (.int .i64 b)∧w'.cell? ⟨w.heap.size,3,none⟩ =some (.int .i64 n)∧
       w'.cell? ⟨go,0,none⟩ =some (.slice (some ⟨oad,0,none⟩) S.length oc)∧w'.cell? ⟨oad,i,none⟩ =some (ofN p)) (first | (go_split_ands;refine ⟨?_,?_,?_,?_,?_,?_⟩ <;> (refine (b5.cell (by simp only [World.size_drew];omega)).trans ?_;with_reducible assumption)) | (go_keep;done)) (first | (go_at_call 74;refine (HBL.out _ _ p hpm (RW.out _ (by exact B3.out.drew))).mono ?_;rintro e w5 ⟨u,hu,ru,b5⟩;subst hu))
      obtain ⟨ua,uc,rfl⟩ :=ru.form
      have b5' :Below wr.heap.size wr w5 :=((Below.refl _ _).drew).trans b5
      have S5 :=S3.out.below b5'
      have k5 :=K3.out.below b5' K3.out.1
      have B5 :=B3.out.trans (b5'.mono B3.out.size)
      have z3 :=b5'.size
      have hA :Apart (w.heap.size+1) gn go gr :=⟨by omega,by omega,by omega,by omega,by omega⟩
      have HC :=Lib.hid (see_any (B :=w.heap.size) hA _ (.slice ua (kidsAt ws p).length uc) ps S (kidsAt ws p) w5 S5 ru (by omega) OO.out (HRi.out.at_ hpm).2.2.2.2 HPN.out (by omega) hpl (by have :=HKL.out p;omega))
      have K5 :=Lib.hid k5
      have B5' :=Lib.hid B5
      have z5 :=b5.size
      clear hA S5 k5 B5 b5 b5' ru S3 K3 B3 q10 q11 q12 q13 q30 co
      go_wp2_with fail
      refine HC.out.mono ?_
      rintro e w6 ⟨rfl,⟨ov6,hS6⟩,b6⟩
      have K6 :=Lib.hid (K5.out.below b6 (by omega))
      have B6 :=Lib.hid (B5'.out.trans (b6.mono (by have :=B5'.out.size;omega)))
      have S6 :=Lib.hid hS6
      clear hS6 b6 K5 B5' HC
      go_wp2
      go_roundw
      case rel=> exact ⟨i+1,ov6,seeL S (kidsAt ws p),by go_num,by have :=F3.out;exact seeL_grow hlt,S6.out,O3.out,F3.out,K6.out,B6.out⟩
      case measure=> simp [intOf];omega
     ·obtain rfl :i=S.length :=by omega
      have hfe :=hf.out
      rw [bfs_end (Nat.lt_irrefl _)] at hfe
      subst hfe
      have q3 :=hS.bo.2.1
      have q2 :=hS.bn.2.1
      have OO :=Lib.hid hS.oo
      have ON :=Lib.hid hS.on
      have HB :=Lib.hid hb
      clear hS hO hf k1 hb
      go_wp2_with fail
      go_quiet (fail)
      go_wp2
      go_ret2
      refine ⟨_,_,rfl,own_base (base :=w.heap.size+1) (own_below OO.out (below_drewN (Below.refl _ _) _) (own_lt OO.out)) (by omega),?_,below_drewN HB.out _⟩
      have o :=own_below ON.out (below_drewN (Below.refl _ wr) nq) (own_lt ON.out)
      have o' :(wr.drewN nq).ownsRow (w.heap.size+1) 3 1 (.slice (some ⟨gr,0,none⟩) ws.length ws.length) (numbers (orderOf ws rs) ws.length).length ((numbers (orderOf ws rs) ws.length).map (Value.int .i64)) :=by rw [numbers_len];exact o
      exact Rd.of_own o'
end Go.Proofs.YtfmebaafpfkeiaaGreat
end
section
namespace Go.Proofs.YtfmebaafpfkeiaaGreat
open Go.RowKit
def newPl (ws :List Int) (b :Nat) (q :List Nat) :List Nat :=(List.range q.length).map fun j=> b+(raw ws (q.take j)).length
theorem newPl_len (ws :List Int) (b :Nat) (q :List Nat) :(newPl ws b q).length=q.length :=by simp [newPl]
theorem newPl_snoc (ws :List Int) (b :Nat) (q :List Nat) (p :Nat) :newPl ws b (q++ [p])=newPl ws b q++ [b+(raw ws q).length] :=by
 unfold newPl
 rw [List.length_append,List.length_singleton,List.range_succ,List.map_append]
 congr 1
 ·refine List.map_congr_left fun j hj=> ?_
  rw [List.take_append_of_le_length (Nat.le_of_lt (List.mem_range.1 hj))]
 ·simp
theorem newPl_get {ws :List Int} {b :Nat} {q :List Nat} {j :Nat} (h :j < q.length) :(newPl ws b q)[j]?=some (b+(raw ws (q.take j)).length) :=by simp [newPl,h]
set_option maxHeartbeats 800000 in
theorem moved_any {B7 B9 g7 g9 :Nat} (pv nv :Value) (ws :List Int) (b' :Nat) (o ps :List Nat) (x :Int) (N :Nat) (w :World) (k9 :Bx w g9 #[pv]) (k7 :Bx w g7 #[nv]) (rp :Rd B9 .i64 w pv (nums (newPl ws b' o))) (rn :Rd B7 .i64 w nv (numbers o N))
  (hx :wordIn ps x=true) (ho :x%2=0→(x/2).toNat∈o) (hN : ∀p∈ps,p < N) (hN6 :N≤6000) (hle : ∀p,newAt ws b' o p≤6000) (hol :o.length≤6000) :
  Calls Tryz.prog 143 #[.int .i64 x, .pointer (some ⟨g9,0,none⟩), .pointer (some ⟨g7,0,none⟩)] w fun e w'=> e= .returned (.int .i64 (mv ws b' o x))∧Still w w' :=by
 by_cases hev :x%2=0
 ·obtain ⟨p,hpp,hpx⟩ :=wordIn_ref hx hev
  have hpe :(x/2).toNat=p :=by omega
  have hpo :=ho hev
  rw [hpe] at hpo
  have hpN :=hN p hpp
  have HX :=Lib.hid hpx
  have e1 :(x%2==0)=true :=by simp;omega
  have hidx :=List.idxOf_lt_length_of_mem hpo
  have hnw :numOf o p=(o.idxOf p :Int) :=by unfold numOf;rw [if_pos hpo]
  have hmv :mv ws b' o x=2*((newAt ws b' o p :Nat) :Int) :=by unfold mv;rw [if_pos hev,hpe]
  have hna :=hle p
  rcases rn with ⟨h',_⟩ | ⟨bn,offn,cn',rfl,_,_,_,hcn⟩
  ·have :=congrArg List.length h';rw [numbers_len,List.length_nil] at this;omega
  rcases rp with ⟨h',_⟩ | ⟨bp,offp,cp',rfl,_,_,_,hcp⟩
  ·have :=congrArg List.length h';rw [nums_len,newPl_len,List.length_nil] at this;omega
  rw [numbers_len] at hcn k7
  rw [nums_len,newPl_len] at hcp k9
  have c1 :=hcn p hpN
  rw [numbers_get hpN,hnw] at c1
  have c2 :=hcp (o.idxOf p) hidx
  rw [nums_get,List.getD_eq_getElem?_getD,newPl_get hidx] at c2
  change _=some (Value.int .i64 ((newAt ws b' o p :Nat) :Int)) at c2
  obtain ⟨i,hi⟩ : ∃i,o.idxOf p=i :=⟨_,rfl⟩
  obtain ⟨m,hm⟩ : ∃m,newAt ws b' o p=m :=⟨_,rfl⟩
  rw [hi] at c1 c2 hidx
  rw [hm] at c2 hmv hna
  rw [hmv]
  have hil :(i :Int) < (o.length :Int) :=by omega
  have hpi :(p :Int) < (N :Int) :=by omega
  have q9 :=k9.2.1
  have q7 :=k7.2.1
  have HR :=Lib.hid (fun (W :World)=> (by have :=(iWordRef_any x W).mono (fun e w' h=> And.intro h.1 h.2.symm);rw [← HX.out] at this;exact this :Calls Tryz.prog 72 #[.int .i64 x] W _))
  have hrw :=fun (W :World)=> (iRefWord_any (m :Int) W).mono (fun e w' h=> And.intro h.1 h.2.symm)
  rw [show refW (m :Int)=2*(m :Int) by unfold refW inB;rw [if_pos (by simp;omega)]] at hrw
  have HW :=Lib.hid hrw
  clear k9 k7 hcn hcp hx ho hN hle hpp hpo hpe hnw hmv hi hm hrw hpx
  go_enter Tryz.func143,Tryz.ntmps143
  go_wp2_with (go_at_call 71;refine (iIsRef_any _ _).mono ?_;rintro e w' ⟨rfl,rfl⟩)
  go_quiet (first | (go_at_call 72;exact Calls.quiet_of_same (HR.out _)) | (go_at_call 144;exact Calls.quiet_of_same (HW.out _)))
  go_wp2
  go_ret
  exact ⟨rfl,⟨nq,rfl⟩⟩
 ·have e1 :(x%2==0)=false :=by simp;omega
  have hmv :mv ws b' o x=x :=by unfold mv;rw [if_neg hev]
  rw [hmv]
  clear k9 k7 rp rn hx ho hN hle hmv
  go_enter Tryz.func143,Tryz.ntmps143
  go_wp2_with (go_at_call 71;refine (iIsRef_any _ _).mono ?_;rintro e w' ⟨rfl,rfl⟩)
  go_ret
  exact ⟨rfl,Still.refl _⟩
end Go.Proofs.YtfmebaafpfkeiaaGreat
end
section
namespace Go.Proofs.YtfmebaafpfkeiaaGreat
open Go.RowKit
def st (l :List UInt8) :ByteArray :=⟨l.toArray⟩
end Go.Proofs.YtfmebaafpfkeiaaGreat
end
section
namespace Go.Proofs.YtfmebaafpfkeiaaGreat
open Go.RowKit
def Cl (o :List Nat) (xs :List Int) :Prop := ∀x∈xs,x%2=0→(x/2).toNat∈o
theorem Cl.mono {o :List Nat} {xs :List Int} (h :Cl o xs) (t :List Nat) :Cl (o++t) xs :=fun x hx he=> List.mem_append_left _ (h x hx he)
theorem seeW_mem {o :List Nat} {x :Int} (h :x%2=0) :(x/2).toNat∈seeW o x :=by
 unfold seeW
 rw [if_pos h]
 split
 ·assumption
 ·simp
theorem seeL_mem : ∀(xs :List Int) (o :List Nat),Cl (seeL o xs) xs :=by
 intro xs
 induction xs with
 | nil=> intro o x hx;cases hx
 | cons y xs ih=>
  intro o x hx he
  show (x/2).toNat∈seeL (seeW o y) xs
  rcases List.mem_cons.1 hx with rfl | hx
  ·obtain ⟨t,ht⟩ :=seeL_pre xs (seeW o x)
   rw [ht]
   exact List.mem_append_left _ (seeW_mem he)
  ·exact ih _ x hx he
theorem bfs_pre {ws :List Int} : ∀(f i :Nat) (o :List Nat),∃t,bfs ws f i o=o++t :=by
 intro f
 induction f with
 | zero=> intro i o;exact ⟨[],by simp [bfs]⟩
 | succ f ih=>
  intro i o
  by_cases hi :i < o.length
  ·rw [bfs_go hi]
   obtain ⟨t,ht⟩ :=ih (i+1) (seeL o (kidsAt ws (o.getD i 0)))
   obtain ⟨u,hu⟩ :=seeL_pre (kidsAt ws (o.getD i 0)) o
   exact ⟨u++t,by rw [ht,hu,List.append_assoc]⟩
  ·rw [bfs_end hi];exact ⟨[],by simp⟩
theorem bfs_closed {ws :List Int} {h b n :Nat} {ps :List Nat} (hR :Right ws h b n ps) : ∀(f i :Nat) (o :List Nat),Ordered ps o→ws.length≤f+i→
  (∀j,j < i→j < o.length→Cl o (kidsAt ws (o.getD j 0)))→∀p∈bfs ws f i o,Cl (bfs ws f i o) (kidsAt ws p) :=by
 intro f
 induction f with
 | zero=>
  intro i o ho hl hc p hp
  have :=hR.ord_len ho
  obtain ⟨j,hj,rfl⟩ :=List.mem_iff_getElem.1 hp
  have :=hc j (by simp only [bfs] at hj;omega) hj
  rwa [List.getD_eq_getElem?_getD,List.getElem?_eq_getElem (show j < o.length from hj)] at this
 | succ f ih=>
  intro i o ho hl hc
  by_cases hi :i < o.length
  ·rw [bfs_go hi]
   refine ih (i+1) _ (hR.see ho hi) (by omega) (fun j hj hjl=> ?_)
   by_cases hji :j < i
   ·rw [seeL_at (by omega)]
    obtain ⟨t,ht⟩ :=seeL_pre (kidsAt ws (o.getD i 0)) o
    rw [ht]
    exact (hc j hji (by omega)).mono t
   ·obtain rfl :j=i :=by omega
    rw [seeL_at hi]
    exact seeL_mem _ _
  ·rw [bfs_end hi]
   intro p hp
   obtain ⟨j,hj,rfl⟩ :=List.mem_iff_getElem.1 hp
   have :=hc j (by omega) hj
   rwa [List.getD_eq_getElem?_getD,List.getElem?_eq_getElem hj] at this
theorem order_roots (ws rs :List Int) :Cl (orderOf ws rs) rs :=by
 unfold orderOf
 obtain ⟨t,ht⟩ :=bfs_pre (ws :=ws) ws.length 0 (seeL [] rs)
 rw [ht]
 exact (seeL_mem rs []).mono t
theorem order_kids {ws rs :List Int} {h b n :Nat} {ps :List Nat} (hR :Right ws h b n ps) (hx :rs.all (wordIn ps)=true) {p :Nat} (hp :p∈orderOf ws rs) :Cl (orderOf ws rs) (kidsAt ws p) :=
 bfs_closed hR ws.length 0 (seeL [] rs) (seeL_ok (ordered_nil ps) hx) (by omega) (fun j hj=> absurd hj (by omega)) p hp
theorem order_ok {ws rs :List Int} {h b n :Nat} {ps :List Nat} (hR :Right ws h b n ps) (hx :rs.all (wordIn ps)=true) :Ordered ps (orderOf ws rs) :=bfs_ok hR _ _ _ (seeL_ok (ordered_nil ps) hx)
theorem Right.ofR {ws :List Int} {h b n :Int} {rs :List Int} (hr :rightOf ws h b n rs=true) : ∃h' b' n' :Nat,∃ps,h=h'∧b=b'∧n=n'∧Right ws h' b' n' ps∧rs.all (wordIn ps)=true :=by
 obtain ⟨h',b',n',ps,rfl,rfl,rfl,hR⟩ :=Right.of (rightOf_heap hr)
 refine ⟨h',b',n',ps,rfl,rfl,rfl,hR,?_⟩
 rw [rightOf_at (rightOf_heap hr) hR.some] at hr
 exact hr
end Go.Proofs.YtfmebaafpfkeiaaGreat
end
