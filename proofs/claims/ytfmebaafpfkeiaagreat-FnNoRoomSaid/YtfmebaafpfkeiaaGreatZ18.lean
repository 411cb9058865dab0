/- Parts of the proof of FnNoRoom. -/
import Derived.Test.YtfmebaafpfkeiaaGreatZ17
import Derived.Test.YtfmebaafpfkeiaaGreatZ15
import Derived.Test.YtfmebaafpfkeiaaGreatZ13
import Derived.Test.YtfmebaafpfkeiaaGreatZ12
set_option linter.unusedVariables false
set_option linter.unusedSimpArgs false
section
namespace Go.Proofs.YtfmebaafpfkeiaaGreat
open Go.RowKit
structure AbS where
 st :List (Int×List Int)
 ss :List Int
 cs :List O3
 os :List Int
 code :Int
def b0 :Int×List Int :=(1, [])
def blkA (A :AbS) (x :Int) :Int×List Int :=A.st.getD (x/2).toNat b0
def isBlkA (A :AbS) (x :Int) (f :Bool) :Bool :=decide (x%2=0)&&(hFun (blkA A x).1==f)
def pushA (A :AbS) (t :Nat) (x :Int) :Int×AbS :=((pushL A.ss t x).1,{A with ss :=(pushL A.ss t x).2})
def makeA (A :AbS) (f :Bool) (tag :Int) (k :Nat) :Int×AbS :=
 ((pushL A.ss k (2*(A.st.length :Int))).1,{A with st :=A.st++ [(hdOf f tag k,A.ss.drop (A.ss.length-k))],ss :=(pushL A.ss k (2*(A.st.length :Int))).2})
def callA (fs :List F2) (A :AbS) :Int×AbS :=
 if isBlkA A (lastW A.ss 1) true=false∨(fs.length :Int)≤hTag (blkA A (lastW A.ss 1)).1 then (5,A)
 else if A.cs.length=120 then (3,A) else (0,{A with cs :=A.cs++ [⟨hTag (blkA A (lastW A.ss 1)).1,0,(A.ss.length :Int)-1⟩]})
def retA (A :AbS) (base :Int) :Int×AbS :=
 if (A.ss.length :Int)≠base+2 then (5,A)
 else (if A.cs.length=1 then 1 else 0,{A with ss :=A.ss.take (base-1).toNat++ [lastW A.ss 0],cs :=A.cs.dropLast})
def kidA (A :AbS) (x :Int) (f :Bool) (n :Int) (t :Nat) :Int×AbS :=
 if isBlkA A x f=false∨((blkA A x).2.length :Int)≤n then (5,A) else pushA A t ((blkA A x).2.getD n.toNat 0)
def goesA (A :AbS) (o :O3) (x :Int) :Bool :=
 if o.c=10 then !(isBlkA A x false&&decide (hTag (blkA A x).1=o.n)) else if o.c=11 then decide (x≠intW o.n) else decide (x=1)
def branchA (A :AbS) (o :O3) :Int×AbS :=
 if o.c=18∧lastW A.ss 0%2=0 then (5,A)
 else (0,{A with ss :=A.ss.take (A.ss.length-1),cs :=if goesA A o (lastW A.ss 0) then setPc A.cs (if o.c=18 then o.n else o.m) else A.cs})
def reckA (A :AbS) (c :Int) :Int×AbS :=
 if lastW A.ss 1%2=0∨lastW A.ss 0%2=0 then (5,A) else pushA A 2 (intW (reckN (c-12+10) (lastW A.ss 1/2) (lastW A.ss 0/2)))
def doA (fs :List F2) (A :AbS) (o c :O3) :Int×AbS :=
 if (A.ss.length :Int)-c.m-1 < takesOf o.c o.m then (5,A)
 else if o.c=1 then pushA A 0 (intW o.n)
 else if o.c=2 then (if (A.ss.length :Int)≤c.m+o.n then (5,A) else pushA A 0 (A.ss.getD (c.m+o.n).toNat 0))
 else if o.c=3 then kidA A (A.ss.getD (c.m-1).toNat 0) true o.n 0
 else if o.c=4 then pushA A 0 (A.ss.getD (c.m-1).toNat 0)
 else if o.c=5∨o.c=8 then makeA A (decide (o.c=5)) o.n o.m.toNat
 else if o.c=6 then callA fs A
 else if o.c=7 then retA A c.m
 else if o.c=9 then kidA A (lastW A.ss 0) false o.n 1
 else if o.c=10∨o.c=11∨o.c=18 then branchA A o
 else if o.c=17 then (if lastW A.ss 0%2=0 then (5,A) else (0,{A with os :=A.os++ [lastW A.ss 0/2]}))
 else if o.c=19 then (0,{A with cs :=setPc A.cs o.n})
 else if o.c=20 then pushA A 2 (lastW A.ss 0)
 else if o.c=21 then (4,A)
 else reckA A o.c
def topA (A :AbS) :O3 :=A.cs.getD (A.cs.length-1) c0
def opA (fs :List F2) (c :O3) :O3 :=(fs.getD c.c.toNat fn0).os.getD c.n.toNat ⟨0,0,0⟩
def midA (A :AbS) :AbS :={A with cs :=setPc A.cs ((topA A).n+1),code :=0}
def outA (fs :List F2) (A :AbS) :Int×AbS :=doA fs (midA A) (opA fs (topA A)) (topA A)
def stepA (fs :List F2) (A :AbS) :AbS :=
 if (outA fs A).1=0∨(outA fs A).1=1 then {(outA fs A).2 with code :=(outA fs A).1} else {A with code :=(outA fs A).1}
section
variable {E :Nat→Nat→Prop}
def Wd (E :Nat→Nat→Prop) (x y :Int) :Prop :=(x%2=1∧x=y)∨(x%2=0∧y%2=0∧0≤x∧E (x/2).toNat (y/2).toNat)
def Wds (E :Nat→Nat→Prop) (xs ys :List Int) :Prop :=xs.length=ys.length∧∀j,j < xs.length→Wd E (xs.getD j 0) (ys.getD j 0)
theorem getD_take_ {xs :List Int} {j k :Nat} (h :j < k) :(xs.take k).getD j 0=xs.getD j 0 :=by
 rw [List.getD_eq_getElem?_getD,List.getElem?_take,if_pos h,List.getD_eq_getElem?_getD]
theorem getD_drop_ {xs :List Int} {j k :Nat} :(xs.drop k).getD j 0=xs.getD (k+j) 0 :=by
 rw [List.getD_eq_getElem?_getD,List.getElem?_drop,List.getD_eq_getElem?_getD]
theorem getD_snoc_lt {xs :List Int} {x :Int} {j :Nat} (h :j < xs.length) :(xs++ [x]).getD j 0=xs.getD j 0 :=by
 rw [List.getD_eq_getElem?_getD,List.getElem?_append_left h,List.getD_eq_getElem?_getD]
theorem getD_snoc_eq {xs :List Int} {x :Int} {j :Nat} (h :j=xs.length) :(xs++ [x]).getD j 0=x :=by
 subst h
 rw [List.getD_eq_getElem?_getD,List.getElem?_append_right (Nat.le_refl _),Nat.sub_self]
 rfl
theorem Wd.even {x y :Int} (h :Wd E x y) :(x%2=0)=(y%2=0) :=by
 rcases h with ⟨h1,h2⟩ | ⟨h1,h2,_⟩
 ·subst h2;rfl
 ·simp [h1,h2]
theorem Wd.odd {x y :Int} (h :Wd E x y) (ho : ¬x%2=0) :x=y :=by
 rcases h with ⟨_,h2⟩ | ⟨h1,_⟩
 ·exact h2
 ·exact absurd h1 ho
theorem Wd.mono {E' :Nat→Nat→Prop} (hE : ∀p i,E p i→E' p i) {x y :Int} (h :Wd E x y) :Wd E' x y :=by
 rcases h with h | ⟨h1,h2,h3,h4⟩
 ·exact .inl h
 ·exact .inr ⟨h1,h2,h3,hE _ _ h4⟩
theorem Wd.lit {x :Int} (h :x%2=1) :Wd E x x := .inl ⟨h,rfl⟩
theorem Wds.mono {E' :Nat→Nat→Prop} (hE : ∀p i,E p i→E' p i) {xs ys :List Int} (h :Wds E xs ys) :Wds E' xs ys :=⟨h.1,fun j hj=> (h.2 j hj).mono hE⟩
theorem Wds.take {xs ys :List Int} (h :Wds E xs ys) (k :Nat) :Wds E (xs.take k) (ys.take k) :=by
 refine ⟨by simp [h.1],fun j hj=> ?_⟩
 rw [List.length_take] at hj
 rw [getD_take_ (by omega),getD_take_ (by omega)]
 exact h.2 j (by omega)
theorem Wds.drop {xs ys :List Int} (h :Wds E xs ys) (k :Nat) :Wds E (xs.drop k) (ys.drop k) :=by
 refine ⟨by simp [h.1],fun j hj=> ?_⟩
 rw [List.length_drop] at hj
 rw [getD_drop_,getD_drop_]
 exact h.2 _ (by omega)
theorem Wds.snoc {xs ys :List Int} (h :Wds E xs ys) {x y :Int} (hx :Wd E x y) :Wds E (xs++ [x]) (ys++ [y]) :=by
 refine ⟨by simp [h.1],fun j hj=> ?_⟩
 rw [List.length_append,List.length_singleton] at hj
 by_cases hl :j < xs.length
 ·rw [getD_snoc_lt hl,getD_snoc_lt (by rw [← h.1];exact hl)]
  exact h.2 j hl
 ·rw [getD_snoc_eq (by omega),getD_snoc_eq (by rw [← h.1];omega)]
  exact hx
theorem Wds.last {xs ys :List Int} (h :Wds E xs ys) {k :Nat} (hk :k < xs.length) :Wd E (lastW xs k) (lastW ys k) :=by
 unfold lastW
 rw [← h.1]
 exact h.2 _ (by omega)
structure Sim (E :Nat→Nat→Prop) (fs :List F2) (L :VmL) (A :AbS) (h b n :Nat) (ps :List Nat) :Prop where
 lh :L.h=h
 lb :L.b=b
 ln :L.n=n
 lf :L.fs=fs
 right :Right L.zs h b n ps
 mem : ∀p i,E p i→p∈ps∧i < A.st.length
 fn : ∀p i j,E p i→E p j→i=j
 inj : ∀p q i,E p i→E q i→p=q
 hd : ∀p i,E p i→L.zs.getD p 0=(A.st.getD i b0).1
 kids : ∀p i,E p i→Wds E (kidsAt L.zs p) (A.st.getD i b0).2
 ss :Wds E L.ss A.ss
 cs :L.cs=A.cs
 os :L.os=A.os
 code :L.code=A.code
 zi :intsOk L.zs
variable {fs :List F2} {L :VmL} {A :AbS} {h b n :Nat} {ps :List Nat}
theorem Sim.put (S :Sim E fs L A h b n ps) {ss ss' :List Int} (w :Wds E ss ss') {cs cs' :List O3} {os os' :List Int} {code code' :Int} (h1 :cs=cs') (h2 :os=os') (h3 :code=code') :
  Sim E fs ⟨L.fs,L.zs,L.h,L.b,L.n,ss,cs,os,code,L.each⟩ ⟨A.st,ss',cs',os',code'⟩ h b n ps :=
 ⟨S.lh,S.lb,S.ln,S.lf,S.right,S.mem,S.fn,S.inj,S.hd,S.kids,w,h1,h2,h3,S.zi⟩
def Res (E :Nat→Nat→Prop) (fs :List F2) (h b n :Nat) (ps :List Nat) (r :Int×VmL) (s :Int×AbS) :Prop :=r.1=s.1∧Sim E fs r.2 s.2 h b n ps
theorem Sim.same (S :Sim E fs L A h b n ps) (c :Int) :Res E fs h b n ps (c,L) (c,A) :=⟨rfl,S⟩
theorem Sim.blk (S :Sim E fs L A h b n ps) {x y :Int} (hw :Wd E x y) (f :Bool) :
  isBlk L.zs x f=isBlkA A y f∧(isBlk L.zs x f=true→tagAt L.zs x=hTag (blkA A y).1∧Wds E (kidsOf L.zs x) (blkA A y).2) :=by
 unfold isBlk isBlkA tagAt kidsOf blkA
 rcases hw with ⟨h1,rfl⟩ | ⟨h1,h2,h3,h4⟩
 ·have :decide (x%2=0)=false :=by simp;omega
  rw [this]
  exact ⟨rfl,fun h=> by cases h⟩
 ·rw [S.hd _ _ h4,h1,h2]
  exact ⟨rfl,fun _=> ⟨rfl,S.kids _ _ h4⟩⟩
theorem Sim.push (S :Sim E fs L A h b n ps) {t :Nat} {x y :Int} (hw :Wd E x y) :Res E fs h b n ps (pushR L t x) (pushA A t y) :=by
 unfold pushR pushA pushL
 dsimp only
 rw [← S.ss.1]
 by_cases hc :600 < (L.ss.length :Int)-t+1
 ·rw [if_pos hc,if_pos hc]
  exact ⟨rfl,S.put S.ss S.cs S.os S.code⟩
 ·rw [if_neg hc,if_neg hc]
  exact ⟨rfl,S.put ((S.ss.take _).snoc hw) S.cs S.os S.code⟩
theorem Sim.call (S :Sim E fs L A h b n ps) (h2 :2≤L.ss.length) :Res E fs h b n ps (callL L) (callA fs A) :=by
 obtain ⟨i1,i2⟩ :=S.blk (S.ss.last (k :=1) h2) true
 have hfl :L.fs.length=fs.length :=by rw [S.lf]
 unfold callL callA
 dsimp only
 rw [← i1,hfl]
 by_cases hb :isBlk L.zs (lastW L.ss 1) true=true
 ·obtain ⟨t1,_⟩ :=i2 hb
  rw [← t1,← S.ss.1]
  by_cases c1 :(fs.length :Int)≤tagAt L.zs (lastW L.ss 1)
  ·rw [if_pos (.inr c1),if_pos (.inr c1)];exact S.same 5
  ·have c2 : ¬(isBlk L.zs (lastW L.ss 1) true=false∨(fs.length :Int)≤tagAt L.zs (lastW L.ss 1)) :=by rw [hb];simp;omega
   rw [if_neg c2,if_neg c2]
   by_cases c3 :L.cs.length=120
   ·rw [if_pos c3,if_pos (by rw [← S.cs];exact c3)];exact S.same 3
   ·rw [if_neg c3,if_neg (by rw [← S.cs];exact c3)]
    exact ⟨rfl,S.put S.ss (by rw [S.cs]) S.os S.code⟩
 ·have hb' :isBlk L.zs (lastW L.ss 1) true=false :=by simpa using hb
  rw [if_pos (.inl hb'),if_pos (.inl hb')];exact S.same 5
theorem Sim.ret (S :Sim E fs L A h b n ps) (h1 :1≤L.ss.length) (base :Int) :Res E fs h b n ps (retL L base) (retA A base) :=by
 unfold retL retA
 rw [← S.ss.1,← S.cs]
 by_cases c1 :(L.ss.length :Int)≠base+2
 ·rw [if_pos c1,if_pos c1];exact S.same 5
 ·rw [if_neg c1,if_neg c1]
  exact ⟨rfl,S.put ((S.ss.take _).snoc (S.ss.last (k :=0) h1)) rfl S.os S.code⟩
theorem Sim.kid (S :Sim E fs L A h b n ps) {x y :Int} (hw :Wd E x y) (f :Bool) {m :Int} (hm :0≤m) (t :Nat) :Res E fs h b n ps (kidL L x f m t) (kidA A y f m t) :=by
 obtain ⟨i1,i2⟩ :=S.blk hw f
 unfold kidL kidA
 rw [← i1]
 by_cases hb :isBlk L.zs x f=true
 ·obtain ⟨_,ks⟩ :=i2 hb
  rw [← ks.1]
  by_cases c1 :((kidsOf L.zs x).length :Int)≤m
  ·rw [if_pos (.inr c1),if_pos (.inr c1)];exact S.same 5
  ·have c2 : ¬(isBlk L.zs x f=false∨((kidsOf L.zs x).length :Int)≤m) :=by rw [hb];simp;omega
   rw [if_neg c2,if_neg c2]
   exact S.push (ks.2 _ (by omega))
 ·have hb' :isBlk L.zs x f=false :=by simpa using hb
  rw [if_pos (.inl hb'),if_pos (.inl hb')];exact S.same 5
theorem Wd.eq_odd {x y z :Int} (h :Wd E x y) (hz :z%2=1) :(x=z)=(y=z) :=by
 rcases h with ⟨_,rfl⟩ | ⟨h1,h2,_⟩
 ·rfl
 ·have e1 : ¬x=z :=by omega
  have e2 : ¬y=z :=by omega
  simp [e1,e2]
theorem intW_odd (m :Int) :intW m%2=1 :=by unfold intW;split <;> omega
theorem Sim.goes (S :Sim E fs L A h b n ps) {x y :Int} (hw :Wd E x y) (o :O3) :goesL L.zs o x=goesA A o y :=by
 obtain ⟨i1,i2⟩ :=S.blk hw false
 unfold goesL goesA
 rw [← i1]
 by_cases hb :isBlk L.zs x false=true
 ·rw [(i2 hb).1]
  congr 1
  have e1 :=hw.eq_odd (intW_odd o.n)
  have e2 :=hw.eq_odd (z :=1) (by decide)
  simp only [ne_eq,e1,e2]
 ·have hb' :isBlk L.zs x false=false :=by simpa using hb
  rw [hb']
  congr 1
  have e1 :=hw.eq_odd (intW_odd o.n)
  have e2 :=hw.eq_odd (z :=1) (by decide)
  simp only [ne_eq,e1,e2]
theorem Sim.branch (S :Sim E fs L A h b n ps) (h1 :1≤L.ss.length) (o :O3) :Res E fs h b n ps (branchL L o) (branchA A o) :=by
 have hw :=S.ss.last (k :=0) h1
 have hg :=S.goes hw o
 have he :=hw.even
 unfold branchL branchA
 dsimp only
 rw [← S.ss.1,← S.cs,← hg]
 by_cases c1 :o.c=18∧lastW L.ss 0%2=0
 ·have c1' :o.c=18∧lastW A.ss 0%2=0 :=by rw [← he];exact c1
  rw [if_pos c1,if_pos c1'];exact S.same 5
 ·have c1' : ¬(o.c=18∧lastW A.ss 0%2=0) :=by rw [← he];exact c1
  rw [if_neg c1,if_neg c1']
  exact ⟨rfl,S.put (S.ss.take _) rfl S.os S.code⟩
theorem Sim.reck (S :Sim E fs L A h b n ps) (h2 :2≤L.ss.length) (c :Int) :Res E fs h b n ps (reckL L c) (reckA A c) :=by
 have h0 :=S.ss.last (k :=0) (by omega)
 have h1 :=S.ss.last (k :=1) h2
 have e0 :=h0.even
 have e1 :=h1.even
 unfold reckL reckA
 dsimp only
 by_cases c1 :lastW L.ss 1%2=0∨lastW L.ss 0%2=0
 ·rw [if_pos c1,if_pos (by rw [← e0,← e1];exact c1)];exact S.same 5
 ·rw [if_neg c1,if_neg (by rw [← e0,← e1];exact c1)]
  rw [← h0.odd (fun h=> c1 (.inr h)),← h1.odd (fun h=> c1 (.inl h))]
  exact S.push (Wd.lit (intW_odd _))
theorem Sim.do_ (S :Sim E fs L A h b n ps) {o c :O3} (hm :1≤c.m) (hr :1≤o.c∧o.c≤21) (hn :o.c=3∨o.c=9→0≤o.n) (hk : ¬(o.c=5∨o.c=8)) :Res E fs h b n ps (doL L o c) (doA fs A o c) :=by
 unfold doL doA
 dsimp only
 rw [← S.ss.1]
 by_cases c0 :(L.ss.length :Int)-c.m-1 < takesOf o.c o.m
 ·rw [if_pos c0,if_pos c0];exact S.same 5
 rw [if_neg c0,if_neg c0]
 have ht :0≤takesOf o.c o.m :=by unfold takesOf;split;(·omega);split;(·omega);split <;> omega
 have hself :Wd E (L.ss.getD (c.m-1).toNat 0) (A.ss.getD (c.m-1).toNat 0) :=S.ss.2 _ (by omega)
 by_cases c1 :o.c=1
 ·rw [if_pos c1,if_pos c1];exact S.push (Wd.lit (intW_odd _))
 rw [if_neg c1,if_neg c1]
 by_cases c2 :o.c=2
 ·rw [if_pos c2,if_pos c2]
  by_cases d :(L.ss.length :Int)≤c.m+o.n
  ·rw [if_pos d,if_pos d];exact S.same 5
  ·rw [if_neg d,if_neg d];exact S.push (S.ss.2 _ (by omega))
 rw [if_neg c2,if_neg c2]
 by_cases c3 :o.c=3
 ·rw [if_pos c3,if_pos c3];exact S.kid hself true (hn (.inl c3)) 0
 rw [if_neg c3,if_neg c3]
 by_cases c4 :o.c=4
 ·rw [if_pos c4,if_pos c4];exact S.push hself
 rw [if_neg c4,if_neg c4,if_neg hk,if_neg hk]
 by_cases c6 :o.c=6
 ·rw [if_pos c6,if_pos c6]
  have :takesOf o.c o.m=2 :=by rw [c6];rfl
  exact S.call (by omega)
 rw [if_neg c6,if_neg c6]
 by_cases c7 :o.c=7
 ·rw [if_pos c7,if_pos c7];exact S.ret (by omega) _
 rw [if_neg c7,if_neg c7]
 by_cases c9 :o.c=9
 ·rw [if_pos c9,if_pos c9]
  exact S.kid (S.ss.last (by omega)) false (hn (.inr c9)) 1
 rw [if_neg c9,if_neg c9]
 by_cases c10 :o.c=10∨o.c=11∨o.c=18
 ·rw [if_pos c10,if_pos c10];exact S.branch (by omega) o
 rw [if_neg c10,if_neg c10]
 by_cases c17 :o.c=17
 ·rw [if_pos c17,if_pos c17]
  have hw :=S.ss.last (k :=0) (by omega)
  have he :=hw.even
  by_cases d :lastW L.ss 0%2=0
  ·rw [if_pos d,if_pos (by rw [← he];exact d)];exact S.same 5
  ·rw [if_neg d,if_neg (by rw [← he];exact d)]
   exact ⟨rfl,S.put S.ss S.cs (by rw [S.os,hw.odd d]) S.code⟩
 rw [if_neg c17,if_neg c17]
 by_cases c19 :o.c=19
 ·rw [if_pos c19,if_pos c19];exact ⟨rfl,S.put S.ss (by rw [S.cs]) S.os S.code⟩
 rw [if_neg c19,if_neg c19]
 by_cases c20 :o.c=20
 ·rw [if_pos c20,if_pos c20];exact S.push (S.ss.last (by omega))
 rw [if_neg c20,if_neg c20]
 by_cases c21 :o.c=21
 ·rw [if_pos c21,if_pos c21];exact S.same 4
 rw [if_neg c21,if_neg c21]
 have c12 :o.c=12∨o.c=13∨o.c=14∨o.c=15∨o.c=16 :=by omega
 have :takesOf o.c o.m=2 :=by unfold takesOf;rw [if_neg hk,if_pos (by rcases c12 with e | e | e | e | e <;> simp [e])]
 exact S.reck (by omega) _
end
end Go.Proofs.YtfmebaafpfkeiaaGreat
end
section
namespace Go.Proofs.YtfmebaafpfkeiaaGreat
open Go.RowKit
section
variable {E :Nat→Nat→Prop} {fs :List F2} {L :VmL} {A :AbS} {h b n :Nat} {ps :List Nat}
def liveL (L :VmL) :Nat :=(raw L.zs (orderOf L.zs L.ss)).length
def mvE (E :Nat→Nat→Prop) (L :VmL) (h b :Nat) (q i :Nat) :Prop := ∃p∈orderOf L.zs L.ss,q=qAt L.zs h b (orderOf L.zs L.ss) p∧E p i
theorem Sim.mvg (S :Sim E fs L A h b n ps) (hr :L.ss.all (wordIn ps)=true) :Mvg L.zs L.ss h b n ps (orderOf L.zs L.ss) :=⟨S.right,hr,rfl⟩
theorem Sim.rightB (S :Sim E fs L A h b n ps) (hr :L.ss.all (wordIn ps)=true) :rightOf L.zs L.h L.b L.n L.ss=true :=by
 rw [S.lh,S.lb,S.ln]
 exact (S.mvg hr).rightB.2
theorem Wds.moved {ws :List Int} {o :List Nat} {xs ys :List Int} (hw :Wds E xs ys) (hc :Cl o xs) :Wds (fun q i=> ∃p∈o,q=qAt ws h b o p∧E p i) (xs.map (mv ws (h-b) o)) ys :=by
 refine ⟨by simp [hw.1],fun j hj=> ?_⟩
 rw [List.length_map] at hj
 have hx :=hw.2 j hj
 have hmem :xs.getD j 0∈xs :=by rw [List.getD_eq_getElem?_getD,List.getElem?_eq_getElem hj];exact List.getElem_mem hj
 have e :(xs.map (mv ws (h-b) o)).getD j 0=mv ws (h-b) o (xs.getD j 0) :=by
  rw [List.getD_eq_getElem?_getD,List.getD_eq_getElem?_getD,List.getElem?_map,List.getElem?_eq_getElem hj];rfl
 rw [e]
 rcases hx with ⟨h1,h2⟩ | ⟨h1,h2,h3,h4⟩
 ·refine .inl ⟨?_,?_⟩
  ·unfold mv;rw [if_neg (by omega)];exact h1
  ·unfold mv;rw [if_neg (by omega)];exact h2
 ·have hm :=hc _ hmem h1
  refine .inr ?_
  unfold mv
  rw [if_pos h1]
  refine ⟨by omega,h2,by omega,_,hm,?_,h4⟩
  show _=newAt ws (h-b) o _
  omega
theorem Sim.moved (S :Sim E fs L A h b n ps) (hr :L.ss.all (wordIn ps)=true) :
  Sim (mvE E L h b) fs (movedL L) A h (h-b) ((h-b)+liveL L) (psOf L.zs h b (orderOf L.zs L.ss))∧(movedL L).each=L.each :=by
 have M :=S.mvg hr
 have hbh :b≤h :=by have :=S.right.frame.base;omega
 have hR :=S.rightB hr
 have hC :collectOf L.zs L.h L.b L.n L.ss=⟨tsOf L.zs h b (orderOf L.zs L.ss),((h-b :Nat) :Int),(((h-b)+liveL L :Nat) :Int),L.ss.map (mv L.zs (h-b) (orderOf L.zs L.ss))⟩ :=by
  rw [S.lh,S.lb,S.ln] at hR ⊢
  exact collect_yes hbh hR
 unfold movedL
 rw [hC]
 refine ⟨⟨S.lh,rfl,rfl,S.lf,M.rightT,?_,?_,?_,?_,?_,?_,S.cs,S.os,S.code,lay_ok (mvd_ok S.right M.ok (by have :=S.right.frame.len;have :=S.right.frame.h1;omega) S.zi _)⟩,rfl⟩
 ·rintro q i ⟨p,hp,rfl,he⟩
  exact ⟨List.mem_map_of_mem hp,(S.mem _ _ he).2⟩
 ·rintro q i j ⟨p,hp,rfl,he⟩ ⟨p',hp',hq,he'⟩
  have :=M.inj hp hp' hq
  subst this
  exact S.fn _ _ _ he he'
 ·rintro q q' i ⟨p,hp,rfl,he⟩ ⟨p',hp',rfl,he'⟩
  rw [S.inj _ _ _ he he']
 ·rintro q i ⟨p,hp,rfl,he⟩
  rw [(M.block hp).1]
  exact S.hd _ _ he
 ·rintro q i ⟨p,hp,rfl,he⟩
  rw [(M.block hp).2]
  exact (S.kids _ _ he).moved (M.kcl hp)
 ·exact S.ss.moved M.rcl
theorem wordIn_mono {ps :List Nat} {p :Nat} {x :Int} (h :wordIn ps x=true) :wordIn (ps++ [p]) x=true :=by
 unfold wordIn at h ⊢
 split
 ·rename_i he
  rw [if_pos he,decide_eq_true_eq] at h
  obtain ⟨q,hq,e⟩ :=h
  rw [decide_eq_true_eq]
  exact ⟨q,List.mem_append_left _ hq,e⟩
 ·rename_i he
  rw [if_neg he] at h
  exact h
theorem Right.put {ws :List Int} (hR :Right ws h b n ps) {f :Bool} {tag :Int} {ks :List Int} (h0 :0≤tag) (h1 :tag≤3000) (h2 :ks.length≤20) (hfit :n+1+ks.length≤b+h) (hk :ks.all (wordIn ps)=true) :
  Right (ov ws n (hdOf f tag ks.length ::ks)) h b (n+1+ks.length) (ps++ [n])∧(ov ws n (hdOf f tag ks.length ::ks)).getD n 0=hdOf f tag ks.length∧kidsAt (ov ws n (hdOf f tag ks.length ::ks)) n=ks∧
   ∀p∈ps,(ov ws n (hdOf f tag ks.length ::ks)).getD p 0=ws.getD p 0∧kidsAt (ov ws n (hdOf f tag ks.length ::ks)) p=kidsAt ws p :=by
 obtain ⟨t0,t1,t2,t3⟩ :=hdOf_told f tag ks.length h0 h1 h2
 have hnl :=hR.n_le
 have F :=hR.frame
 have f1 :=F.h0
 have f2 :=F.h1
 have hfr :=F.len
 have hb0 :=F.n0
 have hn1 :=F.n1
 have hbb :=F.base
 have hl :(ov ws n (hdOf f tag ks.length ::ks)).length=ws.length :=ov_len (by simp;omega)
 have e0 :(ov ws n (hdOf f tag ks.length ::ks)).getD n 0=hdOf f tag ks.length :=ov_at (ws :=ws) (p :=n) (j :=0) (ks :=hdOf f tag ks.length ::ks) (by simp) (by omega)
 have ek :kidsAt (ov ws n (hdOf f tag ks.length ::ks)) n=ks :=by
  unfold kidsAt
  rw [e0,t3]
  unfold ov
  have hl :(ws.take n).length=n :=by simp;omega
  rw [List.drop_append,hl,List.drop_eq_nil_of_le (by omega),List.nil_append,show n+1-n=1 by omega,List.cons_append,List.drop_succ_cons,List.drop_zero,List.take_left]
 have low : ∀p∈ps,(ov ws n (hdOf f tag ks.length ::ks)).getD p 0=ws.getD p 0∧kidsAt (ov ws n (hdOf f tag ks.length ::ks)) p=kidsAt ws p :=by
  intro p hp
  obtain ⟨p1,p2,p3,p4,_⟩ :=hR.at_ hp
  have e1 :(ov ws n (hdOf f tag ks.length ::ks)).getD p 0=ws.getD p 0 :=ov_low p2 (by omega)
  refine ⟨e1,?_⟩
  unfold kidsAt
  rw [e1]
  refine List.ext_getElem (by rw [List.length_take,List.length_take,List.length_drop,List.length_drop,hl]) fun i i1 i2=> ?_
  rw [List.getElem_take,List.getElem_take,List.getElem_drop,List.getElem_drop]
  rw [List.length_take] at i1
  have :=ov_low (ws :=ws) (p :=n) (j :=p+1+i) (ks :=hdOf f tag ks.length ::ks) (by omega) (by omega)
  rw [List.getD_eq_getElem?_getD,List.getD_eq_getElem?_getD,List.getElem?_eq_getElem (by omega),List.getElem?_eq_getElem (by omega)] at this
  exact this
 refine ⟨⟨⟨f1,f2,by rw [hl];exact hfr,hbb,by omega,by omega⟩,?_,?_⟩,e0,ek,low⟩
 ·unfold placesOf
  exact places_snoc (ws :=ws) (nx :=n) (fun j hj=> ov_low hj (by omega)) (by rw [e0];exact t0) (by rw [e0,t3]) _ _ _ _ hR.some hb0 (Nat.le_refl _) (Nat.le_refl _)
 ·unfold blocksFit
  rw [List.all_eq_true]
  intro p hp
  rcases List.mem_append.1 hp with hp | hp
  ·rw [(low p hp).2]
   have :=(hR.at_ hp).2.2.2.2
   rw [List.all_eq_true] at this ⊢
   exact fun x hx=> wordIn_mono (this x hx)
  ·rw [List.mem_singleton] at hp
   subst hp
   rw [ek]
   rw [List.all_eq_true] at hk ⊢
   exact fun x hx=> wordIn_mono (hk x hx)
def putE (E :Nat→Nat→Prop) (n m :Nat) (p i :Nat) :Prop :=E p i∨(p=n∧i=m)
theorem st_old {st :List (Int×List Int)} {x :Int×List Int} {i :Nat} (h :i < st.length) :(st++ [x]).getD i b0=st.getD i b0 :=by
 rw [List.getD_eq_getElem?_getD,List.getElem?_append_left h,List.getD_eq_getElem?_getD]
theorem st_new {st :List (Int×List Int)} {x :Int×List Int} :(st++ [x]).getD st.length b0=x :=by
 rw [List.getD_eq_getElem?_getD,List.getElem?_append_right (Nat.le_refl _),Nat.sub_self]
 rfl
theorem Sim.made (S :Sim E fs L A h b n ps) (hr :L.ss.all (wordIn ps)=true) {f :Bool} {tag :Int} {k :Nat} (h0 :0≤tag) (h1 :tag≤3000) (h2 :k≤20) (hk :k≤L.ss.length) (hfit :n+1+k≤b+h)
  (hs :(L.ss.length :Int)-k+1≤600) :
  ∃E' ps',Sim E' fs (putL L f tag k).2 (makeA A f tag k).2 h b (n+1+k) ps'∧(putL L f tag k).1=0∧(makeA A f tag k).1=0∧(putL L f tag k).2.each=L.each :=by
 have hks :(L.ss.drop (L.ss.length-k)).length=k :=by rw [List.length_drop];omega
 have hka :(L.ss.drop (L.ss.length-k)).all (wordIn ps)=true :=by
  rw [List.all_eq_true] at hr ⊢
  exact fun x hx=> hr x (List.mem_of_mem_drop hx)
 obtain ⟨r1,r2,r3,r4⟩ :=S.right.put (f :=f) h0 h1 (by rw [hks];exact h2) (by rw [hks];exact hfit) hka
 rw [hks] at r1 r2 r3 r4
 have F :=S.right.frame
 have hroom :roomL L=(b :Int)+h-n :=by unfold roomL;rw [S.lb,S.lh,S.ln]
 have hnr : ¬roomL L < 1+k :=by omega
 have hnp : ¬600 < (L.ss.length :Int)-k+1 :=by omega
 have hln :L.n.toNat=n :=by rw [S.ln];rfl
 have hin : ∀p,p∈ps→p≠n :=fun p hp e=> by have :=(S.right.at_ hp).2.1;omega
 unfold putL makeA pushL
 dsimp only
 rw [if_neg hnr,← S.ss.1,if_neg hnp,if_neg hnp,hln]
 refine ⟨putE E n A.st.length,ps++ [n],⟨S.lh,S.lb,?_,S.lf,?_,?_,?_,?_,?_,?_,?_,S.cs,S.os,S.code,?_⟩,rfl,rfl,rfl⟩
 ·show L.n+(1+(k :Int))=_;rw [S.ln];omega
 ·exact r1
 ·rintro p i (he | ⟨rfl,rfl⟩)
  ·obtain ⟨m1,m2⟩ :=S.mem _ _ he
   exact ⟨List.mem_append_left _ m1,by simp;omega⟩
  ·exact ⟨by simp,by simp⟩
 ·rintro p i j (he | ⟨rfl,rfl⟩) (he' | ⟨e1,rfl⟩)
  ·exact S.fn _ _ _ he he'
  ·exact absurd e1 (hin _ (S.mem _ _ he).1)
  ·exact absurd rfl (hin _ (S.mem _ _ he').1)
  ·rfl
 ·rintro p q i (he | ⟨rfl,rfl⟩) (he' | ⟨rfl,e1⟩)
  ·exact S.inj _ _ _ he he'
  ·have :=(S.mem _ _ he).2;omega
  ·have :=(S.mem _ _ he').2;omega
  ·rfl
 ·rintro p i (he | ⟨rfl,rfl⟩)
  ·obtain ⟨m1,m2⟩ :=S.mem _ _ he
   dsimp only
   rw [st_old m2,(r4 p m1).1]
   exact S.hd _ _ he
  ·dsimp only
   rw [st_new,r2]
 ·rintro p i (he | ⟨rfl,rfl⟩)
  ·obtain ⟨m1,m2⟩ :=S.mem _ _ he
   dsimp only
   rw [st_old m2,(r4 p m1).2]
   exact (S.kids _ _ he).mono (fun _ _ h=> .inl h)
  ·dsimp only
   rw [st_new,r3]
   exact (S.ss.drop _).mono (fun _ _ h=> .inl h)
 ·have hw :Wd (putE E n A.st.length) (2*L.n) (2*(A.st.length :Int)) := .inr ⟨by omega,by omega,by rw [S.ln];omega, .inr ⟨by rw [S.ln];omega,by omega⟩⟩
  exact ((S.ss.take _).mono (E' :=putE E n A.st.length) (fun _ _ h=> .inl h)).snoc hw
 ·refine ov_ok S.zi (intsOk_of fun x hx=> ?_)
  rcases List.mem_cons.1 hx with rfl | hx
  ·have :=hdOf_in f tag k h0 h1 h2;omega
  ·rw [List.all_eq_true] at hka
   have hwx :=hka x hx
   unfold wordIn at hwx
   split at hwx
   ·rw [decide_eq_true_eq] at hwx
    obtain ⟨p,hp,e⟩ :=hwx
    have :=(S.right.at_ hp).2.1
    have :=S.right.n_le
    omega
   ·have :=inB_true.1 hwx
    omega
end
end Go.Proofs.YtfmebaafpfkeiaaGreat
end
section
namespace Go.Proofs.YtfmebaafpfkeiaaGreat
open Go.RowKit
theorem seeW_ind {Q :Nat→Prop} {o :List Nat} {x :Int} (ho : ∀p∈o,Q p) (hx :x%2=0→Q (x/2).toNat) : ∀p∈seeW o x,Q p :=by
 unfold seeW
 split
 ·rename_i he
  split
  ·exact ho
  ·intro p hp
   rcases List.mem_append.1 hp with hp | hp
   ·exact ho p hp
   ·rw [List.mem_singleton] at hp;subst hp;exact hx he
 ·exact ho
theorem seeL_ind {Q :Nat→Prop} : ∀{xs :List Int} {o :List Nat},(∀p∈o,Q p)→(∀x∈xs,x%2=0→Q (x/2).toNat)→∀p∈seeL o xs,Q p :=by
 intro xs
 induction xs with
 | nil=> intro o ho _;exact ho
 | cons x xs ih=>
  intro o ho hx
  exact ih (o :=seeW o x) (seeW_ind ho (hx x (List.mem_cons_self ..))) (fun y hy=> hx y (List.mem_cons_of_mem _ hy))
theorem bfs_ind {ws :List Int} {Q :Nat→Prop} (hk : ∀p,Q p→∀x∈kidsAt ws p,x%2=0→Q (x/2).toNat) : ∀(f i :Nat) (o :List Nat),(∀p∈o,Q p)→∀p∈bfs ws f i o,Q p :=by
 intro f
 induction f with
 | zero=> intro i o ho;exact ho
 | succ f ih=>
  intro i o ho
  by_cases hi :i < o.length
  ·rw [bfs_go hi]
   exact ih _ _ (seeL_ind ho (hk _ (ho _ (get_mem hi))))
  ·rw [bfs_end hi];exact ho
theorem order_ind {ws rs :List Int} {Q :Nat→Prop} (hr : ∀x∈rs,x%2=0→Q (x/2).toNat) (hk : ∀p,Q p→∀x∈kidsAt ws p,x%2=0→Q (x/2).toNat) : ∀p∈orderOf ws rs,Q p :=
 bfs_ind hk _ _ _ (seeL_ind (by simp) hr)
theorem sum_erase {α :Type} [DecidableEq α] (s :α→Nat) : ∀{o :List α} {a :α},a∈o→(o.map s).sum=s a+((o.erase a).map s).sum :=by
 intro o
 induction o with
 | nil=> intro a h;cases h
 | cons x o ih=>
  intro a h
  by_cases e :x=a
  ·subst e;simp
  ·rcases List.mem_cons.1 h with h | h
   ·exact absurd h.symm e
   ·rw [List.erase_cons_tail (by simpa using e),List.map_cons,List.sum_cons,List.map_cons,List.sum_cons,ih h]
    omega
theorem sum_inj {α β :Type} [DecidableEq β] (s :α→Nat) (t :β→Nat) (T :α→β→Prop) (hinj : ∀a a' y,T a y→T a' y→a=a') (hs : ∀a y,T a y→s a=t y) :
  ∀(o :List α) (q :List β),o.Nodup→(∀a∈o,∃y∈q,T a y)→(o.map s).sum≤(q.map t).sum :=by
 intro o
 induction o with
 | nil=> intro q _ _;simp
 | cons a o ih=>
  intro q hn hq
  obtain ⟨ha,hn⟩ :=List.nodup_cons.1 hn
  obtain ⟨y,hy,hT⟩ :=hq a (List.mem_cons_self ..)
  have :=ih (q.erase y) hn (fun a' ha'=> by
   obtain ⟨z,hz,hT'⟩ :=hq a' (List.mem_cons_of_mem _ ha')
   refine ⟨z,(List.mem_erase_of_ne ?_).2 hz,hT'⟩
   intro e
   subst e
   exact ha (hinj _ _ _ hT hT'▸ha'))
  rw [List.map_cons,List.sum_cons,sum_erase t hy,hs a y hT]
  omega
theorem raw_sum (ws :List Int) : ∀o :List Nat,(raw ws o).length=(o.map fun p=> 1+(kidsAt ws p).length).sum :=by
 intro o
 induction o with
 | nil=> rfl
 | cons p o ih=>
  unfold raw at ih ⊢
  rw [List.flatMap_cons,List.length_append,ih,List.map_cons,List.sum_cons]
  simp only [blk,List.length_cons]
  omega
theorem mem_getD {xs :List Int} {x :Int} (h :x∈xs) : ∃j,j < xs.length∧xs.getD j 0=x :=by
 obtain ⟨j,hj,rfl⟩ :=List.mem_iff_getElem.1 h
 exact ⟨j,hj,by rw [List.getD_eq_getElem?_getD,List.getElem?_eq_getElem hj];rfl⟩
theorem getD_mem {xs :List Int} {j :Nat} (h :j < xs.length) :xs.getD j 0∈xs :=by
 rw [List.getD_eq_getElem?_getD,List.getElem?_eq_getElem h]
 exact List.getElem_mem h
section
variable {E :Nat→Nat→Prop} {fs :List F2} {L :VmL} {A :AbS} {h b n :Nat} {ps :List Nat}
def wordsA (A :AbS) :Bool :=A.ss.all (fun y=> decide (y%2=0) || wordB (y/2))
theorem Sim.words (S :Sim E fs L A h b n ps) (hw :wordsA A=true) :L.ss.all (wordIn ps)=true :=by
 unfold wordsA at hw
 rw [List.all_eq_true] at hw ⊢
 intro x hx
 obtain ⟨j,hj,rfl⟩ :=mem_getD hx
 have hy :=hw _ (getD_mem (xs :=A.ss) (j :=j) (by rw [← S.ss.1];exact hj))
 unfold wordIn
 rcases S.ss.2 j hj with ⟨h1,h2⟩ | ⟨h1,h2,h3,h4⟩
 ·rw [if_neg (by omega),h2]
  rw [← h2] at hy ⊢
  simp only [Bool.or_eq_true,decide_eq_true_eq] at hy
  rcases hy with e | e
  ·omega
  ·exact e
 ·rw [if_pos h1,decide_eq_true_eq]
  exact ⟨_,(S.mem _ _ h4).1,by omega⟩
def totA (st :List (Int×List Int)) :Nat :=(st.map fun x=> 1+x.2.length).sum
theorem Sim.live_le {E2 :Nat→Nat→Prop} {L2 :VmL} {h2 b2 n2 :Nat} {ps2 :List Nat} (S :Sim E fs L A h b n ps) (S2 :Sim E2 fs L2 A h2 b2 n2 ps2) (hw :wordsA A=true) :liveL L2≤liveL L :=by
 unfold liveL
 rw [raw_sum,raw_sum]
 refine sum_inj _ _ (fun p q=> ∃i,E2 p i∧E q i) ?_ ?_ _ _ (order_ok S2.right (S2.words hw)).1 ?_
 ·rintro a a' y ⟨i,h1,h2⟩ ⟨j,h3,h4⟩
  have :=S.fn _ _ _ h2 h4
  subst this
  exact S2.inj _ _ _ h1 h3
 ·rintro a y ⟨i,h1,h2⟩
  rw [(S.kids _ _ h2).1,(S2.kids _ _ h1).1]
 ·refine order_ind (fun x hx he=> ?_) (fun p hp x hx he=> ?_)
  ·obtain ⟨j,hj,rfl⟩ :=mem_getD hx
   have hj' :j < L.ss.length :=by rw [S.ss.1,← S2.ss.1];exact hj
   rcases S2.ss.2 j hj with ⟨h1,h2⟩ | ⟨h1,h2,h3,h4⟩
   ·omega
   ·rcases S.ss.2 j hj' with ⟨k1,k2⟩ | ⟨k1,k2,k3,k4⟩
    ·rw [k2] at k1;omega
    ·exact ⟨_,order_roots _ _ _ (getD_mem hj') k1,_,h4,k4⟩
  ·obtain ⟨q,hq,i,e2,e1⟩ :=hp
   have K2 :=S2.kids _ _ e2
   have K1 :=S.kids _ _ e1
   obtain ⟨j,hj,rfl⟩ :=mem_getD hx
   have hj' :j < (kidsAt L.zs q).length :=by rw [K1.1,← K2.1];exact hj
   rcases K2.2 j hj with ⟨h1,h2⟩ | ⟨h1,h2,h3,h4⟩
   ·omega
   ·rcases K1.2 j hj' with ⟨k1,k2⟩ | ⟨k1,k2,k3,k4⟩
    ·rw [k2] at k1;omega
    ·exact ⟨_,order_kids S.right (S.words hw) hq _ (getD_mem hj') k1,_,h4,k4⟩
theorem Sim.live_room (S :Sim E fs L A h b n ps) (hw :wordsA A=true) :liveL L≤n-b :=by
 have ho :=order_ok S.right (S.words hw)
 have F :=S.right.frame
 have h1 :=raw_sub (ws :=L.zs) _ ps ho.1 ho.2
 have h2 :=raw_places (S.right.n_le.1) _ _ _ (show places L.zs n (n-b) b=some ps from S.right.some) F.n0
 unfold liveL
 omega
def okA (fs :List F2) (A :AbS) :Bool :=(decide (A.ss.length≤600)&&callsOk fs A.ss.length A.cs A.code)&&(A.os.all wordB&&wordsA A)
def isMk (fs :List F2) (A :AbS) :Prop :=(opA fs (topA A)).c=5∨(opA fs (topA A)).c=8
def mkA (fs :List F2) (A :AbS) :Nat :=(opA fs (topA A)).m.toNat
def opOkA (o :O3) (len :Int) :Bool :=
 (decide (1≤o.c∧o.c≤21)&&decide (-2147483648≤o.n∧o.n≤2147483648))&&(decide (0≤o.m∧o.m≤3000)&&(decide ((o.c=2∨o.c=3∨o.c=5∨o.c=8∨o.c=9)→0≤o.n∧o.n≤3000)&&decide ((o.c=5∨o.c=8)→o.m≤20∧len-o.m+1≤600)))
def goA (fs :List F2) (A :AbS) :Bool :=(decide (A.code=0)&&opOkA (opA fs (topA A)) A.ss.length)&&(decide ((outA fs A).1=0) || decide ((outA fs A).1=1))
theorem opOkA_all {o :O3} {len :Int} (h :opOkA o len=true) :(1≤o.c∧o.c≤21)∧(-2147483648≤o.n∧o.n≤2147483648)∧(0≤o.m∧o.m≤3000)∧((o.c=2∨o.c=3∨o.c=5∨o.c=8∨o.c=9)→0≤o.n∧o.n≤3000)∧((o.c=5∨o.c=8)→o.m≤20∧len-o.m+1≤600) :=by
 simp only [opOkA,Bool.and_eq_true,decide_eq_true_eq] at h
 exact ⟨h.1.1,h.1.2,h.2.1,h.2.2.1,h.2.2.2⟩
theorem opOkA_true {o :O3} {len :Int} (h :opOkA o len=true) :(1≤o.c∧o.c≤21)∧((o.c=3∨o.c=9)→0≤o.n)∧((o.c=5∨o.c=8)→(0≤o.n∧o.n≤3000)∧(0≤o.m∧o.m≤20)∧len-o.m+1≤600) :=by
 obtain ⟨h1,h2,h3,h4,h5⟩ :=opOkA_all h
 exact ⟨h1,fun e=> (h4 (by omega)).1,fun e=> ⟨h4 (by omega),⟨h3.1,(h5 e).1⟩,(h5 e).2⟩⟩
theorem okA_words (h :okA fs A=true) :wordsA A=true :=by
 simp only [okA,Bool.and_eq_true] at h
 exact h.2.2
theorem okA_base (h :okA fs A=true) (hc :A.code=0) :1≤(topA A).m :=by
 simp only [okA,callsOk,callsAll,Bool.and_eq_true,Bool.or_eq_true,decide_eq_true_eq,List.all_eq_true,List.mem_range] at h
 obtain ⟨⟨_,h1,_,h2⟩,_⟩ :=h
 have h3 :0 < A.cs.length :=by
  rcases h2 with e | e
  ·rw [hc] at e;cases e
  ·exact e
 have h4 :=h1 (A.cs.length-1) (by omega)
 simp only [callOk,Bool.and_eq_true] at h4
 exact (inB_true.1 h4.2.1).1
theorem Sim.step (S :Sim E fs L A h b n ps) (hok :okA fs A=true) (hgo :goA fs A=true) :
  (∃E' b' n' ps',Sim E' fs (stepL L) (stepA fs A) h b' n' ps'∧(isMk fs A→liveL L+1+mkA fs A≤h))∨(stepL L={L with code :=2}∧isMk fs A∧h < liveL L+1+mkA fs A) :=by
 have hwd :=okA_words hok
 simp only [goA,Bool.and_eq_true,Bool.or_eq_true,decide_eq_true_eq] at hgo
 obtain ⟨⟨hc,hop⟩,hout⟩ :=hgo
 have hbs :=okA_base hok hc
 obtain ⟨o1,o2,o3⟩ :=opOkA_true hop
 have et :topC L=topA A :=by unfold topC topA;rw [S.cs]
 have eo :opL L (topA A)=opA fs (topA A) :=by unfold opL opA;rw [S.lf]
 have S' :Sim E fs {L with cs :=setPc L.cs ((topA A).n+1),code :=0} (midA A) h b n ps :=S.put S.ss (by rw [S.cs]) S.os rfl
 have hst :stepL L=(if (doL {L with cs :=setPc L.cs ((topA A).n+1),code :=0} (opA fs (topA A)) (topA A)).1=0∨(doL {L with cs :=setPc L.cs ((topA A).n+1),code :=0} (opA fs (topA A)) (topA A)).1=1 then
   {(doL {L with cs :=setPc L.cs ((topA A).n+1),code :=0} (opA fs (topA A)) (topA A)).2 with code :=(doL {L with cs :=setPc L.cs ((topA A).n+1),code :=0} (opA fs (topA A)) (topA A)).1}
   else {L with code :=(doL {L with cs :=setPc L.cs ((topA A).n+1),code :=0} (opA fs (topA A)) (topA A)).1}) :=by
  unfold stepL
  dsimp only
  rw [et,eo]
 have hsa :stepA fs A={(outA fs A).2 with code :=(outA fs A).1} :=by unfold stepA;rw [if_pos hout]
 rw [hst,hsa]
 have finish : ∀{E' b' n' ps'} {r :Int×VmL},r.1=(outA fs A).1→Sim E' fs r.2 (outA fs A).2 h b' n' ps'→
   Sim E' fs (if r.1=0∨r.1=1 then {r.2 with code :=r.1} else {L with code :=r.1}) {(outA fs A).2 with code :=(outA fs A).1} h b' n' ps' :=by
  intro E' b' n' ps' r h1 h2
  rw [if_pos (by rw [h1];exact hout)]
  exact h2.put h2.ss h2.cs h2.os h1
 by_cases hmk :(opA fs (topA A)).c=5∨(opA fs (topA A)).c=8
 ·obtain ⟨⟨n0,n1⟩,⟨m0,m1⟩,l1⟩ :=o3 hmk
  have htk :takesOf (opA fs (topA A)).c (opA fs (topA A)).m=(opA fs (topA A)).m :=by unfold takesOf;rw [if_pos hmk]
  have hno : ∀k :Int,k≠5→k≠8→¬(opA fs (topA A)).c=k :=fun k h1 h2 e=> by rcases hmk with e' | e' <;> omega
  have hne : ¬((A.ss.length :Int)-(topA A).m-1 < (opA fs (topA A)).m) :=by
   intro hlt
   have :(outA fs A).1=5 :=by unfold outA doA;rw [if_pos (by rw [htk];exact hlt)]
   omega
  obtain ⟨k,hk⟩ : ∃k,(opA fs (topA A)).m.toNat=k :=⟨_,rfl⟩
  have hmkA :mkA fs A=k :=hk
  have hout2 :outA fs A=makeA (midA A) (decide ((opA fs (topA A)).c=5)) (opA fs (topA A)).n k :=by
   unfold outA doA
   rw [if_neg (by rw [htk];exact hne),if_neg (hno 1 (by decide) (by decide)),if_neg (hno 2 (by decide) (by decide)),if_neg (hno 3 (by decide) (by decide)),if_neg (hno 4 (by decide) (by decide)),if_pos hmk,hk]
  have hdo :doL {L with cs :=setPc L.cs ((topA A).n+1),code :=0} (opA fs (topA A)) (topA A)=makeL {L with cs :=setPc L.cs ((topA A).n+1),code :=0} (decide ((opA fs (topA A)).c=5)) (opA fs (topA A)).n k :=by
   unfold doL
   dsimp only
   rw [if_neg (by rw [htk,S.ss.1];exact hne),if_neg (hno 1 (by decide) (by decide)),if_neg (hno 2 (by decide) (by decide)),if_neg (hno 3 (by decide) (by decide)),if_neg (hno 4 (by decide) (by decide)),if_pos hmk,hk]
  rw [hdo,hmkA]
  unfold makeL
  have hlv :liveL {L with cs :=setPc L.cs ((topA A).n+1),code :=0}=liveL L :=rfl
  have hkl :k≤L.ss.length :=by rw [S.ss.1];omega
  have F :=S.right.frame
  have hbh :b≤h :=by have :=F.base;omega
  by_cases hmv :({L with cs :=setPc L.cs ((topA A).n+1),code :=0} :VmL).each=true∨roomL {L with cs :=setPc L.cs ((topA A).n+1),code :=0} < 1+(k :Int)
  ·rw [if_pos hmv]
   obtain ⟨S1,_⟩ :=S'.moved (S'.words hwd)
   rw [hlv] at S1
   have hl1 :(movedL {L with cs :=setPc L.cs ((topA A).n+1),code :=0}).ss.length=A.ss.length :=S1.ss.1
   by_cases hfit :(h-b)+liveL L+1+k≤(h-b)+h
   ·obtain ⟨E',ps',S2,e1,e2,_⟩ :=S1.made (S1.words hwd) (f :=decide ((opA fs (topA A)).c=5)) (k :=k) n0 n1 (by omega) (by omega) hfit (by rw [hl1];omega)
    refine .inl ⟨E',_,_,ps',finish (by rw [hout2,e1,e2]) (by rw [hout2];exact S2),fun _=> by omega⟩
   ·refine .inr ⟨?_,hmk,by omega⟩
    have :putL (movedL {L with cs :=setPc L.cs ((topA A).n+1),code :=0}) (decide ((opA fs (topA A)).c=5)) (opA fs (topA A)).n k=(2,movedL {L with cs :=setPc L.cs ((topA A).n+1),code :=0}) :=by
     unfold putL
     rw [if_pos (by unfold roomL;rw [S1.lb,S1.lh,S1.ln];omega)]
    rw [this,if_neg (by simp)]
  ·rw [if_neg hmv]
   have hroom : ¬roomL {L with cs :=setPc L.cs ((topA A).n+1),code :=0} < 1+(k :Int) :=fun h=> hmv (.inr h)
   unfold roomL at hroom
   dsimp only at hroom
   rw [S.lb,S.lh,S.ln] at hroom
   have hlr :=S.live_room hwd
   obtain ⟨E',ps',S2,e1,e2,_⟩ :=S'.made (S'.words hwd) (f :=decide ((opA fs (topA A)).c=5)) (k :=k) n0 n1 (by omega) hkl (by omega) (by show (L.ss.length :Int)-k+1≤600;rw [S.ss.1];omega)
   exact .inl ⟨E',_,_,ps',finish (by rw [hout2,e1,e2]) (by rw [hout2];exact S2),fun _=> by have :=F.n0;omega⟩
 ·obtain ⟨r1,r2⟩ :=S'.do_ (o :=opA fs (topA A)) (c :=topA A) hbs o1 o2 hmk
  exact .inl ⟨E,b,n,ps,finish r1 r2,fun hh=> absurd hh hmk⟩
end
end Go.Proofs.YtfmebaafpfkeiaaGreat
end
section
namespace Go.Proofs.YtfmebaafpfkeiaaGreat
open Go.RowKit
def iterA (fs :List F2) :Nat→AbS→AbS
 | 0,A=> A
 | k+1,A=> iterA fs k (stepA fs A)
def depOk (dep :List (List Int)) (A :AbS) :Bool :=decide ((dep.getD (topA A).c.toNat []).getD (topA A).n.toNat (-1)=(A.ss.length :Int)-(topA A).m)
def traceOk (fs :List F2) (dep :List (List Int)) (fin :List Int) :Nat→AbS→Bool
 | 0,_=> false
 | T+1,A=> (okA fs A&&(A.os.isPrefixOf fin&&decide (totA A.st≤1900)))&&((goA fs A&&(depOk dep A&&traceOk fs dep fin T (stepA fs A))) || ((decide (A.code=1)&&decide (A.os=fin))&&decide (A.ss.length=1)))
def Along (fs :List F2) (A :AbS) (i :Nat) :Prop := ∀j,j < i→(iterA fs j A).code=0
structure Moment (fs :List F2) (dep :List (List Int)) (fin :List Int) (A :AbS) :Prop where
 ok :okA fs A=true
 pre :A.os <+:fin
 tot :totA A.st≤1900
 go :A.code=0→goA fs A=true∧depOk dep A=true
 done :A.code≠0→A.code=1∧A.os=fin∧A.ss.length=1
section
variable {fs :List F2} {dep :List (List Int)} {fin :List Int}
theorem goA_code {A :AbS} (h :goA fs A=true) :A.code=0 :=by
 simp only [goA,Bool.and_eq_true,decide_eq_true_eq] at h
 exact h.1.1
theorem trace_moment {T :Nat} {A :AbS} (h :traceOk fs dep fin T A=true) :Moment fs dep fin A∧(A.code=0→∃T',T=T'+1∧traceOk fs dep fin T' (stepA fs A)=true) :=by
 cases T with
 | zero=> cases h
 | succ T=>
  simp only [traceOk,Bool.and_eq_true,Bool.or_eq_true,decide_eq_true_eq] at h
  obtain ⟨⟨h1,h2,ht⟩,h3⟩ :=h
  have hp :A.os <+:fin :=List.isPrefixOf_iff_prefix.1 h2
  rcases h3 with ⟨g1,g2,g3⟩ | ⟨⟨d1,d2⟩,d3⟩
  ·have :=goA_code g1
   exact ⟨⟨h1,hp,ht,fun _=> ⟨g1,g2⟩,fun hn=> absurd this hn⟩,fun _=> ⟨T,rfl,g3⟩⟩
  ·exact ⟨⟨h1,hp,ht,(fun h0=> by rw [d1] at h0;cases h0),fun _=> ⟨d1,d2,d3⟩⟩,(fun h0=> by rw [d1] at h0;cases h0)⟩
theorem trace_at : ∀{i T :Nat} {A :AbS},traceOk fs dep fin T A=true→Along fs A i→i < T∧traceOk fs dep fin (T-i) (iterA fs i A)=true :=by
 intro i
 induction i with
 | zero=>
  intro T A h _
  cases T with
  | zero=> cases h
  | succ T=> exact ⟨by omega,h⟩
 | succ i ih=>
  intro T A h ha
  obtain ⟨T',rfl,h'⟩ :=(trace_moment h).2 (ha 0 (by omega))
  obtain ⟨h1,h2⟩ :=ih h' (fun j hj=> ha (j+1) (by omega))
  refine ⟨by omega,?_⟩
  rw [show T'+1-(i+1)=T'-i by omega]
  exact h2
theorem runL_stop {k :Nat} {L :VmL} (h :L.code≠0) :runL k L=L :=by
 cases k with
 | zero=> rfl
 | succ k=> unfold runL;rw [if_neg h]
theorem runL_go {k :Nat} {L :VmL} (h :L.code=0) :runL (k+1) L=runL k (stepL L) :=by
 conv=> lhs;unfold runL
 rw [if_pos h]
def Fit (fs :List F2) (h :Nat) (A :AbS) :Prop :=isMk fs A→∃E L b n ps,Sim E fs L A h b n ps∧liveL L+1+mkA fs A≤h
structure At (fs :List F2) (A :AbS) (h k i :Nat) (L R :VmL) (no :Prop) :Prop where
 along :Along fs A i
 le :i≤k
 sim : ∃E b n ps,Sim E fs L (iterA fs i A) h b n ps
 fit : ∀j,j < i→Fit fs h (iterA fs j A)
 how :(R=L∧(i=k∨(iterA fs i A).code≠0)∧¬no)∨(R={L with code :=2}∧(iterA fs i A).code=0∧isMk fs (iterA fs i A)∧h < liveL L+1+mkA fs (iterA fs i A)∧no)
theorem Sim.run {h :Nat} : ∀(k :Nat) {T :Nat} {E :Nat→Nat→Prop} {L :VmL} {A :AbS} {b n :Nat} {ps :List Nat},Sim E fs L A h b n ps→traceOk fs dep fin T A=true→∃i L' no,At fs A h k i L' (runL k L) no :=by
 intro k
 induction k with
 | zero=> intro T E L A b n ps S ht;exact ⟨0,L,False,fun j hj=> by omega,Nat.le_refl _,⟨E,b,n,ps,S⟩,fun j hj=> by omega, .inl ⟨rfl, .inl rfl,fun h=> h⟩⟩
 | succ k ih=>
  intro T E L A b n ps S ht
  obtain ⟨M,hn⟩ :=trace_moment ht
  by_cases hc :A.code=0
  ·obtain ⟨T',rfl,ht'⟩ :=hn hc
   have hL :L.code=0 :=by rw [S.code];exact hc
   rw [runL_go hL]
   rcases S.step M.ok (M.go hc).1 with ⟨E',b',n',ps',S',hf⟩ | ⟨e,hmk,hlt⟩
   ·obtain ⟨i,L',no,R⟩ :=ih S' ht'
    refine ⟨i+1,L',no,fun j hj=> ?_,by have :=R.le;omega,R.sim,fun j hj=> ?_,?_⟩
    ·cases j with
     | zero=> exact hc
     | succ j=> exact R.along j (by omega)
    ·cases j with
     | zero=> exact fun hm=> ⟨E,L,b,n,ps,S,hf hm⟩
     | succ j=> exact R.fit j (by omega)
    ·rcases R.how with ⟨h1,h2,h3⟩ | h1
     ·refine .inl ⟨h1,?_,h3⟩
      rcases h2 with h2 | h2
      ·exact .inl (by omega)
      ·exact .inr h2
     ·exact .inr h1
   ·refine ⟨0,L,True,fun j hj=> by omega,by omega,⟨E,b,n,ps,S⟩,fun j hj=> by omega, .inr ⟨?_,hc,hmk,hlt,trivial⟩⟩
    rw [e,runL_stop (by simp)]
  ·have hL :L.code≠0 :=by rw [S.code];exact hc
   rw [runL_stop hL]
   exact ⟨0,L,False,fun j hj=> by omega,by omega,⟨E,b,n,ps,S⟩,fun j hj=> by omega, .inl ⟨rfl, .inr hc,fun h=> h⟩⟩
theorem Moment.of {T i :Nat} {A :AbS} (ht :traceOk fs dep fin T A=true) (ha :Along fs A i) :Moment fs dep fin (iterA fs i A) :=(trace_moment (trace_at ht ha).2).1
theorem Along.eq {A :AbS} {i j :Nat} (hi :Along fs A i) (hj :Along fs A j) (ci :(iterA fs i A).code≠0) (cj :(iterA fs j A).code≠0) :i=j :=by
 rcases Nat.lt_trichotomy i j with h | h | h
 ·exact absurd (hj i h) ci
 ·exact h
 ·exact absurd (hi j h) cj
theorem At.same {A :AbS} {h k i i2 T :Nat} {L L2 R R2 :VmL} {no no2 :Prop} (ht :traceOk fs dep fin T A=true) (hk :T≤k) (X :At fs A h k i L R no) (Y :At fs A h k i2 L2 R2 no2) :i=i2∧(no↔no2) :=by
 have mi :=Moment.of ht X.along
 have mi2 :=Moment.of ht Y.along
 have ti :=(trace_at ht X.along).1
 have ti2 :=(trace_at ht Y.along).1
 obtain ⟨E,b,n,ps,S⟩ :=X.sim
 obtain ⟨E2,b2,n2,ps2,S2⟩ :=Y.sim
 have clash : ∀{j :Nat} {L :VmL} {E :Nat→Nat→Prop} {b n :Nat} {ps :List Nat},Along fs A j→Sim E fs L (iterA fs j A) h b n ps→isMk fs (iterA fs j A)→h < liveL L+1+mkA fs (iterA fs j A)→Fit fs h (iterA fs j A)→False :=by
  intro j L E b n ps ha S hm hl hf
  obtain ⟨E',L',b',n',ps',S',hle⟩ :=hf hm
  have :=S'.live_le S (okA_words (Moment.of ht ha).ok)
  omega
 rcases X.how with ⟨_,h1,h2⟩ | ⟨_,h1,h2,h3,h4⟩
 ·have hc :(iterA fs i A).code≠0 :=by rcases h1 with e | e;(·omega);exact e
  rcases Y.how with ⟨_,g1,g2⟩ | ⟨_,g1,g2,g3,g4⟩
  ·have gc :(iterA fs i2 A).code≠0 :=by rcases g1 with e | e;(·omega);exact e
   exact ⟨X.along.eq Y.along hc gc,⟨fun h=> absurd h h2,fun h=> absurd h g2⟩⟩
  ·exfalso
   rcases Nat.lt_trichotomy i i2 with hlt | hlt | hlt
   ·exact hc (Y.along i hlt)
   ·subst hlt;exact hc g1
   ·exact clash Y.along S2 g2 g3 (X.fit i2 hlt)
 ·rcases Y.how with ⟨_,g1,g2⟩ | ⟨_,g1,g2,g3,g4⟩
  ·have gc :(iterA fs i2 A).code≠0 :=by rcases g1 with e | e;(·omega);exact e
   exfalso
   rcases Nat.lt_trichotomy i i2 with hlt | hlt | hlt
   ·exact clash X.along S h2 h3 (Y.fit i hlt)
   ·subst hlt;exact gc h1
   ·exact gc (X.along i2 hlt)
  ·rcases Nat.lt_trichotomy i i2 with hlt | hlt | hlt
   ·exact absurd (Y.fit i hlt) (fun hf=> clash X.along S h2 h3 hf)
   ·exact ⟨hlt,⟨fun _=> g4,fun _=> h4⟩⟩
   ·exact absurd (X.fit i2 hlt) (fun hf=> clash Y.along S2 g2 g3 hf)
def startL (fs :List F2) (h :Nat) (each :Bool) :VmL :=⟨fs,List.replicate (2*h) 0,h,0,0, [1,1], [⟨0,0,1⟩], [],0,each⟩
def startA :AbS :=⟨[], [1,1], [⟨0,0,1⟩], [],0⟩
theorem start_sim (fs :List F2) {h :Nat} (h0 :1≤h) (h1 :h≤3000) (each :Bool) :Sim (fun _ _=> False) fs (startL fs h each) startA h 0 0 [] :=by
 refine ⟨rfl,rfl,rfl,rfl,⟨⟨h0,h1,by simp [startL], .inl rfl,Nat.le_refl _,by omega⟩,rfl,rfl⟩,fun _ _ h=> h.elim,fun _ _ _ h=> h.elim,fun _ _ _ h=> h.elim,fun _ _ h=> h.elim,fun _ _ h=> h.elim,⟨rfl,fun j hj=> ?_⟩,rfl,rfl,rfl,intsOk_of (fun x hx=> by rw [List.eq_of_mem_replicate hx];omega)⟩
 have :j=0∨j=1 :=by simp [startL] at hj;omega
 rcases this with rfl | rfl <;> exact .inl ⟨rfl,rfl⟩
theorem Sim.vmOk {E :Nat→Nat→Prop} {L :VmL} {A :AbS} {h b n :Nat} {ps :List Nat} (S :Sim E fs L A h b n ps) (hf :funsOk fs=true) (hok :okA fs A=true) (hc :A.code=0∨A.code=1) (c :Int) (hcc :c=A.code∨c=2) :Go.Proofs.YtfmebaafpfkeiaaGreat.vmOk {L with code :=c}=true :=by
 have hw :=okA_words hok
 have hr :=S.rightB (S.words hw)
 simp only [okA,Bool.and_eq_true,decide_eq_true_eq] at hok
 obtain ⟨⟨h1,h2⟩,h3,_⟩ :=hok
 have hco :callsOk fs A.ss.length A.cs c=true :=by
  rcases hcc with rfl | rfl
  ·exact h2
  ·simp only [callsOk,Bool.and_eq_true] at h2 ⊢
   exact ⟨h2.1,h2.2.1,rfl⟩
 have hcb :inB c 0 5=true :=by rw [inB_true];omega
 unfold Go.Proofs.YtfmebaafpfkeiaaGreat.vmOk
 dsimp only
 rw [S.lf,hf,hr,S.ss.1,S.cs,hco,S.os,h3,hcb]
 simpa using h1
end
end Go.Proofs.YtfmebaafpfkeiaaGreat
end
section
namespace Go.Proofs.YtfmebaafpfkeiaaGreat
set_option maxRecDepth 100000
set_option maxHeartbeats 0
def pf0 :List F2 := [⟨0, [⟨5,1,0⟩,⟨5,3,0⟩,⟨2,2,0⟩,⟨2,1,0⟩,⟨5,4,0⟩,⟨6,0,0⟩,⟨1,1,0⟩,⟨1,2,0⟩,⟨1,3,0⟩,⟨8,0,0⟩,⟨8,1,2⟩,⟨8,1,2⟩,⟨8,1,2⟩,⟨6,0,0⟩,⟨6,0,0⟩,⟨20,0,0⟩,⟨20,0,0⟩,⟨7,0,0⟩]⟩,⟨0, [⟨2,0,0⟩,⟨4,0,0⟩,⟨5,2,2⟩,⟨7,0,0⟩]⟩,⟨2, [⟨2,0,0⟩,⟨2,1,0⟩,⟨10,0,5⟩,⟨8,0,0⟩,⟨19,20,0⟩,⟨2,1,0⟩,⟨10,1,19⟩,⟨3,0,0⟩,⟨2,1,0⟩,⟨9,0,0⟩,⟨6,0,0⟩,⟨3,1,0⟩,⟨3,0,0⟩,⟨6,0,0⟩,⟨2,1,0⟩,⟨9,1,0⟩,⟨6,0,0⟩,⟨8,1,2⟩,⟨19,20,0⟩,⟨21,0,0⟩,⟨20,0,0⟩,⟨7,0,0⟩]⟩,⟨0, [⟨2,0,0⟩,⟨2,1,0⟩,⟨10,0,5⟩,⟨1,0,0⟩,⟨19,16,0⟩,⟨2,1,0⟩,⟨10,1,15⟩,⟨2,1,0⟩,⟨9,0,0⟩,⟨4,0,0⟩,⟨2,1,0⟩,⟨9,1,0⟩,⟨6,0,0⟩,⟨12,0,0⟩,⟨19,16,0⟩,⟨21,0,0⟩,⟨20,0,0⟩,⟨7,0,0⟩]⟩,⟨0, [⟨2,0,0⟩,⟨2,0,0⟩,⟨14,0,0⟩,⟨7,0,0⟩]⟩]
def pd0 :List (List Int) := [[1,2,3,4,5,6,5,6,7,8,9,8,7,6,5,4,3,2], [1,2,3,2], [1,2,3,2,3,2,3,2,3,4,4,3,4,5,4,5,5,4,3,2,3,2], [1,2,3,2,3,2,3,2,3,3,4,5,5,4,3,2,3,2], [1,2,3,2]]
def pe0 :List Int := []
theorem tr0 :traceOk pf0 pd0 pe0 600 startA=true :=by decide+kernel
theorem fo0 :funsOk pf0=true :=by decide+kernel
def pf1 :List F2 := [⟨0, [⟨5,1,0⟩,⟨2,1,0⟩,⟨1,3,0⟩,⟨6,0,0⟩,⟨2,1,0⟩,⟨8,1,0⟩,⟨6,0,0⟩,⟨8,0,2⟩,⟨2,2,0⟩,⟨2,3,0⟩,⟨10,0,27⟩,⟨2,3,0⟩,⟨9,1,0⟩,⟨10,1,20⟩,⟨2,3,0⟩,⟨9,0,0⟩,⟨1,1,0⟩,⟨12,0,0⟩,⟨17,0,0⟩,⟨19,26,0⟩,⟨2,3,0⟩,⟨9,1,0⟩,⟨10,2,25⟩,⟨1,0,0⟩,⟨19,26,0⟩,⟨21,0,0⟩,⟨19,28,0⟩,⟨21,0,0⟩,⟨20,0,0⟩,⟨20,0,0⟩,⟨20,0,0⟩,⟨7,0,0⟩]⟩,⟨0, [⟨2,0,0⟩,⟨7,0,0⟩]⟩]
def pd1 :List (List Int) := [[1,2,3,4,3,4,5,4,3,4,5,4,5,5,4,5,5,6,5,5,4,5,5,4,5,4,5,4,5,4,3,2], [1,2]]
def pe1 :List Int := [4]
theorem tr1 :traceOk pf1 pd1 pe1 600 startA=true :=by decide+kernel
theorem fo1 :funsOk pf1=true :=by decide+kernel
def pf2 :List F2 := [⟨0, [⟨5,1,0⟩,⟨2,1,0⟩,⟨1,5,0⟩,⟨6,0,0⟩,⟨17,0,0⟩,⟨2,1,0⟩,⟨1,20,0⟩,⟨6,0,0⟩,⟨20,0,0⟩,⟨20,0,0⟩,⟨7,0,0⟩]⟩,⟨0, [⟨2,0,0⟩,⟨18,10,0⟩,⟨2,0,0⟩,⟨4,0,0⟩,⟨2,0,0⟩,⟨1,1,0⟩,⟨13,0,0⟩,⟨6,0,0⟩,⟨14,0,0⟩,⟨19,11,0⟩,⟨1,1,0⟩,⟨7,0,0⟩]⟩]
def pd2 :List (List Int) := [[1,2,3,4,3,3,4,5,4,3,2], [1,2,1,2,3,4,5,4,3,2,1,2]]
def pe2 :List Int := [120]
theorem tr2 :traceOk pf2 pd2 pe2 600 startA=true :=by decide+kernel
theorem fo2 :funsOk pf2=true :=by decide+kernel
def pf3 :List F2 := [⟨0, [⟨5,1,0⟩,⟨5,3,0⟩,⟨2,2,0⟩,⟨2,1,0⟩,⟨1,3,0⟩,⟨6,0,0⟩,⟨2,1,0⟩,⟨1,9,0⟩,⟨6,0,0⟩,⟨2,1,0⟩,⟨1,1,0⟩,⟨6,0,0⟩,⟨2,1,0⟩,⟨1,5,0⟩,⟨6,0,0⟩,⟨8,0,0⟩,⟨6,0,0⟩,⟨6,0,0⟩,⟨6,0,0⟩,⟨6,0,0⟩,⟨6,0,0⟩,⟨20,0,0⟩,⟨20,0,0⟩,⟨7,0,0⟩]⟩,⟨0, [⟨2,0,0⟩,⟨4,0,0⟩,⟨5,2,2⟩,⟨7,0,0⟩]⟩,⟨2, [⟨2,0,0⟩,⟨2,1,0⟩,⟨10,0,8⟩,⟨8,0,0⟩,⟨3,0,0⟩,⟨8,0,0⟩,⟨8,1,3⟩,⟨19,40,0⟩,⟨2,1,0⟩,⟨10,1,39⟩,⟨3,0,0⟩,⟨2,1,0⟩,⟨9,1,0⟩,⟨15,0,0⟩,⟨18,27,0⟩,⟨3,1,0⟩,⟨3,0,0⟩,⟨6,0,0⟩,⟨2,1,0⟩,⟨9,0,0⟩,⟨6,0,0⟩,⟨2,1,0⟩,⟨9,1,0⟩,⟨2,1,0⟩,⟨9,2,0⟩,⟨8,1,3⟩,⟨19,38,0⟩,⟨2,1,0⟩,⟨9,0,0⟩,⟨2,1,0⟩,⟨9,1,0⟩,⟨3,1,0⟩,⟨3,0,0⟩,⟨6,0,0⟩,⟨2,1,0⟩,⟨9,2,0⟩,⟨6,0,0⟩,⟨8,1,3⟩,⟨19,40,0⟩,⟨21,0,0⟩,⟨20,0,0⟩,⟨7,0,0⟩]⟩,⟨0, [⟨2,0,0⟩,⟨2,1,0⟩,⟨10,0,5⟩,⟨1,0,0⟩,⟨19,26,0⟩,⟨2,1,0⟩,⟨10,1,25⟩,⟨4,0,0⟩,⟨2,1,0⟩,⟨9,0,0⟩,⟨6,0,0⟩,⟨2,1,0⟩,⟨9,1,0⟩,⟨17,0,0⟩,⟨2,2,0⟩,⟨4,0,0⟩,⟨2,1,0⟩,⟨9,2,0⟩,⟨6,0,0⟩,⟨12,0,0⟩,⟨1,1,0⟩,⟨12,0,0⟩,⟨20,0,0⟩,⟨20,0,0⟩,⟨19,26,0⟩,⟨21,0,0⟩,⟨20,0,0⟩,⟨7,0,0⟩]⟩]
def pd3 :List (List Int) := [[1,2,3,4,5,6,5,6,7,6,7,8,7,8,9,8,9,8,7,6,5,4,3,2], [1,2,3,2], [1,2,3,2,3,4,5,3,2,3,2,3,4,4,3,2,3,4,3,4,4,3,4,4,5,5,3,2,3,3,4,4,5,6,5,6,6,5,3,2,3,2], [1,2,3,2,3,2,3,2,3,4,4,3,4,4,4,5,6,7,7,6,5,6,5,4,3,2,3,2]]
def pe3 :List Int := [1,3,5,9]
theorem tr3 :traceOk pf3 pd3 pe3 600 startA=true :=by decide+kernel
theorem fo3 :funsOk pf3=true :=by decide+kernel
def pf4 :List F2 := [⟨0, [⟨5,1,0⟩,⟨2,1,0⟩,⟨1,2,0⟩,⟨6,0,0⟩,⟨8,0,0⟩,⟨1,2,0⟩,⟨8,1,1⟩,⟨8,2,0⟩,⟨8,3,2⟩,⟨8,3,2⟩,⟨6,0,0⟩,⟨2,2,0⟩,⟨10,0,15⟩,⟨1,0,0⟩,⟨19,26,0⟩,⟨2,2,0⟩,⟨10,1,25⟩,⟨2,2,0⟩,⟨9,0,0⟩,⟨11,2,22⟩,⟨1,22,0⟩,⟨19,24,0⟩,⟨2,2,0⟩,⟨9,0,0⟩,⟨19,26,0⟩,⟨21,0,0⟩,⟨20,0,0⟩,⟨20,0,0⟩,⟨7,0,0⟩]⟩,⟨0, [⟨2,0,0⟩,⟨4,0,0⟩,⟨5,2,2⟩,⟨7,0,0⟩]⟩,⟨2, [⟨2,0,0⟩,⟨2,1,0⟩,⟨10,2,5⟩,⟨8,0,0⟩,⟨19,41,0⟩,⟨2,1,0⟩,⟨10,3,40⟩,⟨2,1,0⟩,⟨9,0,0⟩,⟨10,1,28⟩,⟨2,1,0⟩,⟨9,0,0⟩,⟨9,0,0⟩,⟨3,0,0⟩,⟨16,0,0⟩,⟨18,21,0⟩,⟨2,1,0⟩,⟨9,0,0⟩,⟨9,0,0⟩,⟨8,1,1⟩,⟨19,27,0⟩,⟨3,1,0⟩,⟨3,0,0⟩,⟨6,0,0⟩,⟨2,1,0⟩,⟨9,1,0⟩,⟨6,0,0⟩,⟨19,39,0⟩,⟨2,1,0⟩,⟨9,0,0⟩,⟨10,0,38⟩,⟨3,1,0⟩,⟨3,0,0⟩,⟨6,0,0⟩,⟨2,1,0⟩,⟨9,1,0⟩,⟨6,0,0⟩,⟨19,39,0⟩,⟨21,0,0⟩,⟨19,41,0⟩,⟨21,0,0⟩,⟨20,0,0⟩,⟨7,0,0⟩]⟩]
def pd4 :List (List Int) := [[1,2,3,4,3,4,5,5,6,5,4,3,4,3,4,3,4,3,4,4,3,4,3,4,4,3,4,3,2], [1,2,3,2], [1,2,3,2,3,2,3,2,3,3,2,3,3,3,4,3,2,3,3,3,3,2,3,4,3,4,4,3,2,3,3,2,3,4,3,4,4,3,2,3,2,3,2]]
def pe4 :List Int := []
theorem tr4 :traceOk pf4 pd4 pe4 600 startA=true :=by decide+kernel
theorem fo4 :funsOk pf4=true :=by decide+kernel
def pf5 :List F2 := [⟨0, [⟨5,1,0⟩,⟨2,1,0⟩,⟨1,60,0⟩,⟨6,0,0⟩,⟨20,0,0⟩,⟨7,0,0⟩]⟩,⟨0, [⟨2,0,0⟩,⟨18,8,0⟩,⟨4,0,0⟩,⟨2,0,0⟩,⟨1,1,0⟩,⟨13,0,0⟩,⟨6,0,0⟩,⟨19,9,0⟩,⟨1,7,0⟩,⟨7,0,0⟩]⟩]
def pd5 :List (List Int) := [[1,2,3,4,3,2], [1,2,1,2,3,4,3,2,1,2]]
def pe5 :List Int := []
theorem tr5 :traceOk pf5 pd5 pe5 600 startA=true :=by decide+kernel
theorem fo5 :funsOk pf5=true :=by decide+kernel
def pf6 :List F2 := [⟨0, [⟨5,1,0⟩,⟨8,0,0⟩,⟨8,1,1⟩,⟨8,1,1⟩,⟨5,3,0⟩,⟨2,3,0⟩,⟨2,1,0⟩,⟨2,2,0⟩,⟨6,0,0⟩,⟨6,0,0⟩,⟨2,1,0⟩,⟨2,2,0⟩,⟨6,0,0⟩,⟨6,0,0⟩,⟨8,0,0⟩,⟨8,1,1⟩,⟨6,0,0⟩,⟨20,0,0⟩,⟨20,0,0⟩,⟨20,0,0⟩,⟨7,0,0⟩]⟩,⟨0, [⟨2,0,0⟩,⟨4,0,0⟩,⟨5,2,2⟩,⟨7,0,0⟩]⟩,⟨2, [⟨3,0,0⟩,⟨2,1,0⟩,⟨10,0,5⟩,⟨2,0,0⟩,⟨19,16,0⟩,⟨2,1,0⟩,⟨10,1,15⟩,⟨3,1,0⟩,⟨2,1,0⟩,⟨9,0,0⟩,⟨6,0,0⟩,⟨2,0,0⟩,⟨6,0,0⟩,⟨8,1,1⟩,⟨19,16,0⟩,⟨21,0,0⟩,⟨20,0,0⟩,⟨7,0,0⟩]⟩,⟨0, [⟨2,0,0⟩,⟨5,4,1⟩,⟨7,0,0⟩]⟩,⟨1, [⟨3,0,0⟩,⟨2,0,0⟩,⟨5,5,2⟩,⟨7,0,0⟩]⟩,⟨2, [⟨3,0,0⟩,⟨3,1,0⟩,⟨2,0,0⟩,⟨6,0,0⟩,⟨6,0,0⟩,⟨7,0,0⟩]⟩]
def pd6 :List (List Int) := [[1,2,3,3,3,4,5,6,7,6,5,6,7,6,5,6,6,5,4,3,2], [1,2,3,2], [1,2,3,2,3,2,3,2,3,4,4,3,4,3,3,2,3,2], [1,2,2], [1,2,3,2], [1,2,3,4,3,2]]
def pe6 :List Int := []
theorem tr6 :traceOk pf6 pd6 pe6 600 startA=true :=by decide+kernel
theorem fo6 :funsOk pf6=true :=by decide+kernel
end Go.Proofs.YtfmebaafpfkeiaaGreat
end
section
namespace Go.Proofs.YtfmebaafpfkeiaaGreat
open Go.RowKit
theorem RdO.news {B :Nat} {w w' :World} {ad :Addr} {n cap :Nat} {cs :List O3} (h :RdO B w (.slice (some ad) n cap) cs) (hb :Below w.heap.size w w') :
  n=cs.length∧∀j u,(flat O3.enc cs)[j]?=some u→w'.cell? (ad.add j)=some u :=by
 rcases h with ⟨rfl,a,c,hv⟩ | ⟨b,off,c,hv,h2,h3,h4,h5⟩
 ·injection hv with h1 h2 h3
  exact ⟨by simpa using h2,fun j u hj=> by simp [flat] at hj⟩
 ·injection hv with e1 e2 e3
  have e1 :=Option.some.inj e1
  subst e1
  refine ⟨e2,fun j u hj=> ?_⟩
  have hlen :(flat O3.enc cs).length=cs.length*3 :=flat_len O3.enc_len cs
  have hjl :j < cs.length*3 :=by rw [← hlen];exact (List.getElem?_eq_some_iff.1 hj).1
  have hk :j/3 < cs.length :=by omega
  have e :=flat_at O3.enc_len cs (j/3) _ (List.getElem?_eq_getElem hk) (j%3) (by omega)
  have hc :=h5 (j/3) _ (List.getElem?_eq_getElem hk) (j%3) (by omega)
  rw [show j/3*3+j%3=j by omega] at e
  have hadd :(⟨b,off,none⟩ :Addr).add j=⟨b,off+j,none⟩ :=by unfold Addr.add;split <;> simp_all
  rw [hadd]
  rw [show off+j/3*3+j%3=off+j by omega] at hc
  rw [← e,hj] at hc
  exact (hb.cell (p :=⟨b,off+j,none⟩) h3).trans hc
theorem RdO.none_nil {B :Nat} {w :World} {n cap :Nat} {cs :List O3} (h :RdO B w (.slice none n cap) cs) :cs= [] :=by
 rcases h with ⟨h,_⟩ | ⟨b,off,c,hv,_⟩
 ·exact h
 ·injection hv with h1;cases h1
theorem flat_one (cs :List O3) : ∀u∈flat O3.enc cs,u.oneCell'=true :=by
 intro u hu
 unfold flat at hu
 obtain ⟨c,_,hc⟩ :=List.mem_flatMap.1 hu
 simp only [O3.enc,List.mem_cons,List.not_mem_nil,or_false] at hc
 rcases hc with rfl | rfl | rfl <;> rfl
set_option maxHeartbeats 400000 in
theorem cloneC_any {B :Nat} (v :Value) (cs :List O3) (w :World) (hr :RdO B w v cs) (hn :cs.length≤4294967296) :
  Calls Tryz.prog 148 #[v] w fun e w'=> ∃v',e= .returned v'∧w'.ownsRow w.heap.size 63 3 v' cs.length (flat O3.enc cs)∧Below w.heap.size w w' :=by
 obtain ⟨a,cap,rfl⟩ :=hr.form
 have hrn :=fun (w :World) (n c :Nat) (x :Option Addr)=> Lib.run_eql_slice_nil (P :=Tryz.prog) w 30 63 x n c 0 0 Tryz.underlying30
 obtain ⟨i0,hi,hz0,hz1,hz2⟩ :=info_parts Tryz.infoCall
 have hfl :(flat O3.enc cs).length=cs.length*3 :=flat_len O3.enc_len cs
 cases a with
 | none=>
  have hz :cs= [] :=hr.none_nil
  subst hz
  clear hr
  go_enter Tryz.func148,Tryz.ntmps148
  go_wp2
  go_ret
  exact ⟨_,rfl,World.ownsRow_nil _ _ _ _,Below.refl _ _⟩
 | some ad=>
  have hnew :=(RdO.news hr ((Below.refl w.heap.size w).alloc (Nat.le_refl _) (.cells #[] 63))).2
  have HN :=Lib.hid hnew
  clear hr hnew
  go_enter Tryz.func148,Tryz.ntmps148
  go_wp2_with (at_builtin;refine wpList_append_own _ rfl _ _ 30 rfl w.heap.size 63 i0 (.agg #[.int .i64 0, .int .i64 0, .int .i64 0]) 3 24 Tryz.underlying30 hi hz0 hz1 hz2 rfl (by decide) _ 0 [] rfl ?_ ad cs.length cap (flat O3.enc cs) rfl hfl HN.out (flat_one _) ?_ ?_ ?_ ?_)
  ·exact own_empty rfl (Nat.le_refl _)
  ·unfold maxLen;omega
  ·omega
  ·simp
  ·intro v' w1 ho hg _
   have hb :Below w.heap.size w w1 :=((Below.refl _ _).alloc (Nat.le_refl _) _).grown hg (by simp) (by intro k hk;simp [Value.ownBlock] at hk;omega)
   clear hg
   go_wp2
   go_ret
   exact ⟨_,rfl,by simpa using ho,hb⟩
set_option maxHeartbeats 400000 in
theorem cloneO_any {B :Nat} (v :Value) (cs :List O3) (w :World) (hr :RdO B w v cs) (hn :cs.length≤4294967296) :
  Calls Tryz.prog 230 #[v] w fun e w'=> ∃v',e= .returned v'∧w'.ownsRow w.heap.size 65 3 v' cs.length (flat O3.enc cs)∧Below w.heap.size w w' :=by
 obtain ⟨a,cap,rfl⟩ :=hr.form
 have hrn :=fun (w :World) (n c :Nat) (x :Option Addr)=> Lib.run_eql_slice_nil (P :=Tryz.prog) w 66 65 x n c 0 0 Tryz.underlying66
 obtain ⟨i0,hi,hz0,hz1,hz2⟩ :=info_parts Tryz.infoOp2
 have hfl :(flat O3.enc cs).length=cs.length*3 :=flat_len O3.enc_len cs
 cases a with
 | none=>
  have hz :cs= [] :=hr.none_nil
  subst hz
  clear hr
  go_enter Tryz.func230,Tryz.ntmps230
  go_wp2
  go_ret
  exact ⟨_,rfl,World.ownsRow_nil _ _ _ _,Below.refl _ _⟩
 | some ad=>
  have hnew :=(RdO.news hr ((Below.refl w.heap.size w).alloc (Nat.le_refl _) (.cells #[] 65))).2
  have HN :=Lib.hid hnew
  clear hr hnew
  go_enter Tryz.func230,Tryz.ntmps230
  go_wp2_with (at_builtin;refine wpList_append_own _ rfl _ _ 66 rfl w.heap.size 65 i0 (.agg #[.int .i64 0, .int .i64 0, .int .i64 0]) 3 24 Tryz.underlying66 hi hz0 hz1 hz2 rfl (by decide) _ 0 [] rfl ?_ ad cs.length cap (flat O3.enc cs) rfl hfl HN.out (flat_one _) ?_ ?_ ?_ ?_)
  ·exact own_empty rfl (Nat.le_refl _)
  ·unfold maxLen;omega
  ·omega
  ·simp
  ·intro v' w1 ho hg _
   have hb :Below w.heap.size w w1 :=((Below.refl _ _).alloc (Nat.le_refl _) _).grown hg (by simp) (by intro k hk;simp [Value.ownBlock] at hk;omega)
   clear hg
   go_wp2
   go_ret
   exact ⟨_,rfl,by simpa using ho,hb⟩
end Go.Proofs.YtfmebaafpfkeiaaGreat
end
