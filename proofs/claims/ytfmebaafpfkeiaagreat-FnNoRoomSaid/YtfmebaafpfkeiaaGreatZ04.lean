/- Parts of the proof of FnNoRoom. -/
import Derived.Test.YtfmebaafpfkeiaaGreatZ03
set_option linter.unusedVariables false
set_option linter.unusedSimpArgs false
section
set_option maxRecDepth 20000
namespace Go.Ev
open Go
theorem famOf_spec {ρ :Rho} {s s' :St} {w :World} (h :Rel ρ s w) {bl d f :Nat} {ms :List (Nat×Nat×Nat)} (hf :famOf s bl=some (s',d,f,ms)) :
  Rel ρ s' w∧s'.nb=s.nb∧s'.fm.get f=some ms∧f < s'.nf∧∃b b',s.h.get bl=some b∧s'.h.get bl=some b'∧b'.c=b.c∧b'.fam=f+1∧b'.d=d :=by
 unfold famOf at hf
 cases hb :s.h.get bl with
 | none=> rw [hb] at hf;simp at hf
 | some b=>
  rw [hb] at hf
  simp only at hf
  cases hfa :b.fam with
  | zero=>
   rw [hfa] at hf
   simp only [Option.some.injEq,Prod.mk.injEq] at hf
   obtain ⟨rfl,rfl,rfl,rfl⟩ :=hf
   have hget : ∀y,(T.upd (some (⟨b.c,Nat.succ s.nf,0⟩ :Bk)) s.h bl).get y=if y=bl then some ⟨b.c,Nat.succ s.nf,0⟩ else s.h.get y :=fun y=> T.get_upd _ _ _ _
   have hfm : ∀g,(T.upd (some [(bl,0,llen b.c)]) s.fm s.nf).get g=if g=s.nf then some [(bl,0,llen b.c)] else s.fm.get g :=fun g=> T.get_upd _ _ _ _
   refine ⟨⟨h.dom,h.blk,?_,?_,?_,?_,?_⟩,rfl,(hfm s.nf).trans (if_pos rfl),Nat.lt_succ_self _,b,⟨b.c,Nat.succ s.nf,0⟩,rfl,(hget bl).trans (if_pos rfl),rfl,rfl,rfl⟩
   ·intro x cb sh z b' hx hb'
    change (T.upd (some (⟨b.c,Nat.succ s.nf,0⟩ :Bk)) s.h bl).get x=some b' at hb'
    rw [hget] at hb'
    split at hb'
    ·rename_i e;subst e
     simp only [Option.some.injEq] at hb';subst hb'
     exact h.con x cb sh z b hx hb
    ·exact h.con x cb sh z b' hx hb'
   ·intro x y cb sh sh' z z' b1 b2 hne hx hy h1 h2
    change (T.upd (some (⟨b.c,Nat.succ s.nf,0⟩ :Bk)) s.h bl).get x=some b1 at h1
    change (T.upd (some (⟨b.c,Nat.succ s.nf,0⟩ :Bk)) s.h bl).get y=some b2 at h2
    rw [hget] at h1 h2
    split at h1
    ·rename_i e;subst e
     split at h2
     ·rename_i e';exact absurd e'.symm hne
     ·have :=h.inj x y cb sh sh' z z' b b2 hne hx hy hb h2
      exact absurd hfa this.2.1
    ·split at h2
     ·rename_i e';subst e'
      have :=h.inj x y cb sh sh' z z' b1 b hne hx hy h1 hb
      exact absurd (this.1.trans hfa) this.2.1
     ·exact h.inj x y cb sh sh' z z' b1 b2 hne hx hy h1 h2
   ·intro x b' g hb' hg
    change (T.upd (some (⟨b.c,Nat.succ s.nf,0⟩ :Bk)) s.h bl).get x=some b' at hb'
    rw [hget] at hb'
    show ∃ms,(T.upd (some [(bl,0,llen b.c)]) s.fm s.nf).get g=some ms∧_
    rw [hfm]
    split at hb'
    ·rename_i e;subst e
     simp only [Option.some.injEq] at hb';subst hb'
     have :g=s.nf :=by simpa using hg.symm
     subst this
     rw [if_pos rfl]
     exact ⟨_,rfl,by simp [llen_eq]⟩
    ·have hlt :=h.nfl x b' hb'
     rw [if_neg (by omega)]
     exact h.fam x b' g hb' hg
   ·intro x b' hb'
    change (T.upd (some (⟨b.c,Nat.succ s.nf,0⟩ :Bk)) s.h bl).get x=some b' at hb'
    rw [hget] at hb'
    show b'.fam≤s.nf+1
    split at hb'
    ·simp only [Option.some.injEq] at hb';subst hb';exact Nat.le_refl _
    ·have :=h.nfl x b' hb';omega
   ·intro x b' hb'
    change (T.upd (some (⟨b.c,Nat.succ s.nf,0⟩ :Bk)) s.h bl).get x=some b' at hb'
    rw [hget] at hb'
    split at hb'
    ·rename_i e;subst e;exact h.lt x b hb
    ·exact h.lt x b' hb'
  | succ g=>
   rw [hfa] at hf
   simp only at hf
   split at hf
   ·simp at hf
   ·rename_i ms' hms
    simp only [Option.some.injEq,Prod.mk.injEq] at hf
    obtain ⟨rfl,rfl,rfl,rfl⟩ :=hf
    exact ⟨h,rfl,hms,by have :=h.nfl bl b hb;omega,b,b,rfl,hb,rfl,hfa,rfl⟩
theorem grow_spec {ρ :Rho} {s :St} {w :World} (h :Rel ρ s w) {f d lo hi :Nat} {ms :List (Nat×Nat×Nat)} (hms :s.fm.get f=some ms) (l :List S) :
  (∀y b,(grow s f d lo hi ms l).h.get y=some b→(y=s.nb∧b=⟨l,f+1,d⟩)∨(y≠s.nb∧s.h.get y=some b∧(b.fam=f+1→¬(b.d < hi∧lo < b.d+b.c.length))))∧
  (∀y b g,(grow s f d lo hi ms l).h.get y=some b→b.fam=g+1→∃ms',(grow s f d lo hi ms l).fm.get g=some ms'∧(y,b.d,b.c.length)∈ms') :=by
 obtain ⟨k1,k2⟩ :=kill_spec s.nb lo hi s.h ms
 have hget : ∀y,(grow s f d lo hi ms l).h.get y=if y=s.nb then some ⟨l,f+1,d⟩ else (kill s.nb lo hi s.h ms).1.get y :=fun y=> T.get_upd (some (⟨l,f+1,d⟩ :Bk)) _ _ _
 have hfm : ∀g,(grow s f d lo hi ms l).fm.get g=if g=f then some ((s.nb,d,llen l) ::(kill s.nb lo hi s.h ms).2) else s.fm.get g :=fun g=> T.get_upd (some ((s.nb,d,llen l) ::(kill s.nb lo hi s.h ms).2)) s.fm f g
 have hold : ∀y b,y≠s.nb→(kill s.nb lo hi s.h ms).1.get y=some b→s.h.get y=some b∧(b.fam=f+1→(y,b.d,b.c.length)∈ms∧¬(b.d < hi∧lo < b.d+b.c.length)) :=by
  intro y b hy hb
  have hb' :=hb
  rw [k1] at hb
  split at hb
  ·simp at hb
  ·rename_i hno
   refine ⟨hb,fun hf=> ?_⟩
   obtain ⟨ms',e1,e2⟩ :=h.fam y b f hb hf
   rw [hms] at e1
   simp only [Option.some.injEq] at e1;subst e1
   exact ⟨e2,fun hov=> hno ⟨_,e2,rfl,hy,hov⟩⟩
 refine ⟨fun y b hb=> ?_,fun y b g hb hg=> ?_⟩
 ·rw [hget] at hb
  split at hb
  ·rename_i e;simp only [Option.some.injEq] at hb;exact .inl ⟨e,hb.symm⟩
  ·rename_i e
   obtain ⟨h1,h2⟩ :=hold y b e hb
   exact .inr ⟨e,h1,fun hf=> (h2 hf).2⟩
 ·rw [hget] at hb
  rw [hfm]
  split at hb
  ·rename_i e
   simp only [Option.some.injEq] at hb;subst hb
   have :g=f :=by simpa using hg.symm
   subst this
   rw [if_pos rfl]
   exact ⟨_,rfl,by simp [e,llen_eq]⟩
  ·rename_i e
   obtain ⟨h1,h2⟩ :=hold y b e hb
   by_cases hgf :g=f
   ·subst hgf
    rw [if_pos rfl]
    obtain ⟨h3,h4⟩ :=h2 hg
    exact ⟨_,rfl,List.mem_cons_of_mem _ ((k2 _).2 ⟨h3, .inr h4⟩)⟩
   ·rw [if_neg hgf]
    exact h.fam y b g h1 hg
theorem grow_new {ρ :Rho} {s :St} {w :World} (h :Rel ρ s w) {f d lo hi :Nat} {ms :List (Nat×Nat×Nat)} (hms :s.fm.get f=some ms) (hfn :f < s.nf) {l :List S} {cells :Array Value} (hlen :l.length≤cells.size)
  (hl : ∀(i :Nat) sv,l[i]?=some sv→∃cv,cells[i]?=some cv∧SR ρ sv cv) (el :TypeId) :
  Rel (ρ.with s.nb (w.heap.size,0,cells.size)) (grow s f d lo hi ms l) (w.alloc (.cells cells el))∧Go s ρ w (grow s f d lo hi ms l) (ρ.with s.nb (w.heap.size,0,cells.size)) (w.alloc (.cells cells el)) :=by
 obtain ⟨g1,g2⟩ :=grow_spec (d :=d) (lo :=lo) (hi :=hi) h hms l
 obtain ⟨ra,go⟩ :=h.alloc' hlen hl el
 refine ⟨⟨ra.dom,ra.blk,?_,?_,g2,?_,?_⟩,go.states rfl rfl⟩
 ·intro x cb sh z b hx hb
  rcases g1 x b hb with ⟨rfl,rfl⟩ | ⟨hne,hb',_⟩
  ·exact ra.con s.nb cb sh z ⟨l,0,0⟩ hx (by rw [get_alloc,if_pos rfl])
  ·exact ra.con x cb sh z b hx (by rw [get_alloc,if_neg hne];exact hb')
 ·intro x y cb sh sh' z z' bx b' hne hx hy hbx hby
  rcases g1 x bx hbx with ⟨rfl,rfl⟩ | ⟨hnx,hbx',_⟩
  ·rcases g1 y b' hby with ⟨rfl,rfl⟩ | ⟨hny,hby',_⟩
   ·exact absurd rfl hne
   ·rw [Rho.with_at] at hx
    rw [Rho.with_ne hny] at hy
    simp only [Option.some.injEq,Prod.mk.injEq] at hx
    have :=h.block_lt hy
    omega
  ·rcases g1 y b' hby with ⟨rfl,rfl⟩ | ⟨hny,hby',_⟩
   ·rw [Rho.with_at] at hy
    rw [Rho.with_ne hnx] at hx
    simp only [Option.some.injEq,Prod.mk.injEq] at hy
    have :=h.block_lt hx
    omega
   ·rw [Rho.with_ne hnx] at hx
    rw [Rho.with_ne hny] at hy
    exact h.inj x y cb sh sh' z z' bx b' hne hx hy hbx' hby'
 ·intro x b hb
  show b.fam≤s.nf
  rcases g1 x b hb with ⟨rfl,rfl⟩ | ⟨hne,hb',_⟩
  ·exact hfn
  ·exact h.nfl x b hb'
 ·intro x b hb
  show x < s.nb+1
  rcases g1 x b hb with ⟨rfl,rfl⟩ | ⟨hne,hb',_⟩
  ·omega
  ·have :=h.lt x b hb';omega
theorem grow_place {ρ :Rho} {s :St} {w :World} (h :Rel ρ s w) {f :Nat} {ms :List (Nat×Nat×Nat)} (hms :s.fm.get f=some ms) (hfn :f < s.nf) {bl o k :Nat} {b :Bk} (hb :s.h.get bl=some b) (hbf :b.fam=f+1)
  {cb sh z :Nat} (hx :ρ bl=some (cb,sh,z)) {old ns :List S} (hold :old.length=k) (hoc : ∀(i :Nat) sv,old[i]?=some sv→b.c[o+i]?=some sv) {vs :List Value} (hl :LR (SR ρ) ns vs) (hroom :sh+o+k+vs.length≤z) :
  ∃cur e,w.heap[cb]?=some (.cells cur e (0,0))∧sh+o+k+vs.length≤cur.size∧
   Rel (ρ.with s.nb (cb,sh+o,z)) (grow s f (b.d+o) (b.d+o+k) (b.d+o+k+ns.length) ms (old++ns)) (w.setRow cb (cur.toList.take (sh+o+k)++vs++cur.toList.drop (sh+o+k+vs.length)).toArray)∧
   Go s ρ w (grow s f (b.d+o) (b.d+o+k) (b.d+o+k+ns.length) ms (old++ns)) (ρ.with s.nb (cb,sh+o,z)) (w.setRow cb (cur.toList.take (sh+o+k)++vs++cur.toList.drop (sh+o+k+vs.length)).toArray) :=by
 obtain ⟨g1,g2⟩ :=grow_spec (d :=b.d+o) (lo :=b.d+o+k) (hi :=b.d+o+k+ns.length) h hms (old++ns)
 obtain ⟨cur,e,hc,hz⟩ :=h.blk bl cb sh z hx
 obtain ⟨hcl,hcon⟩ :=h.con bl cb sh z b hx hb
 have hlen :=hl.length
 have hroom' :sh+o+k+vs.length≤cur.size :=by omega
 have hle :ρ.le (ρ.with s.nb (cb,sh+o,z)) :=Rho.with_le h.none
 refine ⟨cur,e,hc,hroom',?_⟩
 have hput : ∀i,(w.setRow cb (cur.toList.take (sh+o+k)++vs++cur.toList.drop (sh+o+k+vs.length)).toArray).cell? ⟨cb,i,none⟩ =if sh+o+k≤i∧i < sh+o+k+vs.length then vs[i-(sh+o+k)]? else w.cell? ⟨cb,i,none⟩ :=by
  intro i
  rw [cell_setRow_same w cb i cur _ e (0,0) hc,get_put cur vs (sh+o+k) i hroom']
  congr 1
  exact (cell_of_row w cb i cur e (0,0) hc).symm
 have hcase : ∀x q,ρ.with s.nb (cb,sh+o,z) x=some q→(x=s.nb∧q=(cb,sh+o,z))∨(x≠s.nb∧ρ x=some q) :=by
  intro x q hq
  by_cases hk :x=s.nb
  ·subst hk
   rw [Rho.with_at] at hq
   exact .inl ⟨rfl,(Option.some.inj hq).symm⟩
  ·exact .inr ⟨hk,by rw [Rho.with_ne hk] at hq;exact hq⟩
 have hcoord : ∀y b' sh' z',y≠s.nb→ρ y=some (cb,sh',z')→s.h.get y=some b'→b'.fam=f+1∧sh'+b.d=sh+b'.d :=by
  intro y b' sh' z' hy hy' hb'
  by_cases hyb :y=bl
  ·subst hyb
   rw [hx] at hy'
   simp only [Option.some.injEq,Prod.mk.injEq] at hy'
   rw [hb] at hb'
   simp only [Option.some.injEq] at hb';subst hb'
   exact ⟨hbf,by omega⟩
  ·have :=h.inj y bl cb sh' sh z' z b' b hyb hy' hx hb' hb
   exact ⟨this.1.trans hbf,this.2.2⟩
 refine ⟨⟨?_,?_,?_,?_,g2,?_,?_⟩,⟨hle,rfl,rfl,rfl,by simp,?_,?_,Nat.le_succ _,fun x y hxy=> by rcases hcase x y hxy with ⟨rfl,_⟩ | ⟨_,h'⟩;exact .inr (Nat.le_refl _);exact .inl h'⟩⟩
 ·intro x q hq
  show x < s.nb+1
  rcases hcase x q hq with ⟨rfl,_⟩ | ⟨_,hq⟩
  ·omega
  ·have :=h.dom _ _ hq;omega
 ·intro x cb' sh' z' hq
  have hany : ∃y sh'',ρ y=some (cb',sh'',z') :=by
   rcases hcase x _ hq with ⟨_,hq⟩ | ⟨_,hq⟩
   ·simp only [Prod.mk.injEq] at hq
    obtain ⟨rfl,_,rfl⟩ :=hq
    exact ⟨bl,sh,hx⟩
   ·exact ⟨x,sh',hq⟩
  obtain ⟨y,sh'',hy⟩ :=hany
  obtain ⟨cs,e',h1,h2⟩ :=h.blk y cb' sh'' z' hy
  by_cases hcc :cb'=cb
  ·subst hcc
   rw [hc] at h1
   simp only [Option.some.injEq,Obj.cells.injEq] at h1
   obtain ⟨rfl,rfl,_⟩ :=h1
   refine ⟨_,e,setRow_heap w cb' cur _ e (0,0) hc,?_⟩
   rw [← h2];simp;omega
  ·exact ⟨cs,e',by rw [setRow_other w cb cb' _ hcc];exact h1,h2⟩
 ·intro x cb' sh' z' b' hq hb'
  rcases g1 x b' hb' with ⟨rfl,rfl⟩ | ⟨hne,hb'',hno⟩
  ·rw [Rho.with_at] at hq
   simp only [Option.some.injEq,Prod.mk.injEq] at hq
   obtain ⟨rfl,rfl,rfl⟩ :=hq
   refine ⟨by simp only [List.length_append];omega,fun i sv hi=> ?_⟩
   rw [hput]
   by_cases hik :i < k
   ·rw [List.getElem?_append_left (by omega)] at hi
    rw [if_neg (by omega)]
    obtain ⟨cv,h1,h2⟩ :=hcon (o+i) sv (hoc i sv hi)
    exact ⟨cv,by rw [Nat.add_assoc];exact h1,h2.mono hle⟩
   ·rw [List.getElem?_append_right (by omega),hold] at hi
    have hi' :i-k < ns.length :=(List.getElem?_eq_some_iff.1 hi).1
    rw [if_pos (by omega)]
    obtain ⟨cv,h1,h2⟩ :=hl.get hi
    exact ⟨cv,by rw [show sh+o+i-(sh+o+k)=i-k by omega];exact h1,h2.mono hle⟩
  ·rw [Rho.with_ne hne] at hq
   obtain ⟨h1,h2⟩ :=h.con x cb' sh' z' b' hq hb''
   refine ⟨h1,fun i sv hi=> ?_⟩
   obtain ⟨cv,h3,h4⟩ :=h2 i sv hi
   refine ⟨cv,?_,h4.mono hle⟩
   by_cases hcc :cb'=cb
   ·subst hcc
    obtain ⟨c1,c2⟩ :=hcoord x b' sh' z' hne hq hb''
    have hno' :=hno c1
    have hi' :i < b'.c.length :=(List.getElem?_eq_some_iff.1 hi).1
    rw [hput,if_neg]
    ·exact h3
    ·omega
   ·rw [cell_setRow_other w cb _ _ hcc];exact h3
 ·intro x y cb' sh1 sh2 z1 z2 b1 b2 hne hq1 hq2 h3 h4
  rcases g1 x b1 h3 with ⟨rfl,rfl⟩ | ⟨hnx,h3',_⟩
  ·rcases g1 y b2 h4 with ⟨rfl,rfl⟩ | ⟨hny,h4',_⟩
   ·exact absurd rfl hne
   ·rw [Rho.with_at] at hq1
    rw [Rho.with_ne hny] at hq2
    simp only [Option.some.injEq,Prod.mk.injEq] at hq1
    obtain ⟨rfl,rfl,rfl⟩ :=hq1
    obtain ⟨c1,c2⟩ :=hcoord y b2 sh2 z2 hny hq2 h4'
    exact ⟨c1.symm,Nat.succ_ne_zero _,by show sh+o+b2.d=sh2+(b.d+o);omega⟩
  ·rcases g1 y b2 h4 with ⟨rfl,rfl⟩ | ⟨hny,h4',_⟩
   ·rw [Rho.with_at] at hq2
    rw [Rho.with_ne hnx] at hq1
    simp only [Option.some.injEq,Prod.mk.injEq] at hq2
    obtain ⟨rfl,rfl,rfl⟩ :=hq2
    obtain ⟨c1,c2⟩ :=hcoord x b1 sh1 z1 hnx hq1 h3'
    exact ⟨c1,by rw [c1];exact Nat.succ_ne_zero _,by show sh1+(b.d+o)=sh+o+b1.d;omega⟩
   ·rw [Rho.with_ne hnx] at hq1
    rw [Rho.with_ne hny] at hq2
    exact h.inj x y cb' sh1 sh2 z1 z2 b1 b2 hne hq1 hq2 h3' h4'
 ·intro x b' hb'
  show b'.fam≤s.nf
  rcases g1 x b' hb' with ⟨rfl,rfl⟩ | ⟨hne,hb'',_⟩
  ·exact hfn
  ·exact h.nfl x b' hb''
 ·intro x b' hb'
  show x < s.nb+1
  rcases g1 x b' hb' with ⟨rfl,rfl⟩ | ⟨hne,hb'',_⟩
  ·omega
  ·have :=h.lt x b' hb'';omega
 ·intro c hc' hnot
  exact setRow_other w cb c _ (fun e=> hnot bl sh z (by rw [e];exact hx))
 ·intro x cb' sh' z' hq
  rcases hcase x _ hq with ⟨_,hq⟩ | ⟨_,hq⟩
  ·simp only [Prod.mk.injEq] at hq
   obtain ⟨rfl,_,rfl⟩ :=hq
   exact .inl ⟨bl,sh,z',hx⟩
  ·exact .inl ⟨x,sh',z',hq⟩
end Go.Ev
end
section
set_option maxRecDepth 20000
namespace Go.Ev
open Go
theorem LR.one {ρ :Rho} {l :List S} {vs :List Value} (h :LR (SR ρ) l vs) : ∀v∈vs,v.oneCell'=true :=LR.all (Q :=fun v=> v.oneCell'=true) (fun _ _=> SR.one) h
theorem store_cells {P :Program} {ρ :Rho} {s s' :St} {w :World} (h :Rel ρ s w) {x o n :Nat} {l :List S} (hs :store s x o n l=some s') {cb sh z :Nat} (hx :ρ x=some (cb,sh,z)) {vs :List Value} (hl :LR (SR ρ) l vs) :
  vs.length=n∧∃w',(storeCells ⟨cb,sh+o,none⟩ vs).run P w= .ok () w'∧Rel ρ s' w'∧Go s ρ w s' ρ w' :=by
 unfold store at hs
 replace hs :=cond_some hs
 obtain ⟨hn,hs⟩ :=hs
 rw [nbeq,beq_iff_eq,llen_eq] at hn
 split at hs
 ·rename_i s1 hp
  obtain ⟨r1,r2,rnb,_,⟨b,r3,_,r4⟩,_⟩ :=prep_spec h hp
  subst hn
  obtain ⟨cur,e,h1,h2,h3,h4⟩ :=setc_spec r1 hs hx r2 (fun b' hb'=> by rw [r3] at hb';simp only [Option.some.injEq] at hb';subst hb';exact r4) hl
  refine ⟨hl.length.symm,_,?_,h3,h4.states rnb.symm rfl⟩
  have :=run_storeCells_at P cb (sh+o) e vs 0 cur w h1 (by simpa using h2) hl.one
  simpa only [Nat.add_zero] using this
 ·simp at hs
theorem run_append_place {P :Program} (w :World) (t ty e :TypeId) (i :TypeInfo) (ht :P.underlying t=some (.slice e)) (hi :P.info? e=some i)
  (g off sLen sCap :Nat) (cur :Array Value) (el :TypeId) (hg :w.heap[g]?=some (.cells cur el (0,0)))
  (a :Addr) (m c :Nat) (news :List Value) (hl :news.length=m*i.size) (hnews : ∀j u,news[j]?=some u→w.cell? (a.add j)=some u) (h1 : ∀u∈news,u.oneCell'=true)
  (hroom :sLen+m≤sCap) (hfit :off+sLen*i.size+news.length≤cur.size) :
  (Builtin.append_ #[t,t] ty #[.slice (some ⟨g,off,none⟩) sLen sCap, .slice (some a) m c]).run P w=
   .ok (.slice (some ⟨g,off,none⟩) (sLen+m) sCap) (w.setRow g (cur.toList.take (off+sLen*i.size)++news++cur.toList.drop (off+sLen*i.size+news.length)).toArray) :=by
 have hf :=run_firstCells_some (P :=P) w i.size m a m c news hl hnews
 have hst :=run_storeCells_at P g (off+sLen*i.size) el news 0 cur w hg (by simpa using hfit) h1
 simp only [Nat.add_zero] at hst
 simp [Builtin.append_,run_underlying ht,sizeOf,typeInfo,hi,Builtin.lenOf,hroom,hf,add_addr,hst]
theorem run_append_zero {P :Program} (w :World) (t ty e :TypeId) (i :TypeInfo) (ht :P.underlying t=some (.slice e)) (hi :P.info? e=some i) (b :Option Addr) (n c :Nat) (hc :n≤c) (a :Option Addr) (c' :Nat) :
  (Builtin.append_ #[t,t] ty #[.slice b n c, .slice a 0 c']).run P w= .ok (.slice b n c) w :=by
 have h0 :(Builtin.firstCells i.size 0 (.slice a 0 c')).run P w= .ok #[] w :=by
  cases a with
  | none=> simp [Builtin.firstCells]
  | some a=> simp [Builtin.firstCells,loadCells,loadCellsFrom]
 cases b with
 | none=> simp [Builtin.append_,run_underlying ht,sizeOf,typeInfo,hi,Builtin.lenOf,hc,h0]
 | some b=> simp [Builtin.append_,run_underlying ht,sizeOf,typeInfo,hi,Builtin.lenOf,hc,h0,storeCells]
theorem newsOf_spec {ρ :Rho} {s :St} {w :World} (h :Rel ρ s w) {sz m :Nat} {y :S} {ns :List S} (hn :newsOf s sz y=some (m,ns)) {cy :Value} (hy :SR ρ y cy) :
  ∃a c,cy= .slice a m c∧((m=0∧ns= [])∨∃(ad :Addr) (vs :List Value),a=some ad∧0 < m∧ns.length=m*sz∧vs.length=m*sz∧LR (SR ρ) ns vs∧∀j v,vs[j]?=some v→w.cell? (ad.add j)=some v) :=by
 unfold newsOf at hn
 split at hn
 ·simp only [Option.some.injEq,Prod.mk.injEq] at hn
  obtain ⟨rfl,rfl⟩ :=hn
  exact ⟨none,0,hy, .inl ⟨rfl,rfl⟩⟩
 ·rename_i bl o n sz' full
  replace hn :=cond_some hn
  obtain ⟨h1,hn⟩ :=hn
  rw [nbeq,beq_iff_eq] at h1
  subst h1
  obtain ⟨cb,sh,zz,ad,cap,r1,r2,r3,r4,r5,r6,r7⟩ :=hy
  cases n with
  | zero=>
   simp only [Option.some.injEq,Prod.mk.injEq] at hn
   obtain ⟨rfl,rfl⟩ :=hn
   exact ⟨some ad,cap,r2, .inl ⟨rfl,rfl⟩⟩
  | succ n=>
   simp only at hn
   split at hn
   ·rename_i l hl
    simp only [Option.some.injEq,Prod.mk.injEq] at hn
    obtain ⟨rfl,rfl⟩ :=hn
    obtain ⟨cs,g1,g2,g3⟩ :=h.cells_there hl r1
    refine ⟨some ad,cap,r2, .inr ⟨ad,cs,rfl,Nat.succ_pos _,by rw [g2.length];exact g1,g1,g2,?_⟩⟩
    rw [r5 (by omega)]
    exact g3
   ·simp at hn
 ·simp at hn
theorem m47_eq :m47=140737488355328 :=rfl
theorem app_sound {P :Program} {ty :TypeId→Option TyI} (hty :TyOk P ty) {t el :TypeId} {j :TyI} (hu :P.underlying t=some (.slice el)) (hj :ty el=some j) (hz :j.sz≠0) (hzl :j.z.length=j.sz) {ρ :Rho} {s s' :St} {w :World} (h :Rel ρ s w)
  {x y :S} {cx cy :Value} (hx :SR ρ x cx) (hy :SR ρ y cy) {v :V} (hv :app s j.sz j.by_ x y=some (v,s')) (ty' :TypeId) :
  ∃cv w' ρ',(Builtin.append_ #[t,t] ty' #[cx,cy]).run P w= .ok cv w'∧VR ρ' v cv∧Rel ρ' s' w'∧Go s ρ w s' ρ' w' :=by
 obtain ⟨inf,zv,hi1,hi2,hi3,hi4,hi5⟩ :=hty.info hj
 have hzs :zv.cells.size=inf.size :=by
  have :=(valL_lr ρ hi5).length
  rw [hi2,← hzl,this];simp
 unfold app at hv
 split at hv
 ·simp at hv
 ·rename_i m ns hn
  obtain ⟨ay,cc,rfl,hnews⟩ :=newsOf_spec h hn hy
  split at hv
  ·split at hv
   ·simp only [Option.some.injEq,Prod.mk.injEq] at hv
    obtain ⟨rfl,rfl⟩ :=hv
    have hx' :cx= .slice none 0 0 :=hx
    subst hx'
    exact ⟨_,w,ρ,run_append_zero w t ty' el inf hu hi1 _ _ _ (Nat.le_refl _) ay cc,hx,h,Go.refl _ _ _⟩
   ·simp only [Option.some.injEq,Prod.mk.injEq] at hv
    obtain ⟨rfl,rfl⟩ :=hv
    have hx' :=hx
    obtain ⟨cb,sh,zz,ad,cap,r1,r2,r3,r4,r5,r6,r7⟩ :=hx'
    subst r2
    exact ⟨_,w,ρ,run_append_zero w t ty' el inf hu hi1 _ _ _ r3 ay cc,hx,h,Go.refl _ _ _⟩
   ·simp at hv
  ·rename_i m'
   rcases hnews with ⟨h0,_⟩ | ⟨ad',vs,rfl,hm0,hnl,hvl,hnr,hnc⟩
   ·exact absurd h0 (Nat.succ_ne_zero _)
   ·have hvl' :vs.length=(m'+1)*inf.size :=by rw [hi2];exact hvl
    have pre : ∀(olds :List Value) (old :List S),LR (SR ρ) old olds→∀(k :Nat),
      (old++ns).length≤(olds.toArray++vs.toArray++Builtin.zeroCells zv.cells k).size∧
      ∀(i :Nat) sv,(old++ns)[i]?=some sv→∃cv,(olds.toArray++vs.toArray++Builtin.zeroCells zv.cells k)[i]?=some cv∧SR ρ sv cv :=by
     intro olds old ho k
     have hl :=(ho.append hnr).length
     refine ⟨by simp at hl ⊢;omega,fun i sv hi=> ?_⟩
     obtain ⟨cv,h1,h2⟩ :=(ho.append hnr).get hi
     have hi' :i < (olds++vs).length :=(List.getElem?_eq_some_iff.1 h1).1
     refine ⟨cv,?_,h2⟩
     have :(olds.toArray++vs.toArray++Builtin.zeroCells zv.cells k).toList[i]?=some cv :=by
      simp only [Array.toList_append]
      rw [List.getElem?_append_left hi']
      exact h1
     rw [← Array.getElem?_toList]
     exact this
    split at hv
    ·obtain ⟨hb,hv⟩ :=cond_some hv
     obtain ⟨hb1,hb2⟩ :=ble2 hb
     rw [m47_eq] at hb1
     rw [m63_eq] at hb2
     simp only [Option.some.injEq,Prod.mk.injEq] at hv
     obtain ⟨rfl,rfl⟩ :=hv
     have hx' :cx= .slice none 0 0 :=hx
     subst hx'
     have hb1' :(m'+1)*inf.bytes≤140737488355328 :=by rw [hi3];exact hb1
     have hb2' :m'+1≤9223372036854775807 :=hb2
     have hrun :=run_append_nil (P :=P) w t ty' el inf zv hu hi1 hi4 ad' (m'+1) cc vs hvl' hnc (by omega) (by omega) (by omega)
     obtain ⟨p1,p2⟩ :=pre [] [] trivial (grownCap w (m'+1) 0 el-(m'+1))
     simp only [List.nil_append] at p1 p2
     have e0 :(([] :List Value).toArray++vs.toArray++Builtin.zeroCells zv.cells (grownCap w (m'+1) 0 el-(m'+1)))=vs.toArray++Builtin.zeroCells zv.cells (grownCap w (m'+1) 0 el-(m'+1)) :=by simp
     rw [e0] at p1 p2
     obtain ⟨a1,a2⟩ :=h.drew.alloc' p1 p2 el
     refine ⟨_,_,_,hrun,?_,a1,⟨a2.le,a2.os,a2.tape,a2.output,a2.size,a2.block,a2.new,a2.nbs,a2.fresh⟩⟩
     have hge :=grownCap_ge w (m'+1) 0 el
     refine ⟨w.heap.size,0,_,_,_,Rho.with_at _ _ _,rfl,hge,fun hh=> by simp at hh,fun _=> rfl,?_,by omega⟩
     simp only [Array.size_append,size_zeroCells,List.size_toArray,hvl',hzs,hi2]
     rw [← Nat.add_mul]
     have :(m'+1)+(grownCap w (m'+1) 0 el-(m'+1))=grownCap w (m'+1) 0 el :=by omega
     rw [this];omega
    ·rename_i bl o n sz' full
     replace hv :=cond_some hv
     obtain ⟨hb,hv⟩ :=hv
     obtain ⟨hb0,hb9⟩ :=(Bool.and_eq_true _ _).mp hb
     rw [nbeq,beq_iff_eq] at hb0
     subst hb0
     obtain ⟨hb1,hb2⟩ :=ble2 hb9
     rw [m47_eq] at hb1
     rw [m63_eq] at hb2
     have hb1' :(n+(m'+1))*inf.bytes≤140737488355328 :=by rw [hi3];exact hb1
     have hb2' :n+(m'+1)≤9223372036854775807 :=hb2
     have hxx :=hx
     obtain ⟨cb,sh,zz,ad,cap,r1,r2,r3,r4,r5,r6,r7⟩ :=hxx
     subst r2
     split at hv
     ·simp at hv
     ·rename_i old hold
      have holds : ∃olds :List Value,olds.length=n*inf.size∧old.length=n*j.sz∧LR (SR ρ) old olds∧(∀jj v,olds[jj]?=some v→w.cell? (ad.add jj)=some v)∧
        ∀b,s.h.get bl=some b→∀(i :Nat) sv,old[i]?=some sv→b.c[o+i]?=some sv :=by
       cases n with
       | zero=>
        simp only [Option.some.injEq] at hold;subst hold
        exact ⟨[],by simp,by simp,trivial,fun _ _ h=> by simp at h,fun _ _ _ _ h=> by simp at h⟩
       | succ n=>
        simp only at hold
        obtain ⟨cs,g1,g2,g3⟩ :=h.cells_there hold r1
        refine ⟨cs,by rw [hi2];exact g1,by rw [g2.length];exact g1,g2,?_,?_⟩
        ·rw [r5 (by omega)];exact g3
        ·intro b hb i sv hi
         unfold cellsAt at hold
         rw [hb] at hold
         simp only at hold
         obtain ⟨_,hold⟩ :=cond_some hold
         simp only [Option.some.injEq,ltake_eq,ldrop_eq] at hold
         rw [← hold,List.getElem?_take] at hi
         split at hi
         ·simpa using hi
         ·simp at hi
      obtain ⟨olds,ho1,ho2,ho3,ho4,ho5⟩ :=holds
      have hge :=grownCap_ge w (n+(m'+1)) cap el
      have fresh :cap < n+(m'+1)→∀(s2 :St),(∀cells :Array Value,(old++ns).length≤cells.size→(∀(i :Nat) sv,(old++ns)[i]?=some sv→∃cv,cells[i]?=some cv∧SR ρ sv cv)→
        Rel (ρ.with s.nb (w.drew.heap.size,0,cells.size)) s2 (w.drew.alloc (.cells cells el))∧Go s ρ w.drew s2 (ρ.with s.nb (w.drew.heap.size,0,cells.size)) (w.drew.alloc (.cells cells el)))→
        ∃cv w' ρ',(Builtin.append_ #[t,t] ty' #[.slice (some ad) n cap, .slice (some ad') (m'+1) cc]).run P w= .ok cv w'∧VR ρ' (.c (.l s.nb 0 (n+(m'+1)) j.sz false)) cv∧Rel ρ' s2 w'∧Go s ρ w s2 ρ' w' :=by
       intro hlt s2 hs2
       have hrun :=run_append_grow (P :=P) w t ty' el inf zv hu hi1 hi4 ad n cap olds ho1 ho4 ad' (m'+1) cc vs hvl' hnc hlt (by omega) (growslice_fits hlt hb1')
       obtain ⟨p1,p2⟩ :=pre olds old ho3 (grownCap w (n+(m'+1)) cap el-(n+(m'+1)))
       obtain ⟨a1,a2⟩ :=hs2 _ p1 p2
       refine ⟨_,_,_,hrun,?_,a1,⟨a2.le,a2.os,a2.tape,a2.output,a2.size,a2.block,a2.new,a2.nbs,a2.fresh⟩⟩
       refine ⟨w.heap.size,0,_,_,_,Rho.with_at _ _ _,rfl,hge,fun hh=> by simp at hh,fun _=> rfl,?_,by omega⟩
       simp only [Array.size_append,size_zeroCells,List.size_toArray,hvl',ho1,hzs,hi2]
       rw [← Nat.add_mul,← Nat.add_mul]
       have :n+(m'+1)+(grownCap w (n+(m'+1)) cap el-(n+(m'+1)))=grownCap w (n+(m'+1)) cap el :=by omega
       rw [this];omega
      cases full with
      | true=>
       simp only [cond_true,Option.some.injEq,Prod.mk.injEq] at hv
       obtain ⟨rfl,rfl⟩ :=hv
       have hcap :=r4 rfl
       rw [lapp_eq]
       exact fresh (by omega) _ fun cells c1 c2=> h.drew.alloc' c1 c2 el
      | false=>
       simp only [cond_false] at hv
       split at hv
       ·simp at hv
       ·rename_i s1 d f ms hf
        simp only [Option.some.injEq,Prod.mk.injEq] at hv
        obtain ⟨rfl,rfl⟩ :=hv
        obtain ⟨q1,q2,q3,q4,b,b',q5,q6,q7,q8,q9⟩ :=famOf_spec h hf
        rw [lapp_eq,llen_eq]
        by_cases hroom :n+(m'+1)≤cap
        ·have had :ad=⟨cb,sh+o,none⟩ :=r5 (by omega)
         subst had
         have hfit :sh+o+n*j.sz+vs.length≤zz :=by
          have e1 :n*j.sz+(m'+1)*j.sz≤cap*j.sz :=by rw [← Nat.add_mul];exact Nat.mul_le_mul_right _ hroom
          have e2 :vs.length=(m'+1)*j.sz :=hvl
          omega
         obtain ⟨cur,e,k1,k2,k3,k4⟩ :=grow_place q1 q3 q4 q6 q8 r1 ho2 (o :=o) (fun i sv hi=> by rw [q7];exact ho5 b q5 i sv hi) hnr hfit
         have hrun :=run_append_place w t ty' el inf hu hi1 cb (sh+o) n cap cur e k1 ad' (m'+1) cc vs hvl' hnc hnr.one hroom (by rw [hi2];exact k2)
         rw [hi2] at hrun
         rw [q2] at k3 k4
         subst q9
         refine ⟨_,_,_,hrun,?_,k3,k4.states q2.symm rfl⟩
         refine ⟨cb,sh+o,zz,_,cap,Rho.with_at _ _ _,rfl,hroom,fun hh=> by simp at hh,fun _=> rfl,?_,by omega⟩
         omega
        ·refine fresh (by omega) _ fun cells c1 c2=> ?_
         have :=grow_new q1.drew q3 q4 (d :=Nat.add d o) (lo :=Nat.add (Nat.add d o) (Nat.mul n j.sz)) (hi :=Nat.add (Nat.add (Nat.add d o) (Nat.mul n j.sz)) ns.length) c1 c2 el
         rw [q2] at this
         exact ⟨this.1,this.2.states q2.symm rfl⟩
    ·simp at hv
end Go.Ev
end
section
set_option maxRecDepth 20000
namespace Go.Ev
open Go
theorem run_append_make {P :Program} (w :World) (t t' ty e :TypeId) (i :TypeInfo) (k :IntKind) (z :Value) (ht :P.underlying t=some (.slice e)) (ht' :P.underlying t'=some (.int k)) (hi :P.info? e=some i) (hz :i.zero=some z)
  (n :Nat) (h0 :0 < n) (hs :n*i.size≠0) (h63 :(n :Int)≤9223372036854775807) (h48 :n*i.bytes≤140737488355328) :
  (Builtin.append_ #[t,t'] ty #[.slice none 0 0, .int .i64 n]).run P w=
   .ok (.slice (some ⟨w.heap.size,0,none⟩) n (grownCap w n 0 e)) (w.drew.alloc (.cells (Builtin.zeroCells z.cells n++Builtin.zeroCells z.cells (grownCap w n 0 e-n)) e)) :=by
 have hn :n≠0 :=by omega
 have h63' : ¬(9223372036854775807 < (n :Int)) :=by omega
 have h48' : ¬(281474976710656 < Builtin.nextslicecap n 0*i.bytes) :=by rw [nextslicecap_zero h0];omega
 have hw :IntKind.i64.wrap (n :Int)=n :=IntWalk.i64_in _ ⟨by omega,by omega⟩
 have h48i : ¬(281474976710656 < (n :Int)*(i.bytes :Int)) :=by
  have h1 :((n*i.bytes :Nat) :Int)≤((140737488355328 :Nat) :Int) :=Int.ofNat_le.2 h48
  rw [Int.natCast_mul] at h1
  generalize (n :Int)*(i.bytes :Int)=q at h1 ⊢
  omega
 have hneg : ¬((n :Int) < 0) :=by omega
 have hmax :max (n :Int) 0=n :=Int.max_eq_left (by omega)
 have hle : ¬((n :Int)≤0) :=by omega
 simp [Builtin.append_,run_underlying ht,run_underlying ht',sizeOf,typeInfo,zeroValue,hi,hz,asInt,asIntOf,hw,hn,hs,hneg,hle,hmax,h48i,h63',h48',Question.forced,run_firstCells_none,newRow,grownCap]
theorem apz_sound {P :Program} {ty :TypeId→Option TyI} (hty :TyOk P ty) {t t' el :TypeId} {k :IntKind} {j :TyI} (hu :P.underlying t=some (.slice el)) (hu' :P.underlying t'=some (.int k)) (hj :ty el=some j) (hz :j.sz≠0) (hzl :j.z.length=j.sz) {ρ :Rho} {s s' :St} {w :World} (h :Rel ρ s w)
  {x :S} {cx cn :Value} (hx :SR ρ x cx) {n :Option Nat} (hn : ∀m,n=some m→cn= .int .i64 m) {v :V} (hv :apzv s j.sz j.by_ j.z n x=some (v,s')) (ty' :TypeId) :
  ∃cv w' ρ',(Builtin.append_ #[t,t'] ty' #[cx,cn]).run P w= .ok cv w'∧VR ρ' v cv∧Rel ρ' s' w'∧Go s ρ w s' ρ' w' :=by
 obtain ⟨inf,zv,hi1,hi2,hi3,hi4,hi5⟩ :=hty.info hj
 have hzs :zv.cells.size=inf.size :=by
  have :=(valL_lr ρ hi5).length
  rw [hi2,← hzl,this];simp
 unfold apzv at hv
 split at hv
 ·have hx' :cx= .slice none 0 0 :=hx
  subst hx'
  split at hv
  ·simp only [Option.some.injEq,Prod.mk.injEq] at hv
   obtain ⟨rfl,rfl⟩ :=hv
   have hc :=hn 0 rfl
   subst hc
   refine ⟨.slice none 0 0,w,ρ,?_,rfl,h,Go.refl _ _ _⟩
   have hw :IntKind.i64.wrap 0=0 :=rfl
   simp [Builtin.append_,run_underlying hu,run_underlying hu',sizeOf,typeInfo,hi1,asInt,asIntOf,hw]
  ·rename_i m
   obtain ⟨hb,hv⟩ :=cond_some hv
   obtain ⟨hb1,hb2⟩ :=ble2 hb
   rw [m47_eq] at hb1
   rw [m63_eq] at hb2
   simp only [Option.some.injEq,Prod.mk.injEq] at hv
   obtain ⟨rfl,rfl⟩ :=hv
   have hc :=hn (m+1) rfl
   subst hc
   have hb1' :(m+1)*inf.bytes≤140737488355328 :=by rw [hi3];exact hb1
   have hb2' :m+1≤9223372036854775807 :=hb2
   have hs0 :(m+1)*inf.size≠0 :=Nat.mul_ne_zero (by omega) (by rw [hi2];exact hz)
   have hrun :=run_append_make (P :=P) w t t' ty' el inf k zv hu hu' hi1 hi4 (m+1) (by omega) hs0 (by omega) hb1'
   have hge :=grownCap_ge w (m+1) 0 el
   have hlr :=lrep_lr (valL_lr ρ hi5) (m+1)
   have hlen :(lrep j.z (m+1)).length=(m+1)*zv.cells.size :=by rw [lrep_length,hzl,hzs,hi2]
   obtain ⟨a1,a2⟩ :=h.drew.alloc' (l :=lrep j.z (m+1)) (cells :=Builtin.zeroCells zv.cells (m+1)++Builtin.zeroCells zv.cells (grownCap w (m+1) 0 el-(m+1)))
    (by rw [hlen];simp only [Array.size_append,size_zeroCells];omega)
    (fun i sv hi=> by
     obtain ⟨cv,q1,q2⟩ :=hlr.get hi
     refine ⟨cv,?_,q2⟩
     have hi' :i < (m+1)*zv.cells.size :=by rw [← hlen];exact (List.getElem?_eq_some_iff.1 hi).1
     rw [Array.getElem?_append_left (by rw [size_zeroCells];exact hi')]
     rw [← Array.getElem?_toList]
     exact q1) el
   refine ⟨_,_,_,hrun,?_,a1,⟨a2.le,a2.os,a2.tape,a2.output,a2.size,a2.block,a2.new,a2.nbs,a2.fresh⟩⟩
   refine ⟨w.heap.size,0,_,_,_,Rho.with_at _ _ _,rfl,hge,fun hh=> by simp at hh,fun _=> rfl,?_,by omega⟩
   simp only [Array.size_append,size_zeroCells,hzs,hi2]
   rw [← Nat.add_mul]
   have :(m+1)+(grownCap w (m+1) 0 el-(m+1))=grownCap w (m+1) 0 el :=by omega
   rw [this];omega
  ·simp at hv
 ·simp at hv
theorem clear_sound {P :Program} {ty :TypeId→Option TyI} (hty :TyOk P ty) {t el :TypeId} {j :TyI} (hu :P.underlying t=some (.slice el)) (hj :ty el=some j) (hzl :j.z.length=j.sz) {ρ :Rho} {s s' :St} {w :World} (h :Rel ρ s w)
  {x :S} {cx :Value} (hx :SR ρ x cx) {v :V} (hv :clrv s j.sz j.z x=some (v,s')) (ty' :TypeId) :
  ∃cv w',(Builtin.clear_ #[t] ty' #[cx]).run P w= .ok cv w'∧VR ρ v cv∧Rel ρ s' w'∧Go s ρ w s' ρ w' :=by
 obtain ⟨inf,zv,hi1,hi2,hi3,hi4,hi5⟩ :=hty.info hj
 have hzs :zv.cells.size=j.sz :=by
  have :=(valL_lr ρ hi5).length
  rw [← hzl,this];simp
 unfold clrv at hv
 split at hv
 ·simp only [Option.some.injEq,Prod.mk.injEq] at hv
  obtain ⟨rfl,rfl⟩ :=hv
  have hx' :cx= .slice none 0 0 :=hx
  subst hx'
  refine ⟨.tuple #[],w,?_,trivial,h,Go.refl _ _ _⟩
  unfold Builtin.clear_
  simp [run_under hu]
 ·rename_i bl o n sz' full
  replace hv :=cond_some hv
  obtain ⟨h1,hv⟩ :=hv
  rw [nbeq,beq_iff_eq] at h1
  subst h1
  obtain ⟨cb,sh,zz,ad,cap,r1,r2,r3,r4,r5,r6,r7⟩ :=hx
  subst r2
  by_cases hn :n=0
  ·subst hn
   simp only [nbeq,beq_self_eq_true,cond_true,Option.some.injEq,Prod.mk.injEq] at hv
   obtain ⟨rfl,rfl⟩ :=hv
   refine ⟨.tuple #[],w,?_,trivial,h,Go.refl _ _ _⟩
   unfold Builtin.clear_
   simp [run_under hu]
  ·have :Nat.beq n 0=false :=by rw [nbeq];simpa using hn
   rw [this,cond_false] at hv
   split at hv
   ·rename_i s1 hs
    simp only [Option.some.injEq,Prod.mk.injEq] at hv
    obtain ⟨rfl,rfl⟩ :=hv
    have hl :=lrep_lr (valL_lr ρ hi5) n
    obtain ⟨_,w',k1,k2,k3⟩ :=store_cells (P :=P) h hs r1 hl
    refine ⟨.tuple #[],w',?_,trivial,k2,k3⟩
    have had :ad=⟨cb,sh+o,none⟩ :=r5 (by omega)
    subst had
    unfold Builtin.clear_
    obtain ⟨n',rfl⟩ : ∃n',n=n'+1 :=⟨n-1,by omega⟩
    simp only [Sem.run_bind,run_under hu,Result.andThen_ok,List.getElem?_toArray,List.getElem?_cons_zero,Sem.run_pure]
    simp only [run_zero hi1 hi4,Result.andThen_ok,Sem.run_bind]
    rw [show (Builtin.zeroCells zv.cells (n'+1)).toList=((Array.range ((n'+1)*zv.cells.size)).map (zv.cells[·%zv.cells.size]!)).toList from rfl,k1]
    rfl
   ·simp at hv
 ·simp at hv
def CallOk (P :Program) (call :Nat→List V→St→Option (V×St)) :Prop :=
 ∀g vs s v s',call g vs s=some (v,s')→∀(ρ :Rho) (w :World) (cargs :List Value),LR (VR ρ) vs cargs→Rel ρ s w→
  (callFunc g cargs.toArray).run P w= .ok (.enter g cargs.toArray) w∧
  Calls P g cargs.toArray w fun e w'=> ∃cv ρ',e= .returned cv∧VR ρ' v cv∧Rel ρ' s' w'∧Go s ρ w s' ρ' w'
section
variable {P :Program} {ty :TypeId→Option TyI} {ibs :FuncId→Bool} {call :Nat→List V→St→Option (V×St)}
theorem Oper.wp_value {o :Oper} {a :Act} {w w' :World} {next :Act→World→Prop} {Q :Exit→Act→World→Prop} {cv :Value} (h :(execOp a.eval o).run P w= .ok (.value cv) w') (hn :next (a.put o.dst cv) w') :o.wp P a w next Q :=by
 unfold Oper.wp;rw [h];exact hn
theorem Oper.wp_skip {o :Oper} {a :Act} {w w' :World} {next :Act→World→Prop} {Q :Exit→Act→World→Prop} (h :(execOp a.eval o).run P w= .ok .skip w') (hn :next (a.put o.dst undef) w') :o.wp P a w next Q :=by
 unfold Oper.wp;rw [h];exact hn
theorem Oper.wp_enter {o :Oper} {a :Act} {w w' :World} {next :Act→World→Prop} {Q :Exit→Act→World→Prop} {f :FuncId} {args :Array Value} (h :(execOp a.eval o).run P w= .ok (.enter f args) w') {R :Ending→World→Prop}
  (hc :Calls P f args w' R) (hn : ∀e w'',R e w''→∃cv,e= .returned cv∧next (a.put o.dst cv) w'') :o.wp P a w next Q :=by
 unfold Oper.wp;rw [h]
 refine Calls.mono hc fun e w'' hr=> ?_
 obtain ⟨cv,rfl,h2⟩ :=hn e w'' hr
 exact h2
theorem lr_ptrs {ρ :Rho} : ∀{cs :List (Nat×Nat)} {vs :List Value},LR (fun (c :Nat×Nat) v=> PR ρ c.1 c.2 v) cs vs→LR (VR ρ) (cs.map fun c=> V.c (.p c.1 c.2)) vs
 | [], [],_=> trivial
 | _ ::_,_ ::_,h=> ⟨h.1,lr_ptrs h.2⟩
 | [],_ ::_,h=> h.elim
 | _ ::_, [],h=> h.elim
theorem mv_sound (hty :TyOk P ty) (hcall :CallOk P call) {o :Oper} {x :M} (h :cMO ty ibs o.op=some (.m x)) {ρ :Rho} {e :E} {a :Act} (he :ER ρ e a) {s s' :St} {w :World} (hr :Rel ρ s w) {v :V} (hv :mv call e s x=some (v,s'))
  {next :Act→World→Prop} {Q :Exit→Act→World→Prop} (hn : ∀cv w' ρ',VR ρ' v cv→Rel ρ' s' w'→Go s ρ w s' ρ' w'→next (a.put o.dst cv) w') :o.wp P a w next Q :=by
 obtain ⟨dst,op,type,pos,after,guard⟩ :=o
 cases op
 case store t y z=>
  simp only [cMO] at h
  split at h <;> simp only [Option.some.injEq,reduceCtorEq,MO.m.injEq] at h
  rename_i i y' z' hi hy hz
  subst h
  obtain ⟨inf,zv,hi1,hi2,hi3,hi4,hi5⟩ :=hty.info hi
  simp only [mv] at hv
  split at hv
  ·rename_i bl o l h1 h2
   split at hv
   ·rename_i s1 hs
    simp only [Option.some.injEq,Prod.mk.injEq] at hv
    obtain ⟨rfl,rfl⟩ :=hv
    obtain ⟨cb,sh,zz,r1,r2⟩ :=he.at hy h1
    have hl :=VR.cells (he.ov hz) h2
    obtain ⟨k0,w',k1,k2,k3⟩ :=store_cells (P :=P) hr hs r1 hl
    refine Oper.wp_skip (w' :=w') ?_ (hn undef w' ρ trivial k2 k3)
    have :(Instr.storeAt t (a.eval y) (a.eval z)).run P w= .ok () w' :=by
     unfold Instr.storeAt storeVar
     simp only [r2,Instr.sureAddr,Sem.run_bind,Sem.run_pure,Result.andThen_ok,run_size hi1]
     rw [if_neg (by rw [hi2,← k0];simp)]
     exact k1
    simp only [execOp,Sem.run_bind,this,Result.andThen_ok]
    rfl
   ·simp at hv
  ·simp at hv
 case call c=>
  simp only [cMO] at h
  split at h
  ·rename_i l hl
   split at h
   ·rename_i b hc
    unfold cBuiltin at h
    split at h
    ·split at h
     ·split at h <;> simp at h
     ·simp at h
    ·split at h
     ·split at h <;> simp at h
     ·simp at h
    ·simp at h
    ·simp at h
    ·rename_i x' y' t t' ht
     split at h
     ·rename_i j j' hj hj'
      split at h
      ·simp at h
      ·rename_i hcc
       simp only [not_or,Decidable.not_not] at hcc
       obtain ⟨hz,hzl⟩ :=hcc
       split at h
       rotate_left
       ·split at h
        ·rename_i ik hik
         simp only [Option.some.injEq,MO.m.injEq] at h;subst h
         obtain ⟨el,hu,hje⟩ :=hty.elem hj
         have hu' :=hty.under hj'
         rw [hik] at hu'
         obtain ⟨x1,y1,ha,hx1,hy1⟩ :=cOs_two hl
         simp only [mv] at hv
         have hux :Ev.os e x'≠ .un :=by
          intro hh
          rw [hh] at hv
          simp [apzv] at hv
         obtain ⟨cv,w',ρ',k1,k2,k3,k4⟩ :=apz_sound hty hu hu' hje hz hzl hr (he.os hx1 rfl hux) (fun n hn=> on_sound he hy1 hn) hv type
         refine Oper.wp_value (w' :=w') ?_ (hn cv w' ρ' k2 k3 k4)
         rw [show execOp a.eval ⟨dst, .call c,type,pos,after,guard⟩ =(do let d ← resolve a.eval c type;invoke d.target d.args) from rfl,exec_builtin hc]
         rw [show c.args.map a.eval= #[a.eval x1,a.eval y1] by rw [← Array.toArray_toList (xs :=c.args),ha];simp]
         rw [show c.argTypes= #[t,t'] by rw [← Array.toArray_toList (xs :=c.argTypes),ht]]
         unfold builtin
         simp only [Sem.run_bind,k1,Result.andThen_ok,Sem.run_pure]
        ·simp at h
       rename_i htt
       subst htt
       simp only [Option.some.injEq,MO.m.injEq] at h;subst h
       obtain ⟨el,hu,hje⟩ :=hty.elem hj
       obtain ⟨x1,y1,ha,hx1,hy1⟩ :=cOs_two hl
       simp only [mv] at hv
       have hux :Ev.os e x'≠ .un :=by
        intro hh
        rw [hh] at hv
        unfold app at hv
        split at hv
        ·simp at hv
        ·split at hv
         ·split at hv <;> simp_all
         ·split at hv <;> simp_all
       have huy :Ev.os e y'≠ .un :=by
        intro hh
        rw [hh] at hv
        simp [app,newsOf] at hv
       obtain ⟨cv,w',ρ',k1,k2,k3,k4⟩ :=app_sound hty hu hje hz hzl hr (he.os hx1 rfl hux) (he.os hy1 rfl huy) hv type
       refine Oper.wp_value (w' :=w') ?_ (hn cv w' ρ' k2 k3 k4)
       rw [show execOp a.eval ⟨dst, .call c,type,pos,after,guard⟩ =(do let d ← resolve a.eval c type;invoke d.target d.args) from rfl,exec_builtin hc]
       rw [show c.args.map a.eval= #[a.eval x1,a.eval y1] by rw [← Array.toArray_toList (xs :=c.args),ha];simp]
       rw [show c.argTypes= #[t,t] by rw [← Array.toArray_toList (xs :=c.argTypes),ht]]
       unfold builtin
       simp only [Sem.run_bind,k1,Result.andThen_ok,Sem.run_pure]
     ·simp at h
    ·rename_i x' t ht
     split at h
     ·rename_i j hj
      split at h
      ·simp at h
      ·rename_i hcc
       simp only [not_or,Decidable.not_not] at hcc
       obtain ⟨hz,hzl⟩ :=hcc
       simp only [Option.some.injEq,MO.m.injEq] at h;subst h
       obtain ⟨el,hu,hje⟩ :=hty.elem hj
       obtain ⟨x1,ha,hx1⟩ : ∃x1,c.args.toList= [x1]∧cO x1=some x' :=by
        match hargs :c.args.toList,hl with
        | [x1],hl=>
         unfold cOs at hl
         split at hl
         ·rename_i y1 m1 h1 h2
          simp only [Option.some.injEq,List.cons.injEq] at hl
          obtain ⟨rfl,rfl⟩ :=hl
          exact ⟨x1,rfl,h1⟩
         ·simp at hl
        | [],hl=> simp [cOs] at hl
        | x1 ::y1 ::r,hl=>
         unfold cOs at hl
         split at hl
         ·rename_i y1 m1 h1 h2
          simp only [Option.some.injEq,List.cons.injEq] at hl
          obtain ⟨rfl,rfl⟩ :=hl
          unfold cOs at h2
          split at h2 <;> simp at h2
         ·simp at hl
       simp only [mv] at hv
       have hux :Ev.os e x'≠ .un :=by
        intro hh
        rw [hh] at hv
        simp [clrv] at hv
       obtain ⟨cv,w',k1,k2,k3,k4⟩ :=clear_sound hty hu hje hzl hr (he.os hx1 rfl hux) hv type
       refine Oper.wp_value (w' :=w') ?_ (hn cv w' ρ k2 k3 k4)
       rw [show execOp a.eval ⟨dst, .call c,type,pos,after,guard⟩ =(do let d ← resolve a.eval c type;invoke d.target d.args) from rfl,exec_builtin hc]
       rw [show c.args.map a.eval= #[a.eval x1] by rw [← Array.toArray_toList (xs :=c.args),ha];simp]
       rw [show c.argTypes= #[t] by rw [← Array.toArray_toList (xs :=c.argTypes),ht]]
       unfold builtin
       simp only [Sem.run_bind,k1,Result.andThen_ok,Sem.run_pure]
     ·simp at h
    ·simp at h
   ·rename_i f hc
    split at h
    ·split at h <;> simp at h
    ·simp only [Option.some.injEq,MO.m.injEq] at h;subst h
     simp only [mv] at hv
     obtain ⟨k1,k2⟩ :=hcall _ _ _ _ _ hv ρ w _ (he.ovs hl) hr
     refine Oper.wp_enter (w' :=w) ?_ k2 ?_
     ·rw [show execOp a.eval ⟨dst, .call c,type,pos,after,guard⟩ =(do let d ← resolve a.eval c type;invoke d.target d.args) from rfl,exec_call hc rfl]
      rw [show c.args.map a.eval=(c.args.toList.map a.eval).toArray by rw [← Array.toList_map]]
      exact k1
     ·rintro e' w'' ⟨cv,ρ',rfl,k3,k4,k5⟩
      exact ⟨cv,rfl,hn cv w'' ρ' k3 k4 k5⟩
   ·rename_i fx hne hc
    simp only [Option.map_eq_some_iff] at h
    obtain ⟨f',hf,h⟩ :=h
    simp only [MO.m.injEq] at h;subst h
    simp only [mv] at hv
    split at hv
    ·rename_i g cs h1
     obtain ⟨arr,r1,r2⟩ :=he.at hf h1
     rw [lapp_eq] at hv
     obtain ⟨k1,k2⟩ :=hcall _ _ _ _ _ hv ρ w _ ((he.ovs hl).append (lr_ptrs r2)) hr
     refine Oper.wp_enter (w' :=w) ?_ k2 ?_
     ·rw [show execOp a.eval ⟨dst, .call c,type,pos,after,guard⟩ =(do let d ← resolve a.eval c type;invoke d.target d.args) from rfl]
      unfold resolve
      simp only [hc,r1,Deferred.ofValue,Sem.run_bind,Sem.run_pure,Result.andThen_ok,invoke]
      rw [show #[]++c.args.map a.eval++arr=(c.args.toList.map a.eval++arr.toList).toArray by simp]
      exact k1
     ·rintro e' w'' ⟨cv,ρ',rfl,k3,k4,k5⟩
      exact ⟨cv,rfl,hn cv w'' ρ' k3 k4 k5⟩
    ·simp at hv
   ·simp at h
  ·simp at h
 case makeFunc fn first caps=>
  cases fn <;> simp only [cMO,reduceCtorEq] at h
  split at h <;> simp at h
 all_goals
  first
   | (simp only [cMO,reduceCtorEq] at h;done)
   | (simp only [cMO,Option.map_eq_some_iff,reduceCtorEq,and_false,exists_false] at h;done)
   | (simp only [cMO] at h;(repeat' split at h) <;> simp at h;done)
theorem mo_sound (hty :TyOk P ty) (hib :IbsOk P ibs) (hcall :CallOk P call) {o :Oper} {x :MO} (h :cMO ty ibs o.op=some x) {ρ :Rho} {e :E} {a :Act} (he :ER ρ e a) {s s' :St} {w :World} (hr :Rel ρ s w) {v :V} (hv :mo call e s x=some (v,s'))
  {next :Act→World→Prop} {Q :Exit→Act→World→Prop} (hn : ∀cv w' ρ',VR ρ' v cv→Rel ρ' s' w'→Go s ρ w s' ρ' w'→next (a.put o.dst cv) w') :o.wp P a w next Q :=by
 obtain ⟨dst,op,type,pos,after,guard⟩ :=o
 cases x with
 | w x=>
  simp only [mo] at hv
  split at hv
  ·rename_i v' hv'
   simp only [Option.some.injEq,Prod.mk.injEq] at hv
   obtain ⟨rfl,rfl⟩ :=hv
   obtain ⟨cv,h1,h2⟩ :=wv_sound hty hib h he hv' dst type pos after guard w
   exact Oper.wp_value h1 (hn cv w ρ h2 hr (Go.refl _ _ _))
  ·simp at hv
 | r x=>
  simp only [mo] at hv
  split at hv
  ·rename_i v' hv'
   simp only [Option.some.injEq,Prod.mk.injEq] at hv
   obtain ⟨rfl,rfl⟩ :=hv
   obtain ⟨cv,h1,h2⟩ :=rv_sound hty h he hr hv' dst type pos after guard
   exact Oper.wp_value h1 (hn cv w ρ h2 hr (Go.refl _ _ _))
  ·simp at hv
 | a x=>
  simp only [mo] at hv
  split at hv
  ·rename_i l f hv'
   simp only [Option.some.injEq,Prod.mk.injEq] at hv
   obtain ⟨rfl,rfl⟩ :=hv
   obtain ⟨cv,cells,el,h1,h2,h3⟩ :=av_sound hty h he hv' dst type pos after guard w
   obtain ⟨k1,k2⟩ :=hr.alloc h2 el
   exact Oper.wp_value h1 (hn cv _ _ (h3 _ _ (Rho.with_at _ _ _)) k1 k2)
  ·simp at hv
 | m x=> exact mv_sound hty hcall h he hr hv hn
end
end Go.Ev
end
