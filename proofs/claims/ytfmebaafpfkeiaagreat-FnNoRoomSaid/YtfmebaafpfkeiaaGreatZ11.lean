/- Parts of the proof of FnNoRoom. -/
import Derived.Test.YtfmebaafpfkeiaaGreatZ07
import Derived.Test.YtfmebaafpfkeiaaGreatZ10
set_option linter.unusedVariables false
set_option linter.unusedSimpArgs false
section
set_option maxRecDepth 20000
namespace Go.Ev
open Go
def Ent (P :Program) (g :Nat) (vs :List V) (u :St) (v :V) (u' :St) :Prop :=
 ∀(ρ :Rho) (w :World) (cargs :List Value),LR (VR ρ) vs cargs→Rel ρ u w→
  (callFunc g cargs.toArray).run P w= .ok (.enter g cargs.toArray) w∧
  Calls P g cargs.toArray w fun e w'=> ∃cv ρ',e= .returned cv∧VR ρ' v cv∧Rel ρ' u' w'∧Go u ρ w u' ρ' w'
def EntK (P :Program) (g :Nat) (vs :List V) (u :St) (v :V) :Prop :=
 ∀(ρ :Rho) (w :World) (cargs :List Value),LR (VR ρ) vs cargs→Rel ρ u w→
  (callFunc g cargs.toArray).run P w= .ok (.enter g cargs.toArray) w∧
  Calls P g cargs.toArray w fun e w'=> ∃cv,e= .returned cv∧VR ρ v cv∧Rel ρ u w'∧Go u ρ w u ρ w'
theorem ent_of {P :Program} {call :Nat→List V→St→Option (V×St)} (hc :CallOk P call) {g :Nat} {vs :List V} {u u' :St} {v :V} (h :call g vs u=some (v,u')) :Ent P g vs u v u' :=
 fun ρ w cargs hl hr=> hc g vs u v u' h ρ w cargs hl hr
theorem PR.back {ρ ρ' :Rho} (h :ρ.le ρ') {x o :Nat} {v v' :Value} (h0 :PR ρ x o v) (h1 :PR ρ' x o v') :PR ρ x o v' :=by
 obtain ⟨cb,sh,z,e0,rfl⟩ :=h0
 obtain ⟨cb',sh',z',e1,rfl⟩ :=h1
 have :=h _ _ e0
 rw [e1] at this
 simp only [Option.some.injEq,Prod.mk.injEq] at this
 obtain ⟨rfl,rfl,rfl⟩ :=this
 exact ⟨_,_,_,e0,rfl⟩
theorem LR.back {ρ ρ' :Rho} (h :ρ.le ρ') : ∀{l :List (Nat×Nat)} {m m' :List Value},LR (fun (c :Nat×Nat) v=> PR ρ c.1 c.2 v) l m→LR (fun (c :Nat×Nat) v=> PR ρ' c.1 c.2 v) l m'→LR (fun (c :Nat×Nat) v=> PR ρ c.1 c.2 v) l m'
 | [], [], [],_,_=> trivial
 | _ ::_,_ ::_,_ ::_,h0,h1=> ⟨PR.back h h0.1 h1.1,LR.back h h0.2 h1.2⟩
 | [],_ ::_,_,h0,_=> h0.elim
 | _ ::_, [],_,h0,_=> h0.elim
 | [], [],_ ::_,_,h1=> h1.elim
 | _ ::_,_ ::_, [],_,h1=> h1.elim
theorem SR.back {ρ ρ' :Rho} (h :ρ.le ρ') {s :S} {v v' :Value} (h0 :SR ρ s v) (h1 :SR ρ' s v') :SR ρ s v' :=by
 cases s with
 | p x o=> exact PR.back h h0 h1
 | l x o n e full=>
  obtain ⟨cb,sh,z,a,cap,e0,_⟩ :=h0
  obtain ⟨cb',sh',z',a',cap',e1,r⟩ :=h1
  have :=h _ _ e0
  rw [e1] at this
  simp only [Option.some.injEq,Prod.mk.injEq] at this
  obtain ⟨rfl,rfl,rfl⟩ :=this
  exact ⟨_,_,_,a',cap',e0,r⟩
 | f g cs=>
  obtain ⟨arr,_,k0⟩ :=h0
  obtain ⟨arr',rfl,k1⟩ :=h1
  exact ⟨arr',rfl,LR.back h k0 k1⟩
 | _=> exact h1
theorem Rel.keep {ρ ρ' :Rho} {u u' :St} {w w' :World} (h :Rel ρ u w) (h' :Rel ρ' u' w') (g :Go u ρ w u' ρ' w') (hk : ∀x b,u.h.get x=some b→u'.h.get x=some b) :Rel ρ u w'∧Go u ρ w u ρ w' :=by
 refine ⟨⟨h.dom,fun x cb sh z e=> h'.blk x cb sh z (g.le _ _ e),fun x cb sh z b e e'=> by
   obtain ⟨k1,k2⟩ :=h'.con x cb sh z b (g.le _ _ e) (hk _ _ e')
   obtain ⟨_,k3⟩ :=h.con x cb sh z b e e'
   refine ⟨k1,fun i sv hi=> ?_⟩
   obtain ⟨cv,k4,k5⟩ :=k2 i sv hi
   obtain ⟨cv0,_,k6⟩ :=k3 i sv hi
   exact ⟨cv,k4,SR.back g.le k6 k5⟩,
  fun x y cb sh sh' z z' bx b' hne e1 e2 e3 e4=> h'.inj x y cb sh sh' z z' bx b' hne (g.le _ _ e1) (g.le _ _ e2) (hk _ _ e3) (hk _ _ e4),h.fam,h.nfl,h.lt⟩,?_⟩
 exact ⟨Rho.le_refl _,g.os,g.tape,g.output,g.size,g.block,fun x cb sh z e=> .inl ⟨x,sh,z,e⟩,Nat.le_refl _,fun _ _ e=> .inl e⟩
def Wk (v v' :V) :Prop := ∀ρ ρ' cv,VR ρ v cv→VR ρ' v' cv
theorem ent_keep {P :Program} {g :Nat} {vs :List V} {u u' :St} {v v' :V} (h :Ent P g vs u v u') (hw :Wk v v') (hk : ∀x b,x < u.nb→u.h.get x=some b→u'.h.get x=some b) :EntK P g vs u v' :=by
 intro ρ w cargs hl hr
 obtain ⟨h1,h2⟩ :=h ρ w cargs hl hr
 refine ⟨h1,h2.mono ?_⟩
 rintro e w' ⟨cv,ρ',rfl,k1,k2,k3⟩
 obtain ⟨k4,k5⟩ :=hr.keep k2 k3 fun x b e=> hk x b (hr.lt x b e) e
 exact ⟨cv,rfl,hw _ _ _ k1,k4,k5⟩
noncomputable def isUn (x :S) :Bool :=S.rec (motive :=fun _=> Bool) true (fun _=> false) (fun _=> false) (fun _ _=> false) (fun _=> false) false (fun _ _=> false) false (fun _ _ _ _ _=> false) (fun _ _=> false) false x
noncomputable def sEqU (x y :S) :Bool :=Bool.rec (motive :=fun _=> Bool) (sEq x y) (isUn y) (isUn x)
noncomputable def lEqU (l :List S) :List S→Bool :=
 List.rec (motive :=fun _=> List S→Bool) (fun m=> List.rec true (fun _ _ _=> false) m)
  (fun x _ ih m=> List.rec false (fun y t _=> Bool.rec false (ih t) (sEqU x y)) m) l
theorem sEqU_eq {x y :S} (h :sEqU x y=true) :x=y :=by
 have h' :Bool.rec (motive :=fun _=> Bool) (sEq x y) (isUn y) (isUn x)=true :=h
 cases hx :isUn x with
 | false=> rw [hx] at h';exact sEq_eq h'
 | true=>
  rw [hx] at h'
  have h2 :isUn y=true :=h'
  have un : ∀z,isUn z=true→z= .un :=fun z hz=> by cases z <;> first | rfl | cases hz
  rw [un x hx,un y h2]
theorem lEqU_eq : ∀{l m :List S},lEqU l m=true→l=m
 | [], [],_=> rfl
 | [],_ ::_,h=> by cases h
 | _ ::_, [],h=> by cases h
 | x ::l,y ::m,h=> by
  have h' :(Bool.rec false (lEqU l m) (sEqU x y) :Bool)=true :=h
  cases hv :sEqU x y with
  | false=> rw [hv] at h';cases h'
  | true=> rw [hv] at h';rw [sEqU_eq hv,lEqU_eq h']
noncomputable def eqKB (a b :Option KB) :Bool :=
 Option.rec (motive :=fun _=> Bool) (Option.rec (motive :=fun _=> Bool) true (fun _=> false) b)
  (fun x=> Option.rec (motive :=fun _=> Bool) false (fun y=> lEqU x.r y.r&&Nat.beq x.n y.n&&Nat.beq x.fam y.fam&&Nat.beq x.d y.d) b) a
theorem eqKB_sound {a b :Option KB} (h :eqKB a b=true) :a.map KB.bk=b.map KB.bk :=by
 cases a with
 | none=> cases b with
  | none=> rfl
  | some y=> cases h
 | some x=> cases b with
  | none=> cases h
  | some y=>
   have h' :(lEqU x.r y.r&&Nat.beq x.n y.n&&Nat.beq x.fam y.fam&&Nat.beq x.d y.d)=true :=h
   obtain ⟨h1,h4⟩ :=(Bool.and_eq_true _ _).mp h'
   obtain ⟨h1,h3⟩ :=(Bool.and_eq_true _ _).mp h1
   obtain ⟨h1,h2⟩ :=(Bool.and_eq_true _ _).mp h1
   have e1 :=lEqU_eq h1
   have e3 :x.fam=y.fam :=Nat.eq_of_beq_eq_true h3
   have e4 :x.d=y.d :=Nat.eq_of_beq_eq_true h4
   simp only [Option.map_some,KB.bk,e1,e3,e4]
noncomputable def sameK (s s' :KS) (n :Nat) :Bool :=Nat.rec (motive :=fun _=> Bool) true (fun x ih=> Bool.rec (motive :=fun _=> Bool) false ih (eqKB (getK s x) (getK s' x))) n
theorem sameK_sound {s s' :KS} : ∀{n :Nat},sameK s s' n=true→∀x,x < n→eqKB (getK s x) (getK s' x)=true
 | 0,_,x,hx=> absurd hx (Nat.not_lt_zero _)
 | n+1,h,x,hx=> by
  have h' :Bool.rec (motive :=fun _=> Bool) false (sameK s s' n) (eqKB (getK s n) (getK s' n))=true :=h
  cases he :eqKB (getK s n) (getK s' n) with
  | false=> rw [he] at h';cases h'
  | true=>
   rw [he] at h'
   by_cases hxn :x=n
   ·subst hxn;exact he
   ·exact sameK_sound h' x (by omega)
theorem same_of {s s' :KS} {u u' :St} (r :RS s u) (r' :RS s' u') {n :Nat} (h :sameK s s' n=true) (x :Nat) (hx :x < n) :u.h.get x=u'.h.get x :=by
 rw [r.h,r'.h];exact eqKB_sound (sameK_sound h x hx)
def isP (v :V) (k :List S→Bool) :Bool :=match v with | .t [.a p, .c (.i (.negSucc 0))]=> k p | _=> false
theorem isP_some {v :V} {k :List S→Bool} (h :isP v k=true) : ∃p,v= .t [.a p, .c (.i (-1))]∧k p=true :=by
 unfold isP at h
 split at h
 ·exact ⟨_,rfl,h⟩
 ·cases h
noncomputable def isI (n :Nat) (v :V) :Bool :=match v with | .t [.a l, .c (.i (.ofNat 0))]=> Nat.beq (llen l) n | _=> false
def isT (v :V) :Bool :=match v with | .c (.b x)=> x | _=> false
theorem isT_some {v :V} (h :isT v=true) :v= .c (.b true) :=by
 unfold isT at h
 split at h
 ·subst h;rfl
 ·cases h
def isCT (v :V) (k :S→Bool) :Bool :=match v with | .t [.c b, .c (.b true)]=> k b | _=> false
theorem isCT_some {v :V} {k :S→Bool} (h :isCT v k=true) : ∃b,v= .t [.c b, .c (.b true)]∧k b=true :=by
 unfold isCT at h
 split at h
 ·exact ⟨_,rfl,h⟩
 ·cases h
def unT (n :Nat) :V := .t [.a (List.replicate n .un), .c (.i 0)]
theorem isI_wk {n :Nat} {v :V} (h :isI n v=true) :Wk v (unT n) :=by
 unfold isI at h
 split at h
 ·rename_i l
  have hl :l.length=n :=by rw [← llen_eq];exact Nat.eq_of_beq_eq_true h
  intro ρ ρ' cv hv
  obtain ⟨arr,rfl,k⟩ :=hv
  refine ⟨arr,rfl,?_⟩
  cases ha :arr.toList with
  | nil=> rw [ha] at k;exact k.elim
  | cons a t=>
   rw [ha] at k
   cases t with
   | nil=> exact k.2.elim
   | cons b t=>
    cases t with
    | cons c t=> exact k.2.2.elim
    | nil=>
     obtain ⟨⟨ar,rfl,k1⟩,k2,_⟩ :=k
     refine ⟨⟨ar,rfl,?_⟩,k2,trivial⟩
     have hlen :ar.toList.length=n :=by rw [← k1.length];exact hl
     refine LR.of_get (by rw [List.length_replicate,hlen]) fun i x y hx hy=> ?_
     have e :x= .un :=by
      rw [List.getElem?_replicate] at hx
      split at hx
      ·simp only [Option.some.injEq] at hx;exact hx.symm
      ·cases hx
     subst e
     exact LR.one k1 y (List.mem_of_getElem? hy)
 ·cases h
theorem wk_refl_b (x :Bool) :Wk (.c (.b x)) (.c (.b x)) :=fun _ _ _ h=> h
structure WF (u :St) :Prop where
 fam : ∀x b f,u.h.get x=some b→b.fam=f+1→∃ms,u.fm.get f=some ms∧(x,b.d,b.c.length)∈ms
 nfl : ∀x b,u.h.get x=some b→b.fam≤u.nf
 lt : ∀x b,u.h.get x=some b→x < u.nb
theorem Rel.wf {ρ :Rho} {u :St} {w :World} (h :Rel ρ u w) :WF u :=⟨h.fam,h.nfl,h.lt⟩
def Eqv (u u' :St) :Prop :=u.nb=u'.nb∧∀x,x < u'.nb→u.h.get x=u'.h.get x
theorem Eqv.rel {u u' :St} (h :Eqv u u') (hf :WF u') {ρ :Rho} {w :World} (hr :Rel ρ u w) :Rel ρ u' w :=
 ⟨fun x y e=> h.1▸hr.dom x y e,hr.blk,fun x cb sh z b e e'=> hr.con x cb sh z b e (by rw [h.2 x (hf.lt x b e')];exact e'),
 fun x y cb sh sh' z z' bx b' hne e1 e2 e3 e4=> hr.inj x y cb sh sh' z z' bx b' hne e1 e2 (by rw [h.2 x (hf.lt _ _ e3)];exact e3) (by rw [h.2 y (hf.lt _ _ e4)];exact e4),hf.fam,hf.nfl,hf.lt⟩
theorem Eqv.symm {u u' :St} (h :Eqv u u') :Eqv u' u :=⟨h.1.symm,fun x hx=> (h.2 x (h.1▸hx)).symm⟩
noncomputable def extK (g₀ :Nat) (vs₀ :List V) (s₀ :KS) (v₀ :V) :CallK :=fun g vs s k=>
 bif Nat.beq g g₀&&vsEq vs vs₀&&Nat.beq s.nb s₀.nb&&sameK s s₀ s₀.nb then k v₀ s else false
open Classical in
noncomputable def extE (g₀ :Nat) (vs₀ :List V) (u₀ :St) (v₀ :V) :Nat→List V→St→Option (V×St) :=fun g vs u=>
 if g=g₀∧vs=vs₀∧Eqv u u₀ then some (v₀,u) else none
theorem ext_rel {g₀ :Nat} {vs₀ :List V} {s₀ :KS} {u₀ :St} {v₀ :V} (r₀ :RS s₀ u₀) :CallRel (extK g₀ vs₀ s₀ v₀) (extE g₀ vs₀ u₀ v₀) :=by
 intro g vs s k u r h
 unfold extK at h
 cases hb :(Nat.beq g g₀&&vsEq vs vs₀&&Nat.beq s.nb s₀.nb&&sameK s s₀ s₀.nb) with
 | false=> rw [hb] at h;cases h
 | true=>
  rw [hb] at h
  obtain ⟨h1,h4⟩ :=(Bool.and_eq_true _ _).mp hb
  obtain ⟨h1,h3⟩ :=(Bool.and_eq_true _ _).mp h1
  obtain ⟨h1,h2⟩ :=(Bool.and_eq_true _ _).mp h1
  refine ⟨v₀,s,u,?_,r,h⟩
  unfold extE
  rw [if_pos]
  refine ⟨Nat.eq_of_beq_eq_true h1,vsEq_sound h2,?_,fun x hx=> ?_⟩
  ·rw [r.nb,r₀.nb];exact Nat.eq_of_beq_eq_true h3
  ·exact same_of r r₀ h4 x (by rw [← r₀.nb];exact hx)
theorem ext_ok {P :Program} {g₀ :Nat} {vs₀ :List V} {u₀ :St} {v₀ :V} (h :EntK P g₀ vs₀ u₀ v₀) (hf :WF u₀) :CallOk P (extE g₀ vs₀ u₀ v₀) :=by
 intro g vs u v u' hc ρ w cargs hl hr
 unfold extE at hc
 split at hc
 ·rename_i hh
  obtain ⟨rfl,rfl,he⟩ :=hh
  simp only [Option.some.injEq,Prod.mk.injEq] at hc
  obtain ⟨rfl,rfl⟩ :=hc
  obtain ⟨h1,h2⟩ :=h ρ w cargs hl (he.rel hf hr)
  refine ⟨h1,h2.mono ?_⟩
  rintro e w' ⟨cv,rfl,k1,k2,k3⟩
  exact ⟨cv,ρ,rfl,k1,he.symm.rel hr.wf k2,k3.states he.1 he.1⟩
 ·cases hc
abbrev OpL :=Int×Int×Int
abbrev FunL :=Int×List OpL
def opsS :List OpL→List S
 | []=> []
 | o ::l=> .i o.1 :: .i o.2.1 :: .i o.2.2 ::opsS l
noncomputable def opsIs (cells :Nat→Nat→Nat→Option (List S)) (ops :List OpL) :S→Bool
 | .l b o n sz _=> Nat.beq sz 3&&Nat.beq n (llen ops)&&(match cells b o (Nat.mul n 3) with | some l=> lEq l (opsS ops) | none=> false)
 | _=> false
noncomputable def funsS (cells :Nat→Nat→Nat→Option (List S)) :List FunL→List S→Bool
 | [], []=> true
 | f ::fs, .i n ::x ::l=> ieq n f.1&&opsIs cells f.2 x&&funsS cells fs l
 | _,_=> false
noncomputable def funsIs (cells :Nat→Nat→Nat→Option (List S)) (fs :List FunL) :S→Bool
 | .l b o n sz _=> Nat.beq sz 2&&Nat.beq n (llen fs)&&(match cells b o (Nat.mul n 2) with | some l=> funsS cells fs l | none=> false)
 | _=> false
theorem opsIs_mono {c c' :Nat→Nat→Nat→Option (List S)} (h : ∀x o n l,c x o n=some l→c' x o n=some l) {ops :List OpL} {x :S} (hx :opsIs c ops x=true) :opsIs c' ops x=true :=by
 cases x with
 | l b o n sz fl=>
  have hx' :(Nat.beq sz 3&&Nat.beq n (llen ops)&&(match c b o (Nat.mul n 3) with | some l=> lEq l (opsS ops) | none=> false))=true :=hx
  obtain ⟨h1,h2⟩ :=(Bool.and_eq_true _ _).mp hx'
  show (Nat.beq sz 3&&Nat.beq n (llen ops)&&(match c' b o (Nat.mul n 3) with | some l=> lEq l (opsS ops) | none=> false))=true
  split at h2
  ·rename_i l hl
   rw [h _ _ _ _ hl,h1];exact h2
  ·cases h2
 | _=> cases hx
theorem funsS_mono {c c' :Nat→Nat→Nat→Option (List S)} (h : ∀x o n l,c x o n=some l→c' x o n=some l) : ∀{fs :List FunL} {l :List S},funsS c fs l=true→funsS c' fs l=true
 | [], [],_=> rfl
 | f ::fs, .i n ::x ::l,hx=> by
  have hx' :(ieq n f.1&&opsIs c f.2 x&&funsS c fs l)=true :=hx
  obtain ⟨h1,h3⟩ :=(Bool.and_eq_true _ _).mp hx'
  obtain ⟨h1,h2⟩ :=(Bool.and_eq_true _ _).mp h1
  show (ieq n f.1&&opsIs c' f.2 x&&funsS c' fs l)=true
  rw [h1,opsIs_mono h h2,funsS_mono h h3];rfl
 | [],_ ::_,hx=> by simp [funsS] at hx
 | _ ::_, [],hx=> by simp [funsS] at hx
 | _ ::_, [_],hx=> by simp [funsS] at hx
 | f ::fs,x ::y ::l,hx=> by
  cases x with
  | i n=>
   have hx' :(ieq n f.1&&opsIs c f.2 y&&funsS c fs l)=true :=hx
   obtain ⟨h1,h3⟩ :=(Bool.and_eq_true _ _).mp hx'
   obtain ⟨h1,h2⟩ :=(Bool.and_eq_true _ _).mp h1
   show (ieq n f.1&&opsIs c' f.2 y&&funsS c' fs l)=true
   rw [h1,opsIs_mono h h2,funsS_mono h h3];rfl
  | _=> simp [funsS] at hx
theorem funsIs_mono {c c' :Nat→Nat→Nat→Option (List S)} (h : ∀x o n l,c x o n=some l→c' x o n=some l) {fs :List FunL} {x :S} (hx :funsIs c fs x=true) :funsIs c' fs x=true :=by
 cases x with
 | l b o n sz fl=>
  have hx' :(Nat.beq sz 2&&Nat.beq n (llen fs)&&(match c b o (Nat.mul n 2) with | some l=> funsS c fs l | none=> false))=true :=hx
  obtain ⟨h1,h2⟩ :=(Bool.and_eq_true _ _).mp hx'
  show (Nat.beq sz 2&&Nat.beq n (llen fs)&&(match c' b o (Nat.mul n 2) with | some l=> funsS c' fs l | none=> false))=true
  split at h2
  ·rename_i l hl
   rw [h _ _ _ _ hl,h1];exact funsS_mono h h2
  ·cases h2
 | _=> cases hx
end Go.Ev
end
section
set_option maxRecDepth 20000
namespace Go.Ev
open Go Go.RowKit
theorem EntK.drop {P :Program} {g :Nat} {vs :List V} {u :St} {p :List S} {v :V} (h :EntK P g vs (alloc u p) v) :EntK P g vs u v :=by
 intro ρ w cargs hl hr
 obtain ⟨h1,h2⟩ :=h ρ w cargs hl (hr.known p)
 refine ⟨h1,h2.mono ?_⟩
 rintro e w' ⟨cv,rfl,k1,k2,k3⟩
 have hg : ∀x b,u.h.get x=some b→(alloc u p).h.get x=some b :=fun x b e=> by
  rw [get_alloc,if_neg (by have :=hr.lt x b e;omega)];exact e
 obtain ⟨k4,k5⟩ :=hr.keep k2 (show Go u ρ w (alloc u p) ρ w' from ⟨k3.le,k3.os,k3.tape,k3.output,k3.size,k3.block,k3.new,Nat.le_succ _,fun x y e=> .inl e⟩) hg
 exact ⟨cv,rfl,k1,k4,k5⟩
theorem Rel.later {ρ :Rho} {u :St} {w w' :World} (h :Rel ρ u w) (hb :Below w.heap.size w w') :Rel ρ u w' :=by
 have hlt : ∀x cb sh z,ρ x=some (cb,sh,z)→cb < w.heap.size :=fun x cb sh z e=> by
  obtain ⟨cs,el,e1,_⟩ :=h.blk x cb sh z e
  rcases Nat.lt_or_ge cb w.heap.size with h | h
  ·exact h
  ·rw [Array.getElem?_eq_none h] at e1;cases e1
 refine ⟨h.dom,fun x cb sh z e=> ?_,fun x cb sh z b e e'=> ?_,h.inj,h.fam,h.nfl,h.lt⟩
 ·rw [hb.block cb (hlt _ _ _ _ e)];exact h.blk x cb sh z e
 ·obtain ⟨k1,k2⟩ :=h.con x cb sh z b e e'
  refine ⟨k1,fun i sv hi=> ?_⟩
  rw [hb.cell (p :=⟨cb,sh+i,Option.none⟩) (hlt _ _ _ _ e)]
  exact k2 i sv hi
structure Kn (w0 :World) (ρ :Rho) (u :St) (w :World) :Prop where
 rel :Rel ρ u w
 low : ∀x cb sh z,ρ x=some (cb,sh,z)→w0.heap.size≤cb
 below :Below w0.heap.size w0 w
def Far (ρ :Rho) (w :World) (c :Nat) :Prop :=c < w.heap.size∧∀x sh z,ρ x≠some (c,sh,z)
structure Left (ρ :Rho) (w :World) (ρ' :Rho) (w' :World) :Prop where
 le :ρ.le ρ'
 size :w.heap.size≤w'.heap.size
 keep : ∀c,Far ρ w c→Far ρ' w' c∧w'.heap[c]?=w.heap[c]?
theorem Kn.zero (w :World) :Kn w rho0 St.zero w :=⟨Rel.zero w,(fun x cb sh z e=> by cases e),Below.refl _ _⟩
theorem Kn.later {w0 :World} {ρ :Rho} {u :St} {w w' :World} (h :Kn w0 ρ u w) (hb :Below w.heap.size w w') :Kn w0 ρ u w' :=
 ⟨h.rel.later hb,h.low,h.below.trans (hb.mono h.below.size)⟩
theorem Far.later {ρ :Rho} {w w' :World} {c :Nat} (h :Far ρ w c) (hb :Below w.heap.size w w') :Far ρ w' c :=⟨Nat.lt_of_lt_of_le h.1 hb.size,h.2⟩
theorem Kn.far {w0 :World} {ρ :Rho} {u :St} {w w' :World} (h :Kn w0 ρ u w) {c :Nat} (hc :w.heap.size≤c) (h' :c < w'.heap.size) :Far ρ w' c :=by
 refine ⟨h',fun x sh z e=> ?_⟩
 obtain ⟨cs,el,e1,_⟩ :=h.rel.blk x c sh z e
 rw [Array.getElem?_eq_none hc] at e1;cases e1
theorem Left.of {u u' :St} {ρ ρ' :Rho} {w w' :World} (g :Go u ρ w u' ρ' w') :Left ρ w ρ' w' :=
 ⟨g.le,g.size,fun c hc=> ⟨⟨Nat.lt_of_lt_of_le hc.1 g.size,fun x sh z e=> by
  rcases g.new x c sh z e with ⟨x0,sh0,z0,e0⟩ | h
  ·exact hc.2 _ _ _ e0
  ·exact absurd hc.1 (by omega)⟩,g.block c hc.1 hc.2⟩⟩
theorem Kn.next {w0 :World} {ρ ρ' :Rho} {u u' :St} {w w' :World} (h :Kn w0 ρ u w) (r :Rel ρ' u' w') (g :Go u ρ w u' ρ' w') :Kn w0 ρ' u' w' :=
 ⟨r,fun x cb sh z e=> by
  rcases g.new x cb sh z e with ⟨x0,sh0,z0,e0⟩ | hh
  ·exact h.low _ _ _ _ e0
  ·exact Nat.le_trans h.below.size hh,
 h.below.trans (g.below h.below.size h.low)⟩
theorem Kn.ent {P :Program} {g :Nat} {vs :List V} {u u' :St} {v :V} (E :Ent P g vs u v u') {w0 :World} {ρ :Rho} {w :World} (h :Kn w0 ρ u w) {cargs :List Value} (hl :LR (VR ρ) vs cargs) :
  Calls P g cargs.toArray w fun e w'=> ∃cv ρ',e= .returned cv∧VR ρ' v cv∧Kn w0 ρ' u' w'∧Left ρ w ρ' w' :=
 (E ρ w cargs hl h.rel).2.mono fun e w' ⟨cv,ρ',he,k1,k2,k3⟩ => ⟨cv,ρ',he,k1,h.next k2 k3,Left.of k3⟩
theorem Kn.entK {P :Program} {g :Nat} {vs :List V} {u :St} {v :V} (E :EntK P g vs u v) {w0 :World} {ρ :Rho} {w :World} (h :Kn w0 ρ u w) {cargs :List Value} (hl :LR (VR ρ) vs cargs) :
  Calls P g cargs.toArray w fun e w'=> ∃cv,e= .returned cv∧VR ρ v cv∧Kn w0 ρ u w'∧Left ρ w ρ w' :=
 (E ρ w cargs hl h.rel).2.mono fun e w' ⟨cv,he,k1,k2,k3⟩ => ⟨cv,he,k1,h.next k2 k3,Left.of k3⟩
end Go.Ev
end
section
set_option maxRecDepth 100000
namespace Go.Ev
def src0 :List Nat := [100,97,116,97,32,76,105,115,116,32,97,32,61,32,78,105,108,32,124,32,67,111,110,115,32,97,32,40,76,105,115,116,32,97,41,59,10,114,101,99,32,109,97,112,32,102,32,61,32,102,117,110,32,108,32,45,62,32,99,97,115,101,32,108,32,111,102,32,123,32,78,105,108,32,45,62,32,78,105,108,59,32,67,111,110,115,32,120,32,116,32,45,62,32,67,111,110,115,32,40,102,32,120,41,32,40,109,97,112,32,102,32,116,41,32,125,32,105,110,10,114,101,99,32,115,117,109,32,108,32,61,32,99,97,115,101,32,108,32,111,102,32,123,32,78,105,108,32,45,62,32,48,59,32,67,111,110,115,32,120,32,116,32,45,62,32,120,32,43,32,115,117,109,32,116,32,125,32,105,110,10,115,117,109,32,40,109,97,112,32,40,102,117,110,32,120,32,45,62,32,120,32,42,32,120,41,32,40,67,111,110,115,32,49,32,40,67,111,110,115,32,50,32,40,67,111,110,115,32,51,32,78,105,108,41,41,41,41,10]
def funs0 :List FunL := [(0, [(5,1,0),(5,3,0),(2,2,0),(2,1,0),(5,4,0),(6,0,0),(1,1,0),(1,2,0),(1,3,0),(8,0,0),(8,1,2),(8,1,2),(8,1,2),(6,0,0),(6,0,0),(20,0,0),(20,0,0),(7,0,0)]),(0, [(2,0,0),(4,0,0),(5,2,2),(7,0,0)]),(2, [(2,0,0),(2,1,0),(10,0,5),(8,0,0),(19,20,0),(2,1,0),(10,1,19),(3,0,0),(2,1,0),(9,0,0),(6,0,0),(3,1,0),(3,0,0),(6,0,0),(2,1,0),(9,1,0),(6,0,0),(8,1,2),(19,20,0),(21,0,0),(20,0,0),(7,0,0)]),(0, [(2,0,0),(2,1,0),(10,0,5),(1,0,0),(19,16,0),(2,1,0),(10,1,15),(2,1,0),(9,0,0),(4,0,0),(2,1,0),(9,1,0),(6,0,0),(12,0,0),(19,16,0),(21,0,0),(20,0,0),(7,0,0)]),(0, [(2,0,0),(2,0,0),(14,0,0),(7,0,0)])]
def src1 :List Nat := [100,97,116,97,32,80,97,105,114,32,97,32,98,32,61,32,80,97,105,114,32,97,32,98,59,10,100,97,116,97,32,66,111,111,108,32,61,32,84,114,117,101,32,124,32,70,97,108,115,101,59,10,108,101,116,32,105,100,32,61,32,102,117,110,32,120,32,45,62,32,120,32,105,110,10,108,101,116,32,112,32,61,32,80,97,105,114,32,40,105,100,32,51,41,32,40,105,100,32,84,114,117,101,41,32,105,110,10,99,97,115,101,32,112,32,111,102,32,123,32,80,97,105,114,32,110,32,84,114,117,101,32,45,62,32,112,117,116,32,40,110,32,43,32,49,41,59,32,80,97,105,114,32,95,32,70,97,108,115,101,32,45,62,32,48,32,125,10]
def funs1 :List FunL := [(0, [(5,1,0),(2,1,0),(1,3,0),(6,0,0),(2,1,0),(8,1,0),(6,0,0),(8,0,2),(2,2,0),(2,3,0),(10,0,27),(2,3,0),(9,1,0),(10,1,20),(2,3,0),(9,0,0),(1,1,0),(12,0,0),(17,0,0),(19,26,0),(2,3,0),(9,1,0),(10,2,25),(1,0,0),(19,26,0),(21,0,0),(19,28,0),(21,0,0),(20,0,0),(20,0,0),(20,0,0),(7,0,0)]),(0, [(2,0,0),(7,0,0)])]
def src2 :List Nat := [114,101,99,32,102,97,99,116,32,110,32,61,32,105,102,32,110,32,116,104,101,110,32,110,32,42,32,102,97,99,116,32,40,110,32,45,32,49,41,32,101,108,115,101,32,49,32,105,110,10,108,101,116,32,120,32,61,32,112,117,116,32,40,102,97,99,116,32,53,41,32,105,110,10,102,97,99,116,32,50,48,10]
def funs2 :List FunL := [(0, [(5,1,0),(2,1,0),(1,5,0),(6,0,0),(17,0,0),(2,1,0),(1,20,0),(6,0,0),(20,0,0),(20,0,0),(7,0,0)]),(0, [(2,0,0),(18,10,0),(2,0,0),(4,0,0),(2,0,0),(1,1,0),(13,0,0),(6,0,0),(14,0,0),(19,11,0),(1,1,0),(7,0,0)])]
def src3 :List Nat := [100,97,116,97,32,84,114,101,101,32,61,32,76,101,97,102,32,124,32,78,111,100,101,32,84,114,101,101,32,73,110,116,32,84,114,101,101,59,10,114,101,99,32,105,110,115,32,120,32,61,32,102,117,110,32,116,32,45,62,32,99,97,115,101,32,116,32,111,102,32,123,32,76,101,97,102,32,45,62,32,78,111,100,101,32,76,101,97,102,32,120,32,76,101,97,102,59,32,78,111,100,101,32,108,32,121,32,114,32,45,62,32,105,102,32,120,32,60,32,121,32,116,104,101,110,32,78,111,100,101,32,40,105,110,115,32,120,32,108,41,32,121,32,114,32,101,108,115,101,32,78,111,100,101,32,108,32,121,32,40,105,110,115,32,120,32,114,41,32,125,32,105,110,10,114,101,99,32,119,97,108,107,32,116,32,61,32,99,97,115,101,32,116,32,111,102,32,123,32,76,101,97,102,32,45,62,32,48,59,32,78,111,100,101,32,108,32,121,32,114,32,45,62,32,108,101,116,32,97,32,61,32,119,97,108,107,32,108,32,105,110,32,108,101,116,32,98,32,61,32,112,117,116,32,121,32,105,110,32,97,32,43,32,119,97,108,107,32,114,32,43,32,49,32,125,32,105,110,10,119,97,108,107,32,40,105,110,115,32,51,32,40,105,110,115,32,57,32,40,105,110,115,32,49,32,40,105,110,115,32,53,32,76,101,97,102,41,41,41,41,10]
def funs3 :List FunL := [(0, [(5,1,0),(5,3,0),(2,2,0),(2,1,0),(1,3,0),(6,0,0),(2,1,0),(1,9,0),(6,0,0),(2,1,0),(1,1,0),(6,0,0),(2,1,0),(1,5,0),(6,0,0),(8,0,0),(6,0,0),(6,0,0),(6,0,0),(6,0,0),(6,0,0),(20,0,0),(20,0,0),(7,0,0)]),(0, [(2,0,0),(4,0,0),(5,2,2),(7,0,0)]),(2, [(2,0,0),(2,1,0),(10,0,8),(8,0,0),(3,0,0),(8,0,0),(8,1,3),(19,40,0),(2,1,0),(10,1,39),(3,0,0),(2,1,0),(9,1,0),(15,0,0),(18,27,0),(3,1,0),(3,0,0),(6,0,0),(2,1,0),(9,0,0),(6,0,0),(2,1,0),(9,1,0),(2,1,0),(9,2,0),(8,1,3),(19,38,0),(2,1,0),(9,0,0),(2,1,0),(9,1,0),(3,1,0),(3,0,0),(6,0,0),(2,1,0),(9,2,0),(6,0,0),(8,1,3),(19,40,0),(21,0,0),(20,0,0),(7,0,0)]),(0, [(2,0,0),(2,1,0),(10,0,5),(1,0,0),(19,26,0),(2,1,0),(10,1,25),(4,0,0),(2,1,0),(9,0,0),(6,0,0),(2,1,0),(9,1,0),(17,0,0),(2,2,0),(4,0,0),(2,1,0),(9,2,0),(6,0,0),(12,0,0),(1,1,0),(12,0,0),(20,0,0),(20,0,0),(19,26,0),(21,0,0),(20,0,0),(7,0,0)])]
def src4 :List Nat := [100,97,116,97,32,79,112,116,32,97,32,61,32,78,111,110,101,32,124,32,83,111,109,101,32,97,59,10,100,97,116,97,32,76,105,115,116,32,97,32,61,32,78,105,108,32,124,32,67,111,110,115,32,97,32,40,76,105,115,116,32,97,41,59,10,114,101,99,32,102,105,110,100,32,107,32,61,32,102,117,110,32,108,32,45,62,32,99,97,115,101,32,108,32,111,102,32,123,32,78,105,108,32,45,62,32,78,111,110,101,59,32,67,111,110,115,32,40,83,111,109,101,32,120,41,32,116,32,45,62,32,105,102,32,120,32,61,61,32,107,32,116,104,101,110,32,83,111,109,101,32,120,32,101,108,115,101,32,102,105,110,100,32,107,32,116,59,32,67,111,110,115,32,78,111,110,101,32,116,32,45,62,32,102,105,110,100,32,107,32,116,32,125,32,105,110,10,99,97,115,101,32,102,105,110,100,32,50,32,40,67,111,110,115,32,78,111,110,101,32,40,67,111,110,115,32,40,83,111,109,101,32,50,41,32,78,105,108,41,41,32,111,102,32,123,32,78,111,110,101,32,45,62,32,48,59,32,83,111,109,101,32,50,32,45,62,32,50,50,59,32,83,111,109,101,32,110,32,45,62,32,110,32,125,10]
def funs4 :List FunL := [(0, [(5,1,0),(2,1,0),(1,2,0),(6,0,0),(8,0,0),(1,2,0),(8,1,1),(8,2,0),(8,3,2),(8,3,2),(6,0,0),(2,2,0),(10,0,15),(1,0,0),(19,26,0),(2,2,0),(10,1,25),(2,2,0),(9,0,0),(11,2,22),(1,22,0),(19,24,0),(2,2,0),(9,0,0),(19,26,0),(21,0,0),(20,0,0),(20,0,0),(7,0,0)]),(0, [(2,0,0),(4,0,0),(5,2,2),(7,0,0)]),(2, [(2,0,0),(2,1,0),(10,2,5),(8,0,0),(19,41,0),(2,1,0),(10,3,40),(2,1,0),(9,0,0),(10,1,28),(2,1,0),(9,0,0),(9,0,0),(3,0,0),(16,0,0),(18,21,0),(2,1,0),(9,0,0),(9,0,0),(8,1,1),(19,27,0),(3,1,0),(3,0,0),(6,0,0),(2,1,0),(9,1,0),(6,0,0),(19,39,0),(2,1,0),(9,0,0),(10,0,38),(3,1,0),(3,0,0),(6,0,0),(2,1,0),(9,1,0),(6,0,0),(19,39,0),(21,0,0),(19,41,0),(21,0,0),(20,0,0),(7,0,0)])]
def src5 :List Nat := [114,101,99,32,108,111,111,112,32,110,32,61,32,105,102,32,110,32,116,104,101,110,32,108,111,111,112,32,40,110,32,45,32,49,41,32,101,108,115,101,32,55,32,105,110,32,108,111,111,112,32,54,48,10]
def funs5 :List FunL := [(0, [(5,1,0),(2,1,0),(1,60,0),(6,0,0),(20,0,0),(7,0,0)]),(0, [(2,0,0),(18,8,0),(4,0,0),(2,0,0),(1,1,0),(13,0,0),(6,0,0),(19,9,0),(1,7,0),(7,0,0)])]
def src6 :List Nat := [100,97,116,97,32,78,97,116,32,61,32,90,32,124,32,83,32,78,97,116,59,10,114,101,99,32,97,100,100,32,97,32,61,32,102,117,110,32,98,32,45,62,32,99,97,115,101,32,97,32,111,102,32,123,32,90,32,45,62,32,98,59,32,83,32,110,32,45,62,32,83,32,40,97,100,100,32,110,32,98,41,32,125,32,105,110,10,108,101,116,32,116,119,111,32,61,32,83,32,40,83,32,90,41,32,105,110,10,108,101,116,32,99,111,109,112,32,61,32,102,117,110,32,102,32,45,62,32,102,117,110,32,103,32,45,62,32,102,117,110,32,120,32,45,62,32,102,32,40,103,32,120,41,32,105,110,10,99,111,109,112,32,40,97,100,100,32,116,119,111,41,32,40,97,100,100,32,116,119,111,41,32,40,83,32,90,41,10]
def funs6 :List FunL := [(0, [(5,1,0),(8,0,0),(8,1,1),(8,1,1),(5,3,0),(2,3,0),(2,1,0),(2,2,0),(6,0,0),(6,0,0),(2,1,0),(2,2,0),(6,0,0),(6,0,0),(8,0,0),(8,1,1),(6,0,0),(20,0,0),(20,0,0),(20,0,0),(7,0,0)]),(0, [(2,0,0),(4,0,0),(5,2,2),(7,0,0)]),(2, [(3,0,0),(2,1,0),(10,0,5),(2,0,0),(19,16,0),(2,1,0),(10,1,15),(3,1,0),(2,1,0),(9,0,0),(6,0,0),(2,0,0),(6,0,0),(8,1,1),(19,16,0),(21,0,0),(20,0,0),(7,0,0)]),(0, [(2,0,0),(5,4,1),(7,0,0)]),(1, [(3,0,0),(2,0,0),(5,5,2),(7,0,0)]),(2, [(3,0,0),(3,1,0),(2,0,0),(6,0,0),(6,0,0),(7,0,0)])]
end Go.Ev
end
section
set_option maxRecDepth 20000
namespace Go.Ev
open Go Go.Proofs.Tryz
noncomputable def noK :CallK :=fun _ _ _ _=> false
theorem noK_rel :CallRel noK noExt :=fun g vs s k u r h=> by cases h
noncomputable def callK :CallK :=fnK tbl 100000 noK 400
noncomputable def callE :Nat→List V→St→Option (V×St) :=fn tbl 100000 noExt 400
theorem callK_rel :CallRel callK callE :=fnK_ok noK_rel 400
theorem callE_ok :CallOk prog callE :=table_ok tyOk ibsOk follows tblOk 100000 400
noncomputable def tblN :T MFn :=T.upd none tbl 152
theorem tblN_ok :TblOk prog ty ibs (cDraw ty ibs) tblN :=by
 intro g f h
 unfold tblN at h
 rw [T.get_upd] at h
 split at h
 ·cases h
 ·exact tblOk g f h
noncomputable def runI1 (src :List Nat) :Bool :=callK 13 [.c (.s src)] KS.zero fun v sP=> isP v fun p=> Nat.beq (llen p) 6&&allocK sP (mkB p 0 0) fun sQ=>
 callK 152 [.a p] sQ fun v s=> isI 11 v&&sameK sQ s sQ.nb
noncomputable def runI2 (src :List Nat) (L :List FunL) :Bool :=callK 13 [.c (.s src)] KS.zero fun v sP=> isP v fun p=> allocK sP (mkB p 0 0) fun sQ=>
 callK 153 [.a p] sQ (fun v s=> isT v&&sameK sQ s sQ.nb)&&
 fnK tblN 100000 (extK 152 [.a p] sQ (unT 11)) 400 154 [.a p] sP fun v sC=> isCT v fun b=> callK 155 [.c b] sC fun v sG=> isCT v fun f=>
  funsIs (cellsK sG) L f&&callK 156 [.c f] sG fun v s=> isT v&&sameK sG s sG.nb
structure PipeI (src :List Nat) (L :List FunL) (p :List S) (b f :S) (uP uC uG :St) :Prop where
 parse :Ent prog 13 [.c (.s src)] St.zero (.t [.a p, .c (.i (-1))]) uP
 infer :EntK prog 152 [.a p] (alloc uP p) (unT 11)
 covered :EntK prog 153 [.a p] (alloc uP p) (.c (.b true))
 close :Ent prog 154 [.a p] uP (.t [.c b, .c (.b true)]) uC
 gen :Ent prog 155 [.c b] uC (.t [.c f, .c (.b true)]) uG
 verify :EntK prog 156 [.c f] uG (.c (.b true))
 len :p.length=6
 funs :funsIs (cellsAt uG) L f=true
theorem rs_zero :RS KS.zero St.zero :=by
 have hall : ∀(α :Type) (a :α) (n x :Nat),(lens α n x).g (Tw.all a n)=a :=by
  intro α a n
  induction n with
  | zero=> intro x;rfl
  | succ n ih=>
   intro x
   show (Ln.comp (sel (Tw α n) (Nat.mod x 8)) (lens α n (Nat.div x 8))).g (N8.all (Tw.all a n))=a
   rw [Ln.comp_g]
   have :(sel (Tw α n) (Nat.mod x 8)).g (N8.all (Tw.all a n))=Tw.all a n :=by
    have h1 :Nat.mod x 8 < 8 :=Nat.mod_lt _ (by decide)
    generalize Nat.mod x 8=d at h1
    have h2 :d=0∨d=1∨d=2∨d=3∨d=4∨d=5∨d=6∨d=7 :=by omega
    rcases h2 with rfl | rfl | rfl | rfl | rfl | rfl | rfl | rfl <;> rfl
   rw [this,ih]
 have hg : ∀x,getK KS.zero x=none :=by
  intro x
  show (blkL x).g HK.zero=none
  by_cases h :x≤262143
  ·rw [blk_ok h]
   show (Ln.comp (lens (Tw (Option KB) 3) 3 (x%512)) (lens (Option KB) 3 (x/512))).g HK.zero=none
   rw [Ln.comp_g]
   have e1 :(lens (Tw (Option KB) 3) 3 (x%512)).g HK.zero=Tw.all none 3 :=hall _ _ _ _
   rw [e1];exact hall _ _ _ _
  ·rw [blk_bad h]
 exact ⟨rfl,rfl,rfl,fun x=> by rw [hg];exact T.get_lf x,fun x b h=> by rw [hg] at h;cases h⟩
theorem WF.alloc {u :St} (h :WF u) (l :List S) :WF (Ev.alloc u l) :=by
 have hget : ∀x,(Ev.alloc u l).h.get x=if x=u.nb then some (⟨l,0,0⟩ :Bk) else u.h.get x :=fun x=> by show (T.upd (some ⟨l,0,0⟩) u.h u.nb).get x=_;rw [T.get_upd]
 refine ⟨fun x b f hx hf=> ?_,fun x b hx=> ?_,fun x b hx=> ?_⟩
 ·rw [hget] at hx
  split at hx
  ·simp only [Option.some.injEq] at hx;subst hx;cases hf
  ·exact h.fam x b f hx hf
 ·rw [hget] at hx
  split at hx
  ·simp only [Option.some.injEq] at hx;subst hx;exact Nat.zero_le _
  ·exact h.nfl x b hx
 ·rw [hget] at hx
  show x < Nat.succ u.nb
  split at hx
  ·rename_i e;subst e;exact Nat.lt_succ_self _
  ·exact Nat.lt_succ_of_lt (h.lt x b hx)
theorem keep_of {g :Nat} {vs :List V} {sQ :KS} {u :St} (r :RS sQ u) {chk :V→Bool} {v' :V} (hw : ∀v,chk v=true→Wk v v') (h :callK g vs sQ (fun v s=> chk v&&sameK sQ s sQ.nb)=true) :EntK prog g vs u v' :=by
 obtain ⟨v,s',u',h1,h2,h3⟩ :=callK_rel g vs sQ _ u r h
 obtain ⟨h4,h5⟩ :=(Bool.and_eq_true _ _).mp h3
 refine ent_keep (ent_of callE_ok h1) (hw v h4) fun x b hx hb=> ?_
 rw [← same_of r h2 h5 x (by rw [← r.nb];exact hx)];exact hb
theorem wkT (v :V) (h :isT v=true) :Wk v (.c (.b true)) :=by rw [isT_some h];exact wk_refl_b true
theorem pipeI {src :List Nat} {L :List FunL} (h1 :runI1 src=true) (h2 :runI2 src L=true) : ∃p b f uP uC uG,PipeI src L p b f uP uC uG :=by
 obtain ⟨v,sP,uP,a1,a2,a3⟩ :=callK_rel _ _ _ _ _ rs_zero h1
 obtain ⟨p,rfl,a4⟩ :=isP_some a3
 obtain ⟨a40,a4⟩ :=(Bool.and_eq_true _ _).mp a4
 have a41 :p.length=6 :=by rw [← llen_eq];exact Nat.eq_of_beq_eq_true a40
 obtain ⟨sQ,a5,a6⟩ :=a2.alloc a4
 have hI :=keep_of a6 (fun v=> isI_wk) a5
 obtain ⟨v,sP',uP',b1,b2,b3⟩ :=callK_rel _ _ _ _ _ rs_zero h2
 rw [a1] at b1
 simp only [Option.some.injEq,Prod.mk.injEq] at b1
 obtain ⟨rfl,rfl⟩ :=b1
 obtain ⟨p',hp',b4⟩ :=isP_some b3
 simp only [V.t.injEq,List.cons.injEq,V.a.injEq,and_true] at hp'
 subst hp'
 obtain ⟨sQ',b5,b6⟩ :=b2.alloc b4
 obtain ⟨c1,c2⟩ :=(Bool.and_eq_true _ _).mp b5
 have hC :=keep_of b6 wkT c1
 obtain ⟨v,sC,uC,d1,d2,d3⟩ :=fnK_ok (tbl :=tblN) (N :=100000) (ext_rel (g₀ :=152) (vs₀ := [.a p]) (v₀ :=unT 11) b6) 400 _ _ _ _ _ b2 c2
 obtain ⟨b,rfl,d4⟩ :=isCT_some d3
 obtain ⟨v,sG,uG,e1,e2,e3⟩ :=callK_rel _ _ _ _ _ d2 d4
 obtain ⟨f,rfl,e4⟩ :=isCT_some e3
 obtain ⟨e5,e6⟩ :=(Bool.and_eq_true _ _).mp e4
 refine ⟨p,b,f,uP,uC,uG,ent_of callE_ok a1,hI,hC,?_,ent_of callE_ok e1,keep_of e2 wkT e6,a41,funsIs_mono (fun x o n l h=> e2.cells h) e5⟩
 intro ρ w cargs hl hr
 have hext :=ext_ok hI (hr.wf.alloc p)
 have hcall :CallOk prog (fn tblN 100000 (extE 152 [.a p] (Ev.alloc uP p) (unT 11)) 400) :=
  fn_sound tyOk ibsOk tblN_ok 100000 (fun call nt hc=> draw_ok follows tyOk ibsOk hc) hext 400
 exact hcall _ _ _ _ _ d1 ρ w cargs hl hr
noncomputable def runS1 (src :List Nat) :Bool :=callK 35 [.c (.s src)] KS.zero fun v sP=> isP v fun p=> Nat.beq (llen p) 6&&allocK sP (mkB p 0 0) fun sQ=>
 callK 36 [.a p] sQ fun v s=> isI 11 v&&sameK sQ s sQ.nb
noncomputable def runS2 (src :List Nat) :Bool :=callK 35 [.c (.s src)] KS.zero fun v sP=> isP v fun p=> allocK sP (mkB p 0 0) fun sQ=>
 callK 37 [.a p] sQ (fun v s=> isT v&&sameK sQ s sQ.nb)&&
 callK 38 [.a p] sP fun v sC=> isCT v fun b=> callK 39 [.c b] sC fun v sG=> isCT v fun f=> callK 40 [.c f] sG fun v s=> isT v&&sameK sG s sG.nb
structure PipeS (src :List Nat) (p :List S) (b f :S) (uP uC uG :St) :Prop where
 parse :Ent prog 35 [.c (.s src)] St.zero (.t [.a p, .c (.i (-1))]) uP
 infer :EntK prog 36 [.a p] (alloc uP p) (unT 11)
 covered :EntK prog 37 [.a p] (alloc uP p) (.c (.b true))
 close :Ent prog 38 [.a p] uP (.t [.c b, .c (.b true)]) uC
 gen :Ent prog 39 [.c b] uC (.t [.c f, .c (.b true)]) uG
 verify :EntK prog 40 [.c f] uG (.c (.b true))
 len :p.length=6
theorem pipeS {src :List Nat} (h1 :runS1 src=true) (h2 :runS2 src=true) : ∃p b f uP uC uG,PipeS src p b f uP uC uG :=by
 obtain ⟨v,sP,uP,a1,a2,a3⟩ :=callK_rel _ _ _ _ _ rs_zero h1
 obtain ⟨p,rfl,a4⟩ :=isP_some a3
 obtain ⟨a40,a4⟩ :=(Bool.and_eq_true _ _).mp a4
 have a41 :p.length=6 :=by rw [← llen_eq];exact Nat.eq_of_beq_eq_true a40
 obtain ⟨sQ,a5,a6⟩ :=a2.alloc a4
 have hI :=keep_of a6 (fun v=> isI_wk) a5
 obtain ⟨v,sP',uP',b1,b2,b3⟩ :=callK_rel _ _ _ _ _ rs_zero h2
 rw [a1] at b1
 simp only [Option.some.injEq,Prod.mk.injEq] at b1
 obtain ⟨rfl,rfl⟩ :=b1
 obtain ⟨p',hp',b4⟩ :=isP_some b3
 simp only [V.t.injEq,List.cons.injEq,V.a.injEq,and_true] at hp'
 subst hp'
 obtain ⟨sQ',b5,b6⟩ :=b2.alloc b4
 obtain ⟨c1,c2⟩ :=(Bool.and_eq_true _ _).mp b5
 have hC :=keep_of b6 wkT c1
 obtain ⟨v,sC,uC,d1,d2,d3⟩ :=callK_rel _ _ _ _ _ b2 c2
 obtain ⟨b,rfl,d4⟩ :=isCT_some d3
 obtain ⟨v,sG,uG,e1,e2,e3⟩ :=callK_rel _ _ _ _ _ d2 d4
 obtain ⟨f,rfl,e4⟩ :=isCT_some e3
 exact ⟨p,b,f,uP,uC,uG,ent_of callE_ok a1,hI,hC,ent_of callE_ok d1,ent_of callE_ok e1,keep_of e2 wkT e4,a41⟩
end Go.Ev
end
