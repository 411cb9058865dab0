/- Parts of the proof of FnBytes. -/
import Derived.Test.YtdmkhipimcjipaaGreatZ09
set_option linter.unusedVariables false
set_option linter.unusedSimpArgs false
section
set_option linter.unusedVariables false
set_option linter.unusedSimpArgs false
set_option maxRecDepth 20000
namespace Go.Ev
open Go
section
variable {P : Program} {ty : TypeId → Option TyI} {ibs : FuncId → Bool} {call : Nat → List V → St → Option (V × St)} {nt : Nat}
theorem tmps_put' {a : Act} {dst : Option Tmp} {cv : Value} (hd : dstOk nt dst = true) (hf : FrOk nt a) (t : Nat) : (a.put dst cv).tmps.getD t undef = if dst = some t then cv else a.tmps.getD t undef := by
  cases dst with
  | none => simp [Act.put]
  | some d =>
    have h1 : d < nt := by
      have : Nat.ble (d + 1) nt = true := hd
      exact Nat.le_of_ble_eq_true this
    rw [tmps_put (Nat.lt_of_lt_of_le h1 hf.1)]
    by_cases h : t = d
    · subst h; simp
    · rw [if_neg h, if_neg (fun e => h (Option.some.inj e).symm)]
def Comes (call : Nat → List V → St → Option (V × St)) (e : E) (s : St) (g : Option (Nat × Bool)) (x : MO) (v : V) (s' : St) : Prop :=
  (gEv e g = some true ∧ mo call e s x = some (v, s')) ∨ (gEv e g = some false ∧ v = .t [] ∧ s' = s)
theorem comes_of_evG {e e' : E} {s s' : St} {dst : Option Nat} {g : Option (Nat × Bool)} {x : MO} (h : evG call e s dst g x = some (e', s')) : ∃ v, Comes call e s g x v s' ∧ e' = put e dst v := by
  rw [evG_eq] at h
  split at h
  · rename_i hg
    split at h
    · rename_i v s1 hm
      simp only [Option.some.injEq, Prod.mk.injEq] at h
      exact ⟨v, .inl ⟨hg, h.2 ▸ hm⟩, h.1.symm⟩
    · simp at h
  · rename_i hg
    simp only [Option.some.injEq, Prod.mk.injEq] at h
    exact ⟨.t [], .inr ⟨hg, rfl, h.2.symm⟩, h.1.symm⟩
  · simp at h
theorem Comes.like {e e' : E} {s s' : St} {g : Option (Nat × Bool)} {x : MO} {v : V} (h : Like (gT g ++ moT x) e e') (hc : Comes call e' s g x v s') : Comes call e s g x v s' := by
  unfold Comes
  rw [gEv_like h.left, mo_like h.right]
  exact hc
theorem wpOp_wanted {ops : Array Oper} {i : Nat} {o : Oper} (hi : ops[i]? = some o) {g : Option (Nat × Bool)} (hg : cGuard ops o.guard = some g) {ρ : Rho} {e : E} {a : Act} (he : ER ρ e a) {w : World} {K : Act → World → Prop} {Q : Exit → Act → World → Prop} :
    (gEv e g = some true → o.wp P a w K Q → wpOp P ops Q i K a w) ∧ (gEv e g = some false → K (a.put o.dst undef) w → wpOp P ops Q i K a w) := by
  have hw : ∀ b, gEv e g = some b → Region.wanted o (yielded ops a.tmps) = b := by
    intro b hb
    cases hog : o.guard with
    | none =>
      rw [hog] at hg
      simp only [cGuard, Option.some.injEq] at hg; subst hg
      simp only [gEv, Option.some.injEq] at hb; subst hb
      simp [Region.wanted, hog]
    | some q =>
      obtain ⟨j, want⟩ := q
      rw [hog] at hg
      simp only [cGuard] at hg
      split at hg
      · rename_i d hj
        simp only [Option.some.injEq] at hg; subst hg
        obtain ⟨w1, w2⟩ := wanted_of he hog hj
        simp only [gEv] at hb
        split at hb
        · rename_i x hx
          simp only [Option.some.injEq] at hb
          rw [w1 x hx, hb]
        · rename_i hx
          simp only [Option.some.injEq] at hb
          rw [w2 hx, hb]
        · simp at hb
      · simp at hg
  constructor
  · intro h1 h2
    unfold wpOp
    simp only [hi, hw true h1, if_true]
    exact .inl h2
  · intro h1 h2
    unfold wpOp
    simp only [hi, hw false h1, Bool.false_eq_true, if_false]
    exact h2
theorem op_sound (hty : TyOk P ty) (hib : IbsOk P ibs) (hcall : CallOk P call) {ops : Array Oper} {i : Nat} {o : Oper} (hi : ops[i]? = some o) {g : Option (Nat × Bool)} (hg : cGuard ops o.guard = some g) {x : MO} (hx : cMO ty ibs o.op = some x)
    {ρ : Rho} {e : E} {a : Act} (he : ∀ t ∈ gT g ++ moT x, ∀ v, e.get t = some v → VR ρ v (a.tmps.getD t undef)) {s s' : St} {w : World} (hr : Rel ρ s w) {v : V} (hc : Comes call e s g x v s')
    {K : Act → World → Prop} {Q : Exit → Act → World → Prop} (hK : ∀ cv w' ρ', VR ρ' v cv → Rel ρ' s' w' → Go s ρ w s' ρ' w' → K (a.put o.dst cv) w') : wpOp P ops Q i K a w := by
  have her : ER ρ (some_ e (gT g ++ moT x)) a := by
    intro t u hu
    rw [get_some_] at hu
    split at hu
    · rename_i ht; exact he t ht u hu
    · simp at hu
  have hc' := hc.like (like_some_ e (gT g ++ moT x))
  obtain ⟨k1, k2⟩ := wpOp_wanted (P := P) (w := w) (K := K) (Q := Q) hi hg her
  rcases hc' with ⟨h1, h2⟩ | ⟨h1, rfl, rfl⟩
  · exact k1 h1 (mo_sound hty hib hcall hx her hr h2 hK)
  · exact k2 h1 (hK _ w ρ ⟨#[], rfl, trivial⟩ hr (Go.refl _ _ _))
structure Pd where
  i : Nat
  a : Inf
  e : E
  v : V
  nid : Nat
def PdOk (s0 s : St) (ρ : Rho) (p : Pd) : Prop :=
  (gEv p.e p.a.g = some false ∧ p.v = .t []) ∨
  (gEv p.e p.a.g = some true ∧ match p.a.x with
    | .w x => wv p.e x = some p.v
    | .r x => rv p.e s x = some p.v
    | .a x => ∃ l f, av p.e x = some (l, f) ∧ p.v = f p.nid ∧ s.h.get p.nid = some ⟨l, 0, 0⟩ ∧ ρ p.nid = none ∧ s0.nb ≤ p.nid
    | .m _ => False)
structure Hf where
  i : Nat
  a : Inf
  e : E
  n : Nat
  oa : O
  ob : O
  x : Nat
  o : Nat
  l : List S
  mid : St
def Same (s s' : St) : Prop := s'.nb = s.nb ∧ s'.nf = s.nf ∧ (∀ x, s'.h.get x = s.h.get x) ∧ (∀ f, s'.fm.get f = s.fm.get f)
theorem Rel.same {ρ : Rho} {s s' : St} {w : World} (h : Rel ρ s w) (hs : Same s s') : Rel ρ s' w := by
  obtain ⟨h1, h2, h3, h4⟩ := hs
  refine ⟨fun x y e => by rw [h1]; exact h.dom x y e, h.blk, fun x cb sh z b e e' => h.con x cb sh z b e (by rw [← h3]; exact e'),
    fun x y cb sh sh' z z' bx b' hne e1 e2 e3 e4 => h.inj x y cb sh sh' z z' bx b' hne e1 e2 (by rw [← h3]; exact e3) (by rw [← h3]; exact e4),
    fun x b f e e' => ?_, fun x b e => by rw [h2]; exact h.nfl x b (by rw [← h3]; exact e), fun x b e => by rw [h1]; exact h.lt x b (by rw [← h3]; exact e)⟩
  rw [h4]; exact h.fam x b f (by rw [← h3]; exact e) e'
def HfOk (cls : List Nat) (s : St) (ρ : Rho) (act : Act) (pend : List Pd) (h : Hf) : Prop :=
  h.a.x = .m (.st h.n h.oa h.ob) ∧ h.a.g = none ∧ h.a.o.dst = none ∧ os h.e h.oa = .p h.x h.o ∧ cellsOf (ov h.e h.ob) = some h.l ∧ h.l.length = h.n ∧ NO h.mid h.x h.o h.l.length ∧
  (∀ b, h.mid.h.get h.x = some b → h.o + h.l.length ≤ b.c.length) ∧ (∃ s2, setc h.mid h.x h.o h.l = some s2 ∧ Same s2 s) ∧
  (∀ t ∈ h.a.ts, (∃ q ∈ pend, q.a.o.dst = some t ∧ bt cls h.i q.i = true ∧ h.e.get t = some q.v) ∨ ((∀ q ∈ pend, q.a.o.dst = some t → bt cls h.i q.i = false) ∧ ∀ v, h.e.get t = some v → VR ρ v (act.tmps.getD t undef))) ∧ (∀ p ∈ pend, isRA p.a.x = false)
structure Ctx (P : Program) (ty : TypeId → Option TyI) (ibs : FuncId → Bool) (call : Nat → List V → St → Option (V × St)) (nt : Nat) (ops : Array Oper) (infs : List Inf) (cls : List Nat) (prs : List (Nat × Nat)) (order : List Nat) : Prop where
  hty : TyOk P ty
  hib : IbsOk P ibs
  hcall : CallOk P call
  inf : ∀ (i : Nat) (a : Inf), infs[i]? = some a → ops[i]? = some a.o ∧ cGuard ops a.o.guard = some a.g ∧ cMO ty ibs a.o.op = some a.x ∧ dstOk nt a.o.dst = true
  mem : ∀ i, i < ops.size → i ∈ order
  lt : ∀ i ∈ order, i < ops.size
  nodup : order.Nodup
  any : ∀ i ∈ order, ∀ j ∈ order, i ≠ j → pairOk infs cls prs i j = true ∨ pairOk infs cls prs j i = true
  split : ∀ pre rest, order = pre ++ rest → ∀ i ∈ pre, ∀ j ∈ rest, pairOk infs cls prs i j = true
  self : ∀ i ∈ order, selfOk infs cls i = true
  dep : ∀ i j, bt cls i j = true → Dep ops i j
  topo : ∀ pre i rest, order = pre ++ i :: rest → ∀ a, infs[i]? = some a → ∀ e ∈ a.o.after, Region.binds .any e = true → e.on ∈ pre
  all : ∀ i ∈ order, ∃ a, infs[i]? = some a
structure Inv (nt : Nat) (ops : Array Oper) (infs : List Inf) (cls : List Nat) (order : List Nat) (s0 : St) (ρ0 : Rho) (w0 : World)
    (pre : List Nat) (rest : List HS) (e : E) (s : St) (pend : List Pd) (half : Option Hf) (listed : Array Bool) (ρ : Rho) (act : Act) (w : World) : Prop where
  rel : match half with | none => Rel ρ s w | some h => Rel ρ h.mid w
  go : Go s0 ρ0 w0 s ρ w
  fr : FrOk nt act
  sz : listed.size = ops.size
  lst : ∀ i, i < ops.size → (listed.getD i true = false ↔ (∃ p ∈ pend, p.i = i) ∨ (∃ h, half = some h ∧ h.i = i) ∨ i ∈ opsOf rest)
  dc : ∀ i o (ed : Edge), listed.getD i false = true → ops[i]? = some o → ed ∈ o.after → Region.binds .any ed = true → listed.getD ed.on false = true
  ord : order = pre ++ opsOf rest
  pin : ∀ p ∈ pend, p.i ∈ pre
  hin : ∀ h, half = some h → h.i ∈ pre ∧ infs[h.i]? = some h.a
  nd : (pend.map (·.i)).Nodup
  inf : ∀ p ∈ pend, infs[p.i]? = some p.a
  i1 : ∀ t v, e.get t = some v → (∀ p ∈ pend, p.a.o.dst ≠ some t) → VR ρ v (act.tmps.getD t undef)
  i2 : ∀ p ∈ pend, ∀ t ∈ p.a.ts, (∃ q ∈ pend, q.a.o.dst = some t ∧ bt cls p.i q.i = true ∧ p.e.get t = some q.v) ∨ ((∀ q ∈ pend, q.a.o.dst = some t → bt cls p.i q.i = false) ∧ ∀ v, p.e.get t = some v → VR ρ v (act.tmps.getD t undef))
  i3 : ∀ p ∈ pend, PdOk s0 s ρ p
  i4 : ∀ p ∈ pend, ∀ d, p.a.o.dst = some d → e.get d = some p.v
  i6 : ∀ p ∈ pend, isRA p.a.x = true → Like p.a.ts p.e e
  nids : ∀ p ∈ pend, ∀ q ∈ pend, p.i ≠ q.i → (∃ x, p.a.x = .a x) → (∃ x, q.a.x = .a x) → p.v ≠ .t [] → q.v ≠ .t [] → p.nid ≠ q.nid
  hf : ∀ h, half = some h → HfOk cls s ρ act pend h
  hp : ∀ h, half = some h → ∀ j ∈ opsOf rest, bt cls j h.i = true
theorem getD_iff {listed : Array Bool} {n j : Nat} (hn : listed.size = n) (hj : j < n) : listed.getD j true = listed.getD j false := by
  have : j < listed.size := by omega
  simp [Array.getD_eq_getD_getElem?, this]
theorem ready_cl {ops : Array Oper} {listed : Array Bool} (dc : ∀ i o (ed : Edge), listed.getD i false = true → ops[i]? = some o → ed ∈ o.after → Region.binds .any ed = true → listed.getD ed.on false = true)
    {i j : Nat} (hd : Dep ops i j) (hr : ∀ o, ops[i]? = some o → ∀ ed ∈ o.after, Region.binds .any ed = true → listed.getD ed.on false = true) : listed.getD j false = true := by
  have all : ∀ {i j}, Dep ops i j → listed.getD i false = true → listed.getD j false = true := by
    intro i j h
    induction h with
    | one h1 h2 h3 h4 => intro hl; subst h4; exact dc _ _ _ hl h1 h2 h3
    | more h1 h2 h3 h4 _ ih => intro hl; subst h4; exact ih (dc _ _ _ hl h1 h2 h3)
  cases hd with
  | one h1 h2 h3 h4 => subst h4; exact hr _ h1 _ h2 h3
  | more h1 h2 h3 h4 h5 => subst h4; exact all h5 (hr _ h1 _ h2 h3)
section
variable {ops : Array Oper} {infs : List Inf} {cls : List Nat} {prs : List (Nat × Nat)} {order : List Nat} {s0 : St} {ρ0 : Rho} {w0 : World} {pre : List Nat} {rest : List HS} {e : E} {s : St} {half : Option Hf} {listed : Array Bool} {ρ : Rho} {act : Act} {w : World}
def now (s : St) : Option Hf → St
  | none => s
  | some h => h.mid
theorem Inv.reln {pend : List Pd} (h : Inv nt ops infs cls order s0 ρ0 w0 pre rest e s pend half listed ρ act w) : Rel ρ (now s half) w := by
  have := h.rel
  cases half <;> exact this
theorem setc_nb {s s' : St} {x o : Nat} {l : List S} (h : setc s x o l = some s') : s'.nb = s.nb := by
  unfold setc at h
  split at h
  · simp at h
  · simp only [Option.some.injEq] at h; rw [← h]
theorem Inv.nown {pend : List Pd} (h : Inv nt ops infs cls order s0 ρ0 w0 pre rest e s pend half listed ρ act w) : (now s half).nb = s.nb := by
  cases half with
  | none => rfl
  | some hh =>
    obtain ⟨_, _, _, _, _, _, _, _, ⟨s2, h1, h2⟩, _, _⟩ := h.hf hh rfl
    show hh.mid.nb = s.nb
    rw [h2.1, setc_nb h1]
theorem listed_set {n i : Nat} {listed : Array Bool} (hn : listed.size = n) (hi : i < n) (j : Nat) (d : Bool) : (listed.setIfInBounds i true).getD j d = if j = i then true else listed.getD j d := by
  simp only [Array.getD_eq_getD_getElem?, Array.getElem?_setIfInBounds]
  by_cases h : i = j
  · subst h; simp [hn, hi]
  · rw [if_neg h, if_neg (fun e => h e.symm)]
theorem dc_set {n i : Nat} (hn : listed.size = n) (hi : i < n) (dc : ∀ i o (ed : Edge), listed.getD i false = true → ops[i]? = some o → ed ∈ o.after → Region.binds .any ed = true → listed.getD ed.on false = true)
    (hr : ∀ o, ops[i]? = some o → ∀ ed ∈ o.after, Region.binds .any ed = true → listed.getD ed.on false = true) :
    ∀ k o (ed : Edge), (listed.setIfInBounds i true).getD k false = true → ops[k]? = some o → ed ∈ o.after → Region.binds .any ed = true → (listed.setIfInBounds i true).getD ed.on false = true := by
  intro k o ed h1 h2 h3 h4
  rw [listed_set hn hi] at h1 ⊢
  split
  · rfl
  · split at h1
    · rename_i hk; subst hk; exact hr o h2 ed h3 h4
    · exact dc k o ed h1 h2 h3 h4
theorem av_v {e : E} {x : A} {l : List S} {f : Nat → V} (h : av e x = some (l, f)) (n : Nat) : f n ≠ .t [] := by
  unfold av at h
  split at h
  · simp only [Option.some.injEq, Prod.mk.injEq] at h; rw [← h.2]; simp
  · split at h
    · simp only [Option.some.injEq, Prod.mk.injEq] at h; rw [← h.2]; simp
    · simp at h
  · split at h
    · simp only [Option.some.injEq, Prod.mk.injEq] at h; rw [← h.2]; simp
    · simp at h
  · split at h
    · obtain ⟨_, h⟩ := cond_some h
      simp only [Option.some.injEq, Prod.mk.injEq] at h; rw [← h.2]; simp
    · simp at h
theorem Inv.done (C : Ctx P ty ibs call nt ops infs cls prs order) {l1 l2 : List Pd} {p : Pd} (h : Inv nt ops infs cls order s0 ρ0 w0 pre rest e s (l1 ++ p :: l2) half listed ρ act w)
    (hr : ∀ o, ops[p.i]? = some o → ∀ ed ∈ o.after, Region.binds .any ed = true → listed.getD ed.on false = true)
    {cv : Value} {w' : World} {ρ' : Rho} (hv : VR ρ' p.v cv) (hrel : Rel ρ' (now s half) w') (hle : ρ.le ρ') (hgo : Go s0 ρ0 w0 s ρ' w')
    (hnid : ∀ q ∈ l1 ++ l2, (∃ x, q.a.x = .a x) → q.v ≠ .t [] → ρ' q.nid = none) :
    Inv nt ops infs cls order s0 ρ0 w0 pre rest e s (l1 ++ l2) half (listed.setIfInBounds p.i true) ρ' (act.put p.a.o.dst cv) w' := by
  have hpin : p ∈ l1 ++ p :: l2 := by simp
  have hsub : ∀ q ∈ l1 ++ l2, q ∈ l1 ++ p :: l2 := fun q hq => by
    rcases List.mem_append.1 hq with h1 | h1
    · exact List.mem_append_left _ h1
    · exact List.mem_append_right _ (List.mem_cons_of_mem _ h1)
  have hcase : ∀ q ∈ l1 ++ p :: l2, q = p ∨ q ∈ l1 ++ l2 := fun q hq => by
    rcases List.mem_append.1 hq with h1 | h1
    · exact .inr (List.mem_append_left _ h1)
    · rcases List.mem_cons.1 h1 with h1 | h1
      · exact .inl h1
      · exact .inr (List.mem_append_right _ h1)
  have hnd := h.nd
  rw [List.map_append, List.map_cons] at hnd
  have hne : ∀ q ∈ l1 ++ l2, q.i ≠ p.i := fun q hq e => by
    obtain ⟨n1, n2, n3⟩ := List.nodup_append.1 hnd
    obtain ⟨n4, n5⟩ := List.nodup_cons.1 n2
    rcases List.mem_append.1 hq with h1 | h1
    · exact n3 q.i (List.mem_map.2 ⟨q, h1, rfl⟩) p.i (List.mem_cons_self ..) e
    · exact n4 (e ▸ List.mem_map.2 ⟨q, h1, rfl⟩)
  have hlt : ∀ q ∈ l1 ++ p :: l2, q.i ∈ order := fun q hq => by rw [h.ord]; exact List.mem_append_left _ (h.pin q hq)
  have hpi : p.i < ops.size := C.lt _ (hlt p hpin)
  obtain ⟨c1, c2, c3, c4⟩ := C.inf p.i p.a (h.inf p hpin)
  have htm := fun t => tmps_put' (a := act) (cv := cv) c4 h.fr t
  have unl : ∀ q ∈ l1 ++ p :: l2, listed.getD q.i false = false := fun q hq => by
    have := (h.lst q.i (C.lt _ (hlt q hq))).2 (.inl ⟨q, hq, rfl⟩)
    rw [← getD_iff h.sz (C.lt _ (hlt q hq))]; exact this
  have notp : ∀ j, bt cls p.i j = true → ∀ q ∈ l1 ++ p :: l2, q.i ≠ j := fun j hj q hq e => by
    have := ready_cl h.dc (C.dep _ _ hj) hr
    rw [← e, unl q hq] at this; cases this
  have reads : ∀ (i : Nat) (b : Inf), i ∈ order → infs[i]? = some b → i ≠ p.i → (listed.getD i false = false) → ∀ t, p.a.o.dst = some t → t ∈ b.ts → bt cls i p.i = true := by
    intro i b hi hb hine hun t hd ht
    rcases C.any p.i (hlt p hpin) i hi (fun e => hine e.symm) with hp | hp
    · obtain ⟨a', c', g1, g2, g3, g4, g5, g6, g7, g8⟩ := pair_facts hp
      rw [h.inf p hpin] at g1
      rw [hb] at g2
      simp only [Option.some.injEq] at g1 g2
      subst g1 g2
      exact g7 t hd ht
    · obtain ⟨a', c', g1, g2, g3, g4, g5, g6, g7, g8⟩ := pair_facts hp
      rw [hb] at g1
      rw [h.inf p hpin] at g2
      simp only [Option.some.injEq] at g1 g2
      subst g1 g2
      have := (g8 t hd ht).1
      have := ready_cl h.dc (C.dep _ _ this) hr
      rw [hun] at this; cases this
  have uniq : ∀ q ∈ l1 ++ l2, ∀ t, p.a.o.dst = some t → q.a.o.dst ≠ some t := by
    intro q hq t hd hd'
    rcases C.any p.i (hlt p hpin) q.i (hlt q (hsub q hq)) (fun e => hne q hq e.symm) with hp | hp
    · obtain ⟨a', c', g1, g2, g3, g4, g5, g6, g7, g8⟩ := pair_facts hp
      rw [h.inf p hpin] at g1
      rw [h.inf q (hsub q hq)] at g2
      simp only [Option.some.injEq] at g1 g2
      subst g1 g2
      exact g6 t hd hd'
    · obtain ⟨a', c', g1, g2, g3, g4, g5, g6, g7, g8⟩ := pair_facts hp
      rw [h.inf q (hsub q hq)] at g1
      rw [h.inf p hpin] at g2
      simp only [Option.some.injEq] at g1 g2
      subst g1 g2
      exact g6 t hd' hd
  refine ⟨?_, hgo, h.fr.put _ _, by simpa using h.sz, ?_, dc_set h.sz hpi h.dc hr, h.ord, fun q hq => h.pin q (hsub q hq), h.hin, ?_, fun q hq => h.inf q (hsub q hq), ?_, ?_, ?_, fun q hq => h.i4 q (hsub q hq), fun q hq => h.i6 q (hsub q hq), ?_, ?_, h.hp⟩
  · cases half <;> exact hrel
  · intro i hi
    rw [listed_set h.sz hpi]
    by_cases hip : i = p.i
    · rw [if_pos hip]
      simp only [Bool.true_eq_false, false_iff, not_or, not_exists, not_and]
      refine ⟨fun q hq e => hne q hq (e.trans hip), fun hh hhe e => ?_, fun hin => ?_⟩
      ·
        have := (h.hin hh hhe)
        have hx : hh.a.x = .m (.st hh.n hh.oa hh.ob) := (h.hf hh hhe).1
        have : infs[p.i]? = some hh.a := by rw [← hip, ← e]; exact (h.hin hh hhe).2
        rw [h.inf p hpin] at this
        simp only [Option.some.injEq] at this
        have hpk := h.i3 p hpin
        rcases hpk with ⟨g1, _⟩ | ⟨_, hpk⟩
        · rw [this, (h.hf hh hhe).2.1] at g1; simp [gEv] at g1
        · rw [this, hx] at hpk; exact hpk
      · have hn := C.nodup
        rw [h.ord] at hn
        obtain ⟨_, _, n3⟩ := List.nodup_append.1 hn
        exact n3 p.i (h.pin p hpin) i hin hip.symm
    · rw [if_neg hip, h.lst i hi]
      constructor
      · rintro (⟨q, hq, e⟩ | hh | hh)
        · rcases hcase q hq with rfl | hq
          · exact absurd e.symm hip
          · exact .inl ⟨q, hq, e⟩
        · exact .inr (.inl hh)
        · exact .inr (.inr hh)
      · rintro (⟨q, hq, e⟩ | hh | hh)
        · exact .inl ⟨q, hsub q hq, e⟩
        · exact .inr (.inl hh)
        · exact .inr (.inr hh)
  · rw [List.map_append]
    obtain ⟨n1, n2, n3⟩ := List.nodup_append.1 hnd
    exact List.nodup_append.2 ⟨n1, (List.nodup_cons.1 n2).2, fun a ha b hb => n3 a ha b (List.mem_cons_of_mem _ hb)⟩
  · intro t v ht hq
    rw [htm]
    by_cases hd : p.a.o.dst = some t
    · rw [if_pos hd]
      have := h.i4 p hpin t hd
      rw [ht] at this
      simp only [Option.some.injEq] at this
      rw [this]; exact hv
    · rw [if_neg hd]
      refine (h.i1 t v ht fun q hq' => ?_).mono hle
      rcases hcase q hq' with rfl | hq'
      · exact hd
      · exact hq q hq'
  · intro q hq t ht
    rcases h.i2 q (hsub q hq) t ht with ⟨r, hr1, hr2, hr3, hr4⟩ | hh
    · rcases hcase r hr1 with rfl | hr1
      · refine .inr ⟨fun q' hq' hd' => absurd hd' (uniq q' hq' t hr2), fun v hv' => ?_⟩
        rw [htm, if_pos hr2]
        rw [hr4] at hv'
        simp only [Option.some.injEq] at hv'
        rw [← hv']; exact hv
      · exact .inl ⟨r, hr1, hr2, hr3, hr4⟩
    · by_cases hd : p.a.o.dst = some t
      · have hb := reads q.i q.a (hlt q (hsub q hq)) (h.inf q (hsub q hq)) (hne q hq) (unl q (hsub q hq)) t hd ht
        rw [hh.1 p hpin hd] at hb; cases hb
      · refine .inr ⟨fun q' hq' => hh.1 q' (hsub q' hq'), fun v hv' => ?_⟩
        rw [htm, if_neg hd]
        exact (hh.2 v hv').mono hle
  · intro q hq
    rcases h.i3 q (hsub q hq) with hh | ⟨h1, h2⟩
    · exact .inl hh
    · refine .inr ⟨h1, ?_⟩
      cases hx : q.a.x with
      | w x => rw [hx] at h2; exact h2
      | r x => rw [hx] at h2; exact h2
      | a x =>
        rw [hx] at h2
        obtain ⟨l, f, k1, k2, k3, k4, k5⟩ := h2
        exact ⟨l, f, k1, k2, k3, hnid q hq ⟨x, hx⟩ (by rw [k2]; exact av_v k1 _), k5⟩
      | m x => rw [hx] at h2; exact h2
  · intro q hq r hr' hne' hx hy hz hz'
    exact h.nids q (hsub q hq) r (hsub r hr') hne' hx hy hz hz'
  · intro hh hhe
    obtain ⟨k1, k2, k3, k4, k5, k6, k7, k8, k9, k10, k11⟩ := h.hf hh hhe
    refine ⟨k1, k2, k3, k4, k5, k6, k7, k8, k9, fun t ht => ?_, fun q hq => k11 q (hsub q hq)⟩
    have hho : hh.i ∈ order := by rw [h.ord]; exact List.mem_append_left _ (h.hin hh hhe).1
    have hun : listed.getD hh.i false = false := by
      rw [← getD_iff h.sz (C.lt _ hho)]; exact (h.lst hh.i (C.lt _ hho)).2 (.inr (.inl ⟨hh, hhe, rfl⟩))
    have hhp : hh.i ≠ p.i := fun e => by
      have : infs[p.i]? = some hh.a := by rw [← e]; exact (h.hin hh hhe).2
      rw [h.inf p hpin] at this
      simp only [Option.some.injEq] at this
      rcases h.i3 p hpin with ⟨g1, _⟩ | ⟨_, hpk⟩
      · rw [this, k2] at g1; simp [gEv] at g1
      · rw [this, k1] at hpk; exact hpk
    rcases k10 t ht with ⟨r, hr1, hr2, hr3, hr4⟩ | hh2
    · rcases hcase r hr1 with rfl | hr1
      · refine .inr ⟨fun q' hq' hd' => absurd hd' (uniq q' hq' t hr2), fun v hv' => ?_⟩
        rw [htm, if_pos hr2]
        rw [hr4] at hv'
        simp only [Option.some.injEq] at hv'
        rw [← hv']; exact hv
      · exact .inl ⟨r, hr1, hr2, hr3, hr4⟩
    · by_cases hd : p.a.o.dst = some t
      · have hb := reads hh.i hh.a hho (h.hin hh hhe).2 hhp hun t hd ht
        rw [hh2.1 p hpin hd] at hb; cases hb
      · refine .inr ⟨fun q' hq' => hh2.1 q' (hsub q' hq'), fun v hv' => ?_⟩
        rw [htm, if_neg hd]
        exact (hh2.2 v hv').mono hle
theorem Rel.late {ρ : Rho} {s : St} {w : World} (h : Rel ρ s w) {nid : Nat} {l : List S} (hn : s.h.get nid = some ⟨l, 0, 0⟩) (hρ : ρ nid = Option.none) {cells : Array Value} (hl : LR (SR ρ) l cells.toList) (el : TypeId) :
    Rel (ρ.with nid (w.heap.size, 0, cells.size)) s (w.alloc (.cells cells el)) := by
  have hle : ρ.le (ρ.with nid (w.heap.size, 0, cells.size)) := Rho.with_le hρ
  have hcase : ∀ x cb sh z, ρ.with nid (w.heap.size, 0, cells.size) x = some (cb, sh, z) → (x = nid ∧ cb = w.heap.size ∧ sh = 0 ∧ z = cells.size) ∨ (x ≠ nid ∧ ρ x = some (cb, sh, z)) := by
    intro x cb sh z hx
    by_cases hk : x = nid
    · subst hk
      rw [Rho.with_at] at hx
      simp only [Option.some.injEq, Prod.mk.injEq] at hx
      exact .inl ⟨rfl, hx.1.symm, hx.2.1.symm, hx.2.2.symm⟩
    · exact .inr ⟨hk, by rw [Rho.with_ne hk] at hx; exact hx⟩
  have hlen : l.length = cells.size := by rw [hl.length]; simp
  refine ⟨?_, ?_, ?_, ?_, h.fam, h.nfl, h.lt⟩
  · intro x ⟨cb, sh, z⟩ hx
    rcases hcase x cb sh z hx with ⟨rfl, _⟩ | ⟨_, hx⟩
    · exact h.lt _ _ hn
    · exact h.dom _ _ hx
  · intro x cb sh z hx
    rcases hcase x cb sh z hx with ⟨rfl, rfl, rfl, rfl⟩ | ⟨_, hx⟩
    · exact ⟨cells, el, heap_alloc_new w _, rfl⟩
    · obtain ⟨cs, e, h1, h2⟩ := h.blk x cb sh z hx
      exact ⟨cs, e, by rw [heap_alloc_old w _ _ (h.block_lt hx)]; exact h1, h2⟩
  · intro x cb sh z b hx hb
    rcases hcase x cb sh z hx with ⟨rfl, rfl, rfl, rfl⟩ | ⟨hne, hx⟩
    · rw [hn] at hb
      simp only [Option.some.injEq] at hb; subst hb
      refine ⟨by show 0 + l.length ≤ _; omega, fun i sv hi => ?_⟩
      obtain ⟨cv, h1, h2⟩ := hl.get hi
      exact ⟨cv, by rw [Nat.zero_add, World.cell?_alloc_new]; simpa using h1, h2.mono hle⟩
    · obtain ⟨h1, h2⟩ := h.con x cb sh z b hx hb
      refine ⟨h1, fun i sv hi => ?_⟩
      obtain ⟨cv, h3, h4⟩ := h2 i sv hi
      exact ⟨cv, by rw [World.cell?_alloc_lt w _ _ (h.block_lt hx)]; exact h3, h4.mono hle⟩
  · intro x y cb sh sh' z z' bx b' hne hx hy hbx hby
    rcases hcase x cb sh z hx with ⟨e1, e2, _, _⟩ | ⟨hnx, hx2⟩
    · rcases hcase y _ sh' z' hy with ⟨e3, _⟩ | ⟨hny, hy2⟩
      · exact absurd (e1.trans e3.symm) hne
      · have := h.block_lt hy2; omega
    · rcases hcase y _ sh' z' hy with ⟨e3, e4, _⟩ | ⟨hny, hy2⟩
      · have := h.block_lt hx2; omega
      · exact h.inj x y cb sh sh' z z' bx b' hne hx2 hy2 hbx hby
theorem exec_pd (C : Ctx P ty ibs call nt ops infs cls prs order) {l1 l2 : List Pd} {p : Pd} (h : Inv nt ops infs cls order s0 ρ0 w0 pre rest e s (l1 ++ p :: l2) half listed ρ act w)
    (hr : ∀ o, ops[p.i]? = some o → ∀ ed ∈ o.after, Region.binds .any ed = true → listed.getD ed.on false = true) {K : Act → World → Prop} {Q : Exit → Act → World → Prop}
    (hK : ∀ act' w' ρ', Inv nt ops infs cls order s0 ρ0 w0 pre rest e s (l1 ++ l2) half (listed.setIfInBounds p.i true) ρ' act' w' → K act' w') : wpOp P ops Q p.i K act w := by
  have hpin : p ∈ l1 ++ p :: l2 := by simp
  have hsub : ∀ q ∈ l1 ++ l2, q ∈ l1 ++ p :: l2 := fun q hq => by
    rcases List.mem_append.1 hq with h1 | h1
    · exact List.mem_append_left _ h1
    · exact List.mem_append_right _ (List.mem_cons_of_mem _ h1)
  have hlt : ∀ q ∈ l1 ++ p :: l2, q.i ∈ order := fun q hq => by rw [h.ord]; exact List.mem_append_left _ (h.pin q hq)
  obtain ⟨c1, c2, c3, c4⟩ := C.inf p.i p.a (h.inf p hpin)
  have unl : ∀ q ∈ l1 ++ p :: l2, listed.getD q.i false = false := fun q hq => by
    have := (h.lst q.i (C.lt _ (hlt q hq))).2 (.inl ⟨q, hq, rfl⟩)
    rw [← getD_iff h.sz (C.lt _ (hlt q hq))]; exact this
  have htemps : ∀ t ∈ gT p.a.g ++ moT p.a.x, ∀ v, p.e.get t = some v → VR ρ v (act.tmps.getD t undef) := by
    intro t ht v hv
    rcases h.i2 p hpin t ht with ⟨r, hr1, _, hr3, _⟩ | hh
    · have := ready_cl h.dc (C.dep _ _ hr3) hr
      rw [unl r hr1] at this; cases this
    · exact hh.2 v hv
  have hnone : ∀ q ∈ l1 ++ p :: l2, isRA q.a.x = true → half = none := by
    intro q hq hra
    cases hh : half with
    | none => rfl
    | some hf =>
      have := (h.hf hf hh).2.2.2.2.2.2.2.2.2.2 q hq
      rw [hra] at this; cases this
  have hnids : ∀ (ρ' : Rho) (w' : World), Go (now s half) ρ w (now s half) ρ' w' → ∀ q ∈ l1 ++ l2, (∃ x, q.a.x = .a x) → q.v ≠ .t [] → ρ' q.nid = none := by
    intro ρ' w' hg q hq ⟨x, hx⟩ hz
    have hn := hnone q (hsub q hq) (by rw [hx]; rfl)
    rcases h.i3 q (hsub q hq) with ⟨_, g2⟩ | ⟨_, g2⟩
    · exact absurd g2 hz
    · rw [hx] at g2
      obtain ⟨l, f, k1, k2, k3, k4, k5⟩ := g2
      cases hρ : ρ' q.nid with
      | none => rfl
      | some y =>
        rcases hg.fresh _ _ hρ with h1 | h1
        · rw [k4] at h1; cases h1
        · have hrel := h.reln
          rw [hn] at hrel h1
          have := hrel.lt _ _ k3
          exact absurd h1 (Nat.not_le.2 this)
  have plain : ∀ {x : MO}, p.a.x = x → Comes call p.e (now s half) p.a.g x p.v (now s half) → wpOp P ops Q p.i K act w := by
    intro x hx hc
    refine op_sound C.hty C.hib C.hcall c1 c2 (by rw [← hx]; exact c3) (by rw [← hx]; exact htemps) h.reln hc fun cv w' ρ' k1 k2 k3 => ?_
    refine hK _ _ ρ' (h.done C hr k1 k2 k3.le (h.go.trans (k3.states h.nown.symm h.nown.symm)) (hnids ρ' w' k3))
  rcases h.i3 p hpin with ⟨g1, g2⟩ | ⟨g1, g2⟩
  · exact plain rfl (.inr ⟨g1, g2, rfl⟩)
  · cases hx : p.a.x with
    | w x =>
      rw [hx] at g2
      exact plain hx (.inl ⟨g1, by simp only [mo, g2]⟩)
    | r x =>
      rw [hx] at g2
      have hn := hnone p hpin (by rw [hx]; rfl)
      refine plain hx (.inl ⟨g1, ?_⟩)
      subst hn
      simp only [mo, now]
      have g2' : rv p.e s x = some p.v := g2
      rw [g2']
    | a x =>
      rw [hx] at g2
      obtain ⟨l, f, k1, k2, k3, k4, k5⟩ := g2
      have hn := hnone p hpin (by rw [hx]; rfl)
      subst hn
      have hts : p.a.ts = gT p.a.g ++ aT x := by unfold Inf.ts; rw [hx]; rfl
      have her : ER ρ (some_ p.e p.a.ts) act := by
        intro t u hu
        rw [get_some_] at hu
        split at hu
        · rename_i ht; exact htemps t ht u hu
        · simp at hu
      have hlk : Like (gT p.a.g ++ aT x) (some_ p.e p.a.ts) p.e := by rw [← hts]; exact like_some_ _ _
      refine (wpOp_wanted (P := P) c1 c2 her).1 (by rw [gEv_like hlk.left]; exact g1) ?_
      have hav : av (some_ p.e p.a.ts) x = some (l, f) := by rw [av_like hlk.right]; exact k1
      obtain ⟨cv, cells, el, j1, j2, j3⟩ := av_sound C.hty (op := p.a.o.op) (by rw [hx] at c3; exact c3) her hav p.a.o.dst p.a.o.type p.a.o.pos p.a.o.after p.a.o.guard w
      have hrel : Rel ρ s w := h.rel
      have hlate := hrel.late k3 k4 j2 el
      refine Oper.wp_value (o := p.a.o) j1 ?_
      have hdone := h.done C hr (cv := cv) (ρ' := ρ.with p.nid (w.heap.size, 0, cells.size)) (by rw [k2]; exact j3 _ _ (Rho.with_at _ _ _)) hlate (Rho.with_le k4) ?_ ?_
      · exact hK _ _ _ hdone
      · refine ⟨Rho.le_trans h.go.le (Rho.with_le k4), h.go.os, h.go.tape, h.go.output, Nat.le_trans h.go.size (by simp), ?_, ?_, h.go.nbs, ?_⟩
        · intro c hc hno
          rw [heap_alloc_old w _ _ (Nat.lt_of_lt_of_le hc h.go.size)]
          exact h.go.block c hc hno
        · intro y cb sh z hy
          by_cases hyn : y = p.nid
          · subst hyn
            rw [Rho.with_at] at hy
            simp only [Option.some.injEq, Prod.mk.injEq] at hy
            exact .inr (by rw [← hy.1]; exact h.go.size)
          · rw [Rho.with_ne hyn] at hy
            exact h.go.new _ _ _ _ hy
        · intro y q hy
          by_cases hyn : y = p.nid
          · subst hyn; exact .inr k5
          · rw [Rho.with_ne hyn] at hy
            exact h.go.fresh _ _ hy
      · intro q hq ⟨x', hx'⟩ hz
        have hqi : p.i ≠ q.i := by
          have hnd := h.nd
          rw [List.map_append, List.map_cons] at hnd
          obtain ⟨n1, n2, n3⟩ := List.nodup_append.1 hnd
          obtain ⟨n4, n5⟩ := List.nodup_cons.1 n2
          intro e
          rcases List.mem_append.1 hq with h1 | h1
          · exact n3 q.i (List.mem_map.2 ⟨q, h1, rfl⟩) p.i (List.mem_cons_self ..) e.symm
          · exact n4 (e ▸ List.mem_map.2 ⟨q, h1, rfl⟩)
        have hne := h.nids p hpin q (hsub q hq) hqi ⟨x, hx⟩ ⟨x', hx'⟩ (by rw [k2]; exact av_v k1 _) hz
        rw [Rho.with_ne (fun e => hne e.symm)]
        rcases h.i3 q (hsub q hq) with ⟨_, g3⟩ | ⟨_, g3⟩
        · exact absurd g3 hz
        · rw [hx'] at g3
          obtain ⟨_, _, _, _, _, m4, _⟩ := g3
          exact m4
    | m x => rw [hx] at g2; exact g2.elim
end
end
end Go.Ev
end
section
set_option linter.unusedVariables false
set_option linter.unusedSimpArgs false
set_option maxRecDepth 20000
namespace Go.Ev
open Go
theorem capsEq_eq : ∀ {l m : List (Nat × Nat)}, capsEq l m = true → l = m
  | [], [], _ => rfl
  | [], _ :: _, h => by cases h
  | _ :: _, [], h => by cases h
  | x :: l, y :: m, h => by
    have h' : Bool.rec (motive := fun _ => Bool) false (capsEq l m) (Nat.beq x.1 y.1 && Nat.beq x.2 y.2) = true := h
    cases hb : (Nat.beq x.1 y.1 && Nat.beq x.2 y.2) with
    | false => rw [hb] at h'; cases h'
    | true =>
      rw [hb] at h'
      simp only [Bool.and_eq_true, nbeq, beq_iff_eq] at hb
      rw [capsEq_eq (l := l) (m := m) h']
      congr 1
      exact Prod.ext hb.1 hb.2
theorem sEq_eq {a b : S} (h : sEq a b = true) : a = b := by
  cases a <;> cases b <;> simp only [sEq, Bool.false_eq_true] at h <;> try (first | rfl | cases h)
  case b.b x y => cases x <;> cases y <;> first | rfl | cases h
  case i.i x y => rw [ieq_eq] at h; simp only [beq_iff_eq] at h; rw [h]
  case j.j k x k' y =>
    rw [ieq_eq, Bool.and_eq_true] at h
    rw [kbeq_eq h.1, beq_iff_eq.1 h.2]
  case s.s x y => rw [seq_eq] at h; simp only [beq_iff_eq] at h; rw [h]
  case p.p x y x' y' =>
    simp only [Bool.and_eq_true, nbeq, beq_iff_eq] at h
    rw [h.1, h.2]
  case l.l a1 a2 a3 a4 a5 b1 b2 b3 b4 b5 =>
    simp only [Bool.and_eq_true, nbeq, beq_iff_eq] at h
    obtain ⟨⟨⟨⟨h1, h2⟩, h3⟩, h4⟩, h5⟩ := h
    subst h1 h2 h3 h4
    cases a5 <;> cases b5 <;> first | rfl | cases h5
  case f.f g l g' l' =>
    simp only [Bool.and_eq_true, nbeq, beq_iff_eq] at h
    rw [h.1, capsEq_eq h.2]
theorem lEq_eq : ∀ {l m : List S}, lEq l m = true → l = m
  | [], [], _ => rfl
  | [], _ :: _, h => by cases h
  | _ :: _, [], h => by cases h
  | x :: l, y :: m, h => by
    have h' : Bool.rec (motive := fun _ => Bool) false (lEq l m) (sEq x y) = true := h
    cases hb : sEq x y with
    | false => rw [hb] at h'; cases h'
    | true =>
      rw [hb] at h'
      rw [lEq_eq (l := l) (m := m) h', sEq_eq hb]
theorem vEq_eq {a b : V} (h : vEq a b = true) : a = b := by
  cases a <;> cases b <;> simp only [vEq, Bool.false_eq_true] at h
  · rw [sEq_eq h]
  · rw [lEq_eq h]
theorem chkR_spec {e : E} {s : St} : ∀ {l : List (Nat × R)}, chkR e s l = true → ∀ p ∈ l, ov e (.t p.1) = .t [] ∨ rv e s p.2 = some (ov e (.t p.1))
  | [], _, p, hp => by simp at hp
  | q :: l, h, p, hp => by
    have h' : (match ov e (.t q.1) with
      | .t [] => chkR e s l
      | v => match rv e s q.2 with | some u => vEq v u && chkR e s l | none => false) = true := h
    split at h'
    · rename_i hv
      rcases List.mem_cons.1 hp with rfl | hp
      · exact .inl hv
      · exact chkR_spec h' p hp
    · rename_i hv
      split at h'
      · rename_i u hu
        simp only [Bool.and_eq_true] at h'
        rcases List.mem_cons.1 hp with rfl | hp
        · exact .inr (by rw [hu, vEq_eq h'.1])
        · exact chkR_spec h'.2 p hp
      · cases h'
theorem chkA_spec {e : E} {s : St} : ∀ {l : List (Nat × A)}, chkA e s l = true → ∀ p ∈ l, ov e (.t p.1) = .t [] ∨ ∃ m f x, av e p.2 = some (m, f) ∧ blkOf (ov e (.t p.1)) = some x ∧ s.h.get x = some ⟨m, 0, 0⟩
  | [], _, p, hp => by simp at hp
  | q :: l, h, p, hp => by
    have h' : (match ov e (.t q.1) with
      | .t [] => chkA e s l
      | v => match av e q.2, blkOf v with
        | some (m, _), some x => match s.h.get x with
          | some b => lEq b.c m && Nat.beq b.fam 0 && Nat.beq b.d 0 && chkA e s l
          | none => false
        | _, _ => false) = true := h
    split at h'
    · rename_i hv
      rcases List.mem_cons.1 hp with rfl | hp
      · exact .inl hv
      · exact chkA_spec h' p hp
    · rename_i hv
      split at h'
      · rename_i m f x h1 h2
        split at h'
        · rename_i b hb
          simp only [Bool.and_eq_true, nbeq, beq_iff_eq] at h'
          obtain ⟨⟨⟨g1, g2⟩, g3⟩, g4⟩ := h'
          rcases List.mem_cons.1 hp with rfl | hp
          · refine .inr ⟨m, f, x, h1, h2, ?_⟩
            rw [hb]
            obtain ⟨bc, bf, bd⟩ := b
            simp only at g1 g2 g3
            rw [lEq_eq g1, g2, g3]
          · exact chkA_spec g4 p hp
        · cases h'
      · cases h'
theorem av_blk {e : E} {x : A} {l : List S} {f : Nat → V} (h : av e x = some (l, f)) (n : Nat) : blkOf (f n) = some n := by
  unfold av at h
  split at h
  · simp only [Option.some.injEq, Prod.mk.injEq] at h; rw [← h.2]; rfl
  · split at h
    · simp only [Option.some.injEq, Prod.mk.injEq] at h; rw [← h.2]; rfl
    · simp at h
  · split at h
    · simp only [Option.some.injEq, Prod.mk.injEq] at h; rw [← h.2]; rfl
    · simp at h
  · split at h
    · obtain ⟨_, h⟩ := cond_some h
      simp only [Option.some.injEq, Prod.mk.injEq] at h; rw [← h.2]; rfl
    · simp at h
theorem rv_v {e : E} {s : St} {x : R} {v : V} (h : rv e s x = some v) : v ≠ .t [] := by
  unfold rv at h
  split at h
  · unfold ldv at h
    split at h
    · split at h
      · split at h
        · split at h
          · simp only [Option.some.injEq] at h; rw [← h]; simp
          · simp at h
        · simp at h
      · split at h
        · simp only [Option.some.injEq] at h; rw [← h]; simp
        · simp at h
    · simp at h
  · split at h
    · simp only [Option.some.injEq] at h; rw [← h]; simp
    · replace h := cond_some h
      obtain ⟨_, h⟩ := h
      split at h
      · split at h
        · simp only [Option.some.injEq] at h; rw [← h]; simp
        · simp at h
      · simp at h
    · simp at h
theorem mem_rsOf {infs : List Inf} {cls : List Nat} {m : Nat} : ∀ {l : List Nat} {i : Nat} {a : Inf} {y : R} {d : Nat}, i ∈ l → infs[i]? = some a → a.x = .r y → a.o.dst = some d → bt cls m i = false → (d, y) ∈ rsOf infs cls m l
  | [], _, _, _, _, h, _, _, _, _ => by simp at h
  | k :: l, i, a, y, d, h, ha, hx, hd, hb => by
    unfold rsOf
    rcases List.mem_cons.1 h with e | h'
    · subst e
      simp only [ha, hx, hd, hb, Bool.false_eq_true, if_false]
      exact List.mem_cons_self ..
    · have ih := mem_rsOf h' ha hx hd hb
      split
      · split
        · split
          · exact ih
          · exact List.mem_cons_of_mem _ ih
        · exact ih
      · exact ih
theorem mem_asOf {infs : List Inf} {cls : List Nat} {m : Nat} : ∀ {l : List Nat} {i : Nat} {a : Inf} {y : A} {d : Nat}, i ∈ l → infs[i]? = some a → a.x = .a y → a.o.dst = some d → bt cls m i = false → (d, y) ∈ asOf infs cls m l
  | [], _, _, _, _, h, _, _, _, _ => by simp at h
  | k :: l, i, a, y, d, h, ha, hx, hd, hb => by
    unfold asOf
    rcases List.mem_cons.1 h with e | h'
    · subst e
      simp only [ha, hx, hd, hb, Bool.false_eq_true, if_false]
      exact List.mem_cons_self ..
    · have ih := mem_asOf h' ha hx hd hb
      split
      · split
        · split
          · exact ih
          · exact List.mem_cons_of_mem _ ih
        · exact ih
      · exact ih
theorem get_pute {e : E} {dst : Option Nat} {v : V} (t : Nat) : (put e dst v).get t = if dst = some t then some v else e.get t := by
  cases dst with
  | none => simp [put]
  | some d =>
    show (T.upd (some v) e d).get t = _
    rw [T.get_upd]
    by_cases h : t = d
    · subst h; simp
    · rw [if_neg h, if_neg (fun e => h (Option.some.inj e).symm)]
section
variable {P : Program} {ty : TypeId → Option TyI} {ibs : FuncId → Bool} {call : Nat → List V → St → Option (V × St)} {nt : Nat}
variable {ops : Array Oper} {infs : List Inf} {cls : List Nat} {prs : List (Nat × Nat)} {order : List Nat} {s0 : St} {ρ0 : Rho} {w0 : World} {pre : List Nat} {rest : List HS} {e : E} {s : St} {listed : Array Bool} {ρ : Rho} {act : Act} {w : World}
theorem pd_kept {e1 : E} {s1 : St} {ρ' : Rho} {m : Nat} {pend : List Pd} {p : Pd} (hp : PdOk s0 s ρ p) (hpre : p.i ∈ pre) (hinf : infs[p.i]? = some p.a) (hb : bt cls m p.i = false) (hR : chkR e1 s1 (rsOf infs cls m pre) = true) (hA : chkA e1 s1 (asOf infs cls m pre) = true)
    (hra : isRA p.a.x = true → ∃ d, p.a.o.dst = some d) (h4 : ∀ d, p.a.o.dst = some d → e1.get d = some p.v) (h6 : isRA p.a.x = true → Like p.a.ts p.e e1) (hρ : ∀ nid, ρ nid = none → (∃ b, s.h.get nid = some b) → ρ' nid = none) : PdOk s0 s1 ρ' p := by
  rcases hp with hp | ⟨g1, g2⟩
  · exact .inl hp
  · refine .inr ⟨g1, ?_⟩
    cases hx : p.a.x with
    | w x => rw [hx] at g2; exact g2
    | m x => rw [hx] at g2; exact g2
    | r x =>
      rw [hx] at g2
      have g2' : rv p.e s x = some p.v := g2
      have hra' : isRA p.a.x = true := by rw [hx]; rfl
      obtain ⟨d, hd⟩ := hra hra'
      have hov : ov e1 (.t d) = p.v := by simp only [ov, h4 d hd]
      have hts : Like (gT p.a.g ++ rT x) p.e e1 := by
        have := h6 hra'
        unfold Inf.ts at this
        rw [hx] at this
        exact this
      rcases chkR_spec hR _ (mem_rsOf hpre hinf hx hd hb) with h | h
      · rw [hov] at h; exact absurd h (rv_v g2')
      · show rv p.e s1 x = some p.v
        rw [rv_like hts.right, h, hov]
    | a x =>
      rw [hx] at g2
      obtain ⟨l, f, k1, k2, k3, k4, k5⟩ := g2
      have hra' : isRA p.a.x = true := by rw [hx]; rfl
      obtain ⟨d, hd⟩ := hra hra'
      have hov : ov e1 (.t d) = p.v := by simp only [ov, h4 d hd]
      have hts : Like (gT p.a.g ++ aT x) p.e e1 := by
        have := h6 hra'
        unfold Inf.ts at this
        rw [hx] at this
        exact this
      rcases chkA_spec hA _ (mem_asOf hpre hinf hx hd hb) with h | ⟨mm, f', xx, h1, h2, h3⟩
      · rw [hov, k2] at h; exact absurd h (av_v k1 _)
      · have h1' : av e1 x = some (mm, f') := h1
        rw [← av_like hts.right, k1] at h1'
        simp only [Option.some.injEq, Prod.mk.injEq] at h1'
        obtain ⟨rfl, rfl⟩ := h1'
        have h2' : blkOf (ov e1 (.t d)) = some xx := h2
        rw [hov, k2, av_blk k1] at h2'
        simp only [Option.some.injEq] at h2'
        subst h2'
        exact ⟨l, f, k1, k2, h3, hρ _ k4 ⟨_, k3⟩, k5⟩
theorem exec_m (C : Ctx P ty ibs call nt ops infs cls prs order) {m : Nat} {l : List HS} {pend : List Pd} (h : Inv nt ops infs cls order s0 ρ0 w0 pre (.ev m :: l) e s pend none listed ρ act w) {a : Inf} (ha : infs[m]? = some a) {x : M} (hx : a.x = .m x)
    (hr : ∀ o, ops[m]? = some o → ∀ ed ∈ o.after, Region.binds .any ed = true → listed.getD ed.on false = true) {e1 : E} {s1 : St} (hev : evG call e s a.o.dst a.g (.m x) = some (e1, s1)) (hR : chkR e1 s1 (rsOf infs cls m pre) = true) (hA : chkA e1 s1 (asOf infs cls m pre) = true)
    {K : Act → World → Prop} {Q : Exit → Act → World → Prop} (hK : ∀ act' w' ρ', Inv nt ops infs cls order s0 ρ0 w0 (pre ++ [m]) l e1 s1 pend none (listed.setIfInBounds m true) ρ' act' w' → K act' w') : wpOp P ops Q m K act w := by
  have hord : order = pre ++ m :: opsOf l := h.ord
  have hmo : m ∈ order := by rw [hord]; simp
  have hmn : m < ops.size := C.lt _ hmo
  obtain ⟨c1, c2, c3, c4⟩ := C.inf m a ha
  have hlt : ∀ q ∈ pend, q.i ∈ order := fun q hq => by rw [h.ord]; exact List.mem_append_left _ (h.pin q hq)
  have unl : ∀ q ∈ pend, listed.getD q.i false = false := fun q hq => by
    have := (h.lst q.i (C.lt _ (hlt q hq))).2 (.inl ⟨q, hq, rfl⟩)
    rw [← getD_iff h.sz (C.lt _ (hlt q hq))]; exact this
  have notcl : ∀ q ∈ pend, bt cls m q.i = false := fun q hq => by
    cases hb : bt cls m q.i with
    | false => rfl
    | true =>
      have := ready_cl h.dc (C.dep _ _ hb) hr
      rw [unl q hq] at this; cases this
  have facts : ∀ q ∈ pend, (∀ d, q.a.o.dst = some d → a.o.dst ≠ some d) ∧ (∀ d, q.a.o.dst = some d → d ∉ a.ts) ∧ (∀ d, a.o.dst = some d → d ∉ q.a.ts) := by
    intro q hq
    obtain ⟨a', c', g1, g2, g3, g4, g5, g6, g7, g8⟩ := pair_facts (C.split pre (m :: opsOf l) hord q.i (h.pin q hq) m (List.mem_cons_self ..))
    rw [h.inf q hq] at g1
    rw [ha] at g2
    simp only [Option.some.injEq] at g1 g2
    subst g1 g2
    refine ⟨g6, fun d hd hm => ?_, fun d hd hm => ?_⟩
    · have := g7 d hd hm; rw [notcl q hq] at this; cases this
    · have := (g8 d hd hm).1; rw [notcl q hq] at this; cases this
  have htemps : ∀ t ∈ gT a.g ++ moT a.x, ∀ v, e.get t = some v → VR ρ v (act.tmps.getD t undef) := fun t ht v hv =>
    h.i1 t v hv fun q hq hd => (facts q hq).2.1 t hd ht
  obtain ⟨v, hc, rfl⟩ := comes_of_evG hev
  have hrel : Rel ρ s w := h.rel
  refine op_sound C.hty C.hib C.hcall c1 c2 (by rw [← hx]; exact c3) (by rw [← hx]; exact htemps) hrel hc fun cv w' ρ' k1 k2 k3 => hK _ _ ρ' ?_
  have htm := fun t => tmps_put' (a := act) (cv := cv) c4 h.fr t
  have hnodup : (pre ++ m :: opsOf l).Nodup := by rw [← hord]; exact C.nodup
  obtain ⟨n1, n2, n3⟩ := List.nodup_append.1 hnodup
  obtain ⟨n4, n5⟩ := List.nodup_cons.1 n2
  have h4 : ∀ q ∈ pend, ∀ d, q.a.o.dst = some d → (put e a.o.dst v).get d = some q.v := by
    intro q hq d hd
    rw [get_pute, if_neg ((facts q hq).1 d hd)]
    exact h.i4 q hq d hd
  have h6 : ∀ q ∈ pend, isRA q.a.x = true → Like q.a.ts q.e (put e a.o.dst v) := by
    intro q hq hra t ht
    rw [get_pute, if_neg (fun hd => (facts q hq).2.2 t hd ht)]
    exact h.i6 q hq hra t ht
  refine ⟨k2, h.go.trans k3, h.fr.put _ _, by simpa using h.sz, ?_, dc_set h.sz hmn h.dc hr, by rw [hord]; simp, fun q hq => List.mem_append_left _ (h.pin q hq), (fun hh hhe => by cases hhe), h.nd, h.inf, ?_, ?_, ?_, h4, h6, h.nids, (fun hh hhe => by cases hhe), (fun hh hhe => by cases hhe)⟩
  · intro i hi
    rw [listed_set h.sz hmn]
    by_cases him : i = m
    · rw [if_pos him]
      simp only [Bool.true_eq_false, false_iff, not_or, not_exists, not_and]
      refine ⟨fun q hq e => n3 q.i (h.pin q hq) m (List.mem_cons_self ..) (e.trans him), (fun hh hhe => by cases hhe), fun hin => n4 (him ▸ hin)⟩
    · rw [if_neg him, h.lst i hi]
      constructor
      · rintro (hh | hh | hh)
        · exact .inl hh
        · exact .inr (.inl hh)
        · rcases List.mem_cons.1 hh with e' | hh
          · exact absurd e' him
          · exact .inr (.inr hh)
      · rintro (hh | hh | hh)
        · exact .inl hh
        · exact .inr (.inl hh)
        · exact .inr (.inr (List.mem_cons_of_mem _ hh))
  · intro t u hu hq
    rw [htm]
    rw [get_pute] at hu
    split at hu
    · rename_i hd
      rw [if_pos hd]
      simp only [Option.some.injEq] at hu; subst hu; exact k1
    · rename_i hd
      rw [if_neg hd]
      exact (h.i1 t u hu hq).mono k3.le
  · intro q hq t ht
    rcases h.i2 q hq t ht with hh | ⟨hh1, hh2⟩
    · exact .inl hh
    · refine .inr ⟨hh1, fun u hu => ?_⟩
      rw [htm, if_neg (fun hd => (facts q hq).2.2 t hd ht)]
      exact (hh2 u hu).mono k3.le
  · intro q hq
    obtain ⟨a', g1, g2, g3, g4⟩ := self_facts (C.self q.i (hlt q hq))
    rw [h.inf q hq] at g1
    simp only [Option.some.injEq] at g1
    subst g1
    refine pd_kept (pend := pend) (h.i3 q hq) (h.pin q hq) (h.inf q hq) (notcl q hq) hR hA g4 (h4 q hq) (h6 q hq) ?_
    rintro nid hn ⟨b, hb⟩
    cases hρ : ρ' nid with
    | none => rfl
    | some y =>
      rcases k3.fresh _ _ hρ with h1 | h1
      · rw [hn] at h1; cases h1
      · exact absurd h1 (Nat.not_le.2 (hrel.lt _ _ hb))
end
end Go.Ev
end
section
set_option linter.unusedVariables false
set_option linter.unusedSimpArgs false
set_option maxRecDepth 20000
namespace Go.Ev
open Go
theorem Rel.known {ρ : Rho} {s : St} {w : World} (h : Rel ρ s w) (l : List S) : Rel ρ (Ev.alloc s l) w := by
  have hne : ∀ x q, ρ x = some q → x ≠ s.nb := fun x q hx e => by rw [e, h.none] at hx; cases hx
  refine ⟨?_, h.blk, ?_, ?_, ?_, ?_, ?_⟩
  · intro x q hx
    show x < s.nb + 1
    have := h.dom x q hx; omega
  · intro x cb sh z b hx hb
    rw [get_alloc, if_neg (hne x _ hx)] at hb
    exact h.con x cb sh z b hx hb
  · intro x y cb sh sh' z z' bx b' hn hx hy h1 h2
    rw [get_alloc, if_neg (hne x _ hx)] at h1
    rw [get_alloc, if_neg (hne y _ hy)] at h2
    exact h.inj x y cb sh sh' z z' bx b' hn hx hy h1 h2
  · intro x b f hb hf
    rw [get_alloc] at hb
    split at hb
    · simp only [Option.some.injEq] at hb; subst hb; simp at hf
    · exact h.fam x b f hb hf
  · intro x b hb
    rw [get_alloc] at hb
    split at hb
    · simp only [Option.some.injEq] at hb; subst hb; exact Nat.zero_le _
    · exact h.nfl x b hb
  · intro x b hb
    show x < s.nb + 1
    rw [get_alloc] at hb
    split at hb
    · omega
    · have := h.lt x b hb; omega
theorem Go.later {s s1 s2 : St} {ρ ρ' : Rho} {w w' : World} (h : Go s ρ w s1 ρ' w') (hle : s1.nb ≤ s2.nb) : Go s ρ w s2 ρ' w' :=
  ⟨h.le, h.os, h.tape, h.output, h.size, h.block, h.new, Nat.le_trans h.nbs hle, h.fresh⟩
theorem cellsAt_alloc {ρ : Rho} {s : St} {w : World} (h : Rel ρ s w) (l : List S) {x o n : Nat} {m : List S} (hc : cellsAt s x o n = some m) : cellsAt (alloc s l) x o n = some m := by
  unfold cellsAt at hc ⊢
  cases hb : s.h.get x with
  | none => rw [hb] at hc; simp at hc
  | some b =>
    have hne : x ≠ s.nb := fun e => by have := h.lt x b hb; omega
    rw [get_alloc, if_neg hne, hb]
    rw [hb] at hc
    exact hc
theorem rv_alloc {ρ : Rho} {s : St} {w : World} (h : Rel ρ s w) (l : List S) {e : E} {x : R} {v : V} (hv : rv e s x = some v) : rv e (alloc s l) x = some v := by
  unfold rv at hv ⊢
  cases x with
  | ld n a =>
    simp only at hv ⊢
    unfold ldv at hv ⊢
    split at hv
    · rename_i x o hx
      cases n with
      | none =>
        simp only at hv ⊢
        cases hb : s.h.get x with
        | none => rw [hb] at hv; simp at hv
        | some b =>
          have hne : x ≠ s.nb := fun e => by have := h.lt x b hb; omega
          rw [get_alloc, if_neg hne, hb]
          rw [hb] at hv
          exact hv
      | some n =>
        simp only at hv ⊢
        split at hv
        · rename_i m hm
          rw [cellsAt_alloc h l hm]; exact hv
        · simp at hv
    · simp at hv
  | bts a =>
    simp only at hv ⊢
    split at hv
    · exact hv
    · rename_i x o n sz full hx
      replace hv := cond_some hv
      obtain ⟨h1, hv⟩ := hv
      rw [h1, cond_true]
      split at hv
      · rename_i m hm
        rw [cellsAt_alloc h l hm]; exact hv
      · simp at hv
    · simp at hv
theorem opsOf_ev (i : Nat) (l : List HS) : opsOf (.ev i :: l) = i :: opsOf l := rfl
theorem opsOf_e2 (i j : Nat) (l : List HS) : opsOf (.e2 i j :: l) = i :: j :: opsOf l := rfl
section
variable {P : Program} {ty : TypeId → Option TyI} {ibs : FuncId → Bool} {call : Nat → List V → St → Option (V × St)} {nt : Nat}
variable {ops : Array Oper} {infs : List Inf} {cls : List Nat} {prs : List (Nat × Nat)} {order : List Nat} {s0 : St} {ρ0 : Rho} {w0 : World} {pre : List Nat} {rest : List HS} {e : E} {s : St} {listed : Array Bool} {ρ : Rho} {act : Act} {w : World}
theorem pass (C : Ctx P ty ibs call nt ops infs cls prs order) {i : Nat} {l : List HS} {pend : List Pd} (h : Inv nt ops infs cls order s0 ρ0 w0 pre (.ev i :: l) e s pend none listed ρ act w) {a : Inf} (ha : infs[i]? = some a) (hm : isM a.x = false)
    {e1 : E} {s1 : St} (hev : evG call e s a.o.dst a.g a.x = some (e1, s1)) : ∃ p : Pd, Inv nt ops infs cls order s0 ρ0 w0 (pre ++ [i]) l e1 s1 (pend ++ [p]) none listed ρ act w := by
  obtain ⟨v, hc, rfl⟩ := comes_of_evG hev
  have hord : order = pre ++ i :: opsOf l := h.ord
  have hio : i ∈ order := by rw [hord]; simp
  have hrel : Rel ρ s w := h.rel
  obtain ⟨c1, c2, c3, c4⟩ := C.inf i a ha
  have hlt : ∀ q ∈ pend, q.i ∈ order := fun q hq => by rw [h.ord]; exact List.mem_append_left _ (h.pin q hq)
  have facts : ∀ q ∈ pend, q.i ≠ i ∧ bt cls q.i i = false ∧ (∀ d, q.a.o.dst = some d → a.o.dst ≠ some d) ∧ (∀ d, q.a.o.dst = some d → d ∈ a.ts → bt cls i q.i = true) ∧ (∀ d, a.o.dst = some d → d ∈ q.a.ts → isRA q.a.x = false) := by
    intro q hq
    obtain ⟨a', c', g1, g2, g3, g4, g5, g6, g7, g8⟩ := pair_facts (C.split pre (i :: opsOf l) hord q.i (h.pin q hq) i (List.mem_cons_self ..))
    rw [h.inf q hq] at g1
    rw [ha] at g2
    simp only [Option.some.injEq] at g1 g2
    subst g1 g2
    exact ⟨g3, g4, g6, g7, fun d hd ht => (g8 d hd ht).2⟩
  obtain ⟨a', g1, g2, g3, g4⟩ := self_facts (C.self i hio)
  rw [ha] at g1
  simp only [Option.some.injEq] at g1
  subst g1
  have hnodup : (pre ++ i :: opsOf l).Nodup := by rw [← hord]; exact C.nodup
  obtain ⟨n1, n2, n3⟩ := List.nodup_append.1 hnodup
  obtain ⟨n4, n5⟩ := List.nodup_cons.1 n2
  have st : (s1 = s) ∨ ∃ m, s1 = alloc s m := by
    rcases hc with ⟨_, hc⟩ | ⟨_, _, hc⟩
    · cases hx : a.x with
      | w x =>
        rw [hx] at hc
        simp only [mo] at hc
        split at hc
        · simp only [Option.some.injEq, Prod.mk.injEq] at hc; exact .inl hc.2.symm
        · simp at hc
      | r x =>
        rw [hx] at hc
        simp only [mo] at hc
        split at hc
        · simp only [Option.some.injEq, Prod.mk.injEq] at hc; exact .inl hc.2.symm
        · simp at hc
      | a x =>
        rw [hx] at hc
        simp only [mo] at hc
        split at hc
        · simp only [Option.some.injEq, Prod.mk.injEq] at hc; exact .inr ⟨_, hc.2.symm⟩
        · simp at hc
      | m x => rw [hx] at hm; cases hm
    · exact .inl hc
  have hrel1 : Rel ρ s1 w := by
    rcases st with rfl | ⟨m, rfl⟩
    · exact hrel
    · exact hrel.known m
  have hnb : s.nb ≤ s1.nb := by
    rcases st with rfl | ⟨m, rfl⟩
    · exact Nat.le_refl _
    · exact Nat.le_succ _
  have old3 : ∀ q ∈ pend, PdOk s0 s1 ρ q := by
    intro q hq
    rcases h.i3 q hq with k | ⟨k1, k2⟩
    · exact .inl k
    · refine .inr ⟨k1, ?_⟩
      rcases st with rfl | ⟨m, rfl⟩
      · exact k2
      · cases hx : q.a.x with
        | w x => rw [hx] at k2; exact k2
        | m x => rw [hx] at k2; exact k2
        | r x => rw [hx] at k2; exact rv_alloc hrel m k2
        | a x =>
          rw [hx] at k2
          obtain ⟨l', f, m1, m2, m3, m4, m5⟩ := k2
          have hne : q.nid ≠ s.nb := fun e => by have := hrel.lt _ _ m3; omega
          exact ⟨l', f, m1, m2, by rw [get_alloc, if_neg hne]; exact m3, m4, m5⟩
  have new3 : PdOk s0 s1 ρ ⟨i, a, e, v, s.nb⟩ := by
    rcases hc with ⟨k1, hc⟩ | ⟨k1, k2, _⟩
    · refine .inr ⟨k1, ?_⟩
      show match a.x with
        | .w x => wv e x = some v
        | .r x => rv e s1 x = some v
        | .a x => ∃ l f, av e x = some (l, f) ∧ v = f s.nb ∧ s1.h.get s.nb = some ⟨l, 0, 0⟩ ∧ ρ s.nb = none ∧ s0.nb ≤ s.nb
        | .m _ => False
      cases hx : a.x with
      | w x =>
        rw [hx] at hc
        simp only [mo] at hc
        split at hc
        · rename_i v' hv'
          simp only [Option.some.injEq, Prod.mk.injEq] at hc
          show wv e x = some v
          rw [hv', hc.1]
        · simp at hc
      | r x =>
        rw [hx] at hc
        simp only [mo] at hc
        split at hc
        · rename_i v' hv'
          simp only [Option.some.injEq, Prod.mk.injEq] at hc
          show rv e s1 x = some v
          rw [← hc.2, hv', hc.1]
        · simp at hc
      | a x =>
        rw [hx] at hc
        simp only [mo] at hc
        split at hc
        · rename_i l' f hv'
          simp only [Option.some.injEq, Prod.mk.injEq] at hc
          exact ⟨l', f, hv', hc.1.symm, by rw [← hc.2, get_alloc, if_pos rfl], hrel.none, h.go.nbs⟩
        · simp at hc
      | m x => rw [hx] at hm; cases hm
    · exact .inl ⟨k1, k2⟩
  have hmem : ∀ q, q ∈ pend ++ [(⟨i, a, e, v, s.nb⟩ : Pd)] → q ∈ pend ∨ q = ⟨i, a, e, v, s.nb⟩ := fun q hq => by
    rcases List.mem_append.1 hq with hq | hq
    · exact .inl hq
    · exact .inr (List.mem_singleton.1 hq)
  have hold : ∀ q ∈ pend, q ∈ pend ++ [(⟨i, a, e, v, s.nb⟩ : Pd)] := fun q hq => List.mem_append_left _ hq
  have hnew : (⟨i, a, e, v, s.nb⟩ : Pd) ∈ pend ++ [(⟨i, a, e, v, s.nb⟩ : Pd)] := List.mem_append_right _ (List.mem_singleton.2 rfl)
  refine ⟨⟨i, a, e, v, s.nb⟩, hrel1, h.go.later hnb, h.fr, h.sz, ?_, h.dc, by rw [hord]; simp, ?_, (fun hh hhe => by cases hhe), ?_, ?_, ?_, ?_, ?_, ?_, ?_, ?_, (fun hh hhe => by cases hhe), (fun hh hhe => by cases hhe)⟩
  · intro k hk
    rw [h.lst k hk, opsOf_ev]
    constructor
    · rintro (⟨q, hq, e'⟩ | hh | hh)
      · exact .inl ⟨q, hold q hq, e'⟩
      · exact .inr (.inl hh)
      · rcases List.mem_cons.1 hh with e' | hh
        · exact .inl ⟨_, hnew, e'.symm⟩
        · exact .inr (.inr hh)
    · rintro (⟨q, hq, e'⟩ | hh | hh)
      · rcases hmem q hq with hq | rfl
        · exact .inl ⟨q, hq, e'⟩
        · exact .inr (.inr (by rw [← e']; exact List.mem_cons_self ..))
      · exact .inr (.inl hh)
      · exact .inr (.inr (List.mem_cons_of_mem _ hh))
  · intro q hq
    rcases hmem q hq with hq | rfl
    · exact List.mem_append_left _ (h.pin q hq)
    · exact List.mem_append_right _ (List.mem_singleton.2 rfl)
  · rw [List.map_append, List.map_singleton]
    refine List.nodup_append.2 ⟨h.nd, by simp, fun x hx y hy => ?_⟩
    obtain ⟨q, hq, rfl⟩ := List.mem_map.1 hx
    rw [List.mem_singleton.1 hy]
    exact (facts q hq).1
  · intro q hq
    rcases hmem q hq with hq | rfl
    · exact h.inf q hq
    · exact ha
  · intro t u hu hq
    rw [get_pute] at hu
    rw [if_neg (hq _ hnew)] at hu
    exact h.i1 t u hu fun q hq' => hq q (hold q hq')
  · intro q hq t ht
    rcases hmem q hq with hq | rfl
    · rcases h.i2 q hq t ht with ⟨r, r1, r2, r3, r4⟩ | ⟨k1, k2⟩
      · exact .inl ⟨r, hold r r1, r2, r3, r4⟩
      · refine .inr ⟨fun r hr hd => ?_, k2⟩
        rcases hmem r hr with hr | rfl
        · exact k1 r hr hd
        · exact (facts q hq).2.1
    · by_cases hex : ∃ r ∈ pend, r.a.o.dst = some t
      · obtain ⟨r, hr, hd⟩ := hex
        exact .inl ⟨r, hold r hr, hd, (facts r hr).2.2.2.1 t hd ht, h.i4 r hr t hd⟩
      · refine .inr ⟨fun r hr hd => ?_, fun u hu => h.i1 t u hu fun r hr hd => hex ⟨r, hr, hd⟩⟩
        rcases hmem r hr with hr | rfl
        · exact absurd ⟨r, hr, hd⟩ hex
        · exact absurd ht (g3 t hd)
  · intro q hq
    rcases hmem q hq with hq | rfl
    · exact old3 q hq
    · exact new3
  · intro q hq d hd
    rw [get_pute]
    rcases hmem q hq with hq | rfl
    · rw [if_neg ((facts q hq).2.2.1 d hd)]
      exact h.i4 q hq d hd
    · rw [if_pos hd]
  · intro q hq hra t ht
    rw [get_pute]
    rcases hmem q hq with hq | rfl
    · rw [if_neg (fun hd => by have := (facts q hq).2.2.2.2 t hd ht; rw [hra] at this; cases this)]
      exact h.i6 q hq hra t ht
    · rw [if_neg (fun hd => g3 t hd ht)]
  · have lt : ∀ q ∈ pend, (∃ x, q.a.x = .a x) → q.v ≠ .t [] → q.nid < s.nb := by
      rintro q hq ⟨x, hx⟩ hz
      rcases h.i3 q hq with ⟨_, k⟩ | ⟨_, k⟩
      · exact absurd k hz
      · rw [hx] at k
        obtain ⟨_, _, _, _, m3, _, _⟩ := k
        exact hrel.lt _ _ m3
    intro q hq r hr hne hx hy hz hz'
    rcases hmem q hq with hq | rfl
    · rcases hmem r hr with hr | rfl
      · exact h.nids q hq r hr hne hx hy hz hz'
      · have := lt q hq hx hz
        show q.nid ≠ s.nb
        omega
    · rcases hmem r hr with hr | rfl
      · have := lt r hr hy hz'
        show s.nb ≠ r.nid
        omega
      · exact absurd rfl hne
end
end Go.Ev
end
