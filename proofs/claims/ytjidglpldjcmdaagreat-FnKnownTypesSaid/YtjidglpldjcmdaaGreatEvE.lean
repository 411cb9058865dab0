/-
Regions that draw their order: what holds at each moment, and what each operation makes of it.
-/
import Derived.Test.YtjidglpldjcmdaaGreatEvD
set_option linter.unusedVariables false
set_option linter.unusedSimpArgs false
set_option maxRecDepth 20000
namespace Go.Ev
open Go

section
variable {P : Program} {ty : TypeId → Option TyI} {ibs : FuncId → Bool} {call : Nat → List V → St → Option (V × St)} {nt : Nat}

theorem tmps_put' {a : Act} {dst : Option Tmp} {cv : Value} (hd : dstOk nt dst = true) (hf : FrOk nt a) (t : Nat) : (a.put dst cv).tmps.getD t undef = if dst = some t then cv else a.tmps.getD t undef := by
  cases dst with
  | none => simp [Act.put]
  | some d =>
    have h1 : d < nt := by
      have : Nat.ble (d + 1) nt = true := hd
      exact Nat.le_of_ble_eq_true this
    rw [tmps_put (Nat.lt_of_lt_of_le h1 hf.1)]
    by_cases h : t = d
    · subst h; simp
    · rw [if_neg h, if_neg (fun e => h (Option.some.inj e).symm)]

/-- What an operation with its guard comes to. -/
def Comes (call : Nat → List V → St → Option (V × St)) (e : E) (s : St) (g : Option (Nat × Bool)) (x : MO) (v : V) (s' : St) : Prop :=
  (gEv e g = some true ∧ mo call e s x = some (v, s')) ∨ (gEv e g = some false ∧ v = .t [] ∧ s' = s)
theorem comes_of_evG {e e' : E} {s s' : St} {dst : Option Nat} {g : Option (Nat × Bool)} {x : MO} (h : evG call e s dst g x = some (e', s')) : ∃ v, Comes call e s g x v s' ∧ e' = put e dst v := by
  rw [evG_eq] at h
  split at h
  · rename_i hg
    split at h
    · rename_i v s1 hm
      simp only [Option.some.injEq, Prod.mk.injEq] at h
      exact ⟨v, .inl ⟨hg, h.2 ▸ hm⟩, h.1.symm⟩
    · simp at h
  · rename_i hg
    simp only [Option.some.injEq, Prod.mk.injEq] at h
    exact ⟨.t [], .inr ⟨hg, rfl, h.2.symm⟩, h.1.symm⟩
  · simp at h
theorem Comes.like {e e' : E} {s s' : St} {g : Option (Nat × Bool)} {x : MO} {v : V} (h : Like (gT g ++ moT x) e e') (hc : Comes call e' s g x v s') : Comes call e s g x v s' := by
  unfold Comes
  rw [gEv_like h.left, mo_like h.right]
  exact hc

theorem wpOp_wanted {ops : Array Oper} {i : Nat} {o : Oper} (hi : ops[i]? = some o) {g : Option (Nat × Bool)} (hg : cGuard ops o.guard = some g) {ρ : Rho} {e : E} {a : Act} (he : ER ρ e a) {w : World} {K : Act → World → Prop} {Q : Exit → Act → World → Prop} :
    (gEv e g = some true → o.wp P a w K Q → wpOp P ops Q i K a w) ∧ (gEv e g = some false → K (a.put o.dst undef) w → wpOp P ops Q i K a w) := by
  have hw : ∀ b, gEv e g = some b → Region.wanted o (yielded ops a.tmps) = b := by
    intro b hb
    cases hog : o.guard with
    | none =>
      rw [hog] at hg
      simp only [cGuard, Option.some.injEq] at hg; subst hg
      simp only [gEv, Option.some.injEq] at hb; subst hb
      simp [Region.wanted, hog]
    | some q =>
      obtain ⟨j, want⟩ := q
      rw [hog] at hg
      simp only [cGuard] at hg
      split at hg
      · rename_i d hj
        simp only [Option.some.injEq] at hg; subst hg
        obtain ⟨w1, w2⟩ := wanted_of he hog hj
        simp only [gEv] at hb
        split at hb
        · rename_i x hx
          simp only [Option.some.injEq] at hb
          rw [w1 x hx, hb]
        · rename_i hx
          simp only [Option.some.injEq] at hb
          rw [w2 hx, hb]
        · simp at hb
      · simp at hg
  constructor
  · intro h1 h2
    unfold wpOp
    simp only [hi, hw true h1, if_true]
    exact .inl h2
  · intro h1 h2
    unfold wpOp
    simp only [hi, hw false h1, Bool.false_eq_true, if_false]
    exact h2

/-- One operation with its guard, the slots that it looks at given. -/
theorem op_sound (hty : TyOk P ty) (hib : IbsOk P ibs) (hcall : CallOk P call) {ops : Array Oper} {i : Nat} {o : Oper} (hi : ops[i]? = some o) {g : Option (Nat × Bool)} (hg : cGuard ops o.guard = some g) {x : MO} (hx : cMO ty ibs o.op = some x)
    {ρ : Rho} {e : E} {a : Act} (he : ∀ t ∈ gT g ++ moT x, ∀ v, e.get t = some v → VR ρ v (a.tmps.getD t undef)) {s s' : St} {w : World} (hr : Rel ρ s w) {v : V} (hc : Comes call e s g x v s')
    {K : Act → World → Prop} {Q : Exit → Act → World → Prop} (hK : ∀ cv w' ρ', VR ρ' v cv → Rel ρ' s' w' → Go s ρ w s' ρ' w' → K (a.put o.dst cv) w') : wpOp P ops Q i K a w := by
  have her : ER ρ (some_ e (gT g ++ moT x)) a := by
    intro t u hu
    rw [get_some_] at hu
    split at hu
    · rename_i ht; exact he t ht u hu
    · simp at hu
  have hc' := hc.like (like_some_ e (gT g ++ moT x))
  obtain ⟨k1, k2⟩ := wpOp_wanted (P := P) (w := w) (K := K) (Q := Q) hi hg her
  rcases hc' with ⟨h1, h2⟩ | ⟨h1, rfl, rfl⟩
  · exact k1 h1 (mo_sound hty hib hcall hx her hr h2 hK)
  · exact k2 h1 (hK _ w ρ ⟨#[], rfl, trivial⟩ hr (Go.refl _ _ _))

/-- An operation that has been passed and not yet been carried out. -/
structure Pd where
  i : Nat
  a : Inf
  e : E
  v : V
  nid : Nat

def PdOk (s0 s : St) (ρ : Rho) (p : Pd) : Prop :=
  (gEv p.e p.a.g = some false ∧ p.v = .t []) ∨
  (gEv p.e p.a.g = some true ∧ match p.a.x with
    | .w x => wv p.e x = some p.v
    | .r x => rv p.e s x = some p.v
    | .a x => ∃ l f, av p.e x = some (l, f) ∧ p.v = f p.nid ∧ s.h.get p.nid = some ⟨l, 0, 0⟩ ∧ ρ p.nid = none ∧ s0.nb ≤ p.nid
    | .m _ => False)

/-- Of two stores the second, when the first has been carried out. -/
structure Hf where
  i : Nat
  a : Inf
  e : E
  n : Nat
  oa : O
  ob : O
  x : Nat
  o : Nat
  l : List S
  mid : St

/-- Two states that hold the same. -/
def Same (s s' : St) : Prop := s'.nb = s.nb ∧ s'.nf = s.nf ∧ (∀ x, s'.h.get x = s.h.get x) ∧ (∀ f, s'.fm.get f = s.fm.get f)
theorem Rel.same {ρ : Rho} {s s' : St} {w : World} (h : Rel ρ s w) (hs : Same s s') : Rel ρ s' w := by
  obtain ⟨h1, h2, h3, h4⟩ := hs
  refine ⟨fun x y e => by rw [h1]; exact h.dom x y e, h.blk, fun x cb sh z b e e' => h.con x cb sh z b e (by rw [← h3]; exact e'),
    fun x y cb sh sh' z z' bx b' hne e1 e2 e3 e4 => h.inj x y cb sh sh' z z' bx b' hne e1 e2 (by rw [← h3]; exact e3) (by rw [← h3]; exact e4),
    fun x b f e e' => ?_, fun x b e => by rw [h2]; exact h.nfl x b (by rw [← h3]; exact e), fun x b e => by rw [h1]; exact h.lt x b (by rw [← h3]; exact e)⟩
  rw [h4]; exact h.fam x b f (by rw [← h3]; exact e) e'

def HfOk (cls : List Nat) (s : St) (ρ : Rho) (act : Act) (pend : List Pd) (h : Hf) : Prop :=
  h.a.x = .m (.st h.n h.oa h.ob) ∧ h.a.g = none ∧ h.a.o.dst = none ∧ os h.e h.oa = .p h.x h.o ∧ cellsOf (ov h.e h.ob) = some h.l ∧ h.l.length = h.n ∧ NO h.mid h.x h.o h.l.length ∧
  (∀ b, h.mid.h.get h.x = some b → h.o + h.l.length ≤ b.c.length) ∧ (∃ s2, setc h.mid h.x h.o h.l = some s2 ∧ Same s2 s) ∧
  (∀ t ∈ h.a.ts, (∃ q ∈ pend, q.a.o.dst = some t ∧ bt cls h.i q.i = true ∧ h.e.get t = some q.v) ∨ ((∀ q ∈ pend, q.a.o.dst = some t → bt cls h.i q.i = false) ∧ ∀ v, h.e.get t = some v → VR ρ v (act.tmps.getD t undef))) ∧ (∀ p ∈ pend, isRA p.a.x = false)

structure Ctx (P : Program) (ty : TypeId → Option TyI) (ibs : FuncId → Bool) (call : Nat → List V → St → Option (V × St)) (nt : Nat) (ops : Array Oper) (infs : List Inf) (cls : List Nat) (prs : List (Nat × Nat)) (order : List Nat) : Prop where
  hty : TyOk P ty
  hib : IbsOk P ibs
  hcall : CallOk P call
  inf : ∀ (i : Nat) (a : Inf), infs[i]? = some a → ops[i]? = some a.o ∧ cGuard ops a.o.guard = some a.g ∧ cMO ty ibs a.o.op = some a.x ∧ dstOk nt a.o.dst = true
  mem : ∀ i, i < ops.size → i ∈ order
  lt : ∀ i ∈ order, i < ops.size
  nodup : order.Nodup
  any : ∀ i ∈ order, ∀ j ∈ order, i ≠ j → pairOk infs cls prs i j = true ∨ pairOk infs cls prs j i = true
  split : ∀ pre rest, order = pre ++ rest → ∀ i ∈ pre, ∀ j ∈ rest, pairOk infs cls prs i j = true
  self : ∀ i ∈ order, selfOk infs cls i = true
  dep : ∀ i j, bt cls i j = true → Dep ops i j
  topo : ∀ pre i rest, order = pre ++ i :: rest → ∀ a, infs[i]? = some a → ∀ e ∈ a.o.after, Region.binds .any e = true → e.on ∈ pre
  all : ∀ i ∈ order, ∃ a, infs[i]? = some a

structure Inv (nt : Nat) (ops : Array Oper) (infs : List Inf) (cls : List Nat) (order : List Nat) (s0 : St) (ρ0 : Rho) (w0 : World)
    (pre : List Nat) (rest : List HS) (e : E) (s : St) (pend : List Pd) (half : Option Hf) (listed : Array Bool) (ρ : Rho) (act : Act) (w : World) : Prop where
  rel : match half with | none => Rel ρ s w | some h => Rel ρ h.mid w
  go : Go s0 ρ0 w0 s ρ w
  fr : FrOk nt act
  sz : listed.size = ops.size
  lst : ∀ i, i < ops.size → (listed.getD i true = false ↔ (∃ p ∈ pend, p.i = i) ∨ (∃ h, half = some h ∧ h.i = i) ∨ i ∈ opsOf rest)
  dc : ∀ i o (ed : Edge), listed.getD i false = true → ops[i]? = some o → ed ∈ o.after → Region.binds .any ed = true → listed.getD ed.on false = true
  ord : order = pre ++ opsOf rest
  pin : ∀ p ∈ pend, p.i ∈ pre
  hin : ∀ h, half = some h → h.i ∈ pre ∧ infs[h.i]? = some h.a
  nd : (pend.map (·.i)).Nodup
  inf : ∀ p ∈ pend, infs[p.i]? = some p.a
  i1 : ∀ t v, e.get t = some v → (∀ p ∈ pend, p.a.o.dst ≠ some t) → VR ρ v (act.tmps.getD t undef)
  i2 : ∀ p ∈ pend, ∀ t ∈ p.a.ts, (∃ q ∈ pend, q.a.o.dst = some t ∧ bt cls p.i q.i = true ∧ p.e.get t = some q.v) ∨ ((∀ q ∈ pend, q.a.o.dst = some t → bt cls p.i q.i = false) ∧ ∀ v, p.e.get t = some v → VR ρ v (act.tmps.getD t undef))
  i3 : ∀ p ∈ pend, PdOk s0 s ρ p
  i4 : ∀ p ∈ pend, ∀ d, p.a.o.dst = some d → e.get d = some p.v
  i6 : ∀ p ∈ pend, isRA p.a.x = true → Like p.a.ts p.e e
  nids : ∀ p ∈ pend, ∀ q ∈ pend, p.i ≠ q.i → (∃ x, p.a.x = .a x) → (∃ x, q.a.x = .a x) → p.v ≠ .t [] → q.v ≠ .t [] → p.nid ≠ q.nid
  hf : ∀ h, half = some h → HfOk cls s ρ act pend h
  hp : ∀ h, half = some h → ∀ j ∈ opsOf rest, bt cls j h.i = true

theorem getD_iff {listed : Array Bool} {n j : Nat} (hn : listed.size = n) (hj : j < n) : listed.getD j true = listed.getD j false := by
  have : j < listed.size := by omega
  simp [Array.getD_eq_getD_getElem?, this]

/-- What may come up has all before it listed. -/
theorem ready_cl {ops : Array Oper} {listed : Array Bool} (dc : ∀ i o (ed : Edge), listed.getD i false = true → ops[i]? = some o → ed ∈ o.after → Region.binds .any ed = true → listed.getD ed.on false = true)
    {i j : Nat} (hd : Dep ops i j) (hr : ∀ o, ops[i]? = some o → ∀ ed ∈ o.after, Region.binds .any ed = true → listed.getD ed.on false = true) : listed.getD j false = true := by
  have all : ∀ {i j}, Dep ops i j → listed.getD i false = true → listed.getD j false = true := by
    intro i j h
    induction h with
    | one h1 h2 h3 h4 => intro hl; subst h4; exact dc _ _ _ hl h1 h2 h3
    | more h1 h2 h3 h4 _ ih => intro hl; subst h4; exact ih (dc _ _ _ hl h1 h2 h3)
  cases hd with
  | one h1 h2 h3 h4 => subst h4; exact hr _ h1 _ h2 h3
  | more h1 h2 h3 h4 h5 => subst h4; exact all h5 (hr _ h1 _ h2 h3)

section
variable {ops : Array Oper} {infs : List Inf} {cls : List Nat} {prs : List (Nat × Nat)} {order : List Nat} {s0 : St} {ρ0 : Rho} {w0 : World} {pre : List Nat} {rest : List HS} {e : E} {s : St} {half : Option Hf} {listed : Array Bool} {ρ : Rho} {act : Act} {w : World}

/-- The state by which the world goes. -/
def now (s : St) : Option Hf → St
  | none => s
  | some h => h.mid
theorem Inv.reln {pend : List Pd} (h : Inv nt ops infs cls order s0 ρ0 w0 pre rest e s pend half listed ρ act w) : Rel ρ (now s half) w := by
  have := h.rel
  cases half <;> exact this
theorem setc_nb {s s' : St} {x o : Nat} {l : List S} (h : setc s x o l = some s') : s'.nb = s.nb := by
  unfold setc at h
  split at h
  · simp at h
  · simp only [Option.some.injEq] at h; rw [← h]
theorem Inv.nown {pend : List Pd} (h : Inv nt ops infs cls order s0 ρ0 w0 pre rest e s pend half listed ρ act w) : (now s half).nb = s.nb := by
  cases half with
  | none => rfl
  | some hh =>
    obtain ⟨_, _, _, _, _, _, _, _, ⟨s2, h1, h2⟩, _, _⟩ := h.hf hh rfl
    show hh.mid.nb = s.nb
    rw [h2.1, setc_nb h1]

/-- What is listed more when i is carried out. -/
theorem listed_set {n i : Nat} {listed : Array Bool} (hn : listed.size = n) (hi : i < n) (j : Nat) (d : Bool) : (listed.setIfInBounds i true).getD j d = if j = i then true else listed.getD j d := by
  simp only [Array.getD_eq_getD_getElem?, Array.getElem?_setIfInBounds]
  by_cases h : i = j
  · subst h; simp [hn, hi]
  · rw [if_neg h, if_neg (fun e => h e.symm)]

theorem dc_set {n i : Nat} (hn : listed.size = n) (hi : i < n) (dc : ∀ i o (ed : Edge), listed.getD i false = true → ops[i]? = some o → ed ∈ o.after → Region.binds .any ed = true → listed.getD ed.on false = true)
    (hr : ∀ o, ops[i]? = some o → ∀ ed ∈ o.after, Region.binds .any ed = true → listed.getD ed.on false = true) :
    ∀ k o (ed : Edge), (listed.setIfInBounds i true).getD k false = true → ops[k]? = some o → ed ∈ o.after → Region.binds .any ed = true → (listed.setIfInBounds i true).getD ed.on false = true := by
  intro k o ed h1 h2 h3 h4
  rw [listed_set hn hi] at h1 ⊢
  split
  · rfl
  · split at h1
    · rename_i hk; subst hk; exact hr o h2 ed h3 h4
    · exact dc k o ed h1 h2 h3 h4

theorem av_v {e : E} {x : A} {l : List S} {f : Nat → V} (h : av e x = some (l, f)) (n : Nat) : f n ≠ .t [] := by
  unfold av at h
  split at h
  · simp only [Option.some.injEq, Prod.mk.injEq] at h; rw [← h.2]; simp
  · split at h
    · simp only [Option.some.injEq, Prod.mk.injEq] at h; rw [← h.2]; simp
    · simp at h
  · split at h
    · simp only [Option.some.injEq, Prod.mk.injEq] at h; rw [← h.2]; simp
    · simp at h
  · split at h
    · obtain ⟨_, h⟩ := cond_some h
      simp only [Option.some.injEq, Prod.mk.injEq] at h; rw [← h.2]; simp
    · simp at h

/-- A pending operation has been carried out. -/
theorem Inv.done (C : Ctx P ty ibs call nt ops infs cls prs order) {l1 l2 : List Pd} {p : Pd} (h : Inv nt ops infs cls order s0 ρ0 w0 pre rest e s (l1 ++ p :: l2) half listed ρ act w)
    (hr : ∀ o, ops[p.i]? = some o → ∀ ed ∈ o.after, Region.binds .any ed = true → listed.getD ed.on false = true)
    {cv : Value} {w' : World} {ρ' : Rho} (hv : VR ρ' p.v cv) (hrel : Rel ρ' (now s half) w') (hle : ρ.le ρ') (hgo : Go s0 ρ0 w0 s ρ' w')
    (hnid : ∀ q ∈ l1 ++ l2, (∃ x, q.a.x = .a x) → q.v ≠ .t [] → ρ' q.nid = none) :
    Inv nt ops infs cls order s0 ρ0 w0 pre rest e s (l1 ++ l2) half (listed.setIfInBounds p.i true) ρ' (act.put p.a.o.dst cv) w' := by
  have hpin : p ∈ l1 ++ p :: l2 := by simp
  have hsub : ∀ q ∈ l1 ++ l2, q ∈ l1 ++ p :: l2 := fun q hq => by
    rcases List.mem_append.1 hq with h1 | h1
    · exact List.mem_append_left _ h1
    · exact List.mem_append_right _ (List.mem_cons_of_mem _ h1)
  have hcase : ∀ q ∈ l1 ++ p :: l2, q = p ∨ q ∈ l1 ++ l2 := fun q hq => by
    rcases List.mem_append.1 hq with h1 | h1
    · exact .inr (List.mem_append_left _ h1)
    · rcases List.mem_cons.1 h1 with h1 | h1
      · exact .inl h1
      · exact .inr (List.mem_append_right _ h1)
  have hnd := h.nd
  rw [List.map_append, List.map_cons] at hnd
  have hne : ∀ q ∈ l1 ++ l2, q.i ≠ p.i := fun q hq e => by
    obtain ⟨n1, n2, n3⟩ := List.nodup_append.1 hnd
    obtain ⟨n4, n5⟩ := List.nodup_cons.1 n2
    rcases List.mem_append.1 hq with h1 | h1
    · exact n3 q.i (List.mem_map.2 ⟨q, h1, rfl⟩) p.i (List.mem_cons_self ..) e
    · exact n4 (e ▸ List.mem_map.2 ⟨q, h1, rfl⟩)
  have hlt : ∀ q ∈ l1 ++ p :: l2, q.i ∈ order := fun q hq => by rw [h.ord]; exact List.mem_append_left _ (h.pin q hq)
  have hpi : p.i < ops.size := C.lt _ (hlt p hpin)
  obtain ⟨c1, c2, c3, c4⟩ := C.inf p.i p.a (h.inf p hpin)
  have htm := fun t => tmps_put' (a := act) (cv := cv) c4 h.fr t
  have unl : ∀ q ∈ l1 ++ p :: l2, listed.getD q.i false = false := fun q hq => by
    have := (h.lst q.i (C.lt _ (hlt q hq))).2 (.inl ⟨q, hq, rfl⟩)
    rw [← getD_iff h.sz (C.lt _ (hlt q hq))]; exact this
  have notp : ∀ j, bt cls p.i j = true → ∀ q ∈ l1 ++ p :: l2, q.i ≠ j := fun j hj q hq e => by
    have := ready_cl h.dc (C.dep _ _ hj) hr
    rw [← e, unl q hq] at this; cases this
  -- whoever reads what p writes has p before it
  have reads : ∀ (i : Nat) (b : Inf), i ∈ order → infs[i]? = some b → i ≠ p.i → (listed.getD i false = false) → ∀ t, p.a.o.dst = some t → t ∈ b.ts → bt cls i p.i = true := by
    intro i b hi hb hine hun t hd ht
    rcases C.any p.i (hlt p hpin) i hi (fun e => hine e.symm) with hp | hp
    · obtain ⟨a', c', g1, g2, g3, g4, g5, g6, g7, g8⟩ := pair_facts hp
      rw [h.inf p hpin] at g1
      rw [hb] at g2
      simp only [Option.some.injEq] at g1 g2
      subst g1 g2
      exact g7 t hd ht
    · obtain ⟨a', c', g1, g2, g3, g4, g5, g6, g7, g8⟩ := pair_facts hp
      rw [hb] at g1
      rw [h.inf p hpin] at g2
      simp only [Option.some.injEq] at g1 g2
      subst g1 g2
      have := (g8 t hd ht).1
      have := ready_cl h.dc (C.dep _ _ this) hr
      rw [hun] at this; cases this
  -- no other writes what p writes
  have uniq : ∀ q ∈ l1 ++ l2, ∀ t, p.a.o.dst = some t → q.a.o.dst ≠ some t := by
    intro q hq t hd hd'
    rcases C.any p.i (hlt p hpin) q.i (hlt q (hsub q hq)) (fun e => hne q hq e.symm) with hp | hp
    · obtain ⟨a', c', g1, g2, g3, g4, g5, g6, g7, g8⟩ := pair_facts hp
      rw [h.inf p hpin] at g1
      rw [h.inf q (hsub q hq)] at g2
      simp only [Option.some.injEq] at g1 g2
      subst g1 g2
      exact g6 t hd hd'
    · obtain ⟨a', c', g1, g2, g3, g4, g5, g6, g7, g8⟩ := pair_facts hp
      rw [h.inf q (hsub q hq)] at g1
      rw [h.inf p hpin] at g2
      simp only [Option.some.injEq] at g1 g2
      subst g1 g2
      exact g6 t hd' hd
  refine ⟨?_, hgo, h.fr.put _ _, by simpa using h.sz, ?_, dc_set h.sz hpi h.dc hr, h.ord, fun q hq => h.pin q (hsub q hq), h.hin, ?_, fun q hq => h.inf q (hsub q hq), ?_, ?_, ?_, fun q hq => h.i4 q (hsub q hq), fun q hq => h.i6 q (hsub q hq), ?_, ?_, h.hp⟩
  · cases half <;> exact hrel
  · intro i hi
    rw [listed_set h.sz hpi]
    by_cases hip : i = p.i
    · rw [if_pos hip]
      simp only [Bool.true_eq_false, false_iff, not_or, not_exists, not_and]
      refine ⟨fun q hq e => hne q hq (e.trans hip), fun hh hhe e => ?_, fun hin => ?_⟩
      · -- the half is not p: it is unlisted for itself; both lie in pre, apart by the order
        have := (h.hin hh hhe)
        have hx : hh.a.x = .m (.st hh.n hh.oa hh.ob) := (h.hf hh hhe).1
        have : infs[p.i]? = some hh.a := by rw [← hip, ← e]; exact (h.hin hh hhe).2
        rw [h.inf p hpin] at this
        simp only [Option.some.injEq] at this
        have hpk := h.i3 p hpin
        rcases hpk with ⟨g1, _⟩ | ⟨_, hpk⟩
        · rw [this, (h.hf hh hhe).2.1] at g1; simp [gEv] at g1
        · rw [this, hx] at hpk; exact hpk
      · have hn := C.nodup
        rw [h.ord] at hn
        obtain ⟨_, _, n3⟩ := List.nodup_append.1 hn
        exact n3 p.i (h.pin p hpin) i hin hip.symm
    · rw [if_neg hip, h.lst i hi]
      constructor
      · rintro (⟨q, hq, e⟩ | hh | hh)
        · rcases hcase q hq with rfl | hq
          · exact absurd e.symm hip
          · exact .inl ⟨q, hq, e⟩
        · exact .inr (.inl hh)
        · exact .inr (.inr hh)
      · rintro (⟨q, hq, e⟩ | hh | hh)
        · exact .inl ⟨q, hsub q hq, e⟩
        · exact .inr (.inl hh)
        · exact .inr (.inr hh)
  · rw [List.map_append]
    obtain ⟨n1, n2, n3⟩ := List.nodup_append.1 hnd
    exact List.nodup_append.2 ⟨n1, (List.nodup_cons.1 n2).2, fun a ha b hb => n3 a ha b (List.mem_cons_of_mem _ hb)⟩
  · intro t v ht hq
    rw [htm]
    by_cases hd : p.a.o.dst = some t
    · rw [if_pos hd]
      have := h.i4 p hpin t hd
      rw [ht] at this
      simp only [Option.some.injEq] at this
      rw [this]; exact hv
    · rw [if_neg hd]
      refine (h.i1 t v ht fun q hq' => ?_).mono hle
      rcases hcase q hq' with rfl | hq'
      · exact hd
      · exact hq q hq'
  · intro q hq t ht
    rcases h.i2 q (hsub q hq) t ht with ⟨r, hr1, hr2, hr3, hr4⟩ | hh
    · rcases hcase r hr1 with rfl | hr1
      · refine .inr ⟨fun q' hq' hd' => absurd hd' (uniq q' hq' t hr2), fun v hv' => ?_⟩
        rw [htm, if_pos hr2]
        rw [hr4] at hv'
        simp only [Option.some.injEq] at hv'
        rw [← hv']; exact hv
      · exact .inl ⟨r, hr1, hr2, hr3, hr4⟩
    · by_cases hd : p.a.o.dst = some t
      · have hb := reads q.i q.a (hlt q (hsub q hq)) (h.inf q (hsub q hq)) (hne q hq) (unl q (hsub q hq)) t hd ht
        rw [hh.1 p hpin hd] at hb; cases hb
      · refine .inr ⟨fun q' hq' => hh.1 q' (hsub q' hq'), fun v hv' => ?_⟩
        rw [htm, if_neg hd]
        exact (hh.2 v hv').mono hle
  · intro q hq
    rcases h.i3 q (hsub q hq) with hh | ⟨h1, h2⟩
    · exact .inl hh
    · refine .inr ⟨h1, ?_⟩
      cases hx : q.a.x with
      | w x => rw [hx] at h2; exact h2
      | r x => rw [hx] at h2; exact h2
      | a x =>
        rw [hx] at h2
        obtain ⟨l, f, k1, k2, k3, k4, k5⟩ := h2
        exact ⟨l, f, k1, k2, k3, hnid q hq ⟨x, hx⟩ (by rw [k2]; exact av_v k1 _), k5⟩
      | m x => rw [hx] at h2; exact h2
  · intro q hq r hr' hne' hx hy hz hz'
    exact h.nids q (hsub q hq) r (hsub r hr') hne' hx hy hz hz'
  · intro hh hhe
    obtain ⟨k1, k2, k3, k4, k5, k6, k7, k8, k9, k10, k11⟩ := h.hf hh hhe
    refine ⟨k1, k2, k3, k4, k5, k6, k7, k8, k9, fun t ht => ?_, fun q hq => k11 q (hsub q hq)⟩
    have hho : hh.i ∈ order := by rw [h.ord]; exact List.mem_append_left _ (h.hin hh hhe).1
    have hun : listed.getD hh.i false = false := by
      rw [← getD_iff h.sz (C.lt _ hho)]; exact (h.lst hh.i (C.lt _ hho)).2 (.inr (.inl ⟨hh, hhe, rfl⟩))
    have hhp : hh.i ≠ p.i := fun e => by
      have : infs[p.i]? = some hh.a := by rw [← e]; exact (h.hin hh hhe).2
      rw [h.inf p hpin] at this
      simp only [Option.some.injEq] at this
      rcases h.i3 p hpin with ⟨g1, _⟩ | ⟨_, hpk⟩
      · rw [this, k2] at g1; simp [gEv] at g1
      · rw [this, k1] at hpk; exact hpk
    rcases k10 t ht with ⟨r, hr1, hr2, hr3, hr4⟩ | hh2
    · rcases hcase r hr1 with rfl | hr1
      · refine .inr ⟨fun q' hq' hd' => absurd hd' (uniq q' hq' t hr2), fun v hv' => ?_⟩
        rw [htm, if_pos hr2]
        rw [hr4] at hv'
        simp only [Option.some.injEq] at hv'
        rw [← hv']; exact hv
      · exact .inl ⟨r, hr1, hr2, hr3, hr4⟩
    · by_cases hd : p.a.o.dst = some t
      · have hb := reads hh.i hh.a hho (h.hin hh hhe).2 hhp hun t hd ht
        rw [hh2.1 p hpin hd] at hb; cases hb
      · refine .inr ⟨fun q' hq' => hh2.1 q' (hsub q' hq'), fun v hv' => ?_⟩
        rw [htm, if_neg hd]
        exact (hh2.2 v hv').mono hle

/-- A block of which the evaluator knows is made late. -/
theorem Rel.late {ρ : Rho} {s : St} {w : World} (h : Rel ρ s w) {nid : Nat} {l : List S} (hn : s.h.get nid = some ⟨l, 0, 0⟩) (hρ : ρ nid = Option.none) {cells : Array Value} (hl : LR (SR ρ) l cells.toList) (el : TypeId) :
    Rel (ρ.with nid (w.heap.size, 0, cells.size)) s (w.alloc (.cells cells el)) := by
  have hle : ρ.le (ρ.with nid (w.heap.size, 0, cells.size)) := Rho.with_le hρ
  have hcase : ∀ x cb sh z, ρ.with nid (w.heap.size, 0, cells.size) x = some (cb, sh, z) → (x = nid ∧ cb = w.heap.size ∧ sh = 0 ∧ z = cells.size) ∨ (x ≠ nid ∧ ρ x = some (cb, sh, z)) := by
    intro x cb sh z hx
    by_cases hk : x = nid
    · subst hk
      rw [Rho.with_at] at hx
      simp only [Option.some.injEq, Prod.mk.injEq] at hx
      exact .inl ⟨rfl, hx.1.symm, hx.2.1.symm, hx.2.2.symm⟩
    · exact .inr ⟨hk, by rw [Rho.with_ne hk] at hx; exact hx⟩
  have hlen : l.length = cells.size := by rw [hl.length]; simp
  refine ⟨?_, ?_, ?_, ?_, h.fam, h.nfl, h.lt⟩
  · intro x ⟨cb, sh, z⟩ hx
    rcases hcase x cb sh z hx with ⟨rfl, _⟩ | ⟨_, hx⟩
    · exact h.lt _ _ hn
    · exact h.dom _ _ hx
  · intro x cb sh z hx
    rcases hcase x cb sh z hx with ⟨rfl, rfl, rfl, rfl⟩ | ⟨_, hx⟩
    · exact ⟨cells, el, heap_alloc_new w _, rfl⟩
    · obtain ⟨cs, e, h1, h2⟩ := h.blk x cb sh z hx
      exact ⟨cs, e, by rw [heap_alloc_old w _ _ (h.block_lt hx)]; exact h1, h2⟩
  · intro x cb sh z b hx hb
    rcases hcase x cb sh z hx with ⟨rfl, rfl, rfl, rfl⟩ | ⟨hne, hx⟩
    · rw [hn] at hb
      simp only [Option.some.injEq] at hb; subst hb
      refine ⟨by show 0 + l.length ≤ _; omega, fun i sv hi => ?_⟩
      obtain ⟨cv, h1, h2⟩ := hl.get hi
      exact ⟨cv, by rw [Nat.zero_add, World.cell?_alloc_new]; simpa using h1, h2.mono hle⟩
    · obtain ⟨h1, h2⟩ := h.con x cb sh z b hx hb
      refine ⟨h1, fun i sv hi => ?_⟩
      obtain ⟨cv, h3, h4⟩ := h2 i sv hi
      exact ⟨cv, by rw [World.cell?_alloc_lt w _ _ (h.block_lt hx)]; exact h3, h4.mono hle⟩
  · intro x y cb sh sh' z z' bx b' hne hx hy hbx hby
    rcases hcase x cb sh z hx with ⟨e1, e2, _, _⟩ | ⟨hnx, hx2⟩
    · rcases hcase y _ sh' z' hy with ⟨e3, _⟩ | ⟨hny, hy2⟩
      · exact absurd (e1.trans e3.symm) hne
      · have := h.block_lt hy2; omega
    · rcases hcase y _ sh' z' hy with ⟨e3, e4, _⟩ | ⟨hny, hy2⟩
      · have := h.block_lt hx2; omega
      · exact h.inj x y cb sh sh' z z' bx b' hne hx2 hy2 hbx hby

/-- A pending operation is carried out. -/
theorem exec_pd (C : Ctx P ty ibs call nt ops infs cls prs order) {l1 l2 : List Pd} {p : Pd} (h : Inv nt ops infs cls order s0 ρ0 w0 pre rest e s (l1 ++ p :: l2) half listed ρ act w)
    (hr : ∀ o, ops[p.i]? = some o → ∀ ed ∈ o.after, Region.binds .any ed = true → listed.getD ed.on false = true) {K : Act → World → Prop} {Q : Exit → Act → World → Prop}
    (hK : ∀ act' w' ρ', Inv nt ops infs cls order s0 ρ0 w0 pre rest e s (l1 ++ l2) half (listed.setIfInBounds p.i true) ρ' act' w' → K act' w') : wpOp P ops Q p.i K act w := by
  have hpin : p ∈ l1 ++ p :: l2 := by simp
  have hsub : ∀ q ∈ l1 ++ l2, q ∈ l1 ++ p :: l2 := fun q hq => by
    rcases List.mem_append.1 hq with h1 | h1
    · exact List.mem_append_left _ h1
    · exact List.mem_append_right _ (List.mem_cons_of_mem _ h1)
  have hlt : ∀ q ∈ l1 ++ p :: l2, q.i ∈ order := fun q hq => by rw [h.ord]; exact List.mem_append_left _ (h.pin q hq)
  obtain ⟨c1, c2, c3, c4⟩ := C.inf p.i p.a (h.inf p hpin)
  have unl : ∀ q ∈ l1 ++ p :: l2, listed.getD q.i false = false := fun q hq => by
    have := (h.lst q.i (C.lt _ (hlt q hq))).2 (.inl ⟨q, hq, rfl⟩)
    rw [← getD_iff h.sz (C.lt _ (hlt q hq))]; exact this
  have htemps : ∀ t ∈ gT p.a.g ++ moT p.a.x, ∀ v, p.e.get t = some v → VR ρ v (act.tmps.getD t undef) := by
    intro t ht v hv
    rcases h.i2 p hpin t ht with ⟨r, hr1, _, hr3, _⟩ | hh
    · have := ready_cl h.dc (C.dep _ _ hr3) hr
      rw [unl r hr1] at this; cases this
    · exact hh.2 v hv
  -- whoever makes a block is pending outside of a half alone
  have hnone : ∀ q ∈ l1 ++ p :: l2, isRA q.a.x = true → half = none := by
    intro q hq hra
    cases hh : half with
    | none => rfl
    | some hf =>
      have := (h.hf hf hh).2.2.2.2.2.2.2.2.2.2 q hq
      rw [hra] at this; cases this
  have hnids : ∀ (ρ' : Rho) (w' : World), Go (now s half) ρ w (now s half) ρ' w' → ∀ q ∈ l1 ++ l2, (∃ x, q.a.x = .a x) → q.v ≠ .t [] → ρ' q.nid = none := by
    intro ρ' w' hg q hq ⟨x, hx⟩ hz
    have hn := hnone q (hsub q hq) (by rw [hx]; rfl)
    rcases h.i3 q (hsub q hq) with ⟨_, g2⟩ | ⟨_, g2⟩
    · exact absurd g2 hz
    · rw [hx] at g2
      obtain ⟨l, f, k1, k2, k3, k4, k5⟩ := g2
      cases hρ : ρ' q.nid with
      | none => rfl
      | some y =>
        rcases hg.fresh _ _ hρ with h1 | h1
        · rw [k4] at h1; cases h1
        · have hrel := h.reln
          rw [hn] at hrel h1
          have := hrel.lt _ _ k3
          exact absurd h1 (Nat.not_le.2 this)
  have plain : ∀ {x : MO}, p.a.x = x → Comes call p.e (now s half) p.a.g x p.v (now s half) → wpOp P ops Q p.i K act w := by
    intro x hx hc
    refine op_sound C.hty C.hib C.hcall c1 c2 (by rw [← hx]; exact c3) (by rw [← hx]; exact htemps) h.reln hc fun cv w' ρ' k1 k2 k3 => ?_
    refine hK _ _ ρ' (h.done C hr k1 k2 k3.le (h.go.trans (k3.states h.nown.symm h.nown.symm)) (hnids ρ' w' k3))
  rcases h.i3 p hpin with ⟨g1, g2⟩ | ⟨g1, g2⟩
  · exact plain rfl (.inr ⟨g1, g2, rfl⟩)
  · cases hx : p.a.x with
    | w x =>
      rw [hx] at g2
      exact plain hx (.inl ⟨g1, by simp only [mo, g2]⟩)
    | r x =>
      rw [hx] at g2
      have hn := hnone p hpin (by rw [hx]; rfl)
      refine plain hx (.inl ⟨g1, ?_⟩)
      subst hn
      simp only [mo, now]
      have g2' : rv p.e s x = some p.v := g2
      rw [g2']
    | a x =>
      rw [hx] at g2
      obtain ⟨l, f, k1, k2, k3, k4, k5⟩ := g2
      have hn := hnone p hpin (by rw [hx]; rfl)
      subst hn
      have hts : p.a.ts = gT p.a.g ++ aT x := by unfold Inf.ts; rw [hx]; rfl
      have her : ER ρ (some_ p.e p.a.ts) act := by
        intro t u hu
        rw [get_some_] at hu
        split at hu
        · rename_i ht; exact htemps t ht u hu
        · simp at hu
      have hlk : Like (gT p.a.g ++ aT x) (some_ p.e p.a.ts) p.e := by rw [← hts]; exact like_some_ _ _
      refine (wpOp_wanted (P := P) c1 c2 her).1 (by rw [gEv_like hlk.left]; exact g1) ?_
      have hav : av (some_ p.e p.a.ts) x = some (l, f) := by rw [av_like hlk.right]; exact k1
      obtain ⟨cv, cells, el, j1, j2, j3⟩ := av_sound C.hty (op := p.a.o.op) (by rw [hx] at c3; exact c3) her hav p.a.o.dst p.a.o.type p.a.o.pos p.a.o.after p.a.o.guard w
      have hrel : Rel ρ s w := h.rel
      have hlate := hrel.late k3 k4 j2 el
      refine Oper.wp_value (o := p.a.o) j1 ?_
      have hdone := h.done C hr (cv := cv) (ρ' := ρ.with p.nid (w.heap.size, 0, cells.size)) (by rw [k2]; exact j3 _ _ (Rho.with_at _ _ _)) hlate (Rho.with_le k4) ?_ ?_
      · exact hK _ _ _ hdone
      · refine ⟨Rho.le_trans h.go.le (Rho.with_le k4), h.go.os, h.go.tape, h.go.output, Nat.le_trans h.go.size (by simp), ?_, ?_, h.go.nbs, ?_⟩
        · intro c hc hno
          rw [heap_alloc_old w _ _ (Nat.lt_of_lt_of_le hc h.go.size)]
          exact h.go.block c hc hno
        · intro y cb sh z hy
          by_cases hyn : y = p.nid
          · subst hyn
            rw [Rho.with_at] at hy
            simp only [Option.some.injEq, Prod.mk.injEq] at hy
            exact .inr (by rw [← hy.1]; exact h.go.size)
          · rw [Rho.with_ne hyn] at hy
            exact h.go.new _ _ _ _ hy
        · intro y q hy
          by_cases hyn : y = p.nid
          · subst hyn; exact .inr k5
          · rw [Rho.with_ne hyn] at hy
            exact h.go.fresh _ _ hy
      · intro q hq ⟨x', hx'⟩ hz
        have hqi : p.i ≠ q.i := by
          have hnd := h.nd
          rw [List.map_append, List.map_cons] at hnd
          obtain ⟨n1, n2, n3⟩ := List.nodup_append.1 hnd
          obtain ⟨n4, n5⟩ := List.nodup_cons.1 n2
          intro e
          rcases List.mem_append.1 hq with h1 | h1
          · exact n3 q.i (List.mem_map.2 ⟨q, h1, rfl⟩) p.i (List.mem_cons_self ..) e.symm
          · exact n4 (e ▸ List.mem_map.2 ⟨q, h1, rfl⟩)
        have hne := h.nids p hpin q (hsub q hq) hqi ⟨x, hx⟩ ⟨x', hx'⟩ (by rw [k2]; exact av_v k1 _) hz
        rw [Rho.with_ne (fun e => hne e.symm)]
        rcases h.i3 q (hsub q hq) with ⟨_, g3⟩ | ⟨_, g3⟩
        · exact absurd g3 hz
        · rw [hx'] at g3
          obtain ⟨_, _, _, _, _, m4, _⟩ := g3
          exact m4
    | m x => rw [hx] at g2; exact g2.elim
end
end
end Go.Ev
