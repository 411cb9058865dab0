/-
Regions that draw their order: all together.
-/
import Derived.Test.YtjidglpldjcmdaaGreatEvK
set_option linter.unusedVariables false
set_option linter.unusedSimpArgs false
set_option maxRecDepth 20000
namespace Go.Ev
open Go

section
variable {P : Program} {ty : TypeId → Option TyI} {ibs : FuncId → Bool} {call : Nat → List V → St → Option (V × St)} {nt : Nat}
variable {ops : Array Oper} {infs : List Inf} {cls : List Nat} {prs : List (Nat × Nat)} {order : List Nat} {s0 : St} {ρ0 : Rho} {w0 : World} {pre : List Nat} {rest : List HS} {e : E} {s : St} {listed : Array Bool} {ρ : Rho} {act : Act} {w : World}

/-- The second of two stores. -/
theorem exec_half (C : Ctx P ty ibs call nt ops infs cls prs order) {pend : List Pd} {hh : Hf} (h : Inv nt ops infs cls order s0 ρ0 w0 pre rest e s pend (some hh) listed ρ act w)
    (hr : ∀ o, ops[hh.i]? = some o → ∀ ed ∈ o.after, Region.binds .any ed = true → listed.getD ed.on false = true) {K : Act → World → Prop} {Q : Exit → Act → World → Prop}
    (hK : ∀ act' w' ρ', Inv nt ops infs cls order s0 ρ0 w0 pre rest e s pend none (listed.setIfInBounds hh.i true) ρ' act' w' → K act' w') : wpOp P ops Q hh.i K act w := by
  obtain ⟨k1, k2, k3, k4, k5, k6, k7, k8, ⟨s2, k9, k9'⟩, k10, k11⟩ := h.hf hh rfl
  obtain ⟨hpre, hinf⟩ := h.hin hh rfl
  have hho : hh.i ∈ order := by rw [h.ord]; exact List.mem_append_left _ hpre
  have hlt : ∀ q ∈ pend, q.i ∈ order := fun q hq => by rw [h.ord]; exact List.mem_append_left _ (h.pin q hq)
  have unl : ∀ q ∈ pend, listed.getD q.i false = false := fun q hq => by
    have := (h.lst q.i (C.lt _ (hlt q hq))).2 (.inl ⟨q, hq, rfl⟩)
    rw [← getD_iff h.sz (C.lt _ (hlt q hq))]; exact this
  have htemps : ∀ t ∈ hh.a.ts, ∀ v, hh.e.get t = some v → VR ρ v (act.tmps.getD t undef) := by
    intro t ht v hv
    rcases k10 t ht with ⟨r, hr1, _, hr3, _⟩ | hh2
    · have := ready_cl h.dc (C.dep _ _ hr3) hr
      rw [unl r hr1] at this; cases this
    · exact hh2.2 v hv
  have hrel : Rel ρ hh.mid w := h.rel
  have hnown : hh.mid.nb = s.nb := h.nown
  refine st_wp C hinf k1 k2 k3 htemps k4 k5 k6 hrel k7 k8 k9 fun w' j1 j2 => hK act w' ρ ?_
  have hnp : ∀ p ∈ pend, p.i ≠ hh.i := by
    intro p hp e'
    have : infs[p.i]? = some hh.a := by rw [e']; exact hinf
    rw [h.inf p hp] at this
    simp only [Option.some.injEq] at this
    rcases h.i3 p hp with ⟨g1, _⟩ | ⟨_, g⟩
    · rw [this, k2] at g1; simp [gEv] at g1
    · rw [this, k1] at g; exact g
  have hnodup : (pre ++ opsOf rest).Nodup := by rw [← h.ord]; exact C.nodup
  obtain ⟨n1, n2, n3⟩ := List.nodup_append.1 hnodup
  refine ⟨j1.same k9', h.go.trans (j2.states hnown.symm (by rw [k9'.1])), h.fr, by simpa using h.sz, ?_, dc_set h.sz (C.lt _ hho) h.dc hr, h.ord, h.pin, (fun hh hhe => by cases hhe), h.nd, h.inf, h.i1, h.i2, h.i3, h.i4, h.i6, h.nids, (fun hh hhe => by cases hhe), (fun hh hhe => by cases hhe)⟩
  intro i hi
  rw [listed_set h.sz (C.lt _ hho)]
  by_cases him : i = hh.i
  · rw [if_pos him]
    simp only [Bool.true_eq_false, false_iff, not_or, not_exists, not_and]
    exact ⟨fun q hq e' => hnp q hq (e'.trans him), (fun hh hhe => by cases hhe), fun hin => n3 hh.i hpre i hin him.symm⟩
  · rw [if_neg him, h.lst i hi]
    constructor
    · rintro (k | ⟨h2, k, k'⟩ | k)
      · exact .inl k
      · simp only [Option.some.injEq] at k; subst k; exact absurd k'.symm him
      · exact .inr (.inr k)
    · rintro (k | ⟨h2, k, k'⟩ | k)
      · exact .inl k
      · cases k
      · exact .inr (.inr k)

/-- The first of two stores. -/
theorem exec_e2 (C : Ctx P ty ibs call nt ops infs cls prs order) {i j k k' : Nat} (hkk : (k = i ∧ k' = j) ∨ (k = j ∧ k' = i)) {l : List HS} {pend : List Pd} (h : Inv nt ops infs cls order s0 ρ0 w0 pre (.e2 i j :: l) e s pend none listed ρ act w)
    (hra : raOk infs cls i j pre = true) (haft : ∀ q ∈ opsOf l, bt cls q i = true ∧ bt cls q j = true) {a a' : Inf} (ha : infs[k]? = some a) (ha' : infs[k']? = some a') {n n' : Nat} {oa ob oa' ob' : O} (hx : a.x = .m (.st n oa ob)) (hg : a.g = none) (hdst : a.o.dst = none)
    (hx' : a'.x = .m (.st n' oa' ob')) (hg' : a'.g = none) (hdst' : a'.o.dst = none) {x o x' o' : Nat} {m m' : List S} (h1 : os e oa = .p x o) (h2 : cellsOf (ov e ob) = some m) (hn : m.length = n) (h1' : os e oa' = .p x' o') (h2' : cellsOf (ov e ob') = some m') (hn' : m'.length = n')
    {σ σ1 s2 s' : St} (hσ : Rel ρ σ w) (hnb : σ.nb = s.nb) (hno : NO σ x o m.length) (hno' : NO σ x' o' m'.length) (hfit : ∀ b, σ.h.get x = some b → o + m.length ≤ b.c.length) (hfit' : ∀ b, σ.h.get x' = some b → o' + m'.length ≤ b.c.length)
    (hs1 : setc σ x o m = some σ1) (hs2 : setc σ1 x' o' m' = some s2) (hsame : Same s2 s')
    (hr : ∀ o, ops[k]? = some o → ∀ ed ∈ o.after, Region.binds .any ed = true → listed.getD ed.on false = true) {K : Act → World → Prop} {Q : Exit → Act → World → Prop}
    (hK : ∀ act' w' ρ' hh, Inv nt ops infs cls order s0 ρ0 w0 (pre ++ [i, j]) l e s' pend (some hh) (listed.setIfInBounds k true) ρ' act' w' → K act' w') : wpOp P ops Q k K act w := by
  have hord : order = pre ++ (i :: j :: opsOf l) := h.ord
  have hkin : k ∈ i :: j :: opsOf l ∧ k' ∈ i :: j :: opsOf l := by
    rcases hkk with ⟨rfl, rfl⟩ | ⟨rfl, rfl⟩ <;> exact ⟨by simp, by simp⟩
  have hko : k ∈ order := by rw [hord]; exact List.mem_append_right _ hkin.1
  have hko' : k' ∈ order := by rw [hord]; exact List.mem_append_right _ hkin.2
  have hlt : ∀ q ∈ pend, q.i ∈ order := fun q hq => by rw [h.ord]; exact List.mem_append_left _ (h.pin q hq)
  have unl : ∀ q ∈ pend, listed.getD q.i false = false := fun q hq => by
    have := (h.lst q.i (C.lt _ (hlt q hq))).2 (.inl ⟨q, hq, rfl⟩)
    rw [← getD_iff h.sz (C.lt _ (hlt q hq))]; exact this
  have notcl : ∀ q ∈ pend, bt cls k q.i = false := fun q hq => by
    cases hb : bt cls k q.i with
    | false => rfl
    | true =>
      have := ready_cl h.dc (C.dep _ _ hb) hr
      rw [unl q hq] at this; cases this
  have reads : ∀ q ∈ pend, ∀ (y : Nat) (b : Inf), y ∈ i :: j :: opsOf l → infs[y]? = some b → ∀ d, q.a.o.dst = some d → d ∈ b.ts → bt cls y q.i = true := by
    intro q hq y b hy hb d hd ht
    obtain ⟨a1, c1, g1, g2, g3, g4, g5, g6, g7, g8⟩ := pair_facts (C.split pre (i :: j :: opsOf l) hord q.i (h.pin q hq) y hy)
    rw [h.inf q hq] at g1
    rw [hb] at g2
    simp only [Option.some.injEq] at g1 g2
    subst g1 g2
    exact g7 d hd ht
  have htemps : ∀ t ∈ a.ts, ∀ v, e.get t = some v → VR ρ v (act.tmps.getD t undef) := fun t ht v hv =>
    h.i1 t v hv fun q hq hd => by
      have := reads q hq k a hkin.1 ha t hd ht
      rw [notcl q hq] at this; cases this
  have hnora : ∀ q ∈ pend, isRA q.a.x = false := by
    intro q hq
    cases hb : isRA q.a.x with
    | false => rfl
    | true =>
      unfold raOk at hra
      have := List.all_eq_true.1 hra q.i (h.pin q hq)
      rw [h.inf q hq] at this
      simp only [hb, Bool.not_true, Bool.false_or, Bool.and_eq_true] at this
      have hk : bt cls k q.i = true := by rcases hkk with ⟨rfl, _⟩ | ⟨rfl, _⟩; exact this.1; exact this.2
      rw [notcl q hq] at hk; cases hk
  obtain ⟨b1, g1, g2, g3, g4, g5⟩ := setc_get hs1
  have hfit1 : ∀ b, σ1.h.get x' = some b → o' + m'.length ≤ b.c.length := by
    intro b hb
    rw [g5] at hb
    split at hb
    · rename_i e'
      simp only [Option.some.injEq] at hb; subst hb
      show o' + m'.length ≤ (lput b1.c m o).length
      rw [lput_len (hfit b1 g1)]
      exact hfit' b1 (by rw [e']; exact g1)
    · exact hfit' b hb
  have hs'nb : s'.nb = s.nb := by rw [hsame.1, setc_nb hs2, setc_nb hs1, hnb]
  have hnodup : (pre ++ (i :: j :: opsOf l)).Nodup := by rw [← hord]; exact C.nodup
  obtain ⟨n1, n2, n3⟩ := List.nodup_append.1 hnodup
  obtain ⟨n4, n5⟩ := List.nodup_cons.1 n2
  obtain ⟨n6, n7⟩ := List.nodup_cons.1 n5
  have hij : i ≠ j := fun e' => n4 (by rw [e']; exact List.mem_cons_self ..)
  have hkk' : k ≠ k' := by rcases hkk with ⟨rfl, rfl⟩ | ⟨rfl, rfl⟩; exact hij; exact fun e' => hij e'.symm
  have hkl : k ∉ opsOf l := by
    rcases hkk with ⟨rfl, rfl⟩ | ⟨rfl, rfl⟩
    · exact fun hk => n4 (List.mem_cons_of_mem _ hk)
    · exact n6
  refine st_wp C ha hx hg hdst htemps h1 h2 hn hσ hno hfit hs1 fun w' j1 j2 => hK act w' ρ ⟨k', a', e, n', oa', ob', x', o', m', σ1⟩ ?_
  refine ⟨j1, ?_, h.fr, by simpa using h.sz, ?_, dc_set h.sz (C.lt _ hko) h.dc hr, by rw [hord]; simp, fun q hq => List.mem_append_left _ (h.pin q hq), ?_, h.nd, h.inf, h.i1, h.i2, ?_, h.i4, h.i6, h.nids, ?_, ?_⟩
  · exact h.go.trans (j2.states hnb.symm (by rw [hs'nb, setc_nb hs1, hnb]))
  · intro y hy
    rw [listed_set h.sz (C.lt _ hko)]
    by_cases hyk : y = k
    · rw [if_pos hyk]
      simp only [Bool.true_eq_false, false_iff, not_or, not_exists, not_and]
      refine ⟨fun q hq e' => n3 q.i (h.pin q hq) k hkin.1 (e'.trans hyk), fun hh hhe e' => ?_, fun hin => hkl (hyk ▸ hin)⟩
      simp only [Option.some.injEq] at hhe
      subst hhe
      exact hkk' (hyk.symm.trans e'.symm)
    · rw [if_neg hyk, h.lst y hy, opsOf_e2]
      constructor
      · rintro (q | ⟨hh, q, _⟩ | q)
        · exact .inl q
        · cases q
        · have : y = k' ∨ y ∈ opsOf l := by
            rcases hkk with ⟨rfl, rfl⟩ | ⟨rfl, rfl⟩
            · rcases List.mem_cons.1 q with e' | q
              · exact absurd e' hyk
              · exact List.mem_cons.1 q
            · rcases List.mem_cons.1 q with e' | q
              · exact .inl e'
              · rcases List.mem_cons.1 q with e' | q
                · exact absurd e' hyk
                · exact .inr q
          rcases this with e' | q
          · exact .inr (.inl ⟨_, rfl, e'.symm⟩)
          · exact .inr (.inr q)
      · rintro (q | ⟨hh, q, e'⟩ | q)
        · exact .inl q
        · simp only [Option.some.injEq] at q
          subst q
          refine .inr (.inr ?_)
          rw [← e']
          exact hkin.2
        · exact .inr (.inr (List.mem_cons_of_mem _ (List.mem_cons_of_mem _ q)))
  · intro hh hhe
    simp only [Option.some.injEq] at hhe
    subst hhe
    refine ⟨List.mem_append_right _ ?_, ha'⟩
    rcases hkk with ⟨_, rfl⟩ | ⟨_, rfl⟩ <;> simp
  · intro q hq
    rcases h.i3 q hq with c | ⟨c1, c2⟩
    · exact .inl c
    · refine .inr ⟨c1, ?_⟩
      have hq' := hnora q hq
      cases hqx : q.a.x with
      | w y => rw [hqx] at c2; exact c2
      | m y => rw [hqx] at c2; exact c2
      | r y => rw [hqx] at hq'; cases hq'
      | a y => rw [hqx] at hq'; cases hq'
  · intro hh hhe
    simp only [Option.some.injEq] at hhe
    subst hhe
    refine ⟨hx', hg', hdst', h1', h2', hn', hno'.setc hs1 hfit, hfit1, ⟨s2, hs2, hsame⟩, fun t ht => ?_, hnora⟩
    by_cases hex : ∃ q ∈ pend, q.a.o.dst = some t
    · obtain ⟨q, hq, hd⟩ := hex
      exact .inl ⟨q, hq, hd, reads q hq k' a' hkin.2 ha' t hd ht, h.i4 q hq t hd⟩
    · exact .inr ⟨fun q hq hd => absurd ⟨q, hq, hd⟩ hex, fun v hv => h.i1 t v hv fun q hq hd => hex ⟨q, hq, hd⟩⟩
  · intro hh hhe y hy
    simp only [Option.some.injEq] at hhe
    subst hhe
    rcases hkk with ⟨_, rfl⟩ | ⟨_, rfl⟩
    · exact (haft y hy).2
    · exact (haft y hy).1
end
end Go.Ev
