/-
Regions that draw their order: what is passed before it is carried out; pairs of stores.
-/
import Derived.Test.YtjidglpldjcmdaaGreatEvH
set_option linter.unusedVariables false
set_option linter.unusedSimpArgs false
set_option maxRecDepth 20000
namespace Go.Ev
open Go

theorem Rel.known {ρ : Rho} {s : St} {w : World} (h : Rel ρ s w) (l : List S) : Rel ρ (Ev.alloc s l) w := by
  have hne : ∀ x q, ρ x = some q → x ≠ s.nb := fun x q hx e => by rw [e, h.none] at hx; cases hx
  refine ⟨?_, h.blk, ?_, ?_, ?_, ?_, ?_⟩
  · intro x q hx
    show x < s.nb + 1
    have := h.dom x q hx; omega
  · intro x cb sh z b hx hb
    rw [get_alloc, if_neg (hne x _ hx)] at hb
    exact h.con x cb sh z b hx hb
  · intro x y cb sh sh' z z' bx b' hn hx hy h1 h2
    rw [get_alloc, if_neg (hne x _ hx)] at h1
    rw [get_alloc, if_neg (hne y _ hy)] at h2
    exact h.inj x y cb sh sh' z z' bx b' hn hx hy h1 h2
  · intro x b f hb hf
    rw [get_alloc] at hb
    split at hb
    · simp only [Option.some.injEq] at hb; subst hb; simp at hf
    · exact h.fam x b f hb hf
  · intro x b hb
    rw [get_alloc] at hb
    split at hb
    · simp only [Option.some.injEq] at hb; subst hb; exact Nat.zero_le _
    · exact h.nfl x b hb
  · intro x b hb
    show x < s.nb + 1
    rw [get_alloc] at hb
    split at hb
    · omega
    · have := h.lt x b hb; omega
theorem Go.later {s s1 s2 : St} {ρ ρ' : Rho} {w w' : World} (h : Go s ρ w s1 ρ' w') (hle : s1.nb ≤ s2.nb) : Go s ρ w s2 ρ' w' :=
  ⟨h.le, h.os, h.tape, h.output, h.size, h.block, h.new, Nat.le_trans h.nbs hle, h.fresh⟩

theorem cellsAt_alloc {ρ : Rho} {s : St} {w : World} (h : Rel ρ s w) (l : List S) {x o n : Nat} {m : List S} (hc : cellsAt s x o n = some m) : cellsAt (alloc s l) x o n = some m := by
  unfold cellsAt at hc ⊢
  cases hb : s.h.get x with
  | none => rw [hb] at hc; simp at hc
  | some b =>
    have hne : x ≠ s.nb := fun e => by have := h.lt x b hb; omega
    rw [get_alloc, if_neg hne, hb]
    rw [hb] at hc
    exact hc
theorem rv_alloc {ρ : Rho} {s : St} {w : World} (h : Rel ρ s w) (l : List S) {e : E} {x : R} {v : V} (hv : rv e s x = some v) : rv e (alloc s l) x = some v := by
  unfold rv at hv ⊢
  cases x with
  | ld n a =>
    simp only at hv ⊢
    unfold ldv at hv ⊢
    split at hv
    · rename_i x o hx
      cases n with
      | none =>
        simp only at hv ⊢
        cases hb : s.h.get x with
        | none => rw [hb] at hv; simp at hv
        | some b =>
          have hne : x ≠ s.nb := fun e => by have := h.lt x b hb; omega
          rw [get_alloc, if_neg hne, hb]
          rw [hb] at hv
          exact hv
      | some n =>
        simp only at hv ⊢
        split at hv
        · rename_i m hm
          rw [cellsAt_alloc h l hm]; exact hv
        · simp at hv
    · simp at hv
  | bts a =>
    simp only at hv ⊢
    split at hv
    · exact hv
    · rename_i x o n sz full hx
      replace hv := cond_some hv
      obtain ⟨h1, hv⟩ := hv
      rw [h1, cond_true]
      split at hv
      · rename_i m hm
        rw [cellsAt_alloc h l hm]; exact hv
      · simp at hv
    · simp at hv

theorem opsOf_ev (i : Nat) (l : List HS) : opsOf (.ev i :: l) = i :: opsOf l := rfl
theorem opsOf_e2 (i j : Nat) (l : List HS) : opsOf (.e2 i j :: l) = i :: j :: opsOf l := rfl

section
variable {P : Program} {ty : TypeId → Option TyI} {ibs : FuncId → Bool} {call : Nat → List V → St → Option (V × St)} {nt : Nat}
variable {ops : Array Oper} {infs : List Inf} {cls : List Nat} {prs : List (Nat × Nat)} {order : List Nat} {s0 : St} {ρ0 : Rho} {w0 : World} {pre : List Nat} {rest : List HS} {e : E} {s : St} {listed : Array Bool} {ρ : Rho} {act : Act} {w : World}

/-- An operation that does not write is passed: it may be carried out any time from now on. -/
theorem pass (C : Ctx P ty ibs call nt ops infs cls prs order) {i : Nat} {l : List HS} {pend : List Pd} (h : Inv nt ops infs cls order s0 ρ0 w0 pre (.ev i :: l) e s pend none listed ρ act w) {a : Inf} (ha : infs[i]? = some a) (hm : isM a.x = false)
    {e1 : E} {s1 : St} (hev : evG call e s a.o.dst a.g a.x = some (e1, s1)) : ∃ p : Pd, Inv nt ops infs cls order s0 ρ0 w0 (pre ++ [i]) l e1 s1 (pend ++ [p]) none listed ρ act w := by
  obtain ⟨v, hc, rfl⟩ := comes_of_evG hev
  have hord : order = pre ++ i :: opsOf l := h.ord
  have hio : i ∈ order := by rw [hord]; simp
  have hrel : Rel ρ s w := h.rel
  obtain ⟨c1, c2, c3, c4⟩ := C.inf i a ha
  have hlt : ∀ q ∈ pend, q.i ∈ order := fun q hq => by rw [h.ord]; exact List.mem_append_left _ (h.pin q hq)
  have facts : ∀ q ∈ pend, q.i ≠ i ∧ bt cls q.i i = false ∧ (∀ d, q.a.o.dst = some d → a.o.dst ≠ some d) ∧ (∀ d, q.a.o.dst = some d → d ∈ a.ts → bt cls i q.i = true) ∧ (∀ d, a.o.dst = some d → d ∈ q.a.ts → isRA q.a.x = false) := by
    intro q hq
    obtain ⟨a', c', g1, g2, g3, g4, g5, g6, g7, g8⟩ := pair_facts (C.split pre (i :: opsOf l) hord q.i (h.pin q hq) i (List.mem_cons_self ..))
    rw [h.inf q hq] at g1
    rw [ha] at g2
    simp only [Option.some.injEq] at g1 g2
    subst g1 g2
    exact ⟨g3, g4, g6, g7, fun d hd ht => (g8 d hd ht).2⟩
  obtain ⟨a', g1, g2, g3, g4⟩ := self_facts (C.self i hio)
  rw [ha] at g1
  simp only [Option.some.injEq] at g1
  subst g1
  have hnodup : (pre ++ i :: opsOf l).Nodup := by rw [← hord]; exact C.nodup
  obtain ⟨n1, n2, n3⟩ := List.nodup_append.1 hnodup
  obtain ⟨n4, n5⟩ := List.nodup_cons.1 n2
  -- what the step makes of the state
  have st : (s1 = s) ∨ ∃ m, s1 = alloc s m := by
    rcases hc with ⟨_, hc⟩ | ⟨_, _, hc⟩
    · cases hx : a.x with
      | w x =>
        rw [hx] at hc
        simp only [mo] at hc
        split at hc
        · simp only [Option.some.injEq, Prod.mk.injEq] at hc; exact .inl hc.2.symm
        · simp at hc
      | r x =>
        rw [hx] at hc
        simp only [mo] at hc
        split at hc
        · simp only [Option.some.injEq, Prod.mk.injEq] at hc; exact .inl hc.2.symm
        · simp at hc
      | a x =>
        rw [hx] at hc
        simp only [mo] at hc
        split at hc
        · simp only [Option.some.injEq, Prod.mk.injEq] at hc; exact .inr ⟨_, hc.2.symm⟩
        · simp at hc
      | m x => rw [hx] at hm; cases hm
    · exact .inl hc
  have hrel1 : Rel ρ s1 w := by
    rcases st with rfl | ⟨m, rfl⟩
    · exact hrel
    · exact hrel.known m
  have hnb : s.nb ≤ s1.nb := by
    rcases st with rfl | ⟨m, rfl⟩
    · exact Nat.le_refl _
    · exact Nat.le_succ _
  have old3 : ∀ q ∈ pend, PdOk s0 s1 ρ q := by
    intro q hq
    rcases h.i3 q hq with k | ⟨k1, k2⟩
    · exact .inl k
    · refine .inr ⟨k1, ?_⟩
      rcases st with rfl | ⟨m, rfl⟩
      · exact k2
      · cases hx : q.a.x with
        | w x => rw [hx] at k2; exact k2
        | m x => rw [hx] at k2; exact k2
        | r x => rw [hx] at k2; exact rv_alloc hrel m k2
        | a x =>
          rw [hx] at k2
          obtain ⟨l', f, m1, m2, m3, m4, m5⟩ := k2
          have hne : q.nid ≠ s.nb := fun e => by have := hrel.lt _ _ m3; omega
          exact ⟨l', f, m1, m2, by rw [get_alloc, if_neg hne]; exact m3, m4, m5⟩
  have new3 : PdOk s0 s1 ρ ⟨i, a, e, v, s.nb⟩ := by
    rcases hc with ⟨k1, hc⟩ | ⟨k1, k2, _⟩
    · refine .inr ⟨k1, ?_⟩
      show match a.x with
        | .w x => wv e x = some v
        | .r x => rv e s1 x = some v
        | .a x => ∃ l f, av e x = some (l, f) ∧ v = f s.nb ∧ s1.h.get s.nb = some ⟨l, 0, 0⟩ ∧ ρ s.nb = none ∧ s0.nb ≤ s.nb
        | .m _ => False
      cases hx : a.x with
      | w x =>
        rw [hx] at hc
        simp only [mo] at hc
        split at hc
        · rename_i v' hv'
          simp only [Option.some.injEq, Prod.mk.injEq] at hc
          show wv e x = some v
          rw [hv', hc.1]
        · simp at hc
      | r x =>
        rw [hx] at hc
        simp only [mo] at hc
        split at hc
        · rename_i v' hv'
          simp only [Option.some.injEq, Prod.mk.injEq] at hc
          show rv e s1 x = some v
          rw [← hc.2, hv', hc.1]
        · simp at hc
      | a x =>
        rw [hx] at hc
        simp only [mo] at hc
        split at hc
        · rename_i l' f hv'
          simp only [Option.some.injEq, Prod.mk.injEq] at hc
          exact ⟨l', f, hv', hc.1.symm, by rw [← hc.2, get_alloc, if_pos rfl], hrel.none, h.go.nbs⟩
        · simp at hc
      | m x => rw [hx] at hm; cases hm
    · exact .inl ⟨k1, k2⟩
  have hmem : ∀ q, q ∈ pend ++ [(⟨i, a, e, v, s.nb⟩ : Pd)] → q ∈ pend ∨ q = ⟨i, a, e, v, s.nb⟩ := fun q hq => by
    rcases List.mem_append.1 hq with hq | hq
    · exact .inl hq
    · exact .inr (List.mem_singleton.1 hq)
  have hold : ∀ q ∈ pend, q ∈ pend ++ [(⟨i, a, e, v, s.nb⟩ : Pd)] := fun q hq => List.mem_append_left _ hq
  have hnew : (⟨i, a, e, v, s.nb⟩ : Pd) ∈ pend ++ [(⟨i, a, e, v, s.nb⟩ : Pd)] := List.mem_append_right _ (List.mem_singleton.2 rfl)
  refine ⟨⟨i, a, e, v, s.nb⟩, hrel1, h.go.later hnb, h.fr, h.sz, ?_, h.dc, by rw [hord]; simp, ?_, (fun hh hhe => by cases hhe), ?_, ?_, ?_, ?_, ?_, ?_, ?_, ?_, (fun hh hhe => by cases hhe), (fun hh hhe => by cases hhe)⟩
  · intro k hk
    rw [h.lst k hk, opsOf_ev]
    constructor
    · rintro (⟨q, hq, e'⟩ | hh | hh)
      · exact .inl ⟨q, hold q hq, e'⟩
      · exact .inr (.inl hh)
      · rcases List.mem_cons.1 hh with e' | hh
        · exact .inl ⟨_, hnew, e'.symm⟩
        · exact .inr (.inr hh)
    · rintro (⟨q, hq, e'⟩ | hh | hh)
      · rcases hmem q hq with hq | rfl
        · exact .inl ⟨q, hq, e'⟩
        · exact .inr (.inr (by rw [← e']; exact List.mem_cons_self ..))
      · exact .inr (.inl hh)
      · exact .inr (.inr (List.mem_cons_of_mem _ hh))
  · intro q hq
    rcases hmem q hq with hq | rfl
    · exact List.mem_append_left _ (h.pin q hq)
    · exact List.mem_append_right _ (List.mem_singleton.2 rfl)
  · rw [List.map_append, List.map_singleton]
    refine List.nodup_append.2 ⟨h.nd, by simp, fun x hx y hy => ?_⟩
    obtain ⟨q, hq, rfl⟩ := List.mem_map.1 hx
    rw [List.mem_singleton.1 hy]
    exact (facts q hq).1
  · intro q hq
    rcases hmem q hq with hq | rfl
    · exact h.inf q hq
    · exact ha
  · intro t u hu hq
    rw [get_pute] at hu
    rw [if_neg (hq _ hnew)] at hu
    exact h.i1 t u hu fun q hq' => hq q (hold q hq')
  · intro q hq t ht
    rcases hmem q hq with hq | rfl
    · rcases h.i2 q hq t ht with ⟨r, r1, r2, r3, r4⟩ | ⟨k1, k2⟩
      · exact .inl ⟨r, hold r r1, r2, r3, r4⟩
      · refine .inr ⟨fun r hr hd => ?_, k2⟩
        rcases hmem r hr with hr | rfl
        · exact k1 r hr hd
        · exact (facts q hq).2.1
    · by_cases hex : ∃ r ∈ pend, r.a.o.dst = some t
      · obtain ⟨r, hr, hd⟩ := hex
        exact .inl ⟨r, hold r hr, hd, (facts r hr).2.2.2.1 t hd ht, h.i4 r hr t hd⟩
      · refine .inr ⟨fun r hr hd => ?_, fun u hu => h.i1 t u hu fun r hr hd => hex ⟨r, hr, hd⟩⟩
        rcases hmem r hr with hr | rfl
        · exact absurd ⟨r, hr, hd⟩ hex
        · exact absurd ht (g3 t hd)
  · intro q hq
    rcases hmem q hq with hq | rfl
    · exact old3 q hq
    · exact new3
  · intro q hq d hd
    rw [get_pute]
    rcases hmem q hq with hq | rfl
    · rw [if_neg ((facts q hq).2.2.1 d hd)]
      exact h.i4 q hq d hd
    · rw [if_pos hd]
  · intro q hq hra t ht
    rw [get_pute]
    rcases hmem q hq with hq | rfl
    · rw [if_neg (fun hd => by have := (facts q hq).2.2.2.2 t hd ht; rw [hra] at this; cases this)]
      exact h.i6 q hq hra t ht
    · rw [if_neg (fun hd => g3 t hd ht)]
  · have lt : ∀ q ∈ pend, (∃ x, q.a.x = .a x) → q.v ≠ .t [] → q.nid < s.nb := by
      rintro q hq ⟨x, hx⟩ hz
      rcases h.i3 q hq with ⟨_, k⟩ | ⟨_, k⟩
      · exact absurd k hz
      · rw [hx] at k
        obtain ⟨_, _, _, _, m3, _, _⟩ := k
        exact hrel.lt _ _ m3
    intro q hq r hr hne hx hy hz hz'
    rcases hmem q hq with hq | rfl
    · rcases hmem r hr with hr | rfl
      · exact h.nids q hq r hr hne hx hy hz hz'
      · have := lt q hq hx hz
        show q.nid ≠ s.nb
        omega
    · rcases hmem r hr with hr | rfl
      · have := lt r hr hy hz'
        show s.nb ≠ r.nid
        omega
      · exact absurd rfl hne
end
end Go.Ev
