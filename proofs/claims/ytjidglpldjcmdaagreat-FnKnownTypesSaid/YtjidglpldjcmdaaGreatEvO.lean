/-
Regions that draw their order: whatever the order, it ends as the evaluator says.
-/
import Derived.Test.YtjidglpldjcmdaaGreatEvL
set_option linter.unusedVariables false
set_option linter.unusedSimpArgs false
set_option maxRecDepth 20000
namespace Go.Ev
open Go

theorem nodup_len : ∀ {l : List Nat}, l.Nodup → ∀ {m : List Nat}, (∀ i ∈ l, i ∈ m) → l.length ≤ m.length
  | [], _, m, _ => Nat.zero_le _
  | x :: l, hn, m, h => by
    obtain ⟨h1, h2⟩ := List.nodup_cons.1 hn
    have hx : x ∈ m := h x (List.mem_cons_self ..)
    have h3 : l.length ≤ (m.erase x).length := nodup_len h2 fun i hi => by
      have hne : i ≠ x := fun e => h1 (e ▸ hi)
      exact (List.mem_erase_of_ne hne).2 (h i (List.mem_cons_of_mem _ hi))
    rw [List.length_erase_of_mem hx] at h3
    have : 0 < m.length := List.length_pos_of_mem hx
    simp only [List.length_cons]
    omega

theorem first_unlisted {listed : Array Bool} : ∀ (l : List Nat), (∃ i ∈ l, listed.getD i false = false) → ∃ l1 i l2, l = l1 ++ i :: l2 ∧ (∀ j ∈ l1, listed.getD j false = true) ∧ listed.getD i false = false
  | [], h => by obtain ⟨i, hi, _⟩ := h; simp at hi
  | x :: l, h => by
    cases hx : listed.getD x false with
    | false => exact ⟨[], x, l, rfl, fun j hj => by simp at hj, hx⟩
    | true =>
      obtain ⟨i, hi, hu⟩ := h
      rcases List.mem_cons.1 hi with e | hi
      · rw [e, hx] at hu; cases hu
      · obtain ⟨l1, k, l2, h1, h2, h3⟩ := first_unlisted l ⟨i, hi, hu⟩
        exact ⟨x :: l1, k, l2, by rw [h1]; rfl, fun j hj => by rcases List.mem_cons.1 hj with e | hj; rw [e]; exact hx; exact h2 j hj, h3⟩

section
variable {P : Program} {ty : TypeId → Option TyI} {ibs : FuncId → Bool} {call : Nat → List V → St → Option (V × St)} {nt : Nat}
variable {ops : Array Oper} {infs : List Inf} {cls : List Nat} {prs : List (Nat × Nat)} {order : List Nat} {s0 : St} {ρ0 : Rho} {w0 : World}

/-- What stands next: nothing, or what writes. -/
def Head (infs : List Inf) : List HS → Prop
  | [] => True
  | .ev i :: _ => ∃ a x, infs[i]? = some a ∧ a.x = .m x
  | .e2 _ _ :: _ => True

theorem norm (C : Ctx P ty ibs call nt ops infs cls prs order) : ∀ (rest : List HS) {pre : List Nat} {st : List Stp} {e ef : E} {s sf : St} {pend : List Pd} {listed : Array Bool} {ρ : Rho} {act : Act} {w : World},
    Inv nt ops infs cls order s0 ρ0 w0 pre rest e s pend none listed ρ act w → stepsOf infs cls pre rest = some st → reg call st e s = some (ef, sf) →
    ∃ rest' pre' st' e' s' pend', Inv nt ops infs cls order s0 ρ0 w0 pre' rest' e' s' pend' none listed ρ act w ∧ stepsOf infs cls pre' rest' = some st' ∧ reg call st' e' s' = some (ef, sf) ∧ pend'.length + (opsOf rest').length = pend.length + (opsOf rest).length ∧ Head infs rest'
  | [], pre, st, e, ef, s, sf, pend, listed, ρ, act, w, h, hst, hreg => ⟨[], pre, st, e, s, pend, h, hst, hreg, rfl, trivial⟩
  | .e2 i j :: l, pre, st, e, ef, s, sf, pend, listed, ρ, act, w, h, hst, hreg => ⟨_, pre, st, e, s, pend, h, hst, hreg, rfl, trivial⟩
  | .ev i :: l, pre, st, e, ef, s, sf, pend, listed, ρ, act, w, h, hst, hreg => by
    have hst' := hst
    unfold stepsOf at hst
    split at hst
    · rename_i a st1 ha hst1
      split at hst
      · rename_i x hx
        exact ⟨.ev i :: l, pre, st, e, s, pend, h, hst', hreg, rfl, ⟨a, x, ha, hx⟩⟩
      · rename_i x hnm
        simp only [Option.some.injEq] at hst; subst hst
        have hm : isM a.x = false := by
          cases hx : a.x with
          | m y => exact absurd hx (hnm y)
          | _ => rfl
        have hreg' : (match evG call e s a.o.dst a.g a.x with | some (e, s) => reg call st1 e s | none => none) = some (ef, sf) := hreg
        split at hreg'
        · rename_i e1 s1 hev
          obtain ⟨p, hp⟩ := pass C h ha hm hev
          obtain ⟨rest', pre', st', e', s', pend', k1, k2, k3, k4, k5⟩ := norm C l hp hst1 hreg'
          refine ⟨rest', pre', st', e', s', pend', k1, k2, k3, ?_, k5⟩
          rw [k4, opsOf_ev]; simp; omega
        · simp at hreg'
    · simp at hst

/-- Where all has been carried out. -/
theorem finish {st : List Stp} {e ef : E} {s sf : St} {listed : Array Bool} {ρ : Rho} {act : Act} {w : World} {pre : List Nat} (h : Inv nt ops infs cls order s0 ρ0 w0 pre [] e s [] none listed ρ act w) (hst : stepsOf infs cls pre [] = some st) (hreg : reg call st e s = some (ef, sf))
    {Q : Exit → Act → World → Prop} (hQ : ∀ a' w' ρ', ER ρ' ef a' → Rel ρ' sf w' → Go s0 ρ0 w0 sf ρ' w' → FrOk nt a' → Q .normal a' w') : Q .normal act w := by
  simp only [stepsOf, Option.some.injEq] at hst; subst hst
  have : some (e, s) = some (ef, sf) := hreg
  simp only [Option.some.injEq, Prod.mk.injEq] at this
  obtain ⟨rfl, rfl⟩ := this
  exact hQ act w ρ (fun t v hv => h.i1 t v hv fun p hp => by simp at hp) h.rel h.go h.fr

/-- Something may come up as long as not all is listed. -/
theorem progress (C : Ctx P ty ibs call nt ops infs cls prs order) {rest : List HS} {pre : List Nat} {e : E} {s : St} {pend : List Pd} {half : Option Hf} {listed : Array Bool} {ρ : Rho} {act : Act} {w : World} (h : Inv nt ops infs cls order s0 ρ0 w0 pre rest e s pend half listed ρ act w)
    (hready : Region.ready .any ops listed = []) : pend = [] ∧ half = none ∧ opsOf rest = [] := by
  have hall : ¬ ∃ i ∈ order, listed.getD i false = false := by
    intro hex
    obtain ⟨l1, i, l2, h1, h2, h3⟩ := first_unlisted order hex
    have hio : i ∈ order := by rw [h1]; simp
    have hin : i < ops.size := C.lt i hio
    obtain ⟨a, ha⟩ := C.all i hio
    have hop := (C.inf i a ha).1
    have : i ∈ Region.ready .any ops listed := by
      rw [mem_ready]
      refine ⟨by rw [getD_iff h.sz hin]; exact h3, a.o, hop, fun ed hed hb => ?_⟩
      exact h2 _ (C.topo l1 i l2 h1 a ha ed hed hb)
    rw [hready] at this
    simp at this
  have hun : ∀ i ∈ order, listed.getD i false = false → False := fun i hi hu => hall ⟨i, hi, hu⟩
  have key : ∀ i ∈ order, ((∃ p ∈ pend, p.i = i) ∨ (∃ hh, half = some hh ∧ hh.i = i) ∨ i ∈ opsOf rest) → False := fun i hi hh => by
    have := (h.lst i (C.lt i hi)).2 hh
    rw [getD_iff h.sz (C.lt i hi)] at this
    exact hun i hi this
  refine ⟨?_, ?_, ?_⟩
  · cases pend with
    | nil => rfl
    | cons p l => exact (key p.i (by rw [h.ord]; exact List.mem_append_left _ (h.pin p (List.mem_cons_self ..))) (.inl ⟨p, List.mem_cons_self .., rfl⟩)).elim
  · cases half with
    | none => rfl
    | some hh => exact (key hh.i (by rw [h.ord]; exact List.mem_append_left _ (h.hin hh rfl).1) (.inr (.inl ⟨hh, rfl, rfl⟩))).elim
  · cases hr : opsOf rest with
    | nil => rfl
    | cons i l => exact (key i (by rw [h.ord, hr]; simp) (.inr (.inr (by rw [hr]; exact List.mem_cons_self ..)))).elim

theorem opsOf_nil {infs : List Inf} {rest : List HS} (h : opsOf rest = []) : rest = [] := by
  cases rest with
  | nil => rfl
  | cons x l => cases x <;> simp [opsOf] at h

theorem main (C : Ctx P ty ibs call nt ops infs cls prs order) {ef : E} {sf : St} {Q : Exit → Act → World → Prop} (hQ : ∀ a' w' ρ', ER ρ' ef a' → Rel ρ' sf w' → Go s0 ρ0 w0 sf ρ' w' → FrOk nt a' → Q .normal a' w') :
    ∀ (fuel : Nat) (rest : List HS) (pre : List Nat) (st : List Stp) (e : E) (s : St) (pend : List Pd) (half : Option Hf) (listed : Array Bool) (ρ : Rho) (act : Act) (w : World),
    Inv nt ops infs cls order s0 ρ0 w0 pre rest e s pend half listed ρ act w → stepsOf infs cls pre rest = some st → reg call st e s = some (ef, sf) → pend.length + (opsOf rest).length + (if half.isSome then 1 else 0) ≤ fuel →
    wpAny P .any ops Q fuel listed act w := by
  have done : ∀ (rest : List HS) (pre : List Nat) (st : List Stp) (e : E) (s : St) (pend : List Pd) (half : Option Hf) (listed : Array Bool) (ρ : Rho) (act : Act) (w : World),
      Inv nt ops infs cls order s0 ρ0 w0 pre rest e s pend half listed ρ act w → stepsOf infs cls pre rest = some st → reg call st e s = some (ef, sf) → pend = [] ∧ half = none ∧ opsOf rest = [] → Q .normal act w := by
    rintro rest pre st e s pend half listed ρ act w h hst hreg ⟨rfl, rfl, hr⟩
    have := opsOf_nil (infs := infs) hr
    subst this
    exact finish h hst hreg hQ
  intro fuel
  induction fuel with
  | zero =>
    intro rest pre st e s pend half listed ρ act w h hst hreg hle
    have h1 : pend = [] := List.eq_nil_of_length_eq_zero (by omega)
    have h2 : half = none := by cases half with | none => rfl | some _ => simp at hle
    have h3 : opsOf rest = [] := List.eq_nil_of_length_eq_zero (by omega)
    refine ⟨?_, done rest pre st e s pend half listed ρ act w h hst hreg ⟨h1, h2, h3⟩⟩
    cases hr : Region.ready .any ops listed with
    | nil => rfl
    | cons i l =>
      have hi : i ∈ Region.ready .any ops listed := by rw [hr]; exact List.mem_cons_self ..
      rw [mem_ready] at hi
      obtain ⟨hu, o, ho, _⟩ := hi
      have hin : i < ops.size := (Array.getElem?_eq_some_iff.1 ho).1
      rcases (h.lst i hin).1 hu with ⟨p, hp, _⟩ | ⟨hh, hp, _⟩ | hp
      · rw [h1] at hp; simp at hp
      · rw [h2] at hp; cases hp
      · rw [h3] at hp; simp at hp
  | succ fuel ih =>
    intro rest pre st e s pend half listed ρ act w h hst hreg hle
    refine ⟨fun hr => done rest pre st e s pend half listed ρ act w h hst hreg (progress C h hr), fun i hi => ?_⟩
    rw [mem_ready] at hi
    obtain ⟨hu, o, ho, hrd⟩ := hi
    have hin : i < ops.size := (Array.getElem?_eq_some_iff.1 ho).1
    have hr : ∀ o, ops[i]? = some o → ∀ ed ∈ o.after, Region.binds .any ed = true → listed.getD ed.on false = true := by
      intro o' ho'; rw [ho] at ho'; simp only [Option.some.injEq] at ho'; subst ho'; exact hrd
    -- a pending one
    have exP : ∀ {rest : List HS} {pre : List Nat} {st : List Stp} {e : E} {s : St} {pend : List Pd} {half : Option Hf}, Inv nt ops infs cls order s0 ρ0 w0 pre rest e s pend half listed ρ act w → stepsOf infs cls pre rest = some st → reg call st e s = some (ef, sf) →
        pend.length + (opsOf rest).length + (if half.isSome then 1 else 0) ≤ fuel + 1 → (∃ p ∈ pend, p.i = i) → wpOp P ops Q i (wpAny P .any ops Q fuel (listed.setIfInBounds i true)) act w := by
      rintro rest pre st e s pend half h hst hreg hle ⟨p, hp, rfl⟩
      obtain ⟨l1, l2, rfl⟩ := List.append_of_mem hp
      refine exec_pd C h hr fun act' w' ρ' h' => ih rest pre st e s (l1 ++ l2) half _ ρ' act' w' h' hst hreg ?_
      simp only [List.length_append, List.length_cons] at hle ⊢
      omega
    cases half with
    | some hh =>
      rcases (h.lst i hin).1 hu with hp | ⟨hh', hp, rfl⟩ | hp
      · exact exP h hst hreg hle hp
      · simp only [Option.some.injEq] at hp; subst hp
        refine exec_half C h hr fun act' w' ρ' h' => ih rest pre st e s pend none _ ρ' act' w' h' hst hreg ?_
        simp at hle ⊢; omega
      · have hb := h.hp hh rfl i hp
        have := ready_cl h.dc (C.dep _ _ hb) hr
        have hho : hh.i ∈ order := by rw [h.ord]; exact List.mem_append_left _ (h.hin hh rfl).1
        have hun := (h.lst hh.i (C.lt _ hho)).2 (.inr (.inl ⟨hh, rfl, rfl⟩))
        rw [getD_iff h.sz (C.lt _ hho), this] at hun; cases hun
    | none =>
      obtain ⟨rest, pre, st, e, s, pend, h, hst, hreg, hlen, hhead⟩ := norm C rest h hst hreg
      have hle : pend.length + (opsOf rest).length + 0 ≤ fuel + 1 := by rw [hlen]; simpa using hle
      rcases (h.lst i hin).1 hu with hp | ⟨hh', hp, _⟩ | hp
      · exact exP h hst hreg (by simpa using hle) hp
      · cases hp
      · cases rest with
        | nil => simp [opsOf] at hp
        | cons x l =>
          cases x with
          | ev m =>
            obtain ⟨a, x, ha, hx⟩ := hhead
            unfold stepsOf at hst
            split at hst
            · rename_i a1 st1 ha1 hst1
              rw [ha] at ha1
              simp only [Option.some.injEq] at ha1; subst ha1
              rw [hx] at hst
              simp only at hst
              split at hst
              · rename_i haft
                simp only [Option.some.injEq] at hst; subst hst
                have hmo : m ∈ order := by rw [h.ord, opsOf_ev]; simp
                have him : i = m := by
                  rw [opsOf_ev] at hp
                  rcases List.mem_cons.1 hp with e' | hp
                  · exact e'
                  · have hb := List.all_eq_true.1 haft i hp
                    have := ready_cl h.dc (C.dep _ _ hb) hr
                    have hun := (h.lst m (C.lt _ hmo)).2 (.inr (.inr (by rw [opsOf_ev]; exact List.mem_cons_self ..)))
                    rw [getD_iff h.sz (C.lt _ hmo), this] at hun; cases hun
                subst him
                have hreg' : (match (match evG call e s a.o.dst a.g (.m x) with
                    | some (e, s) => bif chkR e s (rsOf infs cls i pre) && chkA e s (asOf infs cls i pre) then some (e, s) else none
                    | none => none) with | some (e, s) => reg call st1 e s | none => none) = some (ef, sf) := hreg
                split at hreg'
                · rename_i e1 s1 hst2
                  split at hst2
                  · rename_i e2 s2 hev
                    obtain ⟨hchk, hst2⟩ := cond_some hst2
                    simp only [Option.some.injEq, Prod.mk.injEq] at hst2
                    obtain ⟨rfl, rfl⟩ := hst2
                    obtain ⟨hR, hA⟩ := (Bool.and_eq_true _ _).mp hchk
                    refine exec_m C h ha hx hr hev hR hA fun act' w' ρ' h' => ih l (pre ++ [i]) st1 _ _ pend none _ ρ' act' w' h' hst1 hreg' ?_
                    rw [opsOf_ev] at hle
                    simp at hle ⊢; omega
                  · simp at hst2
                · simp at hreg'
              · simp at hst
            · simp at hst
          | e2 k1 k2 =>
            unfold stepsOf at hst
            split at hst
            · rename_i a c st1 ha hc hst1
              split at hst
              · rename_i n₁ a₁ v₁ n₂ a₂ v₂ hax hag had hcx hcg hcd
                split at hst
                · rename_i hcond
                  simp only [Option.some.injEq] at hst; subst hst
                  obtain ⟨hra, haft'⟩ := (Bool.and_eq_true _ _).mp hcond
                  have haft : ∀ q ∈ opsOf l, bt cls q k1 = true ∧ bt cls q k2 = true := fun q hq => by
                    have := List.all_eq_true.1 haft' q hq
                    exact (Bool.and_eq_true _ _).mp this
                  have hk1o : k1 ∈ order := by rw [h.ord, opsOf_e2]; simp
                  have hi12 : i = k1 ∨ i = k2 := by
                    rw [opsOf_e2] at hp
                    rcases List.mem_cons.1 hp with e' | hp
                    · exact .inl e'
                    · rcases List.mem_cons.1 hp with e' | hp
                      · exact .inr e'
                      · have hb := (haft i hp).1
                        have := ready_cl h.dc (C.dep _ _ hb) hr
                        have hun := (h.lst k1 (C.lt _ hk1o)).2 (.inr (.inr (by rw [opsOf_e2]; exact List.mem_cons_self ..)))
                        rw [getD_iff h.sz (C.lt _ hk1o), this] at hun; cases hun
                  have hreg' : (match stp call e s (.e2 n₁ a₁ v₁ n₂ a₂ v₂) with | some (e, s) => reg call st1 e s | none => none) = some (ef, sf) := hreg
                  split at hreg'
                  · rename_i e' s' hst2
                    simp only [stp] at hst2
                    split at hst2
                    · rename_i x₁ o₁ l₁ x₂ o₂ l₂ g1 g2 g3 g4
                      obtain ⟨hchk, hst2⟩ := cond_some hst2
                      obtain ⟨hchk, hl2⟩ := (Bool.and_eq_true _ _).mp hchk
                      obtain ⟨hdis, hl1⟩ := (Bool.and_eq_true _ _).mp hchk
                      have hl1 : l₁.length = n₁ := by have := Nat.eq_of_beq_eq_true hl1; rw [llen_eq] at this; exact this
                      have hl2 : l₂.length = n₂ := by have := Nat.eq_of_beq_eq_true hl2; rw [llen_eq] at this; exact this
                      have hdis : x₁ ≠ x₂ ∨ o₁ + l₁.length ≤ o₂ ∨ o₂ + l₂.length ≤ o₁ := by
                        rw [hl1, hl2]
                        rcases (Bool.or_eq_true _ _).mp hdis with hd | hd
                        · rcases (Bool.or_eq_true _ _).mp hd with hd | hd
                          · left; intro e'; rw [e'] at hd; simp at hd
                          · exact .inr (.inl (Nat.le_of_ble_eq_true hd))
                        · exact .inr (.inr (Nat.le_of_ble_eq_true hd))
                      split at hst2
                      · simp at hst2
                      · rename_i sp1 hsp1
                        split at hst2
                        · simp at hst2
                        · rename_i sp2 hsp2
                          split at hst2
                          · simp at hst2
                          · rename_i sq1 hsq1
                            split at hst2
                            · simp at hst2
                            · rename_i sq2 hsq2
                              simp only [Option.some.injEq, Prod.mk.injEq] at hst2
                              obtain ⟨rfl, rfl⟩ := hst2
                              have hrel : Rel ρ s w := h.rel
                              rw [← hl1] at hsp1
                              rw [← hl2] at hsp2
                              obtain ⟨p1, p2, p3, p4, ⟨b1, p5, p6, p7⟩, p8⟩ := prep_spec hrel hsp1
                              obtain ⟨q1, q2, q3, q4, ⟨b2, q5, q6, q7⟩, q8⟩ := prep_spec p1 hsp2
                              have hnb : sp2.nb = s.nb := q3.trans p3
                              have hno1 : NO sp2 x₁ o₁ l₁.length := p2.mono q8
                              have hf1 : ∀ b, sp2.h.get x₁ = some b → o₁ + l₁.length ≤ b.c.length := fun b hb => by
                                have := q8 _ _ hb
                                rw [p5] at this; simp only [Option.some.injEq] at this; subst this; exact p7
                              have hf2 : ∀ b, sp2.h.get x₂ = some b → o₂ + l₂.length ≤ b.c.length := fun b hb => by
                                rw [q5] at hb; simp only [Option.some.injEq] at hb; subst hb; exact q7
                              have hlen' : pend.length + (opsOf l).length + 1 ≤ fuel := by
                                rw [opsOf_e2] at hle
                                simp only [List.length_cons] at hle
                                omega
                              rcases hi12 with rfl | rfl
                              · exact exec_e2 C (.inl ⟨rfl, rfl⟩) h hra haft ha hc hax hag had hcx hcg hcd g1 g2 hl1 g3 g4 hl2 q1 hnb hno1 q2 hf1 hf2 hsq1 hsq2 ⟨rfl, rfl, fun _ => rfl, fun _ => rfl⟩ hr
                                  fun act' w' ρ' hh h' => ih l _ st1 _ _ pend (some hh) _ ρ' act' w' h' hst1 hreg' (by simpa using hlen')
                              · obtain ⟨sc, sd, r1, r2, r3⟩ := setc_comm hsq1 hsq2 hf1 hf2 hdis
                                exact exec_e2 C (.inr ⟨rfl, rfl⟩) h hra haft hc ha hcx hcg hcd hax hag had g3 g4 hl2 g1 g2 hl1 q1 hnb q2 hno1 hf2 hf1 r1 r2 r3 hr
                                  fun act' w' ρ' hh h' => ih l _ st1 _ _ pend (some hh) _ ρ' act' w' h' hst1 hreg' (by simpa using hlen')
                    · simp at hst2
                  · simp at hreg'
                · simp at hst
              · simp at hst
            · simp at hst

/-- What the checks give together. -/
theorem ctx_of (hty : TyOk P ty) (hib : IbsOk P ibs) (hcall : CallOk P call) {h : List HS} (hi : infsOf ty ibs nt ops ops.toList = some infs)
    (hc : (permOk ops.size (opsOf h) && pairsOk (pairOk infs (clsL ops.toList []) (prsOf h)) (opsOf h) && (opsOf h).all (selfOk infs (clsL ops.toList [])) && topoOk infs [] (opsOf h)) = true) :
    Ctx P ty ibs call nt ops infs (clsL ops.toList []) (prsOf h) (opsOf h) := by
  obtain ⟨hc, h4⟩ := (Bool.and_eq_true _ _).mp hc
  obtain ⟨hc, h3⟩ := (Bool.and_eq_true _ _).mp hc
  obtain ⟨h1, h2⟩ := (Bool.and_eq_true _ _).mp hc
  obtain ⟨m1, m2⟩ := perm_facts h1
  refine ⟨hty, hib, hcall, fun i a ha => ?_, m1, m2, nodup_of (fun i j hp => ?_) h2, fun i hi j hj hne => pairs_any h2 i hi j hj hne, fun pre rest e i hi j hj => pairs_mem h2 e i hi j hj, fun i hi => List.all_eq_true.1 h3 i hi, fun i j hb => bt_dep hb, fun pre i rest e a ha ed hed hb => ?_, fun i hi => ?_⟩
  · obtain ⟨k1, k2, k3, k4⟩ := infsOf_get hi i a ha
    exact ⟨by simpa using k1, k2, k3, k4⟩
  · obtain ⟨_, _, _, _, hne, _⟩ := pair_facts hp
    exact hne
  · simpa using topo_facts h4 e a ha ed hed hb
  · obtain ⟨a, ha, _⟩ := self_facts (List.all_eq_true.1 h3 i hi)
    exact ⟨a, ha⟩

theorem draw_ok (hm : P.follows .mixedOrders = true) (hty : TyOk P ty) (hib : IbsOk P ibs) (hcall : CallOk P call) : DrawOk P call nt (cDraw ty ibs nt) := by
  intro id ops x l hl e e' s s' ρ a w Q he hr hf hreg hQ
  unfold cDraw at hl
  split at hl
  · simp at hl
  · rename_i infs hi
    simp only at hl
    split at hl
    · rename_i hc
      have C := ctx_of hty hib hcall hi hc
      have hd : Rel ρ s { w with drawn := w.drawn + 1 } := hr.drew
      have hg : Go s ρ w s ρ { w with drawn := w.drawn + 1 } := (Go.refl s ρ w).drew
      refine wp_region_any hm ?_
      refine main (s0 := s) (ρ0 := ρ) (w0 := w) C hQ ops.size x [] l e s [] none _ ρ a _ ⟨hd, hg, hf, by simp, ?_, ?_, rfl, ?_, ?_, ?_, ?_, ?_, ?_, ?_, ?_, ?_, ?_, ?_, ?_⟩ hl hreg ?_
      · intro i hi'
        simp only [Array.getD_eq_getD_getElem?, Array.getElem?_replicate, hi', if_true, Option.getD_some, true_iff]
        exact .inr (.inr (C.mem i hi'))
      · intro i o ed h1
        simp only [Array.getD_eq_getD_getElem?, Array.getElem?_replicate] at h1
        split at h1 <;> simp at h1
      · intro p hp; simp at hp
      · intro hh hhe; cases hhe
      · simp
      · intro p hp; simp at hp
      · intro t v hv _; exact he t v hv
      · intro p hp; simp at hp
      · intro p hp; simp at hp
      · intro p hp; simp at hp
      · intro p hp; simp at hp
      · intro p hp; simp at hp
      · intro hh hhe; cases hhe
      · intro hh hhe; cases hhe
      · have : (opsOf x).length ≤ ops.size := by
          have := nodup_len C.nodup (m := List.range ops.size) fun i hi => List.mem_range.2 (C.lt i hi)
          simpa using this
        simpa using this
    · simp at hl
end
end Go.Ev
