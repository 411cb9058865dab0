/-
One operation, whatever its kind.
-/
import Derived.Test.YtjidglpldjcmdaaGreatEvQ
set_option linter.unusedVariables false
set_option linter.unusedSimpArgs false
set_option maxRecDepth 20000
namespace Go.Ev
open Go

theorem clear_sound {P : Program} {ty : TypeId → Option TyI} (hty : TyOk P ty) {t el : TypeId} {j : TyI} (hu : P.underlying t = some (.slice el)) (hj : ty el = some j) (hzl : j.z.length = j.sz) {ρ : Rho} {s s' : St} {w : World} (h : Rel ρ s w)
    {x : S} {cx : Value} (hx : SR ρ x cx) {v : V} (hv : clrv s j.sz j.z x = some (v, s')) (ty' : TypeId) :
    ∃ cv w', (Builtin.clear_ #[t] ty' #[cx]).run P w = .ok cv w' ∧ VR ρ v cv ∧ Rel ρ s' w' ∧ Go s ρ w s' ρ w' := by
  obtain ⟨inf, zv, hi1, hi2, hi3, hi4, hi5⟩ := hty.info hj
  have hzs : zv.cells.size = j.sz := by
    have := (valL_lr ρ hi5).length
    rw [← hzl, this]; simp
  unfold clrv at hv
  split at hv
  · simp only [Option.some.injEq, Prod.mk.injEq] at hv
    obtain ⟨rfl, rfl⟩ := hv
    have hx' : cx = .slice none 0 0 := hx
    subst hx'
    refine ⟨.tuple #[], w, ?_, trivial, h, Go.refl _ _ _⟩
    unfold Builtin.clear_
    simp [run_under hu]
  · rename_i bl o n sz' full
    replace hv := cond_some hv
    obtain ⟨h1, hv⟩ := hv
    rw [nbeq, beq_iff_eq] at h1
    subst h1
    obtain ⟨cb, sh, zz, ad, cap, r1, r2, r3, r4, r5, r6, r7⟩ := hx
    subst r2
    by_cases hn : n = 0
    · subst hn
      simp only [nbeq, beq_self_eq_true, cond_true, Option.some.injEq, Prod.mk.injEq] at hv
      obtain ⟨rfl, rfl⟩ := hv
      refine ⟨.tuple #[], w, ?_, trivial, h, Go.refl _ _ _⟩
      unfold Builtin.clear_
      simp [run_under hu]
    · have : Nat.beq n 0 = false := by rw [nbeq]; simpa using hn
      rw [this, cond_false] at hv
      split at hv
      · rename_i s1 hs
        simp only [Option.some.injEq, Prod.mk.injEq] at hv
        obtain ⟨rfl, rfl⟩ := hv
        have hl := lrep_lr (valL_lr ρ hi5) n
        obtain ⟨_, w', k1, k2, k3⟩ := store_cells (P := P) h hs r1 hl
        refine ⟨.tuple #[], w', ?_, trivial, k2, k3⟩
        have had : ad = ⟨cb, sh + o, none⟩ := r5 (by omega)
        subst had
        unfold Builtin.clear_
        obtain ⟨n', rfl⟩ : ∃ n', n = n' + 1 := ⟨n - 1, by omega⟩
        simp only [Sem.run_bind, run_under hu, Result.andThen_ok, List.getElem?_toArray, List.getElem?_cons_zero, Sem.run_pure]
        simp only [run_zero hi1 hi4, Result.andThen_ok, Sem.run_bind]
        rw [show (Builtin.zeroCells zv.cells (n' + 1)).toList = ((Array.range ((n' + 1) * zv.cells.size)).map (zv.cells[· % zv.cells.size]!)).toList from rfl, k1]
        rfl
      · simp at hv
  · simp at hv

/-- What is asked of the calls that the evaluator makes. -/
def CallOk (P : Program) (call : Nat → List V → St → Option (V × St)) : Prop :=
  ∀ g vs s v s', call g vs s = some (v, s') → ∀ (ρ : Rho) (w : World) (cargs : List Value), LR (VR ρ) vs cargs → Rel ρ s w →
    (callFunc g cargs.toArray).run P w = .ok (.enter g cargs.toArray) w ∧
    Calls P g cargs.toArray w fun e w' => ∃ cv ρ', e = .returned cv ∧ VR ρ' v cv ∧ Rel ρ' s' w' ∧ Go s ρ w s' ρ' w'

section
variable {P : Program} {ty : TypeId → Option TyI} {ibs : FuncId → Bool} {call : Nat → List V → St → Option (V × St)}

theorem Oper.wp_value {o : Oper} {a : Act} {w w' : World} {next : Act → World → Prop} {Q : Exit → Act → World → Prop} {cv : Value} (h : (execOp a.eval o).run P w = .ok (.value cv) w') (hn : next (a.put o.dst cv) w') : o.wp P a w next Q := by
  unfold Oper.wp; rw [h]; exact hn
theorem Oper.wp_skip {o : Oper} {a : Act} {w w' : World} {next : Act → World → Prop} {Q : Exit → Act → World → Prop} (h : (execOp a.eval o).run P w = .ok .skip w') (hn : next (a.put o.dst undef) w') : o.wp P a w next Q := by
  unfold Oper.wp; rw [h]; exact hn
theorem Oper.wp_enter {o : Oper} {a : Act} {w w' : World} {next : Act → World → Prop} {Q : Exit → Act → World → Prop} {f : FuncId} {args : Array Value} (h : (execOp a.eval o).run P w = .ok (.enter f args) w') {R : Ending → World → Prop}
    (hc : Calls P f args w' R) (hn : ∀ e w'', R e w'' → ∃ cv, e = .returned cv ∧ next (a.put o.dst cv) w'') : o.wp P a w next Q := by
  unfold Oper.wp; rw [h]
  refine Calls.mono hc fun e w'' hr => ?_
  obtain ⟨cv, rfl, h2⟩ := hn e w'' hr
  exact h2

theorem lr_ptrs {ρ : Rho} : ∀ {cs : List (Nat × Nat)} {vs : List Value}, LR (fun (c : Nat × Nat) v => PR ρ c.1 c.2 v) cs vs → LR (VR ρ) (cs.map fun c => V.c (.p c.1 c.2)) vs
  | [], [], _ => trivial
  | _ :: _, _ :: _, h => ⟨h.1, lr_ptrs h.2⟩
  | [], _ :: _, h => h.elim
  | _ :: _, [], h => h.elim

/-- An operation that may write. -/
theorem mv_sound (hty : TyOk P ty) (hcall : CallOk P call) {o : Oper} {x : M} (h : cMO ty ibs o.op = some (.m x)) {ρ : Rho} {e : E} {a : Act} (he : ER ρ e a) {s s' : St} {w : World} (hr : Rel ρ s w) {v : V} (hv : mv call e s x = some (v, s'))
    {next : Act → World → Prop} {Q : Exit → Act → World → Prop} (hn : ∀ cv w' ρ', VR ρ' v cv → Rel ρ' s' w' → Go s ρ w s' ρ' w' → next (a.put o.dst cv) w') : o.wp P a w next Q := by
  obtain ⟨dst, op, type, pos, after, guard⟩ := o
  cases op
  case store t y z =>
    simp only [cMO] at h
    split at h <;> simp only [Option.some.injEq, reduceCtorEq, MO.m.injEq] at h
    rename_i i y' z' hi hy hz
    subst h
    obtain ⟨inf, zv, hi1, hi2, hi3, hi4, hi5⟩ := hty.info hi
    simp only [mv] at hv
    split at hv
    · rename_i bl o l h1 h2
      split at hv
      · rename_i s1 hs
        simp only [Option.some.injEq, Prod.mk.injEq] at hv
        obtain ⟨rfl, rfl⟩ := hv
        obtain ⟨cb, sh, zz, r1, r2⟩ := he.at hy h1
        have hl := VR.cells (he.ov hz) h2
        obtain ⟨k0, w', k1, k2, k3⟩ := store_cells (P := P) hr hs r1 hl
        refine Oper.wp_skip (w' := w') ?_ (hn undef w' ρ trivial k2 k3)
        have : (Instr.storeAt t (a.eval y) (a.eval z)).run P w = .ok () w' := by
          unfold Instr.storeAt storeVar
          simp only [r2, Instr.sureAddr, Sem.run_bind, Sem.run_pure, Result.andThen_ok, run_size hi1]
          rw [if_neg (by rw [hi2, ← k0]; simp)]
          exact k1
        simp only [execOp, Sem.run_bind, this, Result.andThen_ok]
        rfl
      · simp at hv
    · simp at hv
  case call c =>
    simp only [cMO] at h
    split at h
    · rename_i l hl
      split at h
      · rename_i b hc
        unfold cBuiltin at h
        split at h
        · split at h
          · split at h <;> simp at h
          · simp at h
        · simp at h
        · simp at h
        · rename_i x' y' t t' ht
          split at h
          · rename_i j j' hj hj'
            split at h
            · simp at h
            · rename_i hcc
              simp only [not_or, Decidable.not_not] at hcc
              obtain ⟨hz, rfl, hzl⟩ := hcc
              simp only [Option.some.injEq, MO.m.injEq] at h; subst h
              obtain ⟨el, hu, hje⟩ := hty.elem hj
              obtain ⟨x1, y1, ha, hx1, hy1⟩ := cOs_two hl
              simp only [mv] at hv
              have hux : Ev.os e x' ≠ .un := by
                intro hh
                rw [hh] at hv
                unfold app at hv
                split at hv
                · simp at hv
                · split at hv
                  · split at hv <;> simp_all
                  · split at hv <;> simp_all
              have huy : Ev.os e y' ≠ .un := by
                intro hh
                rw [hh] at hv
                simp [app, newsOf] at hv
              obtain ⟨cv, w', ρ', k1, k2, k3, k4⟩ := app_sound hty hu hje hz hzl hr (he.os hx1 rfl hux) (he.os hy1 rfl huy) hv type
              refine Oper.wp_value (w' := w') ?_ (hn cv w' ρ' k2 k3 k4)
              rw [show execOp a.eval ⟨dst, .call c, type, pos, after, guard⟩ = (do let d ← resolve a.eval c type; invoke d.target d.args) from rfl, exec_builtin hc]
              rw [show c.args.map a.eval = #[a.eval x1, a.eval y1] by rw [← Array.toArray_toList (xs := c.args), ha]; simp]
              rw [show c.argTypes = #[t, t] by rw [← Array.toArray_toList (xs := c.argTypes), ht]]
              unfold builtin
              simp only [Sem.run_bind, k1, Result.andThen_ok, Sem.run_pure]
          · simp at h
        · rename_i x' t ht
          split at h
          · rename_i j hj
            split at h
            · simp at h
            · rename_i hcc
              simp only [not_or, Decidable.not_not] at hcc
              obtain ⟨hz, hzl⟩ := hcc
              simp only [Option.some.injEq, MO.m.injEq] at h; subst h
              obtain ⟨el, hu, hje⟩ := hty.elem hj
              obtain ⟨x1, ha, hx1⟩ : ∃ x1, c.args.toList = [x1] ∧ cO x1 = some x' := by
                match hargs : c.args.toList, hl with
                | [x1], hl =>
                  unfold cOs at hl
                  split at hl
                  · rename_i y1 m1 h1 h2
                    simp only [Option.some.injEq, List.cons.injEq] at hl
                    obtain ⟨rfl, rfl⟩ := hl
                    exact ⟨x1, rfl, h1⟩
                  · simp at hl
                | [], hl => simp [cOs] at hl
                | x1 :: y1 :: r, hl =>
                  unfold cOs at hl
                  split at hl
                  · rename_i y1 m1 h1 h2
                    simp only [Option.some.injEq, List.cons.injEq] at hl
                    obtain ⟨rfl, rfl⟩ := hl
                    unfold cOs at h2
                    split at h2 <;> simp at h2
                  · simp at hl
              simp only [mv] at hv
              have hux : Ev.os e x' ≠ .un := by
                intro hh
                rw [hh] at hv
                simp [clrv] at hv
              obtain ⟨cv, w', k1, k2, k3, k4⟩ := clear_sound hty hu hje hzl hr (he.os hx1 rfl hux) hv type
              refine Oper.wp_value (w' := w') ?_ (hn cv w' ρ k2 k3 k4)
              rw [show execOp a.eval ⟨dst, .call c, type, pos, after, guard⟩ = (do let d ← resolve a.eval c type; invoke d.target d.args) from rfl, exec_builtin hc]
              rw [show c.args.map a.eval = #[a.eval x1] by rw [← Array.toArray_toList (xs := c.args), ha]; simp]
              rw [show c.argTypes = #[t] by rw [← Array.toArray_toList (xs := c.argTypes), ht]]
              unfold builtin
              simp only [Sem.run_bind, k1, Result.andThen_ok, Sem.run_pure]
          · simp at h
        · simp at h
      · rename_i f hc
        split at h
        · split at h <;> simp at h
        · simp only [Option.some.injEq, MO.m.injEq] at h; subst h
          simp only [mv] at hv
          obtain ⟨k1, k2⟩ := hcall _ _ _ _ _ hv ρ w _ (he.ovs hl) hr
          refine Oper.wp_enter (w' := w) ?_ k2 ?_
          · rw [show execOp a.eval ⟨dst, .call c, type, pos, after, guard⟩ = (do let d ← resolve a.eval c type; invoke d.target d.args) from rfl, exec_call hc rfl]
            rw [show c.args.map a.eval = (c.args.toList.map a.eval).toArray by rw [← Array.toList_map]]
            exact k1
          · rintro e' w'' ⟨cv, ρ', rfl, k3, k4, k5⟩
            exact ⟨cv, rfl, hn cv w'' ρ' k3 k4 k5⟩
      · rename_i fx hne hc
        simp only [Option.map_eq_some_iff] at h
        obtain ⟨f', hf, h⟩ := h
        simp only [MO.m.injEq] at h; subst h
        simp only [mv] at hv
        split at hv
        · rename_i g cs h1
          obtain ⟨arr, r1, r2⟩ := he.at hf h1
          rw [lapp_eq] at hv
          obtain ⟨k1, k2⟩ := hcall _ _ _ _ _ hv ρ w _ ((he.ovs hl).append (lr_ptrs r2)) hr
          refine Oper.wp_enter (w' := w) ?_ k2 ?_
          · rw [show execOp a.eval ⟨dst, .call c, type, pos, after, guard⟩ = (do let d ← resolve a.eval c type; invoke d.target d.args) from rfl]
            unfold resolve
            simp only [hc, r1, Deferred.ofValue, Sem.run_bind, Sem.run_pure, Result.andThen_ok, invoke]
            rw [show #[] ++ c.args.map a.eval ++ arr = (c.args.toList.map a.eval ++ arr.toList).toArray by simp]
            exact k1
          · rintro e' w'' ⟨cv, ρ', rfl, k3, k4, k5⟩
            exact ⟨cv, rfl, hn cv w'' ρ' k3 k4 k5⟩
        · simp at hv
      · simp at h
    · simp at h
  case makeFunc fn first caps =>
    cases fn <;> simp only [cMO, reduceCtorEq] at h
    split at h <;> simp at h
  all_goals
    first
      | (simp only [cMO, reduceCtorEq] at h; done)
      | (simp only [cMO, Option.map_eq_some_iff, reduceCtorEq, and_false, exists_false] at h; done)
      | (simp only [cMO] at h; (repeat' split at h) <;> simp at h; done)

/-- One operation. -/
theorem mo_sound (hty : TyOk P ty) (hib : IbsOk P ibs) (hcall : CallOk P call) {o : Oper} {x : MO} (h : cMO ty ibs o.op = some x) {ρ : Rho} {e : E} {a : Act} (he : ER ρ e a) {s s' : St} {w : World} (hr : Rel ρ s w) {v : V} (hv : mo call e s x = some (v, s'))
    {next : Act → World → Prop} {Q : Exit → Act → World → Prop} (hn : ∀ cv w' ρ', VR ρ' v cv → Rel ρ' s' w' → Go s ρ w s' ρ' w' → next (a.put o.dst cv) w') : o.wp P a w next Q := by
  obtain ⟨dst, op, type, pos, after, guard⟩ := o
  cases x with
  | w x =>
    simp only [mo] at hv
    split at hv
    · rename_i v' hv'
      simp only [Option.some.injEq, Prod.mk.injEq] at hv
      obtain ⟨rfl, rfl⟩ := hv
      obtain ⟨cv, h1, h2⟩ := wv_sound hty hib h he hv' dst type pos after guard w
      exact Oper.wp_value h1 (hn cv w ρ h2 hr (Go.refl _ _ _))
    · simp at hv
  | r x =>
    simp only [mo] at hv
    split at hv
    · rename_i v' hv'
      simp only [Option.some.injEq, Prod.mk.injEq] at hv
      obtain ⟨rfl, rfl⟩ := hv
      obtain ⟨cv, h1, h2⟩ := rv_sound hty h he hr hv' dst type pos after guard
      exact Oper.wp_value h1 (hn cv w ρ h2 hr (Go.refl _ _ _))
    · simp at hv
  | a x =>
    simp only [mo] at hv
    split at hv
    · rename_i l f hv'
      simp only [Option.some.injEq, Prod.mk.injEq] at hv
      obtain ⟨rfl, rfl⟩ := hv
      obtain ⟨cv, cells, el, h1, h2, h3⟩ := av_sound hty h he hv' dst type pos after guard w
      obtain ⟨k1, k2⟩ := hr.alloc h2 el
      exact Oper.wp_value h1 (hn cv _ _ (h3 _ _ (Rho.with_at _ _ _)) k1 k2)
    · simp at hv
  | m x => exact mv_sound hty hcall h he hr hv hn
end
end Go.Ev
