/-
All operations that touch no memory, in one statement.
-/
import Derived.Test.YtjidglpldjcmdaaGreatEvZ
set_option linter.unusedVariables false
set_option linter.unusedSimpArgs false
set_option maxRecDepth 20000
namespace Go.Ev
open Go

theorem LR.of_vr0 {ρ : Rho} : ∀ {l : List V} {m : List Value}, LR (VR0 ρ) l m → LR (VR ρ) l m := fun h => h.mono fun _ _ => VR.of0

section
variable {P : Program} {ty : TypeId → Option TyI} {ibs : FuncId → Bool} {ρ : Rho} {e : E} {a : Act} (he : ER ρ e a) (w : World)
include he
theorem w_builtin (hty : TyOk P ty) {b : Builtin} {args : List Operand} {ts : Array TypeId} {l : List O} (hl : cOs args = some l) {q : W} (h : cBuiltin ty b l ts.toList = some (.w q)) {v : V} (hv : wv e q = some v) (type : TypeId) (cs : Array Bool) :
    ∃ cv, (builtin b ts type cs (args.map a.eval).toArray).run P w = .ok (.value cv) w ∧ VR ρ v cv := by
  have two : ∀ {x y : O}, cOs args = some [x, y] → ∃ x' y', args = [x', y'] ∧ cO x' = some x ∧ cO y' = some y := by
    intro x y h
    match args, h with
    | [x', y'], h =>
      unfold cOs at h
      split at h
      · rename_i y1 m1 h1 h2
        simp only [Option.some.injEq, List.cons.injEq] at h
        obtain ⟨rfl, rfl⟩ := h
        unfold cOs at h2
        split at h2
        · rename_i y2 m2 h3 h4
          simp only [Option.some.injEq, List.cons.injEq] at h2
          obtain ⟨rfl, _⟩ := h2
          exact ⟨x', y', rfl, h1, h3⟩
        · simp at h2
      · simp at h
    | [], h => simp [cOs] at h
    | [x'], h => unfold cOs at h; split at h <;> simp_all [cOs]
    | x' :: y' :: z' :: r, h =>
      unfold cOs at h
      split at h
      · rename_i y1 m1 h1 h2
        simp only [Option.some.injEq, List.cons.injEq] at h
        obtain ⟨rfl, rfl⟩ := h
        unfold cOs at h2
        split at h2
        · rename_i y2 m2 h3 h4
          simp only [Option.some.injEq, List.cons.injEq] at h2
          obtain ⟨rfl, rfl⟩ := h2
          unfold cOs at h4
          split at h4 <;> simp at h4
        · simp at h2
      · simp at h
  have one : ∀ {x : O}, cOs args = some [x] → ∃ x', args = [x'] ∧ cO x' = some x := by
    intro x h
    match args, h with
    | [x'], h =>
      unfold cOs at h
      split at h
      · rename_i y1 m1 h1 h2
        simp only [Option.some.injEq, List.cons.injEq] at h
        obtain ⟨rfl, rfl⟩ := h
        exact ⟨x', rfl, h1⟩
      · simp at h
    | [], h => simp [cOs] at h
    | x' :: y' :: r, h =>
      unfold cOs at h
      split at h
      · rename_i y1 m1 h1 h2
        simp only [Option.some.injEq, List.cons.injEq] at h
        obtain ⟨rfl, rfl⟩ := h
        unfold cOs at h2
        split at h2 <;> simp at h2
      · simp at h
  unfold cBuiltin at h
  split at h
  · rename_i x t ht
    obtain ⟨x', rfl, hx⟩ := one hl
    have ht' : ts = #[t] := by rw [← Array.toArray_toList (xs := ts), ht]
    subst ht'
    split at h
    · rename_i i hi
      have hu := hty.under hi
      split at h <;> simp only [Option.some.injEq, reduceCtorEq, MO.w.injEq] at h <;> subst h
      · rename_i hd
        rw [hd] at hu
        simp only [wv] at hv
        split at hv
        · rename_i l' h1
          obtain ⟨bs, r1, r2⟩ := he.at hx h1
          simp only [Option.some.injEq] at hv; subst hv
          refine ⟨.int .i64 bs.size, ?_, ?_⟩
          · simp only [List.map_cons, List.map_nil, r1]
            unfold builtin Builtin.len_
            simp [run_under hu, goInt]
          · show _ = _
            rw [llen_eq, ← r2, List.length_map]
            rfl
        · simp at hv
      · rename_i el hd
        rw [hd] at hu
        simp only [wv] at hv
        split at hv <;> simp only [Option.some.injEq, reduceCtorEq] at hv <;> subst hv
        · rename_i h1
          refine ⟨.int .i64 0, ?_, rfl⟩
          rw [show List.map a.eval [x'] = [.slice none 0 0] by simp; exact he.at hx h1]
          unfold builtin Builtin.len_
          simp [run_under hu, goInt]
        · rename_i bl o n sz full h1
          obtain ⟨cb, sh, zz, ad, cap, r1, r2, _⟩ := he.at hx h1
          refine ⟨.int .i64 n, ?_, rfl⟩
          simp only [List.map_cons, List.map_nil, r2]
          unfold builtin Builtin.len_
          simp [run_under hu, goInt]
    · simp at h
  · rename_i x y _
    simp only [Option.some.injEq, MO.w.injEq] at h; subst h
    obtain ⟨x', y', rfl, hx, hy⟩ := two hl
    simp only [wv] at hv
    split at hv
    · rename_i p q h1 h2
      simp only [Option.some.injEq] at hv; subst hv
      refine ⟨.int .i64 (if q < p then q else p), ?_, ?_⟩
      · rw [show List.map a.eval [x', y'] = [.int .i64 p, .int .i64 q] by simp; exact ⟨he.at hx h1, he.at hy h2⟩]
        unfold builtin Builtin.min_
        simp [Builtin.min2]
      · show _ = _
        simp only [cond_false, ile_eq]
        congr 1
        by_cases hc : p ≤ q
        · simp [hc, show ¬ q < p by omega]
        · simp [hc, show q < p by omega]
    · simp at hv
  · rename_i x y _
    simp only [Option.some.injEq, MO.w.injEq] at h; subst h
    obtain ⟨x', y', rfl, hx, hy⟩ := two hl
    simp only [wv] at hv
    split at hv
    · rename_i p q h1 h2
      simp only [Option.some.injEq] at hv; subst hv
      refine ⟨.int .i64 (if q > p then q else p), ?_, ?_⟩
      · rw [show List.map a.eval [x', y'] = [.int .i64 p, .int .i64 q] by simp; exact ⟨he.at hx h1, he.at hy h2⟩]
        unfold builtin Builtin.max_
        simp [Builtin.max2]
      · show _ = _
        simp only [cond_true, ile_eq]
        congr 1
        by_cases hc : q ≤ p
        · simp [hc, show ¬ q > p by omega]
        · simp [hc, show q > p by omega]
    · simp at hv
  · split at h
    · split at h <;> simp at h
    · simp at h
  · split at h
    · split at h <;> simp at h
    · simp at h
  · simp at h
end
end Go.Ev
