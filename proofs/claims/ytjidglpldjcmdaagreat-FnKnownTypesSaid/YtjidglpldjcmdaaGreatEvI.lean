/-
Functions: a call that the evaluator carries out is carried out by the model, with what the evaluator yields.
-/
import Derived.Test.YtjidglpldjcmdaaGreatEvG
set_option linter.unusedVariables false
set_option linter.unusedSimpArgs false
set_option maxRecDepth 20000
namespace Go.Ev
open Go

section
variable (ty : TypeId → Option TyI) (ibs : FuncId → Bool) (cDraw : Nat → Array Oper → List HS → Option (List Stp))
def cRes : List ResultVar → Option (List MRes)
  | [] => some []
  | .tmp t :: l => match cRes l with | some m => some (.t t :: m) | none => none
  | .cell a t :: l => match ty t, cRes l with | some i, some m => some (.c (if isAggD i.u then some i.sz else none) a :: m) | _, _ => none
noncomputable def cFn (h : List (List HS)) (f : Func) : Option MFn :=
  match f.body with
  | none => none
  | some c => match cCode ty ibs f.ntmps (cDraw f.ntmps) c h, cRes ty f.results.toList with
    | some (m, []), some r => if f.name == "runtime.NumGoroutine" then none else some ⟨m, r⟩
    | _, _ => none
end

theorem get_initE : ∀ (vs : List V) (k t : Nat), (initE vs k).get t = if k ≤ t then vs[t - k]? else none
  | [], k, t => by
    show (T.lf : T V).get t = _
    rw [T.get_lf]; simp
  | v :: vs, k, t => by
    show (T.upd (some v) (initE vs (Nat.succ k)) k).get t = _
    rw [T.get_upd, get_initE vs]
    by_cases h : t = k
    · subst h; simp
    · rw [if_neg h]
      by_cases h2 : k ≤ t
      · rw [if_pos h2, if_pos (by omega)]
        rw [show t - k = (t - Nat.succ k) + 1 by omega]
        simp
      · rw [if_neg h2, if_neg (by omega)]

theorem run_loadVar_ld {P : Program} {ty : TypeId → Option TyI} (hty : TyOk P ty) {t : TypeId} {i : TyI} (hi : ty t = some i) {ρ : Rho} {s : St} {w : World} (h : Rel ρ s w) {e : E} {a : Act} (he : ER ρ e a) {tm : Tmp} {v : V}
    (hv : ldv s (if isAggD i.u then some i.sz else none) (os e (.t tm)) = some v) :
    ∃ cv, ((do loadVar t (← asAddr (a.tmps.getD tm undef))) : Sem Value).run P w = .ok cv w ∧ VR ρ v cv := by
  have hu : os e (.t tm) ≠ .un := by intro hh; rw [hh] at hv; simp [ldv] at hv
  have hq := he.os (x := .tmp tm) (y := .t tm) rfl rfl hu
  obtain ⟨cv, ad, h1, h2, h3⟩ := ld_sound hty hi h hq hv
  refine ⟨cv, ?_, h3⟩
  have h1' : a.tmps.getD tm undef = .pointer (some ad) := h1
  simp only [h1', asAddr, Sem.run_bind, Sem.run_pure, Result.andThen_ok, h2]

theorem ldv_not_t {s : St} {n : Option Nat} {q : S} {v : V} (h : ldv s n q = some v) : ∀ (ρ : Rho) cv, VR ρ v cv → VR0 ρ v cv := by
  intro ρ cv hv
  unfold ldv at h
  split at h
  · split at h
    · split at h
      · split at h
        · simp only [Option.some.injEq] at h; subst h; exact hv
        · simp at h
      · simp at h
    · split at h
      · simp only [Option.some.injEq] at h; subst h; exact hv
      · simp at h
  · simp at h

/-- One result of a function. -/
def resOne (tmps : Array Value) : ResultVar → Sem Value
  | .tmp t => pure (tmps.getD t undef)
  | .cell p t => do loadVar t (← asAddr (tmps.getD p undef))
theorem results_eq (f : Func) (tmps : Array Value) : Go.results f tmps = (do let vs ← f.results.mapM (resOne tmps); pure (if h : vs.size = 1 then vs[0] else .tuple vs)) := rfl
theorem resL_sound {P : Program} {ty : TypeId → Option TyI} (hty : TyOk P ty) {ρ : Rho} {s : St} {w : World} (h : Rel ρ s w) {e : E} {a : Act} (he : ER ρ e a) :
    ∀ {rs : List ResultVar} {ms : List MRes} {vs : List V}, cRes ty rs = some ms → resL e s ms = some vs →
      ∃ cs : List Value, (rs.mapM (resOne a.tmps)).run P w = .ok cs w ∧ LR (VR0 ρ) vs cs
  | [], ms, vs, hc, hv => by
    simp only [cRes, Option.some.injEq] at hc; subst hc
    have : some [] = some vs := hv
    simp only [Option.some.injEq] at this; subst this
    exact ⟨[], by simp, trivial⟩
  | r :: rs, ms, vs, hc, hv => by
    have step : ∀ {m : MRes} {l : List MRes}, resL e s (m :: l) = some vs → ∃ v vs', resv e s m = some v ∧ resL e s l = some vs' ∧ vs = v :: vs' := by
      intro m l hh
      have hh' : (match resv e s m, resL e s l with | some v, some l => some (v :: l) | _, _ => none) = some vs := hh
      split at hh'
      · rename_i v l' h1 h2
        simp only [Option.some.injEq] at hh'
        exact ⟨v, l', h1, h2, hh'.symm⟩
      · simp at hh'
    cases r with
    | tmp t =>
      simp only [cRes] at hc
      split at hc
      · rename_i l hl
        simp only [Option.some.injEq] at hc; subst hc
        obtain ⟨v, vs', h1, h2, rfl⟩ := step hv
        obtain ⟨cs, h3, h4⟩ := resL_sound hty h he hl h2
        refine ⟨a.tmps.getD t undef :: cs, by simp only [List.mapM_cons, resOne, Sem.run_bind, Sem.run_pure, Result.andThen_ok, h3], ?_, h4⟩
        have h5 := he.ov (x := .tmp t) (y := .t t) rfl
        simp only [resv] at h1
        cases hov : ov e (.t t) with
        | t q => rw [hov] at h1; simp at h1
        | o => rw [hov] at h1 h5; simp only [Option.some.injEq] at h1; subst h1; trivial
        | c q => rw [hov] at h1 h5; simp only [Option.some.injEq] at h1; subst h1; exact h5
        | a q => rw [hov] at h1 h5; simp only [Option.some.injEq] at h1; subst h1; exact h5
      · simp at hc
    | cell p t =>
      simp only [cRes] at hc
      split at hc
      · rename_i i l hi hl
        simp only [Option.some.injEq] at hc; subst hc
        obtain ⟨v, vs', h1, h2, rfl⟩ := step hv
        obtain ⟨cs, h3, h4⟩ := resL_sound hty h he hl h2
        obtain ⟨cv, h5, h6⟩ := run_loadVar_ld hty hi h he h1
        refine ⟨cv :: cs, ?_, ldv_not_t h1 _ _ h6, h4⟩
        have h5' : (resOne a.tmps (.cell p t)).run P w = .ok cv w := h5
        simp only [List.mapM_cons, Sem.run_bind, h5', Result.andThen_ok, h3, Sem.run_pure]
      · simp at hc

theorem results_sound {P : Program} {ty : TypeId → Option TyI} (hty : TyOk P ty) {ρ : Rho} {s s' : St} {w : World} (h : Rel ρ s w) {e : E} {a : Act} (he : ER ρ e a) {f : Func} {ms : List MRes} (hc : cRes ty f.results.toList = some ms) {v : V} (hv : Ev.results e s ms = some (v, s')) :
    s' = s ∧ ∃ cv, (Go.results f a.tmps).run P w = .ok cv w ∧ VR ρ v cv := by
  unfold Ev.results at hv
  have run : ∀ {vs : List V} , resL e s ms = some vs → ∃ cs : List Value, LR (VR0 ρ) vs cs ∧ (Go.results f a.tmps).run P w = .ok (if hh : cs.toArray.size = 1 then cs.toArray[0] else .tuple cs.toArray) w := by
    intro vs hvs
    obtain ⟨cs, h1, h2⟩ := resL_sound hty h he hc hvs
    refine ⟨cs, h2, ?_⟩
    rw [results_eq, Array.mapM_eq_mapM_toList]
    simp only [Sem.run_bind, Sem.run_map, h1, Result.andThen_ok]
    rfl
  split at hv
  · rename_i v1 hl
    simp only [Option.some.injEq, Prod.mk.injEq] at hv
    obtain ⟨rfl, rfl⟩ := hv
    obtain ⟨cs, h1, h2⟩ := run hl
    match cs, h1, h2 with
    | [c], h1, h2 => exact ⟨rfl, c, by simpa using h2, VR.of0 h1.1⟩
    | [], h1, _ => exact h1.elim
    | _ :: _ :: _, h1, _ => exact h1.2.elim
  · rename_i l hne hl
    simp only [Option.some.injEq, Prod.mk.injEq] at hv
    obtain ⟨rfl, rfl⟩ := hv
    obtain ⟨cs, h1, h2⟩ := run hl
    refine ⟨rfl, .tuple cs.toArray, ?_, cs.toArray, rfl, by simpa using h1⟩
    rw [h2, dif_neg]
    intro hh
    have hlen := h1.length
    match l, hne, hlen with
    | [], _, hlen => simp at hlen hh; omega
    | [v], hne, _ => exact hne v rfl
    | _ :: _ :: _, _, hlen => simp at hlen hh; omega
  · simp at hv

/-- The table's functions are the program's. -/
def TblOk (P : Program) (ty : TypeId → Option TyI) (ibs : FuncId → Bool) (cDraw : Nat → Array Oper → List HS → Option (List Stp)) (tbl : T MFn) : Prop :=
  ∀ g f, tbl.get g = some f → ∃ fn h, P.funcs[g]? = some fn ∧ cFn ty ibs cDraw h fn = some f

theorem fn_sound {P : Program} {ty : TypeId → Option TyI} {ibs : FuncId → Bool} {cDraw : Nat → Array Oper → List HS → Option (List Stp)} (hty : TyOk P ty) (hib : IbsOk P ibs) {tbl : T MFn} (htbl : TblOk P ty ibs cDraw tbl) (N : Nat)
    (hdraw : ∀ call nt, CallOk P call → DrawOk P call nt (cDraw nt)) {ext : Nat → List V → St → Option (V × St)} (hext : CallOk P ext) : ∀ d, CallOk P (fn tbl N ext d)
  | 0 => fun g vs s v s' h => by
    have : none = some (v, s') := h
    simp at this
  | d + 1 => fun g vs s v s' h ρ w cargs hl hr => by
    have ih := fn_sound hty hib htbl N hdraw hext d
    have h' : (match tbl.get g with
      | none => ext g vs s
      | some f => match ev (fn tbl N ext d) N f.body (initE vs 0) s with
        | .no e s => Ev.results e s f.res
        | .rt e s => Ev.results e s f.res
        | _ => none) = some (v, s') := h
    split at h'
    · exact hext g vs s v s' h' ρ w cargs hl hr
    · rename_i f hf
      obtain ⟨fnn, hints, h1, h2⟩ := htbl g f hf
      unfold cFn at h2
      split at h2
      · simp at h2
      · rename_i c hb
        split at h2
        · rename_i m r hm hres
          split at h2
          · simp at h2
          · rename_i hname
            simp only [Option.some.injEq] at h2; subst h2
            have hname' : (fnn.name == "runtime.NumGoroutine") = false := by simpa using hname
            refine ⟨?_, ?_⟩
            · unfold callFunc
              simp only [Sem.run_bind, run_program, Result.andThen_ok, h1, hname', Bool.false_eq_true, if_false, hb, Option.isNone_some]
              rfl
            · refine calls_of_wp h1 hb ?_
              have hsz : cargs.toArray.size = vs.length := by rw [hl.length]; simp
              have her : ER ρ (initE vs 0) { tmps := cargs.toArray ++ Array.replicate (fnn.ntmps - cargs.toArray.size) undef, defers := [] } := by
                intro t u hu
                rw [get_initE] at hu
                simp only [Nat.zero_le, if_true, Nat.sub_zero] at hu
                obtain ⟨cv, k1, k2⟩ := hl.get hu
                have hlt : t < cargs.length := (List.getElem?_eq_some_iff.1 k1).1
                have : (cargs.toArray ++ Array.replicate (fnn.ntmps - cargs.toArray.size) undef).getD t undef = cv := by
                  rw [Array.getD_eq_getD_getElem?, Array.getElem?_append_left (by simpa using hlt)]
                  simp [k1]
                show VR ρ u ((cargs.toArray ++ Array.replicate (fnn.ntmps - cargs.toArray.size) undef).getD t undef)
                rw [this]; exact k2
              have hfr : FrOk fnn.ntmps { tmps := cargs.toArray ++ Array.replicate (fnn.ntmps - cargs.toArray.size) undef, defers := [] } := by
                refine ⟨?_, rfl⟩
                simp only [Array.size_append, Array.size_replicate]
                omega
              refine code_sound (N := N) hty hib ih (hdraw _ _ ih) c hints [] m hm (initE vs 0) s ρ _ w _ her hr hfr ?_
              have fin : ∀ (e1 : E) (s1 : St), Ev.results e1 s1 r = some (v, s') → ∀ a' w' ρ', ER ρ' e1 a' → Rel ρ' s1 w' → Go s ρ w s1 ρ' w' → FrOk fnn.ntmps a' →
                  a'.defers = [] ∧ ∃ v', (Go.results fnn a'.tmps).run P w' = .ok v' w' ∧ ∃ cv ρ', Ending.returned v' = .returned cv ∧ VR ρ' v cv ∧ Rel ρ' s' w' ∧ Go s ρ w s' ρ' w' := by
                intro e1 s1 hv a' w' ρ' k1 k2 k3 k4
                obtain ⟨rfl, cv, k5, k6⟩ := results_sound hty k2 k1 hres hv
                exact ⟨k4.2, cv, k5, cv, ρ', rfl, k6, k2, k3⟩
              split at h'
              · rename_i e1 s1 he1
                rw [he1]
                exact fin e1 s1 h'
              · rename_i e1 s1 he1
                rw [he1]
                exact fin e1 s1 h'
              · simp at h'
        · simp at h2
end Go.Ev
