/- Parts of the proof of FnBytes. -/
import Derived.Test.YtdmkhipimcjipaaGreatZ05
import Derived.Test.YtdmkhipimcjipaaGreatZ01
set_option linter.unusedVariables false
set_option linter.unusedSimpArgs false
section
set_option linter.unusedVariables false
set_option linter.unusedSimpArgs false
set_option maxRecDepth 20000
namespace Go.Ev
open Go
section
variable (ty : TypeId → Option TyI) (ibs : FuncId → Bool) (cDraw : Nat → Array Oper → List HS → Option (List Stp))
def cRes : List ResultVar → Option (List MRes)
  | [] => some []
  | .tmp t :: l => match cRes l with | some m => some (.t t :: m) | none => none
  | .cell a t :: l => match ty t, cRes l with | some i, some m => some (.c (if isAggD i.u then some i.sz else none) a :: m) | _, _ => none
noncomputable def cFn (h : List (List HS)) (f : Func) : Option MFn :=
  match f.body with
  | none => none
  | some c => match cCode ty ibs f.ntmps (cDraw f.ntmps) c h, cRes ty f.results.toList with
    | some (m, []), some r => if f.name == "runtime.NumGoroutine" then none else some ⟨m, r⟩
    | _, _ => none
end
theorem get_initE : ∀ (vs : List V) (k t : Nat), (initE vs k).get t = if k ≤ t then vs[t - k]? else none
  | [], k, t => by
    show (T.lf : T V).get t = _
    rw [T.get_lf]; simp
  | v :: vs, k, t => by
    show (T.upd (some v) (initE vs (Nat.succ k)) k).get t = _
    rw [T.get_upd, get_initE vs]
    by_cases h : t = k
    · subst h; simp
    · rw [if_neg h]
      by_cases h2 : k ≤ t
      · rw [if_pos h2, if_pos (by omega)]
        rw [show t - k = (t - Nat.succ k) + 1 by omega]
        simp
      · rw [if_neg h2, if_neg (by omega)]
theorem run_loadVar_ld {P : Program} {ty : TypeId → Option TyI} (hty : TyOk P ty) {t : TypeId} {i : TyI} (hi : ty t = some i) {ρ : Rho} {s : St} {w : World} (h : Rel ρ s w) {e : E} {a : Act} (he : ER ρ e a) {tm : Tmp} {v : V}
    (hv : ldv s (if isAggD i.u then some i.sz else none) (os e (.t tm)) = some v) :
    ∃ cv, ((do loadVar t (← asAddr (a.tmps.getD tm undef))) : Sem Value).run P w = .ok cv w ∧ VR ρ v cv := by
  have hu : os e (.t tm) ≠ .un := by intro hh; rw [hh] at hv; simp [ldv] at hv
  have hq := he.os (x := .tmp tm) (y := .t tm) rfl rfl hu
  obtain ⟨cv, ad, h1, h2, h3⟩ := ld_sound hty hi h hq hv
  refine ⟨cv, ?_, h3⟩
  have h1' : a.tmps.getD tm undef = .pointer (some ad) := h1
  simp only [h1', asAddr, Sem.run_bind, Sem.run_pure, Result.andThen_ok, h2]
theorem ldv_not_t {s : St} {n : Option Nat} {q : S} {v : V} (h : ldv s n q = some v) : ∀ (ρ : Rho) cv, VR ρ v cv → VR0 ρ v cv := by
  intro ρ cv hv
  unfold ldv at h
  split at h
  · split at h
    · split at h
      · split at h
        · simp only [Option.some.injEq] at h; subst h; exact hv
        · simp at h
      · simp at h
    · split at h
      · simp only [Option.some.injEq] at h; subst h; exact hv
      · simp at h
  · simp at h
def resOne (tmps : Array Value) : ResultVar → Sem Value
  | .tmp t => pure (tmps.getD t undef)
  | .cell p t => do loadVar t (← asAddr (tmps.getD p undef))
theorem results_eq (f : Func) (tmps : Array Value) : Go.results f tmps = (do let vs ← f.results.mapM (resOne tmps); pure (if h : vs.size = 1 then vs[0] else .tuple vs)) := rfl
theorem resL_sound {P : Program} {ty : TypeId → Option TyI} (hty : TyOk P ty) {ρ : Rho} {s : St} {w : World} (h : Rel ρ s w) {e : E} {a : Act} (he : ER ρ e a) :
    ∀ {rs : List ResultVar} {ms : List MRes} {vs : List V}, cRes ty rs = some ms → resL e s ms = some vs →
      ∃ cs : List Value, (rs.mapM (resOne a.tmps)).run P w = .ok cs w ∧ LR (VR0 ρ) vs cs
  | [], ms, vs, hc, hv => by
    simp only [cRes, Option.some.injEq] at hc; subst hc
    have : some [] = some vs := hv
    simp only [Option.some.injEq] at this; subst this
    exact ⟨[], by simp, trivial⟩
  | r :: rs, ms, vs, hc, hv => by
    have step : ∀ {m : MRes} {l : List MRes}, resL e s (m :: l) = some vs → ∃ v vs', resv e s m = some v ∧ resL e s l = some vs' ∧ vs = v :: vs' := by
      intro m l hh
      have hh' : (match resv e s m, resL e s l with | some v, some l => some (v :: l) | _, _ => none) = some vs := hh
      split at hh'
      · rename_i v l' h1 h2
        simp only [Option.some.injEq] at hh'
        exact ⟨v, l', h1, h2, hh'.symm⟩
      · simp at hh'
    cases r with
    | tmp t =>
      simp only [cRes] at hc
      split at hc
      · rename_i l hl
        simp only [Option.some.injEq] at hc; subst hc
        obtain ⟨v, vs', h1, h2, rfl⟩ := step hv
        obtain ⟨cs, h3, h4⟩ := resL_sound hty h he hl h2
        refine ⟨a.tmps.getD t undef :: cs, by simp only [List.mapM_cons, resOne, Sem.run_bind, Sem.run_pure, Result.andThen_ok, h3], ?_, h4⟩
        have h5 := he.ov (x := .tmp t) (y := .t t) rfl
        simp only [resv] at h1
        cases hov : ov e (.t t) with
        | t q => rw [hov] at h1; simp at h1
        | o => rw [hov] at h1 h5; simp only [Option.some.injEq] at h1; subst h1; trivial
        | c q => rw [hov] at h1 h5; simp only [Option.some.injEq] at h1; subst h1; exact h5
        | a q => rw [hov] at h1 h5; simp only [Option.some.injEq] at h1; subst h1; exact h5
      · simp at hc
    | cell p t =>
      simp only [cRes] at hc
      split at hc
      · rename_i i l hi hl
        simp only [Option.some.injEq] at hc; subst hc
        obtain ⟨v, vs', h1, h2, rfl⟩ := step hv
        obtain ⟨cs, h3, h4⟩ := resL_sound hty h he hl h2
        obtain ⟨cv, h5, h6⟩ := run_loadVar_ld hty hi h he h1
        refine ⟨cv :: cs, ?_, ldv_not_t h1 _ _ h6, h4⟩
        have h5' : (resOne a.tmps (.cell p t)).run P w = .ok cv w := h5
        simp only [List.mapM_cons, Sem.run_bind, h5', Result.andThen_ok, h3, Sem.run_pure]
      · simp at hc
theorem results_sound {P : Program} {ty : TypeId → Option TyI} (hty : TyOk P ty) {ρ : Rho} {s s' : St} {w : World} (h : Rel ρ s w) {e : E} {a : Act} (he : ER ρ e a) {f : Func} {ms : List MRes} (hc : cRes ty f.results.toList = some ms) {v : V} (hv : Ev.results e s ms = some (v, s')) :
    s' = s ∧ ∃ cv, (Go.results f a.tmps).run P w = .ok cv w ∧ VR ρ v cv := by
  unfold Ev.results at hv
  have run : ∀ {vs : List V} , resL e s ms = some vs → ∃ cs : List Value, LR (VR0 ρ) vs cs ∧ (Go.results f a.tmps).run P w = .ok (if hh : cs.toArray.size = 1 then cs.toArray[0] else .tuple cs.toArray) w := by
    intro vs hvs
    obtain ⟨cs, h1, h2⟩ := resL_sound hty h he hc hvs
    refine ⟨cs, h2, ?_⟩
    rw [results_eq, Array.mapM_eq_mapM_toList]
    simp only [Sem.run_bind, Sem.run_map, h1, Result.andThen_ok]
    rfl
  split at hv
  · rename_i v1 hl
    simp only [Option.some.injEq, Prod.mk.injEq] at hv
    obtain ⟨rfl, rfl⟩ := hv
    obtain ⟨cs, h1, h2⟩ := run hl
    match cs, h1, h2 with
    | [c], h1, h2 => exact ⟨rfl, c, by simpa using h2, VR.of0 h1.1⟩
    | [], h1, _ => exact h1.elim
    | _ :: _ :: _, h1, _ => exact h1.2.elim
  · rename_i l hne hl
    simp only [Option.some.injEq, Prod.mk.injEq] at hv
    obtain ⟨rfl, rfl⟩ := hv
    obtain ⟨cs, h1, h2⟩ := run hl
    refine ⟨rfl, .tuple cs.toArray, ?_, cs.toArray, rfl, by simpa using h1⟩
    rw [h2, dif_neg]
    intro hh
    have hlen := h1.length
    match l, hne, hlen with
    | [], _, hlen => simp at hlen hh; omega
    | [v], hne, _ => exact hne v rfl
    | _ :: _ :: _, _, hlen => simp at hlen hh; omega
  · simp at hv
def TblOk (P : Program) (ty : TypeId → Option TyI) (ibs : FuncId → Bool) (cDraw : Nat → Array Oper → List HS → Option (List Stp)) (tbl : T MFn) : Prop :=
  ∀ g f, tbl.get g = some f → ∃ fn h, P.funcs[g]? = some fn ∧ cFn ty ibs cDraw h fn = some f
theorem fn_sound {P : Program} {ty : TypeId → Option TyI} {ibs : FuncId → Bool} {cDraw : Nat → Array Oper → List HS → Option (List Stp)} (hty : TyOk P ty) (hib : IbsOk P ibs) {tbl : T MFn} (htbl : TblOk P ty ibs cDraw tbl) (N : Nat)
    (hdraw : ∀ call nt, CallOk P call → DrawOk P call nt (cDraw nt)) {ext : Nat → List V → St → Option (V × St)} (hext : CallOk P ext) : ∀ d, CallOk P (fn tbl N ext d)
  | 0 => fun g vs s v s' h => by
    have : none = some (v, s') := h
    simp at this
  | d + 1 => fun g vs s v s' h ρ w cargs hl hr => by
    have ih := fn_sound hty hib htbl N hdraw hext d
    have h' : (match tbl.get g with
      | none => ext g vs s
      | some f => match ev (fn tbl N ext d) N f.body (initE vs 0) s with
        | .no e s => Ev.results e s f.res
        | .rt e s => Ev.results e s f.res
        | _ => none) = some (v, s') := h
    split at h'
    · exact hext g vs s v s' h' ρ w cargs hl hr
    · rename_i f hf
      obtain ⟨fnn, hints, h1, h2⟩ := htbl g f hf
      unfold cFn at h2
      split at h2
      · simp at h2
      · rename_i c hb
        split at h2
        · rename_i m r hm hres
          split at h2
          · simp at h2
          · rename_i hname
            simp only [Option.some.injEq] at h2; subst h2
            have hname' : (fnn.name == "runtime.NumGoroutine") = false := by simpa using hname
            refine ⟨?_, ?_⟩
            · unfold callFunc
              simp only [Sem.run_bind, run_program, Result.andThen_ok, h1, hname', Bool.false_eq_true, if_false, hb, Option.isNone_some]
              rfl
            · refine calls_of_wp h1 hb ?_
              have hsz : cargs.toArray.size = vs.length := by rw [hl.length]; simp
              have her : ER ρ (initE vs 0) { tmps := cargs.toArray ++ Array.replicate (fnn.ntmps - cargs.toArray.size) undef, defers := [] } := by
                intro t u hu
                rw [get_initE] at hu
                simp only [Nat.zero_le, if_true, Nat.sub_zero] at hu
                obtain ⟨cv, k1, k2⟩ := hl.get hu
                have hlt : t < cargs.length := (List.getElem?_eq_some_iff.1 k1).1
                have : (cargs.toArray ++ Array.replicate (fnn.ntmps - cargs.toArray.size) undef).getD t undef = cv := by
                  rw [Array.getD_eq_getD_getElem?, Array.getElem?_append_left (by simpa using hlt)]
                  simp [k1]
                show VR ρ u ((cargs.toArray ++ Array.replicate (fnn.ntmps - cargs.toArray.size) undef).getD t undef)
                rw [this]; exact k2
              have hfr : FrOk fnn.ntmps { tmps := cargs.toArray ++ Array.replicate (fnn.ntmps - cargs.toArray.size) undef, defers := [] } := by
                refine ⟨?_, rfl⟩
                simp only [Array.size_append, Array.size_replicate]
                omega
              refine code_sound (N := N) hty hib ih (hdraw _ _ ih) c hints [] m hm (initE vs 0) s ρ _ w _ her hr hfr ?_
              have fin : ∀ (e1 : E) (s1 : St), Ev.results e1 s1 r = some (v, s') → ∀ a' w' ρ', ER ρ' e1 a' → Rel ρ' s1 w' → Go s ρ w s1 ρ' w' → FrOk fnn.ntmps a' →
                  a'.defers = [] ∧ ∃ v', (Go.results fnn a'.tmps).run P w' = .ok v' w' ∧ ∃ cv ρ', Ending.returned v' = .returned cv ∧ VR ρ' v cv ∧ Rel ρ' s' w' ∧ Go s ρ w s' ρ' w' := by
                intro e1 s1 hv a' w' ρ' k1 k2 k3 k4
                obtain ⟨rfl, cv, k5, k6⟩ := results_sound hty k2 k1 hres hv
                exact ⟨k4.2, cv, k5, cv, ρ', rfl, k6, k2, k3⟩
              split at h'
              · rename_i e1 s1 he1
                rw [he1]
                exact fin e1 s1 h'
              · rename_i e1 s1 he1
                rw [he1]
                exact fin e1 s1 h'
              · simp at h'
        · simp at h2
end Go.Ev
end
section
set_option linter.unusedVariables false
set_option linter.unusedSimpArgs false
set_option maxRecDepth 20000
namespace Go.Ev
open Go
def oT : O → List Nat
  | .t i => [i]
  | .k _ => []
def oTs (l : List O) : List Nat := l.flatMap oT
def pTs (l : List (Nat × Nat × O)) : List Nat := l.flatMap fun p => oT p.2.2
def oTo : Option O → List Nat
  | none => []
  | some x => oT x
def wT : W → List Nat
  | .mv x => oT x
  | .pick c a b => oT c ++ oT a ++ oT b
  | .nilc x => oT x
  | .build _ ps => pTs ps
  | .bin _ x y => oT x ++ oT y
  | .eqb _ x y => oT x ++ oT y
  | .eql _ x y => oT x ++ oT y
  | .eqp _ x y => oT x ++ oT y
  | .eqf _ x y => oT x ++ oT y
  | .un _ x => oT x
  | .cv _ x => oT x
  | .cvs x => oT x
  | .mkf _ cs => oTs cs
  | .sls x lo hi => oT x ++ oTo lo ++ oTo hi
  | .sll _ x lo hi mx => oT x ++ oTo lo ++ oTo hi ++ oTo mx
  | .fad _ x => oT x
  | .fld _ _ x => oT x
  | .iad _ x ix => oT x ++ oT ix
  | .ixs x ix => oT x ++ oT ix
  | .ext _ x => oT x
  | .lns x => oT x
  | .lnl x => oT x
  | .cpl x => oT x
  | .mnx _ x y => oT x ++ oT y
  | .ibs x y => oT x ++ oT y
def rT : R → List Nat
  | .ld _ a => oT a
  | .bts x => oT x
def aT : A → List Nat
  | .al _ => []
  | .box x => oT x
  | .bsl _ _ _ ps => pTs ps
  | .mks _ _ _ n c => oT n ++ oT c
def mT : M → List Nat
  | .st _ a v => oT a ++ oT v
  | .app _ _ x y => oT x ++ oT y
  | .call _ xs => oTs xs
  | .cal x xs => oT x ++ oTs xs
  | .clr _ _ x => oT x
  | .apz _ _ _ x n => oT x ++ oT n
def moT : MO → List Nat
  | .w x => wT x
  | .r x => rT x
  | .a x => aT x
  | .m x => mT x
def gT : Option (Nat × Bool) → List Nat
  | none => []
  | some (t, _) => [t]
def Like (l : List Nat) (e e' : E) : Prop := ∀ t ∈ l, e.get t = e'.get t
theorem Like.left {l m : List Nat} {e e' : E} (h : Like (l ++ m) e e') : Like l e e' := fun t ht => h t (List.mem_append_left _ ht)
theorem Like.right {l m : List Nat} {e e' : E} (h : Like (l ++ m) e e') : Like m e e' := fun t ht => h t (List.mem_append_right _ ht)
theorem Like.symm {l : List Nat} {e e' : E} (h : Like l e e') : Like l e' e := fun t ht => (h t ht).symm
theorem ov_like {e e' : E} {x : O} (h : Like (oT x) e e') : ov e x = ov e' x := by
  cases x with
  | t i => simp only [ov, h i (by simp [oT])]
  | k v => rfl
theorem os_like {e e' : E} {x : O} (h : Like (oT x) e e') : os e x = os e' x := by simp only [os, ov_like h]
theorem on_like {e e' : E} {x : O} (h : Like (oT x) e e') : on e x = on e' x := by simp only [on, os_like h]
theorem onj_like {e e' : E} {x : O} (h : Like (oT x) e e') : onj e x = onj e' x := by simp only [onj, os_like h]
theorem onD_like {e e' : E} {d : Nat} {x : Option O} (h : Like (oTo x) e e') : onD e d x = onD e' d x := by
  cases x with
  | none => rfl
  | some x => simp only [onD, onj_like (x := x) h]
theorem ovs_like {e e' : E} : ∀ {l : List O}, Like (oTs l) e e' → ovs e l = ovs e' l
  | [], _ => rfl
  | x :: l, h => by
    have h' : Like (oT x ++ oTs l) e e' := h
    show ov e x :: ovs e l = ov e' x :: ovs e' l
    rw [ov_like h'.left, ovs_like h'.right]
theorem putAll_like {e e' : E} : ∀ {l : List (Nat × Nat × O)} {z : List S}, Like (pTs l) e e' → putAll z e l = putAll z e' l
  | [], _, _ => rfl
  | p :: l, z, h => by
    have h' : Like (oT p.2.2 ++ pTs l) e e' := h
    have red : ∀ e : E, putAll z e (p :: l) = (match cellsOf (ov e p.2.2) with
      | none => none
      | some l' => bif Nat.beq (llen l') p.2.1 && Nat.ble (Nat.add p.1 p.2.1) (llen z) then putAll (lput z l' p.1) e l else none) := fun _ => rfl
    rw [red, red, ov_like h'.left]
    cases cellsOf (ov e' p.2.2) with
    | none => rfl
    | some l' => simp only [putAll_like h'.right]
theorem ptrs_like {e e' : E} : ∀ {l : List O}, Like (oTs l) e e' → ptrs e l = ptrs e' l
  | [], _ => rfl
  | x :: l, h => by
    have h' : Like (oT x ++ oTs l) e e' := h
    have red : ∀ e : E, ptrs e (x :: l) = (match os e x, ptrs e l with | .p a b, some l => some ((a, b) :: l) | _, _ => none) := fun _ => rfl
    rw [red, red, os_like h'.left, ptrs_like h'.right]
theorem wv_like {e e' : E} {x : W} (h : Like (wT x) e e') : wv e x = wv e' x := by
  cases x <;> simp only [wT] at h
  case mv => simp only [wv, ov_like h]
  case pick => simp only [wv, os_like h.left.left, ov_like h.left.right, ov_like h.right]
  case build => simp only [wv, putAll_like h]
  case mkf => simp only [wv, ptrs_like h]
  case sls => simp only [wv, os_like h.left.left, onD_like h.left.right, onD_like h.right]
  case sll sz x lo hi mx =>
    simp only [wv, os_like h.left.left.left, onD_like h.left.left.right, onD_like h.left.right, onD_like h.right]
    cases mx with
    | none => rfl
    | some m => simp only [onj_like (x := m) h.right]
  case fld => simp only [wv, ov_like h]
  case iad => simp only [wv, os_like h.left, onj_like h.right]
  case ixs => simp only [wv, os_like h.left, onj_like h.right]
  case ext => simp only [wv, ov_like h]
  all_goals first
    | (simp only [wv, os_like h]; done)
    | (simp only [wv, os_like h.left, os_like h.right]; done)
theorem rv_like {e e' : E} {s : St} {x : R} (h : Like (rT x) e e') : rv e s x = rv e' s x := by
  cases x <;> simp only [rT] at h <;> simp only [rv, os_like h]
theorem av_like {e e' : E} {x : A} (h : Like (aT x) e e') : av e x = av e' x := by
  cases x <;> simp only [aT] at h
  case al => rfl
  case box => simp only [av, ov_like h]
  case bsl => simp only [av, putAll_like h]
  case mks => simp only [av, on_like h.left, on_like h.right]
theorem mv_like {call : Nat → List V → St → Option (V × St)} {e e' : E} {s : St} {x : M} (h : Like (mT x) e e') : mv call e s x = mv call e' s x := by
  cases x <;> simp only [mT] at h
  case st => simp only [mv, os_like h.left, ov_like h.right]
  case app => simp only [mv, os_like h.left, os_like h.right]
  case call => simp only [mv, ovs_like h]
  case cal => simp only [mv, os_like h.left, ovs_like h.right]
  case clr => simp only [mv, os_like h]
  case apz => simp only [mv, os_like h.left, on_like h.right]
theorem mo_like {call : Nat → List V → St → Option (V × St)} {e e' : E} {s : St} {x : MO} (h : Like (moT x) e e') : mo call e s x = mo call e' s x := by
  cases x <;> simp only [moT] at h
  case w => simp only [mo, wv_like h]
  case r => simp only [mo, rv_like h]
  case a => simp only [mo, av_like h]
  case m => simp only [mo, mv_like h]
noncomputable def some_ (e : E) (l : List Nat) : E := l.foldr (fun t acc => T.upd (e.get t) acc t) T.lf
theorem get_some_ (e : E) : ∀ (l : List Nat) (t : Nat), (some_ e l).get t = if t ∈ l then e.get t else none
  | [], t => by simp [some_, T.get_lf]
  | x :: l, t => by
    show (T.upd (e.get x) (some_ e l) x).get t = _
    rw [T.get_upd, get_some_ e l]
    by_cases h : t = x
    · subst h; simp
    · rw [if_neg h]; simp [h]
theorem like_some_ (e : E) (l : List Nat) : Like l (some_ e l) e := fun t ht => by rw [get_some_, if_pos ht]
noncomputable def gEv (e : E) : Option (Nat × Bool) → Option Bool
  | none => some true
  | some (t, want) => match ov e (.t t) with
    | .c (.b x) => some (x == want)
    | .t [] => some false
    | _ => none
theorem gEv_like {e e' : E} {g : Option (Nat × Bool)} (h : Like (gT g) e e') : gEv e g = gEv e' g := by
  cases g with
  | none => rfl
  | some q =>
    obtain ⟨t, want⟩ := q
    have : ov e (.t t) = ov e' (.t t) := ov_like h
    simp only [gEv, this]
theorem evG_eq (call : Nat → List V → St → Option (V × St)) (e : E) (s : St) (dst : Option Nat) (g : Option (Nat × Bool)) (x : MO) :
    evG call e s dst g x = match gEv e g with
      | some true => match mo call e s x with | some (v, s) => some (put e dst v, s) | none => none
      | some false => some (put e dst (.t []), s)
      | none => none := by
  cases g with
  | none => rfl
  | some q =>
    obtain ⟨t, want⟩ := q
    simp only [evG, gEv]
    generalize ov e (.t t) = u
    cases u with
    | c q =>
      cases q with
      | b x =>
        have hbw : (bif x then want else not want) = (x == want) := by cases x <;> cases want <;> rfl
        simp only [hbw]
        cases (x == want) <;> rfl
      | _ => rfl
    | t l => cases l <;> rfl
    | _ => rfl
end Go.Ev
end
section
set_option linter.unusedVariables false
set_option linter.unusedSimpArgs false
set_option maxRecDepth 20000
namespace Go.Ev
open Go
def Ln.Ok {α β : Type} (l : Ln α β) : Prop := ∀ a b, l.g (l.u a b) = b
theorem sel_ok (α : Type) (d : Nat) : (sel α d).Ok := by
  unfold sel
  cases Nat.ble d 3 <;> cases Nat.ble d 1 <;> cases Nat.ble d 0 <;> cases Nat.ble d 2 <;> cases Nat.ble d 5 <;> cases Nat.ble d 4 <;> cases Nat.ble d 6 <;>
    exact fun _ _ => rfl
theorem sel_dis (α : Type) {d e : Nat} (hd : d < 8) (he : e < 8) (h : e ≠ d) (n : N8 α) (b : α) : (sel α e).g ((sel α d).u n b) = (sel α e).g n := by
  have h1 : d = 0 ∨ d = 1 ∨ d = 2 ∨ d = 3 ∨ d = 4 ∨ d = 5 ∨ d = 6 ∨ d = 7 := by omega
  have h2 : e = 0 ∨ e = 1 ∨ e = 2 ∨ e = 3 ∨ e = 4 ∨ e = 5 ∨ e = 6 ∨ e = 7 := by omega
  rcases h1 with rfl | rfl | rfl | rfl | rfl | rfl | rfl | rfl <;> rcases h2 with rfl | rfl | rfl | rfl | rfl | rfl | rfl | rfl <;> first | rfl | exact absurd rfl h
theorem Ln.comp_g {α β γ : Type} (a : Ln α β) (b : Ln β γ) (x : α) : (a.comp b).g x = b.g (a.g x) := by cases a; cases b; rfl
theorem Ln.comp_u {α β γ : Type} (a : Ln α β) (b : Ln β γ) (x : α) (z : γ) : (a.comp b).u x z = a.u x (b.u (a.g x) z) := by cases a; cases b; rfl
theorem Ln.comp_ok {α β γ : Type} {a : Ln α β} {b : Ln β γ} (ha : a.Ok) (hb : b.Ok) : (a.comp b).Ok := fun x z => by
  rw [Ln.comp_g, Ln.comp_u, ha]; exact hb _ _
theorem lens_ok (α : Type) : ∀ (n x : Nat), (lens α n x).Ok
  | 0, x => fun _ _ => rfl
  | n + 1, x => Ln.comp_ok (sel_ok (Tw α n) (Nat.mod x 8)) (lens_ok α n (Nat.div x 8))
theorem lens_dis (α : Type) : ∀ (n x y : Nat), x < 8 ^ n → y < 8 ^ n → y ≠ x → ∀ t b, (lens α n y).g ((lens α n x).u t b) = (lens α n y).g t
  | 0, x, y, hx, hy, h => by simp at hx hy; omega
  | n + 1, x, y, hx, hy, h => fun t b => by
    have cg : ∀ t : Tw α (n + 1), (lens α (n + 1) y).g t = (lens α n (Nat.div y 8)).g ((sel (Tw α n) (Nat.mod y 8)).g t) := fun t => Ln.comp_g _ _ t
    have cu : (lens α (n + 1) x).u t b = (sel (Tw α n) (Nat.mod x 8)).u t ((lens α n (Nat.div x 8)).u ((sel (Tw α n) (Nat.mod x 8)).g t) b) := Ln.comp_u _ _ t b
    refine (cg _).trans (Eq.trans ?_ (cg t).symm)
    have e8 : 8 ^ (n + 1) = 8 * 8 ^ n := by rw [Nat.pow_succ, Nat.mul_comm]
    have hmx : Nat.mod x 8 < 8 := Nat.mod_lt _ (by decide)
    have hmy : Nat.mod y 8 < 8 := Nat.mod_lt _ (by decide)
    by_cases hm : Nat.mod y 8 = Nat.mod x 8
    · have e1 : (sel (Tw α n) (Nat.mod y 8)).g ((lens α (n + 1) x).u t b) = (lens α n (Nat.div x 8)).u ((sel (Tw α n) (Nat.mod x 8)).g t) b := by
        rw [cu, hm]; exact sel_ok (Tw α n) (Nat.mod x 8) t _
      rw [e1, hm]
      refine lens_dis α n _ _ ?_ ?_ ?_ _ _
      · show x / 8 < _; omega
      · show y / 8 < _; omega
      · intro hd
        have hm' : y % 8 = x % 8 := hm
        have hd' : y / 8 = x / 8 := hd
        omega
    · have e1 : (sel (Tw α n) (Nat.mod y 8)).g ((lens α (n + 1) x).u t b) = (sel (Tw α n) (Nat.mod y 8)).g t := by
        rw [cu]; exact sel_dis (Tw α n) hmx hmy hm t _
      rw [e1]
theorem ble_f {a b : Nat} (h : ¬ a ≤ b) : Nat.ble a b = false := by rw [Bool.eq_false_iff]; intro h'; exact h (Nat.le_of_ble_eq_true h')
theorem slot_hi {i : Nat} (h : ¬ i ≤ 31) : slot i = slotH i := by unfold slot; rw [ble_f h]; rfl
theorem slotH_in {i : Nat} (h : i ≤ 543) : slotH i = ⟨EK.gh (lens V 3 (i - 32)).g, EK.ph (lens V 3 (i - 32)).u⟩ := by
  unfold slotH
  rw [Nat.ble_eq_true_of_le h]
  show (Ln.rec (motive := fun _ => Sl) (fun g u => ⟨EK.gh g, EK.ph u⟩) (lens V 3 (i - 32)) : Sl) = _
  cases lens V 3 (i - 32); rfl
theorem slotH_out {i : Nat} (h : ¬ i ≤ 543) : slotH i = ⟨fun _ => .o, fun _ _ _ => false⟩ := by unfold slotH; rw [ble_f h]; rfl
theorem slotH_g (i : Nat) {e e' : EK} (h : e.hi = e'.hi) : (slotH i).g e = (slotH i).g e' := by
  by_cases hi : i ≤ 543
  · rw [slotH_in hi]; show (lens V 3 (i - 32)).g e.hi = (lens V 3 (i - 32)).g e'.hi; rw [h]
  · rw [slotH_out hi]
def lowPut (i : Nat) : Prop := ∀ (v : V) (e : EK) (k : EK → Bool), (slot i).m v e k = true → ∃ e', k e' = true ∧ e'.hi = e.hi ∧ ∀ j, j ≤ 31 → (slot j).g e' = if j = i then v else (slot j).g e
theorem low_cases {P : Nat → Prop} (h0 : P 0) (h1 : P 1) (h2 : P 2) (h3 : P 3) (h4 : P 4) (h5 : P 5) (h6 : P 6) (h7 : P 7) (h8 : P 8) (h9 : P 9) (h10 : P 10) (h11 : P 11) (h12 : P 12) (h13 : P 13) (h14 : P 14) (h15 : P 15) (h16 : P 16) (h17 : P 17) (h18 : P 18) (h19 : P 19) (h20 : P 20) (h21 : P 21) (h22 : P 22) (h23 : P 23) (h24 : P 24) (h25 : P 25) (h26 : P 26) (h27 : P 27) (h28 : P 28) (h29 : P 29) (h30 : P 30) (h31 : P 31) : ∀ i, i ≤ 31 → P i
  | 0, _ => h0
  | 1, _ => h1
  | 2, _ => h2
  | 3, _ => h3
  | 4, _ => h4
  | 5, _ => h5
  | 6, _ => h6
  | 7, _ => h7
  | 8, _ => h8
  | 9, _ => h9
  | 10, _ => h10
  | 11, _ => h11
  | 12, _ => h12
  | 13, _ => h13
  | 14, _ => h14
  | 15, _ => h15
  | 16, _ => h16
  | 17, _ => h17
  | 18, _ => h18
  | 19, _ => h19
  | 20, _ => h20
  | 21, _ => h21
  | 22, _ => h22
  | 23, _ => h23
  | 24, _ => h24
  | 25, _ => h25
  | 26, _ => h26
  | 27, _ => h27
  | 28, _ => h28
  | 29, _ => h29
  | 30, _ => h30
  | 31, _ => h31
  | _ + 32, h => absurd h (by omega)
theorem low0 : lowPut 0 := fun v e k h => by
  cases e with
  | mk f0 f1 f2 f3 hi =>
    cases f0 with
    | mk a0 a1 a2 a3 a4 a5 a6 a7 => exact ⟨_, h, rfl, low_cases rfl rfl rfl rfl rfl rfl rfl rfl rfl rfl rfl rfl rfl rfl rfl rfl rfl rfl rfl rfl rfl rfl rfl rfl rfl rfl rfl rfl rfl rfl rfl rfl⟩
theorem low1 : lowPut 1 := fun v e k h => by
  cases e with
  | mk f0 f1 f2 f3 hi =>
    cases f0 with
    | mk a0 a1 a2 a3 a4 a5 a6 a7 => exact ⟨_, h, rfl, low_cases rfl rfl rfl rfl rfl rfl rfl rfl rfl rfl rfl rfl rfl rfl rfl rfl rfl rfl rfl rfl rfl rfl rfl rfl rfl rfl rfl rfl rfl rfl rfl rfl⟩
theorem low2 : lowPut 2 := fun v e k h => by
  cases e with
  | mk f0 f1 f2 f3 hi =>
    cases f0 with
    | mk a0 a1 a2 a3 a4 a5 a6 a7 => exact ⟨_, h, rfl, low_cases rfl rfl rfl rfl rfl rfl rfl rfl rfl rfl rfl rfl rfl rfl rfl rfl rfl rfl rfl rfl rfl rfl rfl rfl rfl rfl rfl rfl rfl rfl rfl rfl⟩
theorem low3 : lowPut 3 := fun v e k h => by
  cases e with
  | mk f0 f1 f2 f3 hi =>
    cases f0 with
    | mk a0 a1 a2 a3 a4 a5 a6 a7 => exact ⟨_, h, rfl, low_cases rfl rfl rfl rfl rfl rfl rfl rfl rfl rfl rfl rfl rfl rfl rfl rfl rfl rfl rfl rfl rfl rfl rfl rfl rfl rfl rfl rfl rfl rfl rfl rfl⟩
theorem low4 : lowPut 4 := fun v e k h => by
  cases e with
  | mk f0 f1 f2 f3 hi =>
    cases f0 with
    | mk a0 a1 a2 a3 a4 a5 a6 a7 => exact ⟨_, h, rfl, low_cases rfl rfl rfl rfl rfl rfl rfl rfl rfl rfl rfl rfl rfl rfl rfl rfl rfl rfl rfl rfl rfl rfl rfl rfl rfl rfl rfl rfl rfl rfl rfl rfl⟩
theorem low5 : lowPut 5 := fun v e k h => by
  cases e with
  | mk f0 f1 f2 f3 hi =>
    cases f0 with
    | mk a0 a1 a2 a3 a4 a5 a6 a7 => exact ⟨_, h, rfl, low_cases rfl rfl rfl rfl rfl rfl rfl rfl rfl rfl rfl rfl rfl rfl rfl rfl rfl rfl rfl rfl rfl rfl rfl rfl rfl rfl rfl rfl rfl rfl rfl rfl⟩
theorem low6 : lowPut 6 := fun v e k h => by
  cases e with
  | mk f0 f1 f2 f3 hi =>
    cases f0 with
    | mk a0 a1 a2 a3 a4 a5 a6 a7 => exact ⟨_, h, rfl, low_cases rfl rfl rfl rfl rfl rfl rfl rfl rfl rfl rfl rfl rfl rfl rfl rfl rfl rfl rfl rfl rfl rfl rfl rfl rfl rfl rfl rfl rfl rfl rfl rfl⟩
theorem low7 : lowPut 7 := fun v e k h => by
  cases e with
  | mk f0 f1 f2 f3 hi =>
    cases f0 with
    | mk a0 a1 a2 a3 a4 a5 a6 a7 => exact ⟨_, h, rfl, low_cases rfl rfl rfl rfl rfl rfl rfl rfl rfl rfl rfl rfl rfl rfl rfl rfl rfl rfl rfl rfl rfl rfl rfl rfl rfl rfl rfl rfl rfl rfl rfl rfl⟩
theorem low8 : lowPut 8 := fun v e k h => by
  cases e with
  | mk f0 f1 f2 f3 hi =>
    cases f1 with
    | mk a0 a1 a2 a3 a4 a5 a6 a7 => exact ⟨_, h, rfl, low_cases rfl rfl rfl rfl rfl rfl rfl rfl rfl rfl rfl rfl rfl rfl rfl rfl rfl rfl rfl rfl rfl rfl rfl rfl rfl rfl rfl rfl rfl rfl rfl rfl⟩
theorem low9 : lowPut 9 := fun v e k h => by
  cases e with
  | mk f0 f1 f2 f3 hi =>
    cases f1 with
    | mk a0 a1 a2 a3 a4 a5 a6 a7 => exact ⟨_, h, rfl, low_cases rfl rfl rfl rfl rfl rfl rfl rfl rfl rfl rfl rfl rfl rfl rfl rfl rfl rfl rfl rfl rfl rfl rfl rfl rfl rfl rfl rfl rfl rfl rfl rfl⟩
theorem low10 : lowPut 10 := fun v e k h => by
  cases e with
  | mk f0 f1 f2 f3 hi =>
    cases f1 with
    | mk a0 a1 a2 a3 a4 a5 a6 a7 => exact ⟨_, h, rfl, low_cases rfl rfl rfl rfl rfl rfl rfl rfl rfl rfl rfl rfl rfl rfl rfl rfl rfl rfl rfl rfl rfl rfl rfl rfl rfl rfl rfl rfl rfl rfl rfl rfl⟩
theorem low11 : lowPut 11 := fun v e k h => by
  cases e with
  | mk f0 f1 f2 f3 hi =>
    cases f1 with
    | mk a0 a1 a2 a3 a4 a5 a6 a7 => exact ⟨_, h, rfl, low_cases rfl rfl rfl rfl rfl rfl rfl rfl rfl rfl rfl rfl rfl rfl rfl rfl rfl rfl rfl rfl rfl rfl rfl rfl rfl rfl rfl rfl rfl rfl rfl rfl⟩
theorem low12 : lowPut 12 := fun v e k h => by
  cases e with
  | mk f0 f1 f2 f3 hi =>
    cases f1 with
    | mk a0 a1 a2 a3 a4 a5 a6 a7 => exact ⟨_, h, rfl, low_cases rfl rfl rfl rfl rfl rfl rfl rfl rfl rfl rfl rfl rfl rfl rfl rfl rfl rfl rfl rfl rfl rfl rfl rfl rfl rfl rfl rfl rfl rfl rfl rfl⟩
theorem low13 : lowPut 13 := fun v e k h => by
  cases e with
  | mk f0 f1 f2 f3 hi =>
    cases f1 with
    | mk a0 a1 a2 a3 a4 a5 a6 a7 => exact ⟨_, h, rfl, low_cases rfl rfl rfl rfl rfl rfl rfl rfl rfl rfl rfl rfl rfl rfl rfl rfl rfl rfl rfl rfl rfl rfl rfl rfl rfl rfl rfl rfl rfl rfl rfl rfl⟩
theorem low14 : lowPut 14 := fun v e k h => by
  cases e with
  | mk f0 f1 f2 f3 hi =>
    cases f1 with
    | mk a0 a1 a2 a3 a4 a5 a6 a7 => exact ⟨_, h, rfl, low_cases rfl rfl rfl rfl rfl rfl rfl rfl rfl rfl rfl rfl rfl rfl rfl rfl rfl rfl rfl rfl rfl rfl rfl rfl rfl rfl rfl rfl rfl rfl rfl rfl⟩
theorem low15 : lowPut 15 := fun v e k h => by
  cases e with
  | mk f0 f1 f2 f3 hi =>
    cases f1 with
    | mk a0 a1 a2 a3 a4 a5 a6 a7 => exact ⟨_, h, rfl, low_cases rfl rfl rfl rfl rfl rfl rfl rfl rfl rfl rfl rfl rfl rfl rfl rfl rfl rfl rfl rfl rfl rfl rfl rfl rfl rfl rfl rfl rfl rfl rfl rfl⟩
theorem low16 : lowPut 16 := fun v e k h => by
  cases e with
  | mk f0 f1 f2 f3 hi =>
    cases f2 with
    | mk a0 a1 a2 a3 a4 a5 a6 a7 => exact ⟨_, h, rfl, low_cases rfl rfl rfl rfl rfl rfl rfl rfl rfl rfl rfl rfl rfl rfl rfl rfl rfl rfl rfl rfl rfl rfl rfl rfl rfl rfl rfl rfl rfl rfl rfl rfl⟩
theorem low17 : lowPut 17 := fun v e k h => by
  cases e with
  | mk f0 f1 f2 f3 hi =>
    cases f2 with
    | mk a0 a1 a2 a3 a4 a5 a6 a7 => exact ⟨_, h, rfl, low_cases rfl rfl rfl rfl rfl rfl rfl rfl rfl rfl rfl rfl rfl rfl rfl rfl rfl rfl rfl rfl rfl rfl rfl rfl rfl rfl rfl rfl rfl rfl rfl rfl⟩
theorem low18 : lowPut 18 := fun v e k h => by
  cases e with
  | mk f0 f1 f2 f3 hi =>
    cases f2 with
    | mk a0 a1 a2 a3 a4 a5 a6 a7 => exact ⟨_, h, rfl, low_cases rfl rfl rfl rfl rfl rfl rfl rfl rfl rfl rfl rfl rfl rfl rfl rfl rfl rfl rfl rfl rfl rfl rfl rfl rfl rfl rfl rfl rfl rfl rfl rfl⟩
theorem low19 : lowPut 19 := fun v e k h => by
  cases e with
  | mk f0 f1 f2 f3 hi =>
    cases f2 with
    | mk a0 a1 a2 a3 a4 a5 a6 a7 => exact ⟨_, h, rfl, low_cases rfl rfl rfl rfl rfl rfl rfl rfl rfl rfl rfl rfl rfl rfl rfl rfl rfl rfl rfl rfl rfl rfl rfl rfl rfl rfl rfl rfl rfl rfl rfl rfl⟩
theorem low20 : lowPut 20 := fun v e k h => by
  cases e with
  | mk f0 f1 f2 f3 hi =>
    cases f2 with
    | mk a0 a1 a2 a3 a4 a5 a6 a7 => exact ⟨_, h, rfl, low_cases rfl rfl rfl rfl rfl rfl rfl rfl rfl rfl rfl rfl rfl rfl rfl rfl rfl rfl rfl rfl rfl rfl rfl rfl rfl rfl rfl rfl rfl rfl rfl rfl⟩
theorem low21 : lowPut 21 := fun v e k h => by
  cases e with
  | mk f0 f1 f2 f3 hi =>
    cases f2 with
    | mk a0 a1 a2 a3 a4 a5 a6 a7 => exact ⟨_, h, rfl, low_cases rfl rfl rfl rfl rfl rfl rfl rfl rfl rfl rfl rfl rfl rfl rfl rfl rfl rfl rfl rfl rfl rfl rfl rfl rfl rfl rfl rfl rfl rfl rfl rfl⟩
theorem low22 : lowPut 22 := fun v e k h => by
  cases e with
  | mk f0 f1 f2 f3 hi =>
    cases f2 with
    | mk a0 a1 a2 a3 a4 a5 a6 a7 => exact ⟨_, h, rfl, low_cases rfl rfl rfl rfl rfl rfl rfl rfl rfl rfl rfl rfl rfl rfl rfl rfl rfl rfl rfl rfl rfl rfl rfl rfl rfl rfl rfl rfl rfl rfl rfl rfl⟩
theorem low23 : lowPut 23 := fun v e k h => by
  cases e with
  | mk f0 f1 f2 f3 hi =>
    cases f2 with
    | mk a0 a1 a2 a3 a4 a5 a6 a7 => exact ⟨_, h, rfl, low_cases rfl rfl rfl rfl rfl rfl rfl rfl rfl rfl rfl rfl rfl rfl rfl rfl rfl rfl rfl rfl rfl rfl rfl rfl rfl rfl rfl rfl rfl rfl rfl rfl⟩
theorem low24 : lowPut 24 := fun v e k h => by
  cases e with
  | mk f0 f1 f2 f3 hi =>
    cases f3 with
    | mk a0 a1 a2 a3 a4 a5 a6 a7 => exact ⟨_, h, rfl, low_cases rfl rfl rfl rfl rfl rfl rfl rfl rfl rfl rfl rfl rfl rfl rfl rfl rfl rfl rfl rfl rfl rfl rfl rfl rfl rfl rfl rfl rfl rfl rfl rfl⟩
theorem low25 : lowPut 25 := fun v e k h => by
  cases e with
  | mk f0 f1 f2 f3 hi =>
    cases f3 with
    | mk a0 a1 a2 a3 a4 a5 a6 a7 => exact ⟨_, h, rfl, low_cases rfl rfl rfl rfl rfl rfl rfl rfl rfl rfl rfl rfl rfl rfl rfl rfl rfl rfl rfl rfl rfl rfl rfl rfl rfl rfl rfl rfl rfl rfl rfl rfl⟩
theorem low26 : lowPut 26 := fun v e k h => by
  cases e with
  | mk f0 f1 f2 f3 hi =>
    cases f3 with
    | mk a0 a1 a2 a3 a4 a5 a6 a7 => exact ⟨_, h, rfl, low_cases rfl rfl rfl rfl rfl rfl rfl rfl rfl rfl rfl rfl rfl rfl rfl rfl rfl rfl rfl rfl rfl rfl rfl rfl rfl rfl rfl rfl rfl rfl rfl rfl⟩
theorem low27 : lowPut 27 := fun v e k h => by
  cases e with
  | mk f0 f1 f2 f3 hi =>
    cases f3 with
    | mk a0 a1 a2 a3 a4 a5 a6 a7 => exact ⟨_, h, rfl, low_cases rfl rfl rfl rfl rfl rfl rfl rfl rfl rfl rfl rfl rfl rfl rfl rfl rfl rfl rfl rfl rfl rfl rfl rfl rfl rfl rfl rfl rfl rfl rfl rfl⟩
theorem low28 : lowPut 28 := fun v e k h => by
  cases e with
  | mk f0 f1 f2 f3 hi =>
    cases f3 with
    | mk a0 a1 a2 a3 a4 a5 a6 a7 => exact ⟨_, h, rfl, low_cases rfl rfl rfl rfl rfl rfl rfl rfl rfl rfl rfl rfl rfl rfl rfl rfl rfl rfl rfl rfl rfl rfl rfl rfl rfl rfl rfl rfl rfl rfl rfl rfl⟩
theorem low29 : lowPut 29 := fun v e k h => by
  cases e with
  | mk f0 f1 f2 f3 hi =>
    cases f3 with
    | mk a0 a1 a2 a3 a4 a5 a6 a7 => exact ⟨_, h, rfl, low_cases rfl rfl rfl rfl rfl rfl rfl rfl rfl rfl rfl rfl rfl rfl rfl rfl rfl rfl rfl rfl rfl rfl rfl rfl rfl rfl rfl rfl rfl rfl rfl rfl⟩
theorem low30 : lowPut 30 := fun v e k h => by
  cases e with
  | mk f0 f1 f2 f3 hi =>
    cases f3 with
    | mk a0 a1 a2 a3 a4 a5 a6 a7 => exact ⟨_, h, rfl, low_cases rfl rfl rfl rfl rfl rfl rfl rfl rfl rfl rfl rfl rfl rfl rfl rfl rfl rfl rfl rfl rfl rfl rfl rfl rfl rfl rfl rfl rfl rfl rfl rfl⟩
theorem low31 : lowPut 31 := fun v e k h => by
  cases e with
  | mk f0 f1 f2 f3 hi =>
    cases f3 with
    | mk a0 a1 a2 a3 a4 a5 a6 a7 => exact ⟨_, h, rfl, low_cases rfl rfl rfl rfl rfl rfl rfl rfl rfl rfl rfl rfl rfl rfl rfl rfl rfl rfl rfl rfl rfl rfl rfl rfl rfl rfl rfl rfl rfl rfl rfl rfl⟩
theorem low_put : ∀ i, i ≤ 31 → lowPut i := low_cases low0 low1 low2 low3 low4 low5 low6 low7 low8 low9 low10 low11 low12 low13 low14 low15 low16 low17 low18 low19 low20 low21 low22 low23 low24 low25 low26 low27 low28 low29 low30 low31
theorem slot_put {i : Nat} {v : V} {e : EK} {k : EK → Bool} (h : (slot i).m v e k = true) : ∃ e', k e' = true ∧ ∀ j, (slot j).g e' = if j = i then v else (slot j).g e := by
  by_cases h1 : i ≤ 31
  · obtain ⟨e', h2, h3, h4⟩ := low_put i h1 v e k h
    refine ⟨e', h2, fun j => ?_⟩
    by_cases hj : j ≤ 31
    · exact h4 j hj
    · rw [if_neg (by omega), slot_hi hj]; exact slotH_g j h3
  · rw [slot_hi h1] at h
    by_cases h2 : i ≤ 543
    · rw [slotH_in h2] at h
      cases e with
      | mk f0 f1 f2 f3 hi =>
        refine ⟨⟨f0, f1, f2, f3, (lens V 3 (i - 32)).u hi v⟩, h, fun j => ?_⟩
        by_cases hj : j ≤ 31
        · rw [if_neg (by omega)]
          exact low_cases (P := fun j => (slot j).g ⟨f0, f1, f2, f3, (lens V 3 (i - 32)).u hi v⟩ = (slot j).g ⟨f0, f1, f2, f3, hi⟩) rfl rfl rfl rfl rfl rfl rfl rfl rfl rfl rfl rfl rfl rfl rfl rfl rfl rfl rfl rfl rfl rfl rfl rfl rfl rfl rfl rfl rfl rfl rfl rfl j hj
        · rw [slot_hi hj]
          by_cases hj2 : j ≤ 543
          · rw [slotH_in hj2]
            show (lens V 3 (j - 32)).g ((lens V 3 (i - 32)).u hi v) = if j = i then v else (lens V 3 (j - 32)).g hi
            by_cases hji : j = i
            · subst hji; rw [if_pos rfl]; exact lens_ok V 3 _ _ _
            · rw [if_neg hji]
              exact lens_dis V 3 _ _ (by show i - 32 < 512; omega) (by show j - 32 < 512; omega) (by omega) _ _
          · rw [slotH_out hj2, if_neg (by omega)]
    · rw [slotH_out h2] at h; cases h
def RE (e : EK) (t : E) : Prop := look e = ov t
theorem RE.gt {e : EK} {t : E} (h : RE e t) (x : O) : (gt x).f e = ov t x := by
  rw [← h]
  cases x with
  | t i => show (Sl.rec (motive := fun _ => Gt) (fun g _ => ⟨g⟩) (slot i) : Gt).f e = (slot i).g e; cases slot i; rfl
  | k v => rfl
theorem ov_put (t : E) (d : Option Nat) (v : V) (x : O) : ov (put t d v) x = match d, x with | some i, .t j => if j = i then v else ov t (.t j) | _, x => ov t x := by
  cases d with
  | none => rfl
  | some i =>
    cases x with
    | k v => rfl
    | t j =>
      show (match (T.upd (some v) t i).get j with | some v => v | none => V.o) = _
      rw [T.get_upd]
      by_cases h : j = i
      · simp [h]
      · simp only [if_neg h]; rfl
theorem RE.put {e : EK} {t : E} (h : RE e t) {d : Option Nat} {v : V} {k : EK → Bool} (hk : (pt d).f v e k = true) : ∃ e', RE e' (put t d v) ∧ k e' = true := by
  cases d with
  | none => exact ⟨e, h, hk⟩
  | some i =>
    have hk' : (slot i).m v e k = true := by
      have h' : (Sl.rec (motive := fun _ => Pt) (fun _ m => ⟨m⟩) (slot i) : Pt).f v e k = true := hk
      revert h'
      cases slot i; exact fun h => h
    obtain ⟨e', h1, h2⟩ := slot_put hk'
    refine ⟨e', ?_, h1⟩
    funext x
    rw [ov_put]
    cases x with
    | k v => rfl
    | t j =>
      show (slot j).g e' = if j = i then v else ov t (.t j)
      rw [h2, ← h]; rfl
theorem RE.zero : RE EK.zero T.lf := by
  funext x
  cases x with
  | k v => rfl
  | t i =>
    show (slot i).g EK.zero = ov T.lf (.t i)
    have hz : ov T.lf (.t i) = .o := by show (match (T.lf : T V).get i with | some v => v | none => V.o) = _; rw [T.get_lf]
    rw [hz]
    have hall : ∀ n x, (lens V n x).g (Tw.all .o n) = .o := by
      intro n
      induction n with
      | zero => intro x; rfl
      | succ n ih =>
        intro x
        show (Ln.comp (sel (Tw V n) (Nat.mod x 8)) (lens V n (Nat.div x 8))).g (N8.all (Tw.all .o n)) = .o
        rw [Ln.comp_g]
        have : (sel (Tw V n) (Nat.mod x 8)).g (N8.all (Tw.all .o n)) = Tw.all .o n := by
          have h1 : Nat.mod x 8 < 8 := Nat.mod_lt _ (by decide)
          generalize Nat.mod x 8 = d at h1
          have h2 : d = 0 ∨ d = 1 ∨ d = 2 ∨ d = 3 ∨ d = 4 ∨ d = 5 ∨ d = 6 ∨ d = 7 := by omega
          rcases h2 with rfl | rfl | rfl | rfl | rfl | rfl | rfl | rfl <;> rfl
        rw [this, ih]
    by_cases h1 : i ≤ 31
    · exact low_cases (P := fun i => (slot i).g EK.zero = .o) rfl rfl rfl rfl rfl rfl rfl rfl rfl rfl rfl rfl rfl rfl rfl rfl rfl rfl rfl rfl rfl rfl rfl rfl rfl rfl rfl rfl rfl rfl rfl rfl i h1
    · rw [slot_hi h1]
      by_cases h2 : i ≤ 543
      · rw [slotH_in h2]; exact hall 3 _
      · rw [slotH_out h2]
theorem onDR_eq (t : E) (d : Nat) (x : Option O) : onDR (ov t) d x = onD t d x := by cases x <;> rfl
theorem wvR_eq (t : E) (w : W) : wvR (ov t) w = wv t w := by cases w <;> rfl
theorem avR_eq (t : E) (a : A) : avR (ov t) a = av t a := by cases a <;> rfl
theorem vk_some {v : Option V} {k : V → Bool} (h : vk v k = true) : ∃ u, v = some u ∧ k u = true := by
  cases v with
  | none => cases h
  | some u => exact ⟨u, rfl, h⟩
theorem bk_some {b : Bool} {k : V → Bool} (h : bk b k = true) : k (.c (.b b)) = true := by cases b <;> exact h
theorem unC_some {v : V} {k : S → Bool} (h : unC v k = true) : ∃ s, v = .c s ∧ k s = true := by
  cases v with
  | c s => exact ⟨s, rfl, h⟩
  | _ => cases h
theorem unB_some {v : V} {k : Bool → Bool} (h : unB v k = true) : ∃ n, v = .c (.b n) ∧ k n = true := by
  obtain ⟨s, rfl, h⟩ := unC_some h
  cases s with
  | b n => exact ⟨n, rfl, h⟩
  | _ => cases h
theorem unP_some {v : V} {k : Nat → Nat → Bool} (h : unP v k = true) : ∃ a b, v = .c (.p a b) ∧ k a b = true := by
  obtain ⟨s, rfl, h⟩ := unC_some h
  cases s with
  | p a b => exact ⟨a, b, rfl, h⟩
  | _ => cases h
theorem unA_some {v : V} {k : List S → Bool} (h : unA v k = true) : ∃ l, v = .a l ∧ k l = true := by
  cases v with
  | a l => exact ⟨l, rfl, h⟩
  | _ => cases h
theorem unL_some {v : V} {k : Nat → Nat → Nat → Nat → Bool → Bool} (h : unL v k = true) : ∃ a b c d e, v = .c (.l a b c d e) ∧ k a b c d e = true := by
  obtain ⟨s, rfl, h⟩ := unC_some h
  cases s with
  | l a b c d e => exact ⟨a, b, c, d, e, rfl, h⟩
  | _ => cases h
theorem cellAt_some : ∀ {l : List S} {n : Nat} {k : S → Bool}, cellAt l n k = true → ∃ s, l[n]? = some s ∧ k s = true
  | [], n, k, h => by cases h
  | x :: l, n, k, h => by
    have h' : Bool.rec (motive := fun _ => Bool) (cellAt l (n - 1) k) (k x) (Nat.beq n 0) = true := h
    cases n with
    | zero => exact ⟨x, rfl, h'⟩
    | succ n =>
      have h2 : cellAt l n k = true := h'
      obtain ⟨s, h3, h4⟩ := cellAt_some h2
      exact ⟨s, by simpa using h3, h4⟩
theorem nat2_some {f : Nat → Nat → (V → Bool) → Bool} {op : BinOp} {a b : Int} {k : V → Bool} (hf : ∀ m n k, f m n k = true → ∃ v, bin64 op (.ofNat m) (.ofNat n) = some v ∧ k v = true)
    (h : nat2 f (fun a b k => vk (bin64 op a b) k) a b k = true) : ∃ v, bin64 op a b = some v ∧ k v = true := by
  cases a with
  | ofNat m =>
    cases b with
    | ofNat n => exact hf _ _ _ h
    | negSucc n => exact vk_some h
  | negSucc m => exact vk_some h
theorem nAdd_some {m n : Nat} {k : V → Bool} (h : nAdd m n k = true) : ∃ v, bin64 .add (.ofNat m) (.ofNat n) = some v ∧ k v = true := by
  have h' : Bool.rec (motive := fun _ => Bool) (vk (bin64 .add (.ofNat m) (.ofNat n)) k) (k (.c (.i (.ofNat (m + n))))) (Nat.ble (m + n) m63) = true := h
  cases hb : Nat.ble (m + n) m63 with
  | false => rw [hb] at h'; exact vk_some h'
  | true =>
    rw [hb] at h'
    refine ⟨_, ?_, h'⟩
    show some (V.c (.i (w64 (Int.add (.ofNat m) (.ofNat n))))) = _
    rw [show Int.add (.ofNat m) (.ofNat n) = .ofNat (m + n) from rfl]
    unfold w64
    simp only [hb, cond_true]
theorem nSub_some {m n : Nat} {k : V → Bool} (h : nSub m n k = true) : ∃ v, bin64 .sub (.ofNat m) (.ofNat n) = some v ∧ k v = true := by
  have h' : Bool.rec (motive := fun _ => Bool) (vk (bin64 .sub (.ofNat m) (.ofNat n)) k) (k (.c (.i (.ofNat (m - n))))) (Nat.ble n m && Nat.ble m m63) = true := h
  cases hb : (Nat.ble n m && Nat.ble m m63) with
  | false => rw [hb] at h'; exact vk_some h'
  | true =>
    rw [hb] at h'
    refine ⟨_, ?_, h'⟩
    show some (V.c (.i (w64 (Int.sub (.ofNat m) (.ofNat n))))) = _
    obtain ⟨h1, h2⟩ := (Bool.and_eq_true _ _).mp hb
    have h1 := Nat.le_of_ble_eq_true h1
    have h2 := Nat.le_of_ble_eq_true h2
    have e : Int.sub (.ofNat m) (.ofNat n) = .ofNat (m - n) := by
      show (m : Int) - (n : Int) = ((m - n : Nat) : Int)
      omega
    have hb' : Nat.ble (m - n) m63 = true := Nat.ble_eq_true_of_le (by omega)
    rw [e]
    unfold w64
    simp only [hb', cond_true]
theorem ble_not (m n : Nat) : (not (Nat.ble n m)) = Nat.ble (m + 1) n := by
  by_cases h : n ≤ m
  · rw [Nat.ble_eq_true_of_le h, ble_f (by omega)]; rfl
  · rw [ble_f h, Nat.ble_eq_true_of_le (by omega)]; rfl
theorem bf_some {op : BinOp} {a b : Int} {k : V → Bool} (h : (bf op).f a b k = true) : ∃ v, bin64 op a b = some v ∧ k v = true := by
  cases op with
  | add => exact nat2_some (fun _ _ _ => nAdd_some) h
  | sub => exact nat2_some (fun _ _ _ => nSub_some) h
  | eql => exact nat2_some (fun _ _ _ h => ⟨_, rfl, bk_some h⟩) h
  | neq => exact nat2_some (fun _ _ _ h => ⟨_, rfl, bk_some h⟩) h
  | lss => exact nat2_some (fun m n _ h => ⟨_, by show some (V.c (.b (not (Nat.ble n m)))) = some (V.c (.b (Nat.ble (m + 1) n))); rw [ble_not], bk_some h⟩) h
  | leq => exact nat2_some (fun _ _ _ h => ⟨_, rfl, bk_some h⟩) h
  | gtr => exact nat2_some (fun m n _ h => ⟨_, by show some (V.c (.b (not (Nat.ble m n)))) = some (V.c (.b (Nat.ble (n + 1) m))); rw [ble_not], bk_some h⟩) h
  | geq => exact nat2_some (fun _ _ _ h => ⟨_, rfl, bk_some h⟩) h
  | _ => exact vk_some h
end Go.Ev
end
