/-
What an operation looks at: its slots. It yields the same wherever these hold the same.
-/
import Derived.Test.YtjidglpldjcmdaaGreatEvI
set_option linter.unusedVariables false
set_option linter.unusedSimpArgs false
set_option maxRecDepth 20000
namespace Go.Ev
open Go

def oT : O → List Nat
  | .t i => [i]
  | .k _ => []
def oTs (l : List O) : List Nat := l.flatMap oT
def pTs (l : List (Nat × Nat × O)) : List Nat := l.flatMap fun p => oT p.2.2
def oTo : Option O → List Nat
  | none => []
  | some x => oT x
def wT : W → List Nat
  | .mv x => oT x
  | .pick c a b => oT c ++ oT a ++ oT b
  | .nilc x => oT x
  | .build _ ps => pTs ps
  | .bin _ x y => oT x ++ oT y
  | .eqb _ x y => oT x ++ oT y
  | .eql _ x y => oT x ++ oT y
  | .eqp _ x y => oT x ++ oT y
  | .eqf _ x y => oT x ++ oT y
  | .un _ x => oT x
  | .cv _ x => oT x
  | .cvs x => oT x
  | .mkf _ cs => oTs cs
  | .sls x lo hi => oT x ++ oTo lo ++ oTo hi
  | .sll _ x lo hi mx => oT x ++ oTo lo ++ oTo hi ++ oTo mx
  | .fad _ x => oT x
  | .fld _ _ x => oT x
  | .iad _ x ix => oT x ++ oT ix
  | .ixs x ix => oT x ++ oT ix
  | .ext _ x => oT x
  | .lns x => oT x
  | .lnl x => oT x
  | .mnx _ x y => oT x ++ oT y
  | .ibs x y => oT x ++ oT y
def rT : R → List Nat
  | .ld _ a => oT a
  | .bts x => oT x
def aT : A → List Nat
  | .al _ => []
  | .box x => oT x
  | .bsl _ _ _ ps => pTs ps
  | .mks _ _ _ n c => oT n ++ oT c
def mT : M → List Nat
  | .st _ a v => oT a ++ oT v
  | .app _ _ x y => oT x ++ oT y
  | .call _ xs => oTs xs
  | .cal x xs => oT x ++ oTs xs
  | .clr _ _ x => oT x
def moT : MO → List Nat
  | .w x => wT x
  | .r x => rT x
  | .a x => aT x
  | .m x => mT x
def gT : Option (Nat × Bool) → List Nat
  | none => []
  | some (t, _) => [t]

/-- Two frames alike at some slots. -/
def Like (l : List Nat) (e e' : E) : Prop := ∀ t ∈ l, e.get t = e'.get t
theorem Like.left {l m : List Nat} {e e' : E} (h : Like (l ++ m) e e') : Like l e e' := fun t ht => h t (List.mem_append_left _ ht)
theorem Like.right {l m : List Nat} {e e' : E} (h : Like (l ++ m) e e') : Like m e e' := fun t ht => h t (List.mem_append_right _ ht)
theorem Like.symm {l : List Nat} {e e' : E} (h : Like l e e') : Like l e' e := fun t ht => (h t ht).symm
theorem ov_like {e e' : E} {x : O} (h : Like (oT x) e e') : ov e x = ov e' x := by
  cases x with
  | t i => simp only [ov, h i (by simp [oT])]
  | k v => rfl
theorem os_like {e e' : E} {x : O} (h : Like (oT x) e e') : os e x = os e' x := by simp only [os, ov_like h]
theorem on_like {e e' : E} {x : O} (h : Like (oT x) e e') : on e x = on e' x := by simp only [on, os_like h]
theorem onj_like {e e' : E} {x : O} (h : Like (oT x) e e') : onj e x = onj e' x := by simp only [onj, os_like h]
theorem onD_like {e e' : E} {d : Nat} {x : Option O} (h : Like (oTo x) e e') : onD e d x = onD e' d x := by
  cases x with
  | none => rfl
  | some x => simp only [onD, onj_like (x := x) h]
theorem ovs_like {e e' : E} : ∀ {l : List O}, Like (oTs l) e e' → ovs e l = ovs e' l
  | [], _ => rfl
  | x :: l, h => by
    have h' : Like (oT x ++ oTs l) e e' := h
    show ov e x :: ovs e l = ov e' x :: ovs e' l
    rw [ov_like h'.left, ovs_like h'.right]
theorem putAll_like {e e' : E} : ∀ {l : List (Nat × Nat × O)} {z : List S}, Like (pTs l) e e' → putAll z e l = putAll z e' l
  | [], _, _ => rfl
  | p :: l, z, h => by
    have h' : Like (oT p.2.2 ++ pTs l) e e' := h
    have red : ∀ e : E, putAll z e (p :: l) = (match cellsOf (ov e p.2.2) with
      | none => none
      | some l' => bif Nat.beq (llen l') p.2.1 && Nat.ble (Nat.add p.1 p.2.1) (llen z) then putAll (lput z l' p.1) e l else none) := fun _ => rfl
    rw [red, red, ov_like h'.left]
    cases cellsOf (ov e' p.2.2) with
    | none => rfl
    | some l' => simp only [putAll_like h'.right]
theorem ptrs_like {e e' : E} : ∀ {l : List O}, Like (oTs l) e e' → ptrs e l = ptrs e' l
  | [], _ => rfl
  | x :: l, h => by
    have h' : Like (oT x ++ oTs l) e e' := h
    have red : ∀ e : E, ptrs e (x :: l) = (match os e x, ptrs e l with | .p a b, some l => some ((a, b) :: l) | _, _ => none) := fun _ => rfl
    rw [red, red, os_like h'.left, ptrs_like h'.right]

theorem wv_like {e e' : E} {x : W} (h : Like (wT x) e e') : wv e x = wv e' x := by
  cases x <;> simp only [wT] at h
  case mv => simp only [wv, ov_like h]
  case pick => simp only [wv, os_like h.left.left, ov_like h.left.right, ov_like h.right]
  case build => simp only [wv, putAll_like h]
  case mkf => simp only [wv, ptrs_like h]
  case sls => simp only [wv, os_like h.left.left, onD_like h.left.right, onD_like h.right]
  case sll sz x lo hi mx =>
    simp only [wv, os_like h.left.left.left, onD_like h.left.left.right, onD_like h.left.right, onD_like h.right]
    cases mx with
    | none => rfl
    | some m => simp only [onj_like (x := m) h.right]
  case fld => simp only [wv, ov_like h]
  case iad => simp only [wv, os_like h.left, onj_like h.right]
  case ixs => simp only [wv, os_like h.left, onj_like h.right]
  case ext => simp only [wv, ov_like h]
  all_goals first
    | (simp only [wv, os_like h]; done)
    | (simp only [wv, os_like h.left, os_like h.right]; done)
theorem rv_like {e e' : E} {s : St} {x : R} (h : Like (rT x) e e') : rv e s x = rv e' s x := by
  cases x <;> simp only [rT] at h <;> simp only [rv, os_like h]
theorem av_like {e e' : E} {x : A} (h : Like (aT x) e e') : av e x = av e' x := by
  cases x <;> simp only [aT] at h
  case al => rfl
  case box => simp only [av, ov_like h]
  case bsl => simp only [av, putAll_like h]
  case mks => simp only [av, on_like h.left, on_like h.right]
theorem mv_like {call : Nat → List V → St → Option (V × St)} {e e' : E} {s : St} {x : M} (h : Like (mT x) e e') : mv call e s x = mv call e' s x := by
  cases x <;> simp only [mT] at h
  case st => simp only [mv, os_like h.left, ov_like h.right]
  case app => simp only [mv, os_like h.left, os_like h.right]
  case call => simp only [mv, ovs_like h]
  case cal => simp only [mv, os_like h.left, ovs_like h.right]
  case clr => simp only [mv, os_like h]
theorem mo_like {call : Nat → List V → St → Option (V × St)} {e e' : E} {s : St} {x : MO} (h : Like (moT x) e e') : mo call e s x = mo call e' s x := by
  cases x <;> simp only [moT] at h
  case w => simp only [mo, wv_like h]
  case r => simp only [mo, rv_like h]
  case a => simp only [mo, av_like h]
  case m => simp only [mo, mv_like h]

/-- A frame with some of its slots alone. -/
noncomputable def some_ (e : E) (l : List Nat) : E := l.foldr (fun t acc => T.upd (e.get t) acc t) T.lf
theorem get_some_ (e : E) : ∀ (l : List Nat) (t : Nat), (some_ e l).get t = if t ∈ l then e.get t else none
  | [], t => by simp [some_, T.get_lf]
  | x :: l, t => by
    show (T.upd (e.get x) (some_ e l) x).get t = _
    rw [T.get_upd, get_some_ e l]
    by_cases h : t = x
    · subst h; simp
    · rw [if_neg h]; simp [h]
theorem like_some_ (e : E) (l : List Nat) : Like l (some_ e l) e := fun t ht => by rw [get_some_, if_pos ht]

/-- What a guard says. -/
noncomputable def gEv (e : E) : Option (Nat × Bool) → Option Bool
  | none => some true
  | some (t, want) => match ov e (.t t) with
    | .c (.b x) => some (x == want)
    | .t [] => some false
    | _ => none
theorem gEv_like {e e' : E} {g : Option (Nat × Bool)} (h : Like (gT g) e e') : gEv e g = gEv e' g := by
  cases g with
  | none => rfl
  | some q =>
    obtain ⟨t, want⟩ := q
    have : ov e (.t t) = ov e' (.t t) := ov_like h
    simp only [gEv, this]
theorem evG_eq (call : Nat → List V → St → Option (V × St)) (e : E) (s : St) (dst : Option Nat) (g : Option (Nat × Bool)) (x : MO) :
    evG call e s dst g x = match gEv e g with
      | some true => match mo call e s x with | some (v, s) => some (put e dst v, s) | none => none
      | some false => some (put e dst (.t []), s)
      | none => none := by
  cases g with
  | none => rfl
  | some q =>
    obtain ⟨t, want⟩ := q
    simp only [evG, gEv]
    generalize ov e (.t t) = u
    cases u with
    | c q =>
      cases q with
      | b x =>
        have hbw : (bif x then want else not want) = (x == want) := by cases x <;> cases want <;> rfl
        simp only [hbw]
        cases (x == want) <;> rfl
      | _ => rfl
    | t l => cases l <;> rfl
    | _ => rfl
end Go.Ev
