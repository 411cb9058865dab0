/-
A binary tree of values by number, and lists by number: plain data for an evaluator. No program in sight.
-/
namespace Go.Ev

inductive T (α : Type) where
  | lf : T α
  | nd : T α → Option α → T α → T α

theorem nbeq (a b : Nat) : Nat.beq a b = (a == b) := by
  rw [Bool.eq_iff_iff]; simp [Nat.beq_eq]

theorem nble (a b : Nat) : Nat.ble a b = decide (a ≤ b) := by
  rw [Bool.eq_iff_iff]; simp [Nat.ble_eq]
/-- A test that must have held. -/
theorem cond_some {α : Type} {c : Bool} {x : Option α} {y : α} (h : (bif c then x else none) = some y) : c = true ∧ x = some y := by cases c <;> simp_all

theorem ble2 {a b c d : Nat} (h : (Nat.ble a b && Nat.ble c d) = true) : a ≤ b ∧ c ≤ d := by
  obtain ⟨h1, h2⟩ := (Bool.and_eq_true _ _).mp h
  exact ⟨Nat.le_of_ble_eq_true h1, Nat.le_of_ble_eq_true h2⟩
theorem ble3 {a b c d e f : Nat} (h : (Nat.ble a b && Nat.ble c d && Nat.ble e f) = true) : a ≤ b ∧ c ≤ d ∧ e ≤ f := by
  obtain ⟨h1, h2⟩ := (Bool.and_eq_true _ _).mp h
  obtain ⟨h3, h4⟩ := ble2 h1
  exact ⟨h3, h4, Nat.le_of_ble_eq_true h2⟩

namespace T
variable {α : Type}

/-- What lies at a number. -/
noncomputable def get (t : T α) : Nat → Option α :=
  T.rec (motive := fun _ => Nat → Option α) (fun _ => none) (fun _ v _ ihl ihr k =>
    Bool.rec (Bool.rec (ihl (Nat.div k 2)) (ihr (Nat.sub (Nat.div k 2) 1)) (Nat.beq (Nat.mod k 2) 0)) v (Nat.beq k 0)) t

noncomputable def sing (x : α) (f : Nat) : Nat → T α :=
  Nat.rec (motive := fun _ => Nat → T α) (fun _ => T.lf) (fun _ ih k =>
    Bool.rec (Bool.rec (nd (ih (Nat.div k 2)) none lf) (nd lf none (ih (Nat.sub (Nat.div k 2) 1))) (Nat.beq (Nat.mod k 2) 0)) (nd lf (some x) lf) (Nat.beq k 0)) f

/-- With another value at a number. -/
noncomputable def upd (o : Option α) (t : T α) : Nat → T α :=
  T.rec (motive := fun _ => Nat → T α) (fun k => Option.rec T.lf (fun x => sing x (Nat.succ k) k) o) (fun l v r ihl ihr k =>
    Bool.rec (Bool.rec (nd (ihl (Nat.div k 2)) v r) (nd l v (ihr (Nat.sub (Nat.div k 2) 1))) (Nat.beq (Nat.mod k 2) 0)) (nd l o r) (Nat.beq k 0)) t

theorem get_lf (k : Nat) : (lf : T α).get k = none := rfl
theorem get_nd (l : T α) (v : Option α) (r : T α) (k : Nat) :
    (nd l v r).get k = bif k == 0 then v else bif k % 2 == 0 then r.get (k / 2 - 1) else l.get (k / 2) := by
  rw [← nbeq, ← nbeq]
  show (Bool.rec (motive := fun _ => Option α) (Bool.rec (motive := fun _ => Option α) (l.get (k / 2)) (r.get (k / 2 - 1)) (Nat.beq (k % 2) 0)) v (Nat.beq k 0)) = _
  cases (Nat.beq k 0) <;> cases (Nat.beq (k % 2) 0) <;> rfl

theorem sing_succ (x : α) (f k : Nat) :
    sing x (f + 1) k = bif k == 0 then nd lf (some x) lf else bif k % 2 == 0 then nd lf none (sing x f (k / 2 - 1)) else nd (sing x f (k / 2)) none lf := by
  rw [← nbeq, ← nbeq]
  show Bool.rec (motive := fun _ => T α) (Bool.rec (motive := fun _ => T α) (nd (sing x f (k / 2)) none lf) (nd lf none (sing x f (k / 2 - 1))) (Nat.beq (k % 2) 0)) (nd lf (some x) lf) (Nat.beq k 0) = _
  cases (Nat.beq k 0) <;> cases (Nat.beq (k % 2) 0) <;> rfl

theorem upd_lf (o : Option α) (k : Nat) : upd o lf k = match o with | none => lf | some x => sing x (k + 1) k := by cases o <;> rfl
theorem upd_nd (o : Option α) (l : T α) (v : Option α) (r : T α) (k : Nat) :
    upd o (nd l v r) k = bif k == 0 then nd l o r else bif k % 2 == 0 then nd l v (upd o r (k / 2 - 1)) else nd (upd o l (k / 2)) v r := by
  rw [← nbeq, ← nbeq]
  show Bool.rec (motive := fun _ => T α) (Bool.rec (motive := fun _ => T α) (nd (upd o l (k / 2)) v r) (nd l v (upd o r (k / 2 - 1))) (Nat.beq (k % 2) 0)) (nd l o r) (Nat.beq k 0) = _
  cases (Nat.beq k 0) <;> cases (Nat.beq (k % 2) 0) <;> rfl

theorem get_sing (x : α) : ∀ (f k j : Nat), k < f → (sing x f k).get j = if j = k then some x else none := by
  intro f
  induction f with
  | zero => intro k j h; omega
  | succ f ih =>
    intro k j h
    rw [sing_succ]
    by_cases hk : k = 0
    · subst hk
      simp only [beq_self_eq_true, cond_true, get_nd, get_lf]
      by_cases hj : j = 0
      · simp [hj]
      · have : (j == 0) = false := by simpa using hj
        simp [this, hj]
    · have hk' : (k == 0) = false := by simpa using hk
      simp only [hk', cond_false]
      by_cases h2 : k % 2 = 0
      · have h2' : (k % 2 == 0) = true := by simpa using h2
        simp only [h2', cond_true, get_nd, get_lf]
        by_cases hj : j = 0
        · subst hj; simp; omega
        · have hj' : (j == 0) = false := by simpa using hj
          simp only [hj', cond_false]
          by_cases hj2 : j % 2 = 0
          · have hj2' : (j % 2 == 0) = true := by simpa using hj2
            simp only [hj2', cond_true]
            rw [ih _ _ (by omega)]
            by_cases e : j = k
            · subst e; simp
            · rw [if_neg e, if_neg (by omega)]
          · have hj2' : (j % 2 == 0) = false := by simpa using hj2
            simp only [hj2', cond_false]
            rw [if_neg (by omega)]
      · have h2' : (k % 2 == 0) = false := by simpa using h2
        simp only [h2', cond_false, get_nd, get_lf]
        by_cases hj : j = 0
        · subst hj; simp; omega
        · have hj' : (j == 0) = false := by simpa using hj
          simp only [hj', cond_false]
          by_cases hj2 : j % 2 = 0
          · have hj2' : (j % 2 == 0) = true := by simpa using hj2
            simp only [hj2', cond_true]
            rw [if_neg (by omega)]
          · have hj2' : (j % 2 == 0) = false := by simpa using hj2
            simp only [hj2', cond_false]
            rw [ih _ _ (by omega)]
            by_cases e : j = k
            · subst e; simp
            · rw [if_neg e, if_neg (by omega)]

theorem get_upd (o : Option α) (t : T α) : ∀ (k j : Nat), (upd o t k).get j = if j = k then o else t.get j := by
  induction t with
  | lf =>
    intro k j
    rw [upd_lf]
    cases o with
    | none => simp [get_lf]
    | some x => simp only [get_sing x (k + 1) k j (by omega), get_lf]
  | nd l v r ihl ihr =>
    intro k j
    rw [upd_nd]
    by_cases hk : k = 0
    · subst hk
      simp only [beq_self_eq_true, cond_true, get_nd]
      by_cases hj : j = 0
      · simp [hj]
      · have hj' : (j == 0) = false := by simpa using hj
        simp [hj', hj]
    · have hk' : (k == 0) = false := by simpa using hk
      simp only [hk', cond_false]
      by_cases h2 : k % 2 = 0
      · have h2' : (k % 2 == 0) = true := by simpa using h2
        simp only [h2', cond_true, get_nd]
        by_cases hj : j = 0
        · subst hj; simp; omega
        · have hj' : (j == 0) = false := by simpa using hj
          simp only [hj', cond_false]
          by_cases hj2 : j % 2 = 0
          · have hj2' : (j % 2 == 0) = true := by simpa using hj2
            simp only [hj2', cond_true]
            rw [ihr]
            by_cases e : j = k
            · subst e; simp
            · rw [if_neg e, if_neg (by omega)]
          · have hj2' : (j % 2 == 0) = false := by simpa using hj2
            simp only [hj2', cond_false]
            rw [if_neg (by omega)]
      · have h2' : (k % 2 == 0) = false := by simpa using h2
        simp only [h2', cond_false, get_nd]
        by_cases hj : j = 0
        · subst hj; simp; omega
        · have hj' : (j == 0) = false := by simpa using hj
          simp only [hj', cond_false]
          by_cases hj2 : j % 2 = 0
          · have hj2' : (j % 2 == 0) = true := by simpa using hj2
            simp only [hj2', cond_true]
            rw [if_neg (by omega)]
          · have hj2' : (j % 2 == 0) = false := by simpa using hj2
            simp only [hj2', cond_false]
            rw [ihl]
            by_cases e : j = k
            · subst e; simp
            · rw [if_neg e, if_neg (by omega)]
end T

/-! Lists by number, by the recursors. -/
section
variable {α : Type}
noncomputable def lget (l : List α) : Nat → Option α :=
  List.rec (motive := fun _ => Nat → Option α) (fun _ => none) (fun x _ ih k => Bool.rec (ih (Nat.sub k 1)) (some x) (Nat.beq k 0)) l
noncomputable def ldrop (l : List α) : Nat → List α :=
  List.rec (motive := fun _ => Nat → List α) (fun _ => []) (fun x t ih k => Bool.rec (ih (Nat.sub k 1)) (x :: t) (Nat.beq k 0)) l
noncomputable def ltake (l : List α) : Nat → List α :=
  List.rec (motive := fun _ => Nat → List α) (fun _ => []) (fun x _ ih k => Bool.rec (x :: ih (Nat.sub k 1)) [] (Nat.beq k 0)) l
noncomputable def lapp (l m : List α) : List α := List.rec (motive := fun _ => List α) m (fun x _ ih => x :: ih) l
noncomputable def llen (l : List α) : Nat := List.rec (motive := fun _ => Nat → Nat) (fun a => a) (fun _ _ ih a => ih (Nat.succ a)) l 0
noncomputable def lset (l : List α) (x : α) : Nat → List α :=
  List.rec (motive := fun _ => Nat → List α) (fun _ => []) (fun y t ih k => Bool.rec (y :: ih (Nat.sub k 1)) (x :: t) (Nat.beq k 0)) l
/-- l with m written over it from place k on (l's length stays if there is room). -/
noncomputable def lput (l m : List α) (k : Nat) : List α := lapp (ltake l k) (lapp m (ldrop l (Nat.add k (llen m))))

theorem lget_eq (l : List α) : ∀ k, lget l k = l[k]? := by
  induction l with
  | nil => intro k; rfl
  | cons x t ih =>
    intro k
    show Bool.rec (motive := fun _ => Option α) (lget t (k - 1)) (some x) (Nat.beq k 0) = _
    cases k with
    | zero => rfl
    | succ k => show lget t (k + 1 - 1) = _; rw [ih]; simp
theorem ldrop_eq (l : List α) : ∀ k, ldrop l k = l.drop k := by
  induction l with
  | nil => intro k; simp [ldrop]
  | cons x t ih =>
    intro k
    show Bool.rec (motive := fun _ => List α) (ldrop t (k - 1)) (x :: t) (Nat.beq k 0) = _
    cases k with
    | zero => rfl
    | succ k => show ldrop t (k + 1 - 1) = _; rw [ih]; simp
theorem ltake_eq (l : List α) : ∀ k, ltake l k = l.take k := by
  induction l with
  | nil => intro k; simp [ltake]
  | cons x t ih =>
    intro k
    show Bool.rec (motive := fun _ => List α) (x :: ltake t (k - 1)) [] (Nat.beq k 0) = _
    cases k with
    | zero => rfl
    | succ k => show x :: ltake t (k + 1 - 1) = _; rw [ih]; simp
theorem lapp_eq (l m : List α) : lapp l m = l ++ m := by
  induction l with
  | nil => rfl
  | cons x t ih => show x :: lapp t m = _; rw [ih]; rfl
theorem llen_eq (l : List α) : llen l = l.length := by
  have h : ∀ (l : List α) (a : Nat), (List.rec (motive := fun _ => Nat → Nat) (fun a => a) (fun _ _ ih a => ih (Nat.succ a)) l a : Nat) = l.length + a := by
    intro l
    induction l with
    | nil => intro a; simp
    | cons x t ih => intro a; show (List.rec (motive := fun _ => Nat → Nat) (fun a => a) (fun _ _ ih a => ih (Nat.succ a)) t (Nat.succ a) : Nat) = _; rw [ih]; simp; omega
  exact (h l 0)
theorem lset_eq (l : List α) (x : α) : ∀ k, lset l x k = l.set k x := by
  induction l with
  | nil => intro k; simp [lset]
  | cons y t ih =>
    intro k
    show Bool.rec (motive := fun _ => List α) (y :: lset t x (k - 1)) (x :: t) (Nat.beq k 0) = _
    cases k with
    | zero => rfl
    | succ k => show y :: lset t x (k + 1 - 1) = _; rw [ih]; simp
theorem lput_eq (l m : List α) (k : Nat) : lput l m k = l.take k ++ (m ++ l.drop (k + m.length)) := by
  simp only [lput, lapp_eq, ltake_eq, ldrop_eq, llen_eq]; rfl
end
end Go.Ev
