/- Parts of the proof of FnBytes. -/
import Derived.Orders
set_option linter.unusedVariables false
set_option linter.unusedSimpArgs false
section
namespace Go.Ev
inductive T (α : Type) where
  | lf : T α
  | nd : T α → Option α → T α → T α
theorem nbeq (a b : Nat) : Nat.beq a b = (a == b) := by
  rw [Bool.eq_iff_iff]; simp [Nat.beq_eq]
theorem nble (a b : Nat) : Nat.ble a b = decide (a ≤ b) := by
  rw [Bool.eq_iff_iff]; simp [Nat.ble_eq]
theorem cond_some {α : Type} {c : Bool} {x : Option α} {y : α} (h : (bif c then x else none) = some y) : c = true ∧ x = some y := by cases c <;> simp_all
theorem ble2 {a b c d : Nat} (h : (Nat.ble a b && Nat.ble c d) = true) : a ≤ b ∧ c ≤ d := by
  obtain ⟨h1, h2⟩ := (Bool.and_eq_true _ _).mp h
  exact ⟨Nat.le_of_ble_eq_true h1, Nat.le_of_ble_eq_true h2⟩
theorem ble3 {a b c d e f : Nat} (h : (Nat.ble a b && Nat.ble c d && Nat.ble e f) = true) : a ≤ b ∧ c ≤ d ∧ e ≤ f := by
  obtain ⟨h1, h2⟩ := (Bool.and_eq_true _ _).mp h
  obtain ⟨h3, h4⟩ := ble2 h1
  exact ⟨h3, h4, Nat.le_of_ble_eq_true h2⟩
namespace T
variable {α : Type}
noncomputable def get (t : T α) : Nat → Option α :=
  T.rec (motive := fun _ => Nat → Option α) (fun _ => none) (fun _ v _ ihl ihr k =>
    Bool.rec (Bool.rec (ihl (Nat.div k 2)) (ihr (Nat.sub (Nat.div k 2) 1)) (Nat.beq (Nat.mod k 2) 0)) v (Nat.beq k 0)) t
noncomputable def sing (x : α) (f : Nat) : Nat → T α :=
  Nat.rec (motive := fun _ => Nat → T α) (fun _ => T.lf) (fun _ ih k =>
    Bool.rec (Bool.rec (nd (ih (Nat.div k 2)) none lf) (nd lf none (ih (Nat.sub (Nat.div k 2) 1))) (Nat.beq (Nat.mod k 2) 0)) (nd lf (some x) lf) (Nat.beq k 0)) f
noncomputable def upd (o : Option α) (t : T α) : Nat → T α :=
  T.rec (motive := fun _ => Nat → T α) (fun k => Option.rec T.lf (fun x => sing x (Nat.succ k) k) o) (fun l v r ihl ihr k =>
    Bool.rec (Bool.rec (nd (ihl (Nat.div k 2)) v r) (nd l v (ihr (Nat.sub (Nat.div k 2) 1))) (Nat.beq (Nat.mod k 2) 0)) (nd l o r) (Nat.beq k 0)) t
theorem get_lf (k : Nat) : (lf : T α).get k = none := rfl
theorem get_nd (l : T α) (v : Option α) (r : T α) (k : Nat) :
    (nd l v r).get k = bif k == 0 then v else bif k % 2 == 0 then r.get (k / 2 - 1) else l.get (k / 2) := by
  rw [← nbeq, ← nbeq]
  show (Bool.rec (motive := fun _ => Option α) (Bool.rec (motive := fun _ => Option α) (l.get (k / 2)) (r.get (k / 2 - 1)) (Nat.beq (k % 2) 0)) v (Nat.beq k 0)) = _
  cases (Nat.beq k 0) <;> cases (Nat.beq (k % 2) 0) <;> rfl
theorem sing_succ (x : α) (f k : Nat) :
    sing x (f + 1) k = bif k == 0 then nd lf (some x) lf else bif k % 2 == 0 then nd lf none (sing x f (k / 2 - 1)) else nd (sing x f (k / 2)) none lf := by
  rw [← nbeq, ← nbeq]
  show Bool.rec (motive := fun _ => T α) (Bool.rec (motive := fun _ => T α) (nd (sing x f (k / 2)) none lf) (nd lf none (sing x f (k / 2 - 1))) (Nat.beq (k % 2) 0)) (nd lf (some x) lf) (Nat.beq k 0) = _
  cases (Nat.beq k 0) <;> cases (Nat.beq (k % 2) 0) <;> rfl
theorem upd_lf (o : Option α) (k : Nat) : upd o lf k = match o with | none => lf | some x => sing x (k + 1) k := by cases o <;> rfl
theorem upd_nd (o : Option α) (l : T α) (v : Option α) (r : T α) (k : Nat) :
    upd o (nd l v r) k = bif k == 0 then nd l o r else bif k % 2 == 0 then nd l v (upd o r (k / 2 - 1)) else nd (upd o l (k / 2)) v r := by
  rw [← nbeq, ← nbeq]
  show Bool.rec (motive := fun _ => T α) (Bool.rec (motive := fun _ => T α) (nd (upd o l (k / 2)) v r) (nd l v (upd o r (k / 2 - 1))) (Nat.beq (k % 2) 0)) (nd l o r) (Nat.beq k 0) = _
  cases (Nat.beq k 0) <;> cases (Nat.beq (k % 2) 0) <;> rfl
theorem get_sing (x : α) : ∀ (f k j : Nat), k < f → (sing x f k).get j = if j = k then some x else none := by
  intro f
  induction f with
  | zero => intro k j h; omega
  | succ f ih =>
    intro k j h
    rw [sing_succ]
    by_cases hk : k = 0
    · subst hk
      simp only [beq_self_eq_true, cond_true, get_nd, get_lf]
      by_cases hj : j = 0
      · simp [hj]
      · have : (j == 0) = false := by simpa using hj
        simp [this, hj]
    · have hk' : (k == 0) = false := by simpa using hk
      simp only [hk', cond_false]
      by_cases h2 : k % 2 = 0
      · have h2' : (k % 2 == 0) = true := by simpa using h2
        simp only [h2', cond_true, get_nd, get_lf]
        by_cases hj : j = 0
        · subst hj; simp; omega
        · have hj' : (j == 0) = false := by simpa using hj
          simp only [hj', cond_false]
          by_cases hj2 : j % 2 = 0
          · have hj2' : (j % 2 == 0) = true := by simpa using hj2
            simp only [hj2', cond_true]
            rw [ih _ _ (by omega)]
            by_cases e : j = k
            · subst e; simp
            · rw [if_neg e, if_neg (by omega)]
          · have hj2' : (j % 2 == 0) = false := by simpa using hj2
            simp only [hj2', cond_false]
            rw [if_neg (by omega)]
      · have h2' : (k % 2 == 0) = false := by simpa using h2
        simp only [h2', cond_false, get_nd, get_lf]
        by_cases hj : j = 0
        · subst hj; simp; omega
        · have hj' : (j == 0) = false := by simpa using hj
          simp only [hj', cond_false]
          by_cases hj2 : j % 2 = 0
          · have hj2' : (j % 2 == 0) = true := by simpa using hj2
            simp only [hj2', cond_true]
            rw [if_neg (by omega)]
          · have hj2' : (j % 2 == 0) = false := by simpa using hj2
            simp only [hj2', cond_false]
            rw [ih _ _ (by omega)]
            by_cases e : j = k
            · subst e; simp
            · rw [if_neg e, if_neg (by omega)]
theorem get_upd (o : Option α) (t : T α) : ∀ (k j : Nat), (upd o t k).get j = if j = k then o else t.get j := by
  induction t with
  | lf =>
    intro k j
    rw [upd_lf]
    cases o with
    | none => simp [get_lf]
    | some x => simp only [get_sing x (k + 1) k j (by omega), get_lf]
  | nd l v r ihl ihr =>
    intro k j
    rw [upd_nd]
    by_cases hk : k = 0
    · subst hk
      simp only [beq_self_eq_true, cond_true, get_nd]
      by_cases hj : j = 0
      · simp [hj]
      · have hj' : (j == 0) = false := by simpa using hj
        simp [hj', hj]
    · have hk' : (k == 0) = false := by simpa using hk
      simp only [hk', cond_false]
      by_cases h2 : k % 2 = 0
      · have h2' : (k % 2 == 0) = true := by simpa using h2
        simp only [h2', cond_true, get_nd]
        by_cases hj : j = 0
        · subst hj; simp; omega
        · have hj' : (j == 0) = false := by simpa using hj
          simp only [hj', cond_false]
          by_cases hj2 : j % 2 = 0
          · have hj2' : (j % 2 == 0) = true := by simpa using hj2
            simp only [hj2', cond_true]
            rw [ihr]
            by_cases e : j = k
            · subst e; simp
            · rw [if_neg e, if_neg (by omega)]
          · have hj2' : (j % 2 == 0) = false := by simpa using hj2
            simp only [hj2', cond_false]
            rw [if_neg (by omega)]
      · have h2' : (k % 2 == 0) = false := by simpa using h2
        simp only [h2', cond_false, get_nd]
        by_cases hj : j = 0
        · subst hj; simp; omega
        · have hj' : (j == 0) = false := by simpa using hj
          simp only [hj', cond_false]
          by_cases hj2 : j % 2 = 0
          · have hj2' : (j % 2 == 0) = true := by simpa using hj2
            simp only [hj2', cond_true]
            rw [if_neg (by omega)]
          · have hj2' : (j % 2 == 0) = false := by simpa using hj2
            simp only [hj2', cond_false]
            rw [ihl]
            by_cases e : j = k
            · subst e; simp
            · rw [if_neg e, if_neg (by omega)]
end T
section
variable {α : Type}
noncomputable def lget (l : List α) : Nat → Option α :=
  List.rec (motive := fun _ => Nat → Option α) (fun _ => none) (fun x _ ih k => Bool.rec (ih (Nat.sub k 1)) (some x) (Nat.beq k 0)) l
noncomputable def ldrop (l : List α) : Nat → List α :=
  List.rec (motive := fun _ => Nat → List α) (fun _ => []) (fun x t ih k => Bool.rec (ih (Nat.sub k 1)) (x :: t) (Nat.beq k 0)) l
noncomputable def ltake (l : List α) : Nat → List α :=
  List.rec (motive := fun _ => Nat → List α) (fun _ => []) (fun x _ ih k => Bool.rec (x :: ih (Nat.sub k 1)) [] (Nat.beq k 0)) l
noncomputable def lapp (l m : List α) : List α := List.rec (motive := fun _ => List α) m (fun x _ ih => x :: ih) l
noncomputable def llen (l : List α) : Nat := List.rec (motive := fun _ => Nat → Nat) (fun a => a) (fun _ _ ih a => ih (Nat.succ a)) l 0
noncomputable def lset (l : List α) (x : α) : Nat → List α :=
  List.rec (motive := fun _ => Nat → List α) (fun _ => []) (fun y t ih k => Bool.rec (y :: ih (Nat.sub k 1)) (x :: t) (Nat.beq k 0)) l
noncomputable def lput (l m : List α) (k : Nat) : List α := lapp (ltake l k) (lapp m (ldrop l (Nat.add k (llen m))))
theorem lget_eq (l : List α) : ∀ k, lget l k = l[k]? := by
  induction l with
  | nil => intro k; rfl
  | cons x t ih =>
    intro k
    show Bool.rec (motive := fun _ => Option α) (lget t (k - 1)) (some x) (Nat.beq k 0) = _
    cases k with
    | zero => rfl
    | succ k => show lget t (k + 1 - 1) = _; rw [ih]; simp
theorem ldrop_eq (l : List α) : ∀ k, ldrop l k = l.drop k := by
  induction l with
  | nil => intro k; simp [ldrop]
  | cons x t ih =>
    intro k
    show Bool.rec (motive := fun _ => List α) (ldrop t (k - 1)) (x :: t) (Nat.beq k 0) = _
    cases k with
    | zero => rfl
    | succ k => show ldrop t (k + 1 - 1) = _; rw [ih]; simp
theorem ltake_eq (l : List α) : ∀ k, ltake l k = l.take k := by
  induction l with
  | nil => intro k; simp [ltake]
  | cons x t ih =>
    intro k
    show Bool.rec (motive := fun _ => List α) (x :: ltake t (k - 1)) [] (Nat.beq k 0) = _
    cases k with
    | zero => rfl
    | succ k => show x :: ltake t (k + 1 - 1) = _; rw [ih]; simp
theorem lapp_eq (l m : List α) : lapp l m = l ++ m := by
  induction l with
  | nil => rfl
  | cons x t ih => show x :: lapp t m = _; rw [ih]; rfl
theorem llen_eq (l : List α) : llen l = l.length := by
  have h : ∀ (l : List α) (a : Nat), (List.rec (motive := fun _ => Nat → Nat) (fun a => a) (fun _ _ ih a => ih (Nat.succ a)) l a : Nat) = l.length + a := by
    intro l
    induction l with
    | nil => intro a; simp
    | cons x t ih => intro a; show (List.rec (motive := fun _ => Nat → Nat) (fun a => a) (fun _ _ ih a => ih (Nat.succ a)) t (Nat.succ a) : Nat) = _; rw [ih]; simp; omega
  exact (h l 0)
theorem lset_eq (l : List α) (x : α) : ∀ k, lset l x k = l.set k x := by
  induction l with
  | nil => intro k; simp [lset]
  | cons y t ih =>
    intro k
    show Bool.rec (motive := fun _ => List α) (y :: lset t x (k - 1)) (x :: t) (Nat.beq k 0) = _
    cases k with
    | zero => rfl
    | succ k => show y :: lset t x (k + 1 - 1) = _; rw [ih]; simp
theorem lput_eq (l m : List α) (k : Nat) : lput l m k = l.take k ++ (m ++ l.drop (k + m.length)) := by
  simp only [lput, lapp_eq, ltake_eq, ldrop_eq, llen_eq]; rfl
end
end Go.Ev
end
section
namespace Go.Ev
open Go
inductive S where
  | un
  | b (x : Bool)
  | i (n : Int)
  | j (k : IntKind) (n : Int)
  | s (l : List Nat)
  | p0
  | p (x o : Nat)
  | l0
  | l (x o n e : Nat) (full : Bool)
  | f (g : Nat) (caps : List (Nat × Nat))
  | f0
  deriving Inhabited
inductive V where
  | o
  | c (s : S)
  | a (l : List S)
  | t (l : List V)
  deriving Inhabited
abbrev E := T V
structure Bk where
  c : List S
  fam : Nat
  d : Nat
structure St where
  h : T Bk
  nb : Nat
  fm : T (List (Nat × Nat × Nat))
  nf : Nat
inductive O where
  | t (i : Nat)
  | k (v : V)
  deriving Inhabited
inductive W where
  | mv (x : O)
  | pick (c a b : O)
  | nilc (x : O)
  | build (z : List S) (parts : List (Nat × Nat × O))
  | bin (op : BinOp) (x y : O)
  | eqb (neg : Bool) (x y : O)
  | eql (neg : Bool) (x y : O)
  | eqp (neg : Bool) (x y : O)
  | eqf (neg : Bool) (x y : O)
  | un (op : UnOp) (x : O)
  | cv (k : IntKind) (x : O)
  | cvs (x : O)
  | mkf (g : Nat) (caps : List O)
  | sls (x : O) (lo hi : Option O)
  | sll (e : Nat) (x : O) (lo hi mx : Option O)
  | fad (off : Nat) (x : O)
  | fld (off : Nat) (n : Option Nat) (x : O)
  | iad (e : Nat) (x ix : O)
  | ixs (x ix : O)
  | ext (i : Nat) (x : O)
  | lns (x : O)
  | lnl (x : O)
  | cpl (x : O)
  | mnx (mx : Bool) (x y : O)
  | ibs (x y : O)
  deriving Inhabited
inductive A where
  | al (z : List S)
  | box (x : O)
  | bsl (e : Nat) (n : Nat) (z : List S) (parts : List (Nat × Nat × O))
  | mks (e : Nat) (bytes : Nat) (z : List S) (n c : O)
  deriving Inhabited
inductive M where
  | st (n : Nat) (a v : O)
  | app (e : Nat) (bytes : Nat) (x y : O)
  | call (g : Nat) (xs : List O)
  | cal (x : O) (xs : List O)
  | clr (e : Nat) (z : List S) (x : O)
  | apz (e : Nat) (bytes : Nat) (z : List S) (x n : O)
  deriving Inhabited
inductive R where
  | ld (n : Option Nat) (a : O)
  | bts (x : O)
  deriving Inhabited
inductive MO where
  | w (o : W)
  | r (o : R)
  | a (o : A)
  | m (o : M)
  deriving Inhabited
inductive Stp where
  | ev (dst : Option Nat) (g : Option (Nat × Bool)) (o : MO)
  | mk (dst : Option Nat) (g : Option (Nat × Bool)) (o : M) (rs : List (Nat × R)) (as_ : List (Nat × A))
  | e2 (n₁ : Nat) (a₁ v₁ : O) (n₂ : Nat) (a₂ v₂ : O)
  deriving Inhabited
inductive MC where
  | skip
  | reg (l : List Stp)
  | seq (a b : MC)
  | cond (c : O) (a b : MC)
  | blk (id : Nat) (m : MC)
  | loop (m : MC)
  | exit (id : Nat)
  | ret
  deriving Inhabited
inductive MRes where
  | t (i : Nat)
  | c (n : Option Nat) (i : Nat)
  deriving Inhabited
structure MFn where
  body : MC
  res : List MRes
  deriving Inhabited
inductive Rs where
  | no (e : E) (s : St)
  | ex (id : Nat) (e : E) (s : St)
  | rt (e : E) (s : St)
  | bad
def kix : IntKind → Nat
  | .i8 => 0 | .i16 => 1 | .i32 => 2 | .i64 => 3 | .u8 => 4 | .u16 => 5 | .u32 => 6 | .u64 => 7
def kbeq (a b : IntKind) : Bool := Nat.beq (kix a) (kix b)
def mkI (k : IntKind) (n : Int) : S := match k with | .i64 => .i n | k => .j k n
def m63 : Nat := 9223372036854775807
def m47 : Nat := 140737488355328
def w64 (n : Int) : Int :=
  match n with
  | .ofNat a => bif Nat.ble a m63 then .ofNat a else IntKind.i64.wrap (.ofNat a)
  | .negSucc a => bif Nat.ble a m63 then .negSucc a else IntKind.i64.wrap (.negSucc a)
def ile (a b : Int) : Bool :=
  match a, b with
  | .ofNat a, .ofNat b => Nat.ble a b
  | .ofNat _, .negSucc _ => false
  | .negSucc _, .ofNat _ => true
  | .negSucc a, .negSucc b => Nat.ble b a
def ieq (a b : Int) : Bool :=
  match a, b with
  | .ofNat a, .ofNat b => Nat.beq a b
  | .ofNat _, .negSucc _ => false
  | .negSucc _, .ofNat _ => false
  | .negSucc a, .negSucc b => Nat.beq a b
def semS : Sem Value → Option V
  | .pure (.int k n) => some (.c (mkI k n))
  | .pure (.bool b) => some (.c (.b b))
  | _ => none
def bin64 (op : BinOp) (a b : Int) : Option V :=
  match op with
  | .add => some (.c (.i (w64 (Int.add a b))))
  | .sub => some (.c (.i (w64 (Int.sub a b))))
  | .mul => some (.c (.i (w64 (Int.mul a b))))
  | .eql => some (.c (.b (ieq a b)))
  | .neq => some (.c (.b (not (ieq a b))))
  | .lss => some (.c (.b (not (ile b a))))
  | .leq => some (.c (.b (ile a b)))
  | .gtr => some (.c (.b (not (ile a b))))
  | .geq => some (.c (.b (ile b a)))
  | op => semS (binOp op 0 (.int .i64 a) (.int .i64 b))
def binJ (op : BinOp) (k : IntKind) (a : Int) (k' : IntKind) (b : Int) : Option V :=
  match op with
  | .eql => bif kbeq k k' then some (.c (.b (ieq a b))) else none
  | .neq => bif kbeq k k' then some (.c (.b (not (ieq a b)))) else none
  | .lss => bif kbeq k k' then some (.c (.b (not (ile b a)))) else none
  | .leq => bif kbeq k k' then some (.c (.b (ile a b))) else none
  | .gtr => bif kbeq k k' then some (.c (.b (not (ile a b)))) else none
  | .geq => bif kbeq k k' then some (.c (.b (ile b a))) else none
  | op => semS (binOp op 0 (.int k a) (.int k' b))
noncomputable def seq (l : List Nat) : List Nat → Bool :=
  List.rec (motive := fun _ => List Nat → Bool) (fun m => List.rec true (fun _ _ _ => false) m)
    (fun x _ ih m => List.rec false (fun y t _ => Bool.rec false (ih t) (Nat.beq x y)) m) l
noncomputable def slt (l : List Nat) : List Nat → Bool :=
  List.rec (motive := fun _ => List Nat → Bool) (fun m => List.rec false (fun _ _ _ => true) m)
    (fun x _ ih m => List.rec false (fun y t _ => Bool.rec (Nat.ble (Nat.succ x) y) (ih t) (Nat.beq x y)) m) l
noncomputable def binS (op : BinOp) (a b : List Nat) : Option V :=
  match op with
  | .add => bif Nat.ble (Nat.add (llen a) (llen b)) 4611686018427387904 then some (.c (.s (lapp a b))) else none
  | .eql => some (.c (.b (seq a b)))
  | .neq => some (.c (.b (not (seq a b))))
  | .lss => some (.c (.b (slt a b)))
  | .geq => some (.c (.b (not (slt a b))))
  | .gtr => some (.c (.b (not (slt a b || seq a b))))
  | .leq => some (.c (.b (slt a b || seq a b)))
  | _ => none
noncomputable def ov (e : E) : O → V
  | .t i => match e.get i with | some v => v | none => .o
  | .k v => v
noncomputable def os (e : E) (x : O) : S := match ov e x with | .c s => s | _ => .un
def cellsOf : V → Option (List S)
  | .c s => some [s]
  | .a l => some l
  | _ => none
noncomputable def putAll (z : List S) (e : E) (ps : List (Nat × Nat × O)) : Option (List S) :=
  List.rec (motive := fun _ => List S → Option (List S)) (fun z => some z) (fun p _ ih z =>
    match cellsOf (ov e p.2.2) with
    | none => none
    | some l => bif Nat.beq (llen l) p.2.1 && Nat.ble (Nat.add p.1 p.2.1) (llen z) then ih (lput z l p.1) else none) ps z
noncomputable def ovs (e : E) (xs : List O) : List V := List.rec [] (fun x _ ih => ov e x :: ih) xs
noncomputable def on (e : E) (x : O) : Option Nat := match os e x with | .i (.ofNat n) => some n | _ => none
noncomputable def onj (e : E) (x : O) : Option Nat := match os e x with | .i (.ofNat n) => some n | .j _ (.ofNat n) => some n | _ => none
noncomputable def onD (e : E) (d : Nat) : Option O → Option Nat
  | none => some d
  | some x => onj e x
noncomputable def ptrs (e : E) (xs : List O) : Option (List (Nat × Nat)) :=
  List.rec (some []) (fun x _ ih => match os e x, ih with | .p a b, some l => some ((a, b) :: l) | _, _ => none) xs
noncomputable def find (c : Nat) (l : List Nat) : Nat → Int :=
  List.rec (motive := fun _ => Nat → Int) (fun _ => -1) (fun x _ ih k => Bool.rec (ih (Nat.succ k)) (.ofNat k) (Nat.beq x c)) l
def bb (b : Bool) : Option V := some (.c (.b b))
noncomputable def wv (e : E) : W → Option V
  | .mv x => some (ov e x)
  | .pick c a b => match os e c with | .b x => some (bif x then ov e a else ov e b) | _ => none
  | .nilc x => match os e x with | .p a b => some (.c (.p a b)) | .f g cs => some (.c (.f g cs)) | _ => none
  | .build z ps => match putAll z e ps with | some l => some (.a l) | none => none
  | .bin op x y => match os e x, os e y with
    | .i a, .i b => bin64 op a b
    | .j k a, .j k' b => binJ op k a k' b
    | .s a, .s b => binS op a b
    | .i a, .j k' b => semS (binOp op 0 (.int .i64 a) (.int k' b))
    | .j k a, .i b => semS (binOp op 0 (.int k a) (.int .i64 b))
    | _, _ => none
  | .eqb ng x y => match os e x, os e y with | .b a, .b b => bb (xor ng (bif a then b else not b)) | _, _ => none
  | .eql ng x y => match os e x, os e y with
    | .l0, .l0 => bb (not ng) | .l0, .l .. => bb ng | .l .., .l0 => bb ng | _, _ => none
  | .eqp ng x y => match os e x, os e y with
    | .p0, .p0 => bb (not ng) | .p0, .p .. => bb ng | .p .., .p0 => bb ng | _, _ => none
  | .eqf ng x y => match os e x, os e y with
    | .f0, .f0 => bb (not ng) | .f0, .f .. => bb ng | .f .., .f0 => bb ng | _, _ => none
  | .un op x => match os e x with
    | .b a => match op with | .not => bb (not a) | _ => none
    | .i a => semS (Op.unary op (.int .i64 a))
    | .j k a => semS (Op.unary op (.int k a))
    | _ => none
  | .cv k x => match os e x with
    | .i a => some (.c (mkI k (k.wrap a)))
    | .j _ a => some (.c (mkI k (k.wrap a)))
    | _ => none
  | .cvs x => match os e x with
    | .i (.ofNat a) => bif Nat.ble a 127 then some (.c (.s [a])) else none
    | .j _ (.ofNat a) => bif Nat.ble a 127 then some (.c (.s [a])) else none
    | _ => none
  | .mkf g cs => match ptrs e cs with | some l => some (.c (.f g l)) | none => none
  | .sls x lo hi => match os e x with
    | .s l => match onD e 0 lo, onD e (llen l) hi with
      | some a, some b => bif Nat.ble a b && Nat.ble b (llen l) then some (.c (.s (ltake (ldrop l a) (Nat.sub b a)))) else none
      | _, _ => none
    | _ => none
  | .sll sz x lo hi mx => match os e x with
    | .l0 => match onD e 0 lo, onD e 0 hi, onD e 0 mx with
      | some 0, some 0, some 0 => some (.c .l0)
      | _, _, _ => none
    | .l bl o n sz' full => bif Nat.beq sz sz' then match mx with
      | none => match onD e 0 lo, onD e n hi with
        | some a, some b => bif Nat.ble a b && Nat.ble b n then some (.c (.l bl (Nat.add o (Nat.mul a sz)) (Nat.sub b a) sz (full && Nat.beq b n))) else none
        | _, _ => none
      | some m => match onD e 0 lo, onD e n hi, onj e m with
        | some a, some b, some m => bif Nat.ble a b && Nat.ble b m && Nat.ble m n then some (.c (.l bl (Nat.add o (Nat.mul a sz)) (Nat.sub b a) sz (Nat.beq b m))) else none
        | _, _, _ => none else none
    | _ => none
  | .fad off x => match os e x with | .p a b => some (.c (.p a (Nat.add b off))) | _ => none
  | .fld off n x => match ov e x with
    | .a l => match n with
      | none => match lget l off with | some s => some (.c s) | none => none
      | some n => bif Nat.ble (Nat.add off n) (llen l) then some (.a (ltake (ldrop l off) n)) else none
    | _ => none
  | .iad sz x ix => match os e x with
    | .l bl o n sz' _ => match onj e ix with
      | some i => bif Nat.beq sz sz' && Nat.ble (Nat.succ i) n then some (.c (.p bl (Nat.add o (Nat.mul i sz)))) else none
      | none => none
    | _ => none
  | .ixs x ix => match os e x with
    | .s l => match onj e ix with
      | some i => match lget l i with | some b => some (.c (.j .u8 (.ofNat b))) | none => none
      | none => none
    | _ => none
  | .ext i x => match ov e x with | .t l => lget l i | _ => none
  | .lns x => match os e x with
    | .s l => some (.c (.i (.ofNat (llen l))))
    | _ => none
  | .lnl x => match os e x with
    | .l0 => some (.c (.i 0))
    | .l _ _ n _ _ => some (.c (.i (.ofNat n)))
    | _ => none
  | .cpl x => match os e x with
    | .l0 => some (.c (.i 0))
    | .l _ _ n _ full => bif full then some (.c (.i (.ofNat n))) else none
    | _ => none
  | .mnx mx x y => match os e x, os e y with
    | .i a, .i b => some (.c (.i (bif mx then (bif ile b a then a else b) else (bif ile a b then a else b))))
    | _, _ => none
  | .ibs x y => match os e x, os e y with
    | .s l, .j .u8 (.ofNat c) => bif Nat.ble c 255 then some (.c (.i (find c l 0))) else none
    | _, _ => none
def consB (x : S) (m : Option (List Nat)) : Option (List Nat) :=
  match x, m with
  | .j .u8 (.ofNat b), some l => bif Nat.ble b 255 then some (b :: l) else none
  | _, _ => none
noncomputable def bytesIn (l : List S) : Option (List Nat) := List.rec (some []) (fun x _ ih => consB x ih) l
noncomputable def cellsAt (s : St) (x o n : Nat) : Option (List S) :=
  match s.h.get x with
  | some b => bif Nat.ble (Nat.add o n) (llen b.c) then some (ltake (ldrop b.c o) n) else none
  | none => none
noncomputable def ldv (s : St) (n : Option Nat) : S → Option V
  | .p x o => match n with
    | none => match s.h.get x with
      | some b => match lget b.c o with | some v => some (.c v) | none => none
      | none => none
    | some n => match cellsAt s x o n with | some l => some (.a l) | none => none
  | _ => none
noncomputable def rv (e : E) (s : St) : R → Option V
  | .ld n a => ldv s n (os e a)
  | .bts x => match os e x with
    | .l0 => some (.c (.s []))
    | .l x o n sz _ => bif Nat.beq sz 1 then (match cellsAt s x o n with
      | some l => match bytesIn l with | some b => some (.c (.s b)) | none => none
      | none => none) else none
    | _ => none
noncomputable def lrep (z : List S) (n : Nat) : List S := Nat.rec [] (fun _ ih => lapp z ih) n
noncomputable def av (e : E) : A → Option (List S × (Nat → V))
  | .al z => some (z, fun x => .c (.p x 0))
  | .box x => match cellsOf (ov e x) with | some l => some (l, fun x => .c (.p x 0)) | none => none
  | .bsl sz n z ps => match putAll z e ps with | some l => some (l, fun x => .c (.l x 0 n sz true)) | none => none
  | .mks sz bytes z n c => match on e n, on e c with
    | some n, some c => bif Nat.ble n c && Nat.ble (Nat.mul bytes c) m47 && Nat.ble c m63 then some (lrep z c, fun x => .c (.l x 0 n sz (Nat.beq n c))) else none
    | _, _ => none
noncomputable def alloc (s : St) (l : List S) : St := { s with h := T.upd (some ⟨l, 0, 0⟩) s.h s.nb, nb := Nat.succ s.nb }
noncomputable def kill (x lo hi : Nat) (h : T Bk) (ms : List (Nat × Nat × Nat)) : T Bk × List (Nat × Nat × Nat) :=
  List.rec (h, []) (fun m _ ih =>
    bif Nat.beq m.1 x then (ih.1, m :: ih.2)
    else bif Nat.ble (Nat.succ m.2.1) hi && Nat.ble (Nat.succ lo) (Nat.add m.2.1 m.2.2) then (T.upd none ih.1 m.1, ih.2)
    else (ih.1, m :: ih.2)) ms
noncomputable def prep (s : St) (x o n : Nat) : Option St :=
  match s.h.get x with
  | none => none
  | some b =>
    bif Nat.ble (Nat.add o n) (llen b.c) then
      match b.fam with
      | 0 => some s
      | .succ f => match s.fm.get f with
        | none => none
        | some ms =>
          let k := kill x (Nat.add b.d o) (Nat.add (Nat.add b.d o) n) s.h ms
          some { s with h := k.1, fm := T.upd (some k.2) s.fm f }
    else none
noncomputable def setc (s : St) (x o : Nat) (l : List S) : Option St :=
  match s.h.get x with
  | none => none
  | some b => some { s with h := T.upd (some ⟨lput b.c l o, b.fam, b.d⟩) s.h x }
noncomputable def store (s : St) (x o n : Nat) (l : List S) : Option St :=
  bif Nat.beq (llen l) n then (match prep s x o n with | some s => setc s x o l | none => none) else none
noncomputable def newsOf (s : St) (sz : Nat) : S → Option (Nat × List S)
  | .l0 => some (0, [])
  | .l x o n sz' _ => bif Nat.beq sz sz' then (match n with
    | 0 => some (0, [])
    | .succ n => match cellsAt s x o (Nat.mul (Nat.succ n) sz) with | some l => some (Nat.succ n, l) | none => none) else none
  | _ => none
noncomputable def famOf (s : St) (bl : Nat) : Option (St × Nat × Nat × List (Nat × Nat × Nat)) :=
  match s.h.get bl with
  | none => none
  | some b => match b.fam with
    | 0 => some ({ s with h := T.upd (some ⟨b.c, Nat.succ s.nf, 0⟩) s.h bl, fm := T.upd (some [(bl, 0, llen b.c)]) s.fm s.nf, nf := Nat.succ s.nf }, 0, s.nf, [(bl, 0, llen b.c)])
    | .succ f => match s.fm.get f with
      | none => none
      | some ms => some (s, b.d, f, ms)
noncomputable def grow (s : St) (f d lo hi : Nat) (ms : List (Nat × Nat × Nat)) (l : List S) : St :=
  let k := kill s.nb lo hi s.h ms
  { h := T.upd (some ⟨l, Nat.succ f, d⟩) k.1 s.nb, nb := Nat.succ s.nb, fm := T.upd (some ((s.nb, d, llen l) :: k.2)) s.fm f, nf := s.nf }
noncomputable def app (s : St) (sz bytes : Nat) (x y : S) : Option (V × St) :=
  match newsOf s sz y with
  | none => none
  | some (m, ns) =>
    match m with
    | 0 => match x with | .l0 => some (.c x, s) | .l _ _ _ _ _ => some (.c x, s) | _ => none
    | .succ _ =>
      match x with
      | .l0 => bif Nat.ble (Nat.mul m bytes) m47 && Nat.ble m m63 then some (.c (.l s.nb 0 m sz false), alloc s ns) else none
      | .l bl o n sz' full =>
        bif Nat.beq sz sz' && (Nat.ble (Nat.mul (Nat.add n m) bytes) m47 && Nat.ble (Nat.add n m) m63) then
          match (match n with | 0 => some [] | .succ _ => cellsAt s bl o (Nat.mul n sz)) with
          | none => none
          | some old =>
            bif full then some (.c (.l s.nb 0 (Nat.add n m) sz false), alloc s (lapp old ns))
            else match famOf s bl with
              | none => none
              | some (s', d, f, ms) =>
                let lo := Nat.add (Nat.add d o) (Nat.mul n sz)
                some (.c (.l s.nb 0 (Nat.add n m) sz false), grow s' f (Nat.add d o) lo (Nat.add lo (llen ns)) ms (lapp old ns))
        else none
      | _ => none
noncomputable def clrv (s : St) (sz : Nat) (z : List S) : S → Option (V × St)
  | .l0 => some (.o, s)
  | .l bl o n sz' _ => bif Nat.beq sz sz' then (bif Nat.beq n 0 then some (.o, s) else match store s bl o (Nat.mul n sz) (lrep z n) with | some s => some (.o, s) | none => none) else none
  | _ => none
noncomputable def apzv (s : St) (sz bytes : Nat) (z : List S) (n : Option Nat) : S → Option (V × St)
  | .l0 => match n with
    | some 0 => some (.c .l0, s)
    | some (.succ m) => bif Nat.ble (Nat.mul (Nat.succ m) bytes) m47 && Nat.ble (Nat.succ m) m63 then some (.c (.l s.nb 0 (Nat.succ m) sz false), alloc s (lrep z (Nat.succ m))) else none
    | none => none
  | _ => none
section
variable (call : Nat → List V → St → Option (V × St))
noncomputable def mv (e : E) (s : St) : M → Option (V × St)
  | .st n a v => match os e a, cellsOf (ov e v) with
    | .p x o, some l => match store s x o n l with | some s => some (.o, s) | none => none
    | _, _ => none
  | .app sz bytes x y => app s sz bytes (os e x) (os e y)
  | .call g xs => call g (ovs e xs) s
  | .cal x xs => match os e x with
    | .f g cs => call g (lapp (ovs e xs) (cs.map fun c => V.c (.p c.1 c.2))) s
    | _ => none
  | .clr sz z x => clrv s sz z (os e x)
  | .apz sz bytes z x n => apzv s sz bytes z (on e n) (os e x)
noncomputable def put (e : E) (dst : Option Nat) (v : V) : E := match dst with | none => e | some d => T.upd (some v) e d
noncomputable def mo (e : E) (s : St) : MO → Option (V × St)
  | .w o => match wv e o with | some v => some (v, s) | none => none
  | .r o => match rv e s o with | some v => some (v, s) | none => none
  | .a o => match av e o with | some (l, f) => some (f s.nb, alloc s l) | none => none
  | .m o => mv call e s o
noncomputable def capsEq (l : List (Nat × Nat)) : List (Nat × Nat) → Bool :=
  List.rec (motive := fun _ => List (Nat × Nat) → Bool) (fun m => List.rec true (fun _ _ _ => false) m)
    (fun x _ ih m => List.rec false (fun y t _ => Bool.rec false (ih t) (Nat.beq x.1 y.1 && Nat.beq x.2 y.2)) m) l
noncomputable def sEq : S → S → Bool
  | .b x, .b y => bif x then y else not y
  | .i a, .i b => ieq a b
  | .j k a, .j k' b => kbeq k k' && ieq a b
  | .s l, .s m => seq l m
  | .p0, .p0 => true
  | .p a b, .p c d => Nat.beq a c && Nat.beq b d
  | .l0, .l0 => true
  | .l a b c d e, .l a' b' c' d' e' => Nat.beq a a' && Nat.beq b b' && Nat.beq c c' && Nat.beq d d' && (bif e then e' else not e')
  | .f g l, .f g' l' => Nat.beq g g' && capsEq l l'
  | .f0, .f0 => true
  | _, _ => false
noncomputable def lEq (l : List S) : List S → Bool :=
  List.rec (motive := fun _ => List S → Bool) (fun m => List.rec true (fun _ _ _ => false) m)
    (fun x _ ih m => List.rec false (fun y t _ => Bool.rec false (ih t) (sEq x y)) m) l
noncomputable def vEq : V → V → Bool
  | .c a, .c b => sEq a b
  | .a l, .a m => lEq l m
  | _, _ => false
noncomputable def chkR (e : E) (s : St) (l : List (Nat × R)) : Bool :=
  List.rec true (fun p _ ih => match ov e (.t p.1) with
    | .t [] => ih
    | v => match rv e s p.2 with | some u => vEq v u && ih | none => false) l
def blkOf : V → Option Nat
  | .c (.p x 0) => some x
  | .c (.l x 0 _ _ _) => some x
  | _ => none
noncomputable def chkA (e : E) (s : St) (l : List (Nat × A)) : Bool :=
  List.rec true (fun p _ ih => match ov e (.t p.1) with
    | .t [] => ih
    | v => match av e p.2, blkOf v with
      | some (l, _), some x => match s.h.get x with
        | some b => lEq b.c l && Nat.beq b.fam 0 && Nat.beq b.d 0 && ih
        | none => false
      | _, _ => false) l
noncomputable def evG (e : E) (s : St) (dst : Option Nat) (g : Option (Nat × Bool)) (o : MO) : Option (E × St) :=
  match g with
  | none => match mo call e s o with | some (v, s) => some (put e dst v, s) | none => none
  | some (t, want) => match ov e (.t t) with
    | .c (.b x) => bif (bif x then want else not want) then (match mo call e s o with | some (v, s) => some (put e dst v, s) | none => none) else some (put e dst (.t []), s)
    | .t [] => some (put e dst (.t []), s)
    | _ => none
noncomputable def stp (e : E) (s : St) : Stp → Option (E × St)
  | .ev dst g o => evG call e s dst g o
  | .mk dst g o rs as_ => match evG call e s dst g (.m o) with
    | some (e, s) => bif chkR e s rs && chkA e s as_ then some (e, s) else none
    | none => none
  | .e2 n₁ a₁ v₁ n₂ a₂ v₂ => match os e a₁, cellsOf (ov e v₁), os e a₂, cellsOf (ov e v₂) with
    | .p x₁ o₁, some l₁, .p x₂ o₂, some l₂ =>
      bif ((not (Nat.beq x₁ x₂)) || Nat.ble (Nat.add o₁ n₁) o₂ || Nat.ble (Nat.add o₂ n₂) o₁) && Nat.beq (llen l₁) n₁ && Nat.beq (llen l₂) n₂ then
        match prep s x₁ o₁ n₁ with
        | none => none
        | some s => match prep s x₂ o₂ n₂ with
          | none => none
          | some s => match setc s x₁ o₁ l₁ with
            | none => none
            | some s => match setc s x₂ o₂ l₂ with
              | none => none
              | some s => some (e, s)
      else none
    | _, _, _, _ => none
noncomputable def reg (l : List Stp) : E → St → Option (E × St) :=
  List.rec (motive := fun _ => E → St → Option (E × St)) (fun e s => some (e, s)) (fun x _ ih e s => match stp call e s x with | some (e, s) => ih e s | none => none) l
variable (N : Nat)
noncomputable def ev (m : MC) : E → St → Rs :=
  MC.rec (motive := fun _ => E → St → Rs)
    (fun e s => .no e s)
    (fun l e s => match reg call l e s with | some (e, s) => .no e s | none => .bad)
    (fun _ _ ia ib e s => match ia e s with | .no e s => ib e s | r => r)
    (fun c _ _ ia ib e s => match os e c with | .b x => Bool.rec (ib e s) (ia e s) x | _ => .bad)
    (fun id _ im e s => match im e s with | .ex id' e s => bif Nat.beq id' id then .no e s else .ex id' e s | r => r)
    (fun _ im e s => Nat.rec (motive := fun _ => E → St → Rs) (fun _ _ => .bad) (fun _ ih e s => match im e s with | .no e s => ih e s | r => r) N e s)
    (fun id e s => .ex id e s)
    (fun e s => .rt e s) m
noncomputable def resv (e : E) (s : St) : MRes → Option V
  | .t i => match ov e (.t i) with | .t _ => none | v => some v
  | .c n i => ldv s n (os e (.t i))
noncomputable def resL (e : E) (s : St) (l : List MRes) : Option (List V) :=
  List.rec (some []) (fun x _ ih => match resv e s x, ih with | some v, some l => some (v :: l) | _, _ => none) l
noncomputable def results (e : E) (s : St) (l : List MRes) : Option (V × St) :=
  match resL e s l with
  | some [v] => some (v, s)
  | some l => some (.t l, s)
  | none => none
end
noncomputable def initE (vs : List V) : Nat → E :=
  List.rec (motive := fun _ => Nat → E) (fun _ => T.lf) (fun v _ ih k => T.upd (some v) (ih (Nat.succ k)) k) vs
noncomputable def fn (tbl : T MFn) (N : Nat) (ext : Nat → List V → St → Option (V × St)) (d : Nat) : Nat → List V → St → Option (V × St) :=
  Nat.rec (motive := fun _ => Nat → List V → St → Option (V × St)) (fun _ _ _ => none) (fun _ ih g vs s =>
    match tbl.get g with
    | none => ext g vs s
    | some f => match ev ih N f.body (initE vs 0) s with
      | .no e s => results e s f.res
      | .rt e s => results e s f.res
      | _ => none) d
def St.zero : St := ⟨T.lf, 0, T.lf, 0⟩
end Go.Ev
end
