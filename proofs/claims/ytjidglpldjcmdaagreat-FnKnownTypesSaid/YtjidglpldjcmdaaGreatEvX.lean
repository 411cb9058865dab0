/-
Operations that touch no memory, all of them: what the evaluator yields is what the model yields.
-/
import Derived.Test.YtjidglpldjcmdaaGreatEvW
import Derived.Lib.Bytealg
set_option linter.unusedVariables false
set_option linter.unusedSimpArgs false
namespace Go.Ev
open Go

/-- Where the library's search for a byte is called. -/
def IbsOk (P : Program) (ibs : FuncId → Bool) : Prop :=
  ∀ f, ibs f = true → ∀ (args : Array Value) (v : Value) (w : World), (Extern.BytealgIndexByte.indexByte args).run P w = .ok v w → (callFunc f args).run P w = .ok (.value v) w

theorem execV {P : Program} {s : Sem Value} {cv : Value} {w w' : World} (h : s.run P w = .ok cv w') : ((do pure (Next.value (← s))) : Sem Next).run P w = .ok (.value cv) w' := by
  simp [h]
theorem run_under {P : Program} {t : TypeId} {u : TypeDesc} (h : P.underlying t = some u) (w : World) : (underlying t).run P w = .ok u w := by
  simp [underlying, h]
theorem run_size {P : Program} {t : TypeId} {i : TypeInfo} (h : P.info? t = some i) (w : World) : (sizeOf t).run P w = .ok i.size w := by
  simp [sizeOf, typeInfo, h]
theorem run_tinfo {P : Program} {t : TypeId} {i : TypeInfo} (h : P.info? t = some i) (w : World) : (typeInfo t).run P w = .ok i w := by
  simp [typeInfo, h]
theorem run_zero {P : Program} {t : TypeId} {i : TypeInfo} {z : Value} (h : P.info? t = some i) (hz : i.zero = some z) (w : World) : (zeroValue t).run P w = .ok z w := by
  simp [zeroValue, typeInfo, h, hz]
theorem run_isAgg {P : Program} {t : TypeId} {u : TypeDesc} (h : P.underlying t = some u) (w : World) : (isAgg t).run P w = .ok (isAggD u) w := by
  unfold isAgg
  simp only [Sem.run_bind, run_under h, Result.andThen_ok]
  cases u <;> rfl

/-- What an operand holds, where the evaluator sees a cell's value. -/
theorem ER.at {ρ : Rho} {e : E} {a : Act} (he : ER ρ e a) {x : Operand} {y : O} (h : cO x = some y) {s : S} (hs : Ev.os e y = s) (hu : s ≠ .un := by simp) : SR ρ s (a.eval x) := he.os h hs hu

/-- A number. -/
theorem onj_sound {ρ : Rho} {e : E} {a : Act} (he : ER ρ e a) {x : Operand} {y : O} (h : cO x = some y) {n : Nat} (hn : onj e y = some n) : ∃ k, a.eval x = .int k (n : Int) := by
  unfold onj at hn
  split at hn <;> simp only [Option.some.injEq, reduceCtorEq] at hn
  · rename_i m hm; subst hn; exact ⟨_, he.at h hm⟩
  · rename_i k m hm; subst hn; exact ⟨_, he.at h hm⟩
theorem on_sound {ρ : Rho} {e : E} {a : Act} (he : ER ρ e a) {x : Operand} {y : O} (h : cO x = some y) {n : Nat} (hn : on e y = some n) : a.eval x = .int .i64 (n : Int) := by
  unfold on at hn
  split at hn <;> simp only [Option.some.injEq, reduceCtorEq] at hn
  rename_i m hm; subst hn; exact he.at h hm
theorem onD_sound {ρ : Rho} {e : E} {a : Act} (he : ER ρ e a) {x : Option Operand} {y : Option O} (h : cOo x = some y) {d n : Nat} (hn : onD e d y = some n) :
    (x = none ∧ y = none ∧ n = d) ∨ ∃ x' k, x = some x' ∧ a.eval x' = .int k (n : Int) := by
  cases x with
  | none => simp only [cOo, Option.some.injEq] at h; subst h; simp only [onD, Option.some.injEq] at hn; exact .inl ⟨rfl, rfl, hn.symm⟩
  | some x =>
    unfold cOo at h
    split at h
    · simp at *
    · rename_i x' hx
      simp only [Option.some.injEq] at hx; subst hx
      split at h
      · rename_i y' hy
        simp only [Option.some.injEq] at h; subst h
        obtain ⟨k, hk⟩ := onj_sound he hy (by simpa [onD] using hn)
        exact .inr ⟨x, k, rfl, hk⟩
      · simp at h

/-- Bounds of a slice expression. -/
theorem sliceBounds_run (P : Program) (w : World) (b : Bool) (len cap l h : Nat) {lo hi : Option Value} (hl : (lo = none ∧ l = 0) ∨ ∃ k, lo = some (.int k l)) (hh : (hi = none ∧ h = len) ∨ ∃ k, hi = some (.int k h))
    (h1 : l ≤ h) (h2 : h ≤ len) (h3 : len ≤ cap) : (Instr.sliceBounds b len cap lo hi none).run P w = .ok (l, h, cap) w := by
  have hb : ∀ (k : IntKind) (i y : Nat) (c : BoundsCode), i ≤ y → (Instr.sliceBound (.int k i) y c).run P w = .ok i w := fun k i y c hi => by
    simp [Instr.sliceBound, asIntOf, hi]
  unfold Instr.sliceBounds
  rcases hl with ⟨rfl, rfl⟩ | ⟨k, rfl⟩ <;> rcases hh with ⟨rfl, rfl⟩ | ⟨k', rfl⟩
  · simp
  · simp [hb k' h cap _ (by omega)]
  · simp [hb k l h _ (by omega)]
  · simp [hb k' h cap _ (by omega), hb k l h _ (by omega)]
theorem sliceBounds_run3 (P : Program) (w : World) (len cap l h m : Nat) {lo hi : Option Value} {k : IntKind} (hl : (lo = none ∧ l = 0) ∨ ∃ k, lo = some (.int k l)) (hh : ∃ k, hi = some (.int k h))
    (h1 : l ≤ h) (h2 : h ≤ m) (h3 : m ≤ cap) : (Instr.sliceBounds true len cap lo hi (some (.int k m))).run P w = .ok (l, h, m) w := by
  have hb : ∀ (k : IntKind) (i y : Nat) (c : BoundsCode), i ≤ y → (Instr.sliceBound (.int k i) y c).run P w = .ok i w := fun k i y c hi => by
    simp [Instr.sliceBound, asIntOf, hi]
  unfold Instr.sliceBounds
  obtain ⟨k', rfl⟩ := hh
  rcases hl with ⟨rfl, rfl⟩ | ⟨k'', rfl⟩
  · simp [hb k m cap _ h3, hb k' h m _ h2]
  · simp [hb k m cap _ h3, hb k' h m _ h2, hb k'' l h _ h1]

/-- Cells laid into others. -/
theorem foldl_set (src : List Value) : ∀ (off i : Nat) (cells : Array Value), off + i + src.length ≤ cells.size →
    ((src.zipIdx i).foldl (fun (cs : Array Value) (p : Value × Nat) => cs.setIfInBounds (off + p.2) p.1) cells).toList = cells.toList.take (off + i) ++ (src ++ cells.toList.drop (off + i + src.length)) := by
  induction src with
  | nil => intro off i cells h; simp
  | cons x t ih =>
    intro off i cells h
    simp only [List.zipIdx_cons, List.foldl_cons]
    rw [ih off (i + 1) _ (by simp at h ⊢; omega)]
    simp only [Array.toList_setIfInBounds, List.length_cons]
    have hlt : off + i < cells.toList.length := by simp at h ⊢; omega
    have e1 : (cells.toList.set (off + i) x).take (off + (i + 1)) = cells.toList.take (off + i) ++ [x] := by
      rw [show off + (i + 1) = (off + i) + 1 by omega, List.take_add_one]
      rw [List.getElem?_set_self hlt, List.take_set_of_le (Nat.le_refl _)]; rfl
    have e2 : (cells.toList.set (off + i) x).drop (off + (i + 1) + t.length) = cells.toList.drop (off + i + (t.length + 1)) := by
      rw [show off + (i + 1) + t.length = off + i + (t.length + 1) by omega, List.drop_set_of_lt (by omega)]
    rw [e1, e2]
    simp
theorem putAll_sound {ρ : Rho} {e : E} {a : Act} (he : ER ρ e a) {pl : Nat → Option (Nat × Nat)} :
    ∀ {ps : List (Nat × Operand)} {qs : List (Nat × Nat × O)} {z l : List S} {cells : Array Value}, cParts pl ps = some qs → putAll z e qs = some l → LR (SR ρ) z cells.toList →
      ∃ out, Instr.fill pl cells (ps.map fun p => (p.1, a.eval p.2)) = some out ∧ LR (SR ρ) l out.toList
  | [], qs, z, l, cells, h, hp, hz => by
    simp only [cParts, Option.some.injEq] at h; subst h
    have : some z = some l := hp
    simp only [Option.some.injEq] at this; subst this
    exact ⟨cells, rfl, hz⟩
  | (i, x) :: ps, qs, z, l, cells, h, hp, hz => by
    unfold cParts at h
    split at h
    · rename_i off sz y m h1 h2 h3
      simp only [Option.some.injEq] at h; subst h
      have hp' : (match cellsOf (ov e y) with
        | none => none
        | some l' => bif Nat.beq (llen l') sz && Nat.ble (Nat.add off sz) (llen z) then putAll (lput z l' off) e m else none) = some l := hp
      cases hc : cellsOf (ov e y) with
      | none => simp [hc] at hp'
      | some l' =>
        simp only [hc] at hp'
        obtain ⟨ht, hp'⟩ := cond_some hp'
        simp only [Bool.and_eq_true, nbeq, nble, beq_iff_eq, decide_eq_true_eq, llen_eq, Nat.add_eq] at ht
        have hcl := VR.cells (he.ov h2) hc
        have hlen := hcl.length
        have hzl := hz.length
        have hlen' : (a.eval x).cells.size = sz := by rw [← ht.1, hlen]; simp
        have hfit : ¬ (off + (a.eval x).cells.size > cells.size) := by
          have : z.length = cells.size := by rw [hzl]; simp
          omega
        have hfold := foldl_set (a.eval x).cells.toList off 0 cells (by simp at hzl ⊢; omega)
        have hnew : LR (SR ρ) (lput z l' off) (((a.eval x).cells.zipIdx.foldl (fun cs (c, j) => cs.setIfInBounds (off + j) c) cells)).toList := by
          rw [show ((a.eval x).cells.zipIdx.foldl (fun cs (c, j) => cs.setIfInBounds (off + j) c) cells) = (((a.eval x).cells.toList.zipIdx 0).foldl (fun (cs : Array Value) (p : Value × Nat) => cs.setIfInBounds (off + p.2) p.1) cells) by
            rw [← Array.foldl_toList, Array.toList_zipIdx]]
          rw [hfold, lput_eq]
          simp only [Nat.add_zero]
          refine (hz.take off).append (hcl.append ?_)
          rw [← hlen]
          exact hz.drop _
        obtain ⟨out, ho1, ho2⟩ := putAll_sound he h3 hp' hnew
        refine ⟨out, ?_, ho2⟩
        simp only [List.map_cons, Instr.fill, h1, hlen', ne_eq, not_true_eq_false, false_or]
        rw [hlen'] at hfit
        rw [if_neg (by simpa using hfit)]
        exact ho1
    · simp at h

theorem ptrs_sound {ρ : Rho} {e : E} {a : Act} (he : ER ρ e a) : ∀ {xs : List Operand} {ys : List O} {l : List (Nat × Nat)}, cOs xs = some ys → ptrs e ys = some l → LR (fun (c : Nat × Nat) v => PR ρ c.1 c.2 v) l (xs.map a.eval)
  | [], ys, l, h, hp => by
    simp only [cOs, Option.some.injEq] at h; subst h
    have : some [] = some l := hp
    simp only [Option.some.injEq] at this; subst this
    trivial
  | x :: xs, ys, l, h, hp => by
    unfold cOs at h
    split at h
    · rename_i y m h1 h2
      simp only [Option.some.injEq] at h; subst h
      have hp' : (match Ev.os e y, ptrs e m with | .p a b, some l => some ((a, b) :: l) | _, _ => none) = some l := hp
      split at hp'
      · rename_i a' b' l' h3 h4
        simp only [Option.some.injEq] at hp'; subst hp'
        exact ⟨he.at h1 h3, ptrs_sound he h2 h4⟩
      · simp at hp'
    · simp at h
theorem find_spec (c : UInt8) : ∀ (l : List UInt8) (k : Nat), find c.toNat (l.map UInt8.toNat) k = if Lib.indexByte l c = -1 then -1 else (k : Int) + Lib.indexByte l c
  | [], k => rfl
  | x :: l, k => by
    show (Bool.rec (motive := fun _ => Int) (find c.toNat (l.map UInt8.toNat) (Nat.succ k)) (.ofNat k) (Nat.beq x.toNat c.toNat)) = _
    rw [nbeq, find_spec c l]
    have hge := Lib.indexByte_ge l c
    rw [show Lib.indexByte (x :: l) c = (if x == c then 0 else if Lib.indexByte l c == -1 then -1 else Lib.indexByte l c + 1) from rfl]
    by_cases h : x = c
    · subst h; simp
    · have h1 : (x.toNat == c.toNat) = false := by simpa using fun e => h (UInt8.toNat_inj.1 e)
      have h2 : (x == c) = false := by simpa using h
      simp only [h1, h2, Bool.false_eq_true, if_false, beq_iff_eq]
      by_cases h3 : Lib.indexByte l c = -1
      · simp [h3]
      · rw [if_neg h3, if_neg h3, if_neg (by omega)]; omega

theorem bb_vr {ρ : Rho} {b : Bool} {v : V} (h : bb b = some v) : VR ρ v (.bool b) := by
  simp only [bb, Option.some.injEq] at h; subst h; rfl

theorem some_inj {α : Type} {a b : α} (h : some a = some b) : a = b := Option.some.inj h

/-- No interface, no struct. -/
def plainV : Value → Bool
  | .nilIface => false
  | .agg _ => false
  | _ => true
theorem eqGuard_run {P : Program} {w : World} (op : BinOp) (t : TypeId) (x y : Operand) (p q : Value) (h : plainV p = true) : (eqGuard op t x y p q).run P w = .ok () w := by
  unfold eqGuard
  cases op <;> first | rfl | (cases p <;> first | (simp [plainV] at h; done) | rfl)
def eqV : Value → Bool
  | .bool _ => true
  | .slice _ _ _ => true
  | .pointer _ => true
  | .func _ _ _ => true
  | .nilFunc => true
  | _ => false
theorem eqV_plain {p : Value} (h : eqV p = true) : plainV p = true := by cases p <;> first | rfl | (simp [eqV] at h)
theorem binOp_eql (t : TypeId) (p q : Value) (h : eqV p = true) : binOp .eql t p q = (do pure (.bool (← Op.equal t p q)) : Sem Value) := by
  cases p <;> first | (simp [eqV] at h; done) | rfl | (cases q <;> rfl)
theorem binOp_neq (t : TypeId) (p q : Value) (h : eqV p = true) : binOp .neq t p q = (do pure (.bool (!(← Op.equal t p q))) : Sem Value) := by
  cases p <;> first | (simp [eqV] at h; done) | rfl | (cases q <;> rfl)
theorem w_equal {P : Program} {w : World} {op : BinOp} (hop : op = .eql ∨ op = .neq) (t : TypeId) (x y : Operand) {p q : Value} {r : Bool} (hp : eqV p = true)
    (hr : (Op.equal t p q).run P w = .ok r w) : (do eqGuard op t x y p q; binOp op t p q : Sem Value).run P w = .ok (.bool (xor (isNe op) r)) w := by
  simp only [Sem.run_bind, eqGuard_run op t x y p q (eqV_plain hp), Result.andThen_ok]
  rcases hop with rfl | rfl
  · rw [binOp_eql t p q hp]; simp [hr, isNe]
  · rw [binOp_neq t p q hp]; simp [hr, isNe]
theorem equal_run {P : Program} {w : World} {t : TypeId} {u : TypeDesc} (hu : P.underlying t = some u) (p q : Value) :
    (Op.equal t p q).run P w = (Op.equalIn Op.maxDepth t p q).run P w := rfl
theorem equal_bool {P : Program} {w : World} {t : TypeId} (hu : P.underlying t = some .bool) (a b : Bool) : (Op.equal t (.bool a) (.bool b)).run P w = .ok (a == b) w := by
  show (Op.equalIn (9999 + 1) t (.bool a) (.bool b)).run P w = _
  unfold Op.equalIn
  simp only [Sem.run_bind, run_under hu, Result.andThen_ok]
  rfl
theorem equal_slice {P : Program} {w : World} {t e : TypeId} (hu : P.underlying t = some (.slice e)) (a b : Option Addr) (n c m d : Nat) (h : a = none ∨ b = none) :
    (Op.equal t (.slice a n c) (.slice b m d)).run P w = .ok (a.isNone && b.isNone) w := by
  show (Op.equalIn (9999 + 1) t _ _).run P w = _
  unfold Op.equalIn
  simp only [Sem.run_bind, run_under hu, Result.andThen_ok]
  cases a <;> cases b <;> first | rfl | (simp at h)
theorem equal_pointer {P : Program} {w : World} {t e : TypeId} (hu : P.underlying t = some (.pointer e)) (a b : Option Addr) (h : a = none ∨ b = none) :
    (Op.equal t (.pointer a) (.pointer b)).run P w = .ok (a.isNone && b.isNone) w := by
  show (Op.equalIn (9999 + 1) t _ _).run P w = _
  unfold Op.equalIn
  simp only [Sem.run_bind, run_under hu, Result.andThen_ok]
  cases a <;> cases b <;> first | rfl | (simp at h)
theorem equal_func {P : Program} {w : World} {t : TypeId} {ps rs : Array TypeId} {v : Bool} (hu : P.underlying t = some (.func ps rs v)) {p q : Value}
    (h : (p = .nilFunc ∧ q = .nilFunc) ∨ (p = .nilFunc ∧ ∃ g x y, q = .func g x y) ∨ (q = .nilFunc ∧ ∃ g x y, p = .func g x y)) :
    (Op.equal t p q).run P w = .ok (p matches .nilFunc && q matches .nilFunc) w := by
  show (Op.equalIn (9999 + 1) t _ _).run P w = _
  unfold Op.equalIn
  simp only [Sem.run_bind, run_under hu, Result.andThen_ok]
  rcases h with ⟨rfl, rfl⟩ | ⟨rfl, g, x, y, rfl⟩ | ⟨rfl, g, x, y, rfl⟩ <;> rfl

section
variable {P : Program} {ty : TypeId → Option TyI} {ibs : FuncId → Bool} (hty : TyOk P ty) (hib : IbsOk P ibs) {ρ : Rho} {e : E} {a : Act} (he : ER ρ e a) (w : World)
include he
theorem w_bin {op : BinOp} {x y : Operand} {x' y' : O} (hx : cO x = some x') (hy : cO y = some y') {v : V} (hv : wv e (.bin op x' y') = some v) (t : TypeId) :
    ∃ cv, (do eqGuard op t x y (a.eval x) (a.eval y); binOp op t (a.eval x) (a.eval y)).run P w = .ok cv w ∧ VR ρ v cv := by
  simp only [wv] at hv
  split at hv
  · rename_i p q h1 h2
    rw [show a.eval x = .int .i64 p from he.at hx h1, show a.eval y = .int .i64 q from he.at hy h2]
    obtain ⟨cv, h3, h4⟩ := bin64_sound P ρ hv t w
    exact ⟨cv, by simp only [Sem.run_bind, eqGuard_run _ _ _ _ (.int .i64 p) _ rfl, Result.andThen_ok, h3], h4⟩
  · rename_i k p k' q h1 h2
    rw [show a.eval x = .int k p from he.at hx h1, show a.eval y = .int k' q from he.at hy h2]
    obtain ⟨cv, h3, h4⟩ := binJ_sound P ρ hv t w
    exact ⟨cv, by simp only [Sem.run_bind, eqGuard_run _ _ _ _ (.int k p) _ rfl, Result.andThen_ok, h3], h4⟩
  · rename_i p q h1 h2
    obtain ⟨b1, e1, rfl⟩ := he.at hx h1
    obtain ⟨b2, e2, rfl⟩ := he.at hy h2
    rw [e1, e2]
    obtain ⟨cv, h3, h4⟩ := binS_sound P ρ hv t w
    exact ⟨cv, by simp only [Sem.run_bind, eqGuard_run _ _ _ _ (.string b1) _ rfl, Result.andThen_ok, h3], h4⟩
  · rename_i p k' q h1 h2
    rw [show a.eval x = .int .i64 p from he.at hx h1, show a.eval y = .int k' q from he.at hy h2, binOp_t]
    obtain ⟨cv, h3, h4⟩ := semS_sound ρ hv
    exact ⟨cv, by simp only [Sem.run_bind, eqGuard_run _ _ _ _ (.int .i64 p) _ rfl, Result.andThen_ok, h3, Sem.run_pure'], h4⟩
  · rename_i k p q h1 h2
    rw [show a.eval x = .int k p from he.at hx h1, show a.eval y = .int .i64 q from he.at hy h2, binOp_t]
    obtain ⟨cv, h3, h4⟩ := semS_sound ρ hv
    exact ⟨cv, by simp only [Sem.run_bind, eqGuard_run _ _ _ _ (.int k p) _ rfl, Result.andThen_ok, h3, Sem.run_pure'], h4⟩
  · simp at hv
theorem w_eqb {op : BinOp} (hop : op = .eql ∨ op = .neq) {x y : Operand} {x' y' : O} (hx : cO x = some x') (hy : cO y = some y') {v : V} (hv : wv e (.eqb (isNe op) x' y') = some v) {t : TypeId} (hu : P.underlying t = some .bool) :
    ∃ cv, (do eqGuard op t x y (a.eval x) (a.eval y); binOp op t (a.eval x) (a.eval y)).run P w = .ok cv w ∧ VR ρ v cv := by
  simp only [wv] at hv
  split at hv
  · rename_i p q h1 h2
    rw [show a.eval x = .bool p from he.at hx h1, show a.eval y = .bool q from he.at hy h2]
    refine ⟨_, w_equal hop t x y rfl (equal_bool hu p q), ?_⟩
    have := bb_vr (ρ := ρ) hv
    cases p <;> cases q <;> exact this
  · simp at hv
theorem w_eql {op : BinOp} (hop : op = .eql ∨ op = .neq) {x y : Operand} {x' y' : O} (hx : cO x = some x') (hy : cO y = some y') {v : V} (hv : wv e (.eql (isNe op) x' y') = some v) {t el : TypeId} (hu : P.underlying t = some (.slice el)) :
    ∃ cv, (do eqGuard op t x y (a.eval x) (a.eval y); binOp op t (a.eval x) (a.eval y)).run P w = .ok cv w ∧ VR ρ v cv := by
  simp only [wv] at hv
  split at hv
  · rename_i h1 h2
    rw [show a.eval x = .slice none 0 0 from he.at hx h1, show a.eval y = .slice none 0 0 from he.at hy h2]
    refine ⟨_, w_equal hop t x y rfl (equal_slice hu _ _ _ _ _ _ (.inl rfl)), ?_⟩
    have := bb_vr (ρ := ρ) hv
    simpa using this
  · rename_i h1 h2
    obtain ⟨_, _, _, _, _, _, e2, _⟩ := he.at hy h2
    rw [show a.eval x = .slice none 0 0 from he.at hx h1, e2]
    refine ⟨_, w_equal hop t x y rfl (equal_slice hu _ _ _ _ _ _ (.inl rfl)), ?_⟩
    have := bb_vr (ρ := ρ) hv
    simpa using this
  · rename_i h1 h2
    obtain ⟨_, _, _, _, _, _, e1, _⟩ := he.at hx h1
    rw [e1, show a.eval y = .slice none 0 0 from he.at hy h2]
    refine ⟨_, w_equal hop t x y rfl (equal_slice hu _ _ _ _ _ _ (.inr rfl)), ?_⟩
    have := bb_vr (ρ := ρ) hv
    simpa using this
  · simp at hv
theorem w_eqp {op : BinOp} (hop : op = .eql ∨ op = .neq) {x y : Operand} {x' y' : O} (hx : cO x = some x') (hy : cO y = some y') {v : V} (hv : wv e (.eqp (isNe op) x' y') = some v) {t el : TypeId} (hu : P.underlying t = some (.pointer el)) :
    ∃ cv, (do eqGuard op t x y (a.eval x) (a.eval y); binOp op t (a.eval x) (a.eval y)).run P w = .ok cv w ∧ VR ρ v cv := by
  simp only [wv] at hv
  split at hv
  · rename_i h1 h2
    rw [show a.eval x = .pointer none from he.at hx h1, show a.eval y = .pointer none from he.at hy h2]
    refine ⟨_, w_equal hop t x y rfl (equal_pointer hu _ _ (.inl rfl)), ?_⟩
    have := bb_vr (ρ := ρ) hv
    simpa using this
  · rename_i h1 h2
    obtain ⟨_, _, _, _, e2⟩ := he.at hy h2
    rw [show a.eval x = .pointer none from he.at hx h1, e2]
    refine ⟨_, w_equal hop t x y rfl (equal_pointer hu _ _ (.inl rfl)), ?_⟩
    have := bb_vr (ρ := ρ) hv
    simpa using this
  · rename_i h1 h2
    obtain ⟨_, _, _, _, e1⟩ := he.at hx h1
    rw [e1, show a.eval y = .pointer none from he.at hy h2]
    refine ⟨_, w_equal hop t x y rfl (equal_pointer hu _ _ (.inr rfl)), ?_⟩
    have := bb_vr (ρ := ρ) hv
    simpa using this
  · simp at hv
theorem w_eqf {op : BinOp} (hop : op = .eql ∨ op = .neq) {x y : Operand} {x' y' : O} (hx : cO x = some x') (hy : cO y = some y') {v : V} (hv : wv e (.eqf (isNe op) x' y') = some v) {t : TypeId} {ps rs : Array TypeId} {vr : Bool} (hu : P.underlying t = some (.func ps rs vr)) :
    ∃ cv, (do eqGuard op t x y (a.eval x) (a.eval y); binOp op t (a.eval x) (a.eval y)).run P w = .ok cv w ∧ VR ρ v cv := by
  simp only [wv] at hv
  split at hv
  · rename_i h1 h2
    rw [show a.eval x = .nilFunc from he.at hx h1, show a.eval y = .nilFunc from he.at hy h2]
    refine ⟨_, w_equal hop t x y rfl (equal_func hu (.inl ⟨rfl, rfl⟩)), ?_⟩
    have := bb_vr (ρ := ρ) hv
    simpa using this
  · rename_i h1 h2
    obtain ⟨_, e2, _⟩ := he.at hy h2
    rw [show a.eval x = .nilFunc from he.at hx h1, e2]
    refine ⟨_, w_equal hop t x y rfl (equal_func hu (.inr (.inl ⟨rfl, _, _, _, rfl⟩))), ?_⟩
    have := bb_vr (ρ := ρ) hv
    simpa using this
  · rename_i h1 h2
    obtain ⟨_, e1, _⟩ := he.at hx h1
    rw [e1, show a.eval y = .nilFunc from he.at hy h2]
    refine ⟨_, w_equal hop t x y rfl (equal_func hu (.inr (.inr ⟨rfl, _, _, _, rfl⟩))), ?_⟩
    have := bb_vr (ρ := ρ) hv
    simpa using this
  · simp at hv
end
end Go.Ev
