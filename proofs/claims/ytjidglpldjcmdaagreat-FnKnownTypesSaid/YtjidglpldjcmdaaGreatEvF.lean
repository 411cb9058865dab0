/-
From the model's code to the evaluator's: operations.
-/
import Derived.Test.YtjidglpldjcmdaaGreatEvR
set_option linter.unusedVariables false
set_option linter.unusedSimpArgs false
namespace Go.Ev
open Go

structure TyI where
  u : TypeDesc
  sz : Nat
  by_ : Nat
  z : List S

def valS : Value → Option S
  | .bool b => some (.b b)
  | .int k n => some (mkI k n)
  | .string bs => some (.s (bs.data.toList.map UInt8.toNat))
  | .pointer none => some .p0
  | .slice none 0 0 => some .l0
  | .nilFunc => some .f0
  | _ => none
def valL : List Value → Option (List S)
  | [] => some []
  | v :: l => match valS v, valL l with | some s, some m => some (s :: m) | _, _ => none
def valV : Value → Option V
  | .agg cs => (valL cs.toList).map .a
  | v => (valS v).map .c
def cO : Operand → Option O
  | .tmp t => some (.t t)
  | .const v => (valV v).map .k
  | .func f => some (.k (.c (.f f [])))
  | .global _ => none
def cOs : List Operand → Option (List O)
  | [] => some []
  | x :: l => match cO x, cOs l with | some y, some m => some (y :: m) | _, _ => none
def cOo : Option Operand → Option (Option O)
  | none => some none
  | some x => match cO x with | some y => some (some y) | none => none
def cParts (place : Nat → Option (Nat × Nat)) : List (Nat × Operand) → Option (List (Nat × Nat × O))
  | [] => some []
  | (i, x) :: l => match place i, cO x, cParts place l with
    | some (off, sz), some y, some m => some ((off, sz, y) :: m)
    | _, _, _ => none
def isAggD : TypeDesc → Bool
  | .struct _ | .array _ _ => true
  | _ => false
/-- What is known of a type: the program's own tables, laid for look-up. -/
def tyI (P : Program) (t : TypeId) : Option TyI :=
  match P.underlying t, P.info? t with
  | some u, some i => match i.zero with
    | some z => match valL z.cells.toList with
      | some l => some ⟨u, i.size, i.bytes, l⟩
      | none => none
    | none => none
  | _, _ => none

section
variable (ty : TypeId → Option TyI) (ibs : FuncId → Bool)
def place (u : TypeDesc) (i : Nat) : Option (Nat × Nat) :=
  match u with
  | .struct fs => match fs[i]? with
    | some f => match ty f.type with | some j => some (f.offset, j.sz) | none => none
    | none => none
  | .array _ e => match ty e with | some j => some (i * j.sz, j.sz) | none => none
  | _ => none
def placesOk (u : TypeDesc) : Bool :=
  match u with
  | .struct fs => fs.toList.all fun f => (ty f.type).isSome
  | .array _ e => (ty e).isSome
  | _ => false
def elemT (t : TypeId) : Option TyI :=
  match ty t with
  | some i => match i.u with | .slice e => ty e | _ => none
  | none => none
def isNe : BinOp → Bool
  | .neq => true
  | _ => false
def cBin (op : BinOp) (t : TypeId) (x y : O) : Option W :=
  match op with
  | .eql | .neq => match ty t with
    | some i => match i.u with
      | .int _ => some (.bin op x y)
      | .string => some (.bin op x y)
      | .bool => some (.eqb (isNe op) x y)
      | .slice _ => some (.eql (isNe op) x y)
      | .pointer _ => some (.eqp (isNe op) x y)
      | .func _ _ _ => some (.eqf (isNe op) x y)
      | _ => none
    | none => none
  | op => some (.bin op x y)
noncomputable def cBuiltin (b : Builtin) (args : List O) (ts : List TypeId) : Option MO :=
  match b, args, ts with
  | .len, [x], [t] => match ty t with
    | some i => match i.u with | .string => some (.w (.lns x)) | .slice _ => some (.w (.lnl x)) | _ => none
    | none => none
  | .min, [x, y], _ => some (.w (.mnx false x y))
  | .max, [x, y], _ => some (.w (.mnx true x y))
  | .append, [x, y], [t, t'] => match elemT ty t, ty t' with
    | some i, some _ => if i.sz = 0 ∨ t ≠ t' ∨ i.z.length ≠ i.sz then none else some (.m (.app i.sz i.by_ x y))
    | _, _ => none
  | .clear, [x], [t] => match elemT ty t with
    | some i => if i.sz = 0 ∨ i.z.length ≠ i.sz then none else some (.m (.clr i.sz i.z x))
    | none => none
  | _, _, _ => none
noncomputable def cMO : Op → Option MO
  | .move x => (cO x).map fun x => .w (.mv x)
  | .assign x => (cO x).map fun x => .w (.mv x)
  | .pick c a b => match cO c, cO a, cO b with | some c, some a, some b => some (.w (.pick c a b)) | _, _, _ => none
  | .alloc t => (ty t).map fun i => .a (.al i.z)
  | .box _ x => (cO x).map fun x => .a (.box x)
  | .build t ps => match ty t with
    | some i => if placesOk ty i.u then (cParts (place ty i.u) ps.toList).map fun l => .w (.build i.z l) else none
    | none => none
  | .buildSlice t n ps => match elemT ty t with
    | some j => if j.sz = 0 ∨ n * j.sz > 16777216 ∨ j.z.length ≠ j.sz then none else (cParts (fun i => some (i * j.sz, j.sz)) ps.toList).map fun l => .a (.bsl j.sz n (lrep j.z n) l)
    | none => none
  | .load t a => match ty t, cO a with | some i, some a => some (.r (.ld (if isAggD i.u then some i.sz else none) a)) | _, _ => none
  | .store t a v => match ty t, cO a, cO v with | some i, some a, some v => some (.m (.st i.sz a v)) | _, _, _ => none
  | .nilCheck x => (cO x).map fun x => .w (.nilc x)
  | .binOp op t x y _ => match cO x, cO y with | some x, some y => (cBin ty op t x y).map .w | _, _ => none
  | .unOp op _ x => (cO x).map fun x => .w (.un op x)
  | .convert s d x => match ty s, ty d, cO x with
    | some i, some j, some x => match i.u, j.u with
      | .int _, .int k => some (.w (.cv k x))
      | .int _, .string => some (.w (.cvs x))
      | .slice e, .string => match ty e with
        | some k => match k.u with | .int .u8 => some (.r (.bts x)) | _ => none
        | none => none
      | _, _ => none
    | _, _, _ => none
  | .makeFunc (.func g) first caps => if first.isEmpty then (cOs caps.toList).map fun l => .w (.mkf g l) else none
  | .makeSlice t n c => match elemT ty t, cO n, cO c with | some i, some n, some c => if i.sz = 0 ∨ i.z.length ≠ i.sz then none else some (.a (.mks i.sz i.by_ i.z n c)) | _, _, _ => none
  | .slice t x lo hi mx => match ty t, cO x, cOo lo, cOo hi, cOo mx with
    | some i, some x, some lo, some hi, some mx => match i.u with
      | .string => match mx with | none => some (.w (.sls x lo hi)) | some _ => none
      | .slice e => match ty e with | some j => if mx.isSome && hi.isNone then none else some (.w (.sll j.sz x lo hi mx)) | none => none
      | _ => none
    | _, _, _, _, _ => none
  | .fieldAddr t x f => match ty t, cO x with
    | some i, some x => match i.u with
      | .struct fs => match fs[f]? with
        | some f => match ty f.type with | some j => if j.sz = 0 then none else some (.w (.fad f.offset x)) | none => none
        | none => none
      | _ => none
    | _, _ => none
  | .field t x f => match ty t, cO x with
    | some i, some x => match i.u with
      | .struct fs => match fs[f]? with
        | some f => match ty f.type with | some j => some (.w (.fld f.offset (if isAggD j.u then some j.sz else none) x)) | none => none
        | none => none
      | _ => none
    | _, _ => none
  | .indexAddr t x ix => match elemT ty t, cO x, cO ix with | some j, some x, some ix => some (.w (.iad j.sz x ix)) | _, _, _ => none
  | .index t x ix => match ty t, cO x, cO ix with
    | some i, some x, some ix => match i.u with | .string => some (.w (.ixs x ix)) | _ => none
    | _, _, _ => none
  | .extract x i => (cO x).map fun x => .w (.ext i x)
  | .call c => match cOs c.args.toList with
    | some l => match c.callee with
      | .builtin b => cBuiltin ty b l c.argTypes.toList
      | .value (.func f) => if ibs f then (match l with | [x, y] => some (.w (.ibs x y)) | _ => none) else some (.m (.call f l))
      | .value x => (cO x).map fun x => .m (.cal x l)
      | _ => none
    | none => none
  | _ => none
end

/-- What the look-up of types must give. -/
def TyOk (P : Program) (ty : TypeId → Option TyI) : Prop := ∀ t i, ty t = some i → tyI P t = some i

theorem TyOk.under {P : Program} {ty : TypeId → Option TyI} (h : TyOk P ty) {t : TypeId} {i : TyI} (hi : ty t = some i) : P.underlying t = some i.u := by
  have := h t i hi
  unfold tyI at this
  split at this
  · rename_i u j hu hj
    split at this
    · split at this
      · simp only [Option.some.injEq] at this; subst this; exact hu
      · simp at this
    · simp at this
  · simp at this
theorem TyOk.info {P : Program} {ty : TypeId → Option TyI} (h : TyOk P ty) {t : TypeId} {i : TyI} (hi : ty t = some i) :
    ∃ j z, P.info? t = some j ∧ j.size = i.sz ∧ j.bytes = i.by_ ∧ j.zero = some z ∧ valL z.cells.toList = some i.z := by
  have := h t i hi
  unfold tyI at this
  split at this
  · rename_i u j hu hj
    split at this
    · rename_i z hz
      split at this
      · rename_i l hl
        simp only [Option.some.injEq] at this; subst this; exact ⟨j, z, hj, rfl, rfl, hz, hl⟩
      · simp at this
    · simp at this
  · simp at this
theorem TyOk.elem {P : Program} {ty : TypeId → Option TyI} (h : TyOk P ty) {t : TypeId} {i : TyI} (hi : elemT ty t = some i) :
    ∃ e, P.underlying t = some (.slice e) ∧ ty e = some i := by
  unfold elemT at hi
  split at hi
  · rename_i j hj
    split at hi
    · rename_i e he
      exact ⟨e, by rw [h.under hj, he], hi⟩
    · simp at hi
  · simp at hi

theorem valS_sr (ρ : Rho) {v : Value} {s : S} (h : valS v = some s) : SR ρ s v := by
  unfold valS at h
  split at h <;> simp only [Option.some.injEq, reduceCtorEq] at h <;> subst h
  · rfl
  · rename_i k n; cases k <;> rfl
  · exact ⟨_, rfl, rfl⟩
  · rfl
  · rfl
  · rfl
theorem valL_lr (ρ : Rho) : ∀ {l : List Value} {m : List S}, valL l = some m → LR (SR ρ) m l
  | [], m, h => by simp [valL] at h; subst h; trivial
  | v :: l, m, h => by
    unfold valL at h
    split at h
    · rename_i s m' h1 h2
      simp only [Option.some.injEq] at h; subst h
      exact ⟨valS_sr ρ h1, valL_lr ρ h2⟩
    · simp at h
theorem valV_vr (ρ : Rho) {v : Value} {x : V} (h : valV v = some x) : VR ρ x v := by
  unfold valV at h
  split at h
  · simp only [Option.map_eq_some_iff] at h
    obtain ⟨l, h1, rfl⟩ := h
    exact ⟨_, rfl, valL_lr ρ h1⟩
  · simp only [Option.map_eq_some_iff] at h
    obtain ⟨s, h1, rfl⟩ := h
    exact valS_sr ρ h1

/-- The frames' slots. -/
def ER (ρ : Rho) (e : E) (a : Act) : Prop := ∀ t v, e.get t = some v → VR ρ v (a.tmps.getD t undef)
theorem ER.mono {ρ ρ' : Rho} (h : ρ.le ρ') {e : E} {a : Act} (he : ER ρ e a) : ER ρ' e a := fun t v hv => (he t v hv).mono h
theorem ER.ov {ρ : Rho} {e : E} {a : Act} (he : ER ρ e a) {x : Operand} {y : O} (h : cO x = some y) : VR ρ (ov e y) (a.eval x) := by
  cases x with
  | tmp t =>
    simp only [cO, Option.some.injEq] at h; subst h
    cases hg : T.get e t with
    | none => simp only [Ev.ov, hg]; trivial
    | some v => simp only [Ev.ov, Act.eval, hg]; exact he t v hg
  | const v =>
    simp only [cO, Option.map_eq_some_iff] at h
    obtain ⟨w, h1, rfl⟩ := h
    exact valV_vr ρ h1
  | func f => simp only [cO, Option.some.injEq] at h; subst h; exact ⟨#[], rfl, trivial⟩
  | global g => simp [cO] at h
theorem ER.os {ρ : Rho} {e : E} {a : Act} (he : ER ρ e a) {x : Operand} {y : O} (h : cO x = some y) {s : S} (hs : os e y = s) (hu : s ≠ .un) : SR ρ s (a.eval x) := by
  have := he.ov h
  unfold Ev.os at hs
  cases hv : Ev.ov e y with
  | c s' => rw [hv] at hs this; simp only at hs; subst hs; exact this
  | _ => rw [hv] at hs; simp only at hs; exact absurd hs.symm hu
theorem ER.ovs {ρ : Rho} {e : E} {a : Act} (he : ER ρ e a) : ∀ {xs : List Operand} {ys : List O}, cOs xs = some ys → LR (VR ρ) (ovs e ys) (xs.map a.eval)
  | [], ys, h => by simp [cOs] at h; subst h; trivial
  | x :: xs, ys, h => by
    unfold cOs at h
    split at h
    · rename_i y m h1 h2
      simp only [Option.some.injEq] at h; subst h
      exact ⟨he.ov h1, he.ovs h2⟩
    · simp at h
end Go.Ev
