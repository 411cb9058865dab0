/- Parts of the proof of FnBytes. -/
import Derived.Test.YtdmkhipimcjipaaGreatZ00
import Derived.Laws.AppendOwn
import Derived.Laws.CopyRow
import Derived.Laws.Cells
import Derived.Laws.Slices
import Derived.Laws.Strings
import Derived.Laws.Cover1
import Derived.Laws.Concat
import Derived.IntWalk
import Derived.Lib.Bytealg
set_option linter.unusedVariables false
set_option linter.unusedSimpArgs false
section
set_option linter.unusedVariables false
set_option linter.unusedSimpArgs false
namespace Go.Ev
open Go
def LR {α β : Type} (R : α → β → Prop) : List α → List β → Prop
  | [], [] => True
  | a :: l, b :: m => R a b ∧ LR R l m
  | _, _ => False
section
variable {α β : Type} {R R' : α → β → Prop}
theorem LR.mono (h : ∀ a b, R a b → R' a b) : ∀ {l : List α} {m : List β}, LR R l m → LR R' l m
  | [], [], _ => trivial
  | _ :: _, _ :: _, hh => ⟨h _ _ hh.1, LR.mono h hh.2⟩
  | [], _ :: _, hh => hh.elim
  | _ :: _, [], hh => hh.elim
theorem LR.length : ∀ {l : List α} {m : List β}, LR R l m → l.length = m.length
  | [], [], _ => rfl
  | _ :: _, _ :: _, hh => by simp [LR.length hh.2]
  | [], _ :: _, hh => hh.elim
  | _ :: _, [], hh => hh.elim
theorem LR.get : ∀ {l : List α} {m : List β} {i : Nat} {a : α}, LR R l m → l[i]? = some a → ∃ b, m[i]? = some b ∧ R a b
  | [], [], _, _, _, h => by simp at h
  | x :: l, y :: m, 0, a, hh, h => by simp at h; subst h; exact ⟨y, by simp, hh.1⟩
  | _ :: l, _ :: m, i + 1, a, hh, h => by
    have := LR.get (i := i) hh.2 (by simpa using h)
    simpa using this
  | [], _ :: _, _, _, hh, _ => hh.elim
  | _ :: _, [], _, _, hh, _ => hh.elim
theorem LR.of_get : ∀ {l : List α} {m : List β}, l.length = m.length → (∀ (i : Nat) (a : α) (b : β), l[i]? = some a → m[i]? = some b → R a b) → LR R l m
  | [], [], _, _ => trivial
  | a :: l, b :: m, hl, h => ⟨h 0 a b (by simp) (by simp), LR.of_get (by simpa using hl) fun i a b h1 h2 => h (i + 1) a b (by simpa using h1) (by simpa using h2)⟩
  | [], _ :: _, hl, _ => by simp at hl
  | _ :: _, [], hl, _ => by simp at hl
theorem LR.append : ∀ {l : List α} {m : List β} {l' : List α} {m' : List β}, LR R l m → LR R l' m' → LR R (l ++ l') (m ++ m')
  | [], [], _, _, _, h' => h'
  | _ :: _, _ :: _, _, _, h, h' => ⟨h.1, LR.append h.2 h'⟩
  | [], _ :: _, _, _, h, _ => h.elim
  | _ :: _, [], _, _, h, _ => h.elim
theorem LR.take : ∀ {l : List α} {m : List β} (n : Nat), LR R l m → LR R (l.take n) (m.take n)
  | [], [], _, _ => by simp [LR]
  | _ :: _, _ :: _, 0, _ => by simp [LR]
  | _ :: _, _ :: _, n + 1, h => by simp only [List.take_succ_cons]; exact ⟨h.1, LR.take n h.2⟩
  | [], _ :: _, _, h => h.elim
  | _ :: _, [], _, h => h.elim
theorem LR.drop : ∀ {l : List α} {m : List β} (n : Nat), LR R l m → LR R (l.drop n) (m.drop n)
  | [], [], _, _ => by simp [LR]
  | _ :: _, _ :: _, 0, h => h
  | _ :: _, _ :: _, n + 1, h => by simp only [List.drop_succ_cons]; exact LR.drop n h.2
  | [], _ :: _, _, h => h.elim
  | _ :: _, [], _, h => h.elim
theorem LR.map {γ : Type} (f : γ → β) : ∀ {l : List α} {m : List γ}, LR (fun a c => R a (f c)) l m → LR R l (m.map f)
  | [], [], _ => trivial
  | _ :: _, _ :: _, h => ⟨h.1, LR.map f h.2⟩
  | [], _ :: _, h => h.elim
  | _ :: _, [], h => h.elim
theorem LR.all {Q : β → Prop} (h : ∀ a b, R a b → Q b) : ∀ {l : List α} {m : List β}, LR R l m → ∀ b ∈ m, Q b
  | [], [], _, b, hb => by simp at hb
  | _ :: _, _ :: _, hh, b, hb => by
    rcases List.mem_cons.1 hb with e | hb
    · exact e ▸ h _ _ hh.1
    · exact LR.all h hh.2 b hb
  | [], _ :: _, hh, _, _ => hh.elim
  | _ :: _, [], hh, _, _ => hh.elim
end
abbrev Rho := Nat → Option (Nat × Nat × Nat)
def Rho.le (ρ ρ' : Rho) : Prop := ∀ x y, ρ x = some y → ρ' x = some y
theorem Rho.le_refl (ρ : Rho) : ρ.le ρ := fun _ _ h => h
theorem Rho.le_trans {a b c : Rho} (h : a.le b) (k : b.le c) : a.le c := fun _ _ e => k _ _ (h _ _ e)
def PR (ρ : Rho) (x o : Nat) (v : Value) : Prop := ∃ cb sh z, ρ x = some (cb, sh, z) ∧ v = .pointer (some ⟨cb, sh + o, none⟩)
def LS (ρ : Rho) (x o n e : Nat) (full : Bool) (v : Value) : Prop :=
  ∃ cb sh z a cap, ρ x = some (cb, sh, z) ∧ v = .slice (some a) n cap ∧ n ≤ cap ∧ (full = true → cap = n) ∧ (0 < cap → a = ⟨cb, sh + o, none⟩) ∧ sh + o + cap * e ≤ z ∧ 0 < e
def SR (ρ : Rho) : S → Value → Prop
  | .un, v => v.oneCell' = true
  | .b x, v => v = .bool x
  | .i n, v => v = .int .i64 n
  | .j k n, v => v = .int k n
  | .s l, v => ∃ bs : ByteArray, v = .string bs ∧ bs.data.toList.map UInt8.toNat = l
  | .p0, v => v = .pointer none
  | .p x o, v => PR ρ x o v
  | .l0, v => v = .slice none 0 0
  | .l x o n e full, v => LS ρ x o n e full v
  | .f g cs, v => ∃ arr : Array Value, v = .func (.func g) #[] arr ∧ LR (fun (c : Nat × Nat) v => PR ρ c.1 c.2 v) cs arr.toList
  | .f0, v => v = .nilFunc
def VR0 (ρ : Rho) : V → Value → Prop
  | .o, _ => True
  | .c s, v => SR ρ s v
  | .a l, v => ∃ arr : Array Value, v = .agg arr ∧ LR (SR ρ) l arr.toList
  | .t _, _ => False
def VR (ρ : Rho) : V → Value → Prop
  | .t l, v => ∃ arr : Array Value, v = .tuple arr ∧ LR (VR0 ρ) l arr.toList
  | .o, _ => True
  | .c s, v => SR ρ s v
  | .a l, v => ∃ arr : Array Value, v = .agg arr ∧ LR (SR ρ) l arr.toList
theorem PR.mono {ρ ρ' : Rho} (h : ρ.le ρ') {x o : Nat} {v : Value} : PR ρ x o v → PR ρ' x o v :=
  fun ⟨cb, sh, z, h1, h2⟩ => ⟨cb, sh, z, h _ _ h1, h2⟩
theorem SR.mono {ρ ρ' : Rho} (h : ρ.le ρ') {s : S} {v : Value} (hs : SR ρ s v) : SR ρ' s v := by
  cases s with
  | p x o => exact PR.mono h hs
  | l x o n e full => obtain ⟨cb, sh, z, a, cap, h1, hr⟩ := hs; exact ⟨cb, sh, z, a, cap, h _ _ h1, hr⟩
  | f g cs => obtain ⟨arr, h1, h2⟩ := hs; exact ⟨arr, h1, h2.mono fun _ _ => PR.mono h⟩
  | _ => exact hs
theorem VR0.mono {ρ ρ' : Rho} (h : ρ.le ρ') {s : V} {v : Value} (hs : VR0 ρ s v) : VR0 ρ' s v := by
  cases s with
  | o => trivial
  | c s => exact SR.mono h hs
  | a l => obtain ⟨arr, h1, h2⟩ := hs; exact ⟨arr, h1, h2.mono fun _ _ => SR.mono h⟩
  | t l => exact hs.elim
theorem VR.mono {ρ ρ' : Rho} (h : ρ.le ρ') {s : V} {v : Value} (hs : VR ρ s v) : VR ρ' s v := by
  cases s with
  | o => trivial
  | c s => exact SR.mono h hs
  | a l => obtain ⟨arr, h1, h2⟩ := hs; exact ⟨arr, h1, h2.mono fun _ _ => SR.mono h⟩
  | t l => obtain ⟨arr, h1, h2⟩ := hs; exact ⟨arr, h1, h2.mono fun _ _ => VR0.mono h⟩
theorem VR.of0 {ρ : Rho} {s : V} {v : Value} (h : VR0 ρ s v) : VR ρ s v := by cases s <;> first | exact h | exact h.elim
theorem SR.one {ρ : Rho} {s : S} {v : Value} (h : SR ρ s v) : v.oneCell' = true := by
  cases s with
  | un => exact h
  | p x o => obtain ⟨_, _, _, _, rfl⟩ := h; rfl
  | l x o n e full => obtain ⟨_, _, _, _, _, _, rfl, _⟩ := h; rfl
  | f g cs => obtain ⟨_, rfl, _⟩ := h; rfl
  | s l => obtain ⟨_, rfl, _⟩ := h; rfl
  | _ => have h' := h; simp only [SR] at h'; subst h'; rfl
theorem VR.cells {ρ : Rho} {v : V} {cv : Value} {l : List S} (h : VR ρ v cv) (hl : cellsOf v = some l) : LR (SR ρ) l cv.cells.toList := by
  cases v with
  | o => simp [cellsOf] at hl
  | c s =>
    simp only [cellsOf, Option.some.injEq] at hl
    subst hl
    have h1 := SR.one h
    have : cv.cells = #[cv] := by cases cv <;> first | rfl | simp [Value.oneCell'] at h1
    rw [this]
    exact ⟨h, trivial⟩
  | a l' =>
    simp only [cellsOf, Option.some.injEq] at hl
    subst hl
    obtain ⟨arr, rfl, h2⟩ := h
    exact h2
  | t l' => simp [cellsOf] at hl
structure Rel (ρ : Rho) (s : St) (w : World) : Prop where
  dom : ∀ x y, ρ x = some y → x < s.nb
  blk : ∀ x cb sh z, ρ x = some (cb, sh, z) → ∃ cs e, w.heap[cb]? = some (.cells cs e (0, 0)) ∧ cs.size = z
  con : ∀ x cb sh z b, ρ x = some (cb, sh, z) → s.h.get x = some b → sh + b.c.length ≤ z ∧ ∀ i sv, b.c[i]? = some sv → ∃ cv, w.cell? ⟨cb, sh + i, none⟩ = some cv ∧ SR ρ sv cv
  inj : ∀ x y cb sh sh' z z' bx b', x ≠ y → ρ x = some (cb, sh, z) → ρ y = some (cb, sh', z') → s.h.get x = some bx → s.h.get y = some b' → bx.fam = b'.fam ∧ bx.fam ≠ 0 ∧ sh + b'.d = sh' + bx.d
  fam : ∀ x b f, s.h.get x = some b → b.fam = f + 1 → ∃ ms, s.fm.get f = some ms ∧ (x, b.d, b.c.length) ∈ ms
  nfl : ∀ x b, s.h.get x = some b → b.fam ≤ s.nf
  lt : ∀ x b, s.h.get x = some b → x < s.nb
structure Go (s : St) (ρ : Rho) (w : World) (s' : St) (ρ' : Rho) (w' : World) : Prop where
  le : ρ.le ρ'
  os : w'.os = w.os
  tape : w'.tape = w.tape
  output : w'.output = w.output
  size : w.heap.size ≤ w'.heap.size
  block : ∀ c, c < w.heap.size → (∀ x sh z, ρ x ≠ some (c, sh, z)) → w'.heap[c]? = w.heap[c]?
  new : ∀ x cb sh z, ρ' x = some (cb, sh, z) → (∃ x0 sh0 z0, ρ x0 = some (cb, sh0, z0)) ∨ w.heap.size ≤ cb
  nbs : s.nb ≤ s'.nb
  fresh : ∀ x y, ρ' x = some y → ρ x = some y ∨ s.nb ≤ x
theorem Go.refl (s : St) (ρ : Rho) (w : World) : Go s ρ w s ρ w := ⟨Rho.le_refl _, rfl, rfl, rfl, Nat.le_refl _, fun _ _ _ => rfl, fun x cb sh z h => .inl ⟨x, sh, z, h⟩, Nat.le_refl _, fun _ _ h => .inl h⟩
theorem Go.trans {s₁ s₂ s₃ : St} {ρ₁ ρ₂ ρ₃ : Rho} {w₁ w₂ w₃ : World} (h : Go s₁ ρ₁ w₁ s₂ ρ₂ w₂) (k : Go s₂ ρ₂ w₂ s₃ ρ₃ w₃) : Go s₁ ρ₁ w₁ s₃ ρ₃ w₃ :=
  ⟨Rho.le_trans h.le k.le, k.os.trans h.os, k.tape.trans h.tape, k.output.trans h.output, Nat.le_trans h.size k.size,
   fun c hc hn => (k.block c (Nat.lt_of_lt_of_le hc h.size) (fun x sh z e => by
      rcases h.new x c sh z e with ⟨x0, sh0, z0, e0⟩ | h'
      · exact hn _ _ _ e0
      · omega)).trans (h.block c hc hn),
   fun x cb sh z e => by
      rcases k.new x cb sh z e with ⟨x0, sh0, z0, e0⟩ | h'
      · exact h.new _ _ _ _ e0
      · exact .inr (Nat.le_trans h.size h'),
   Nat.le_trans h.nbs k.nbs,
   fun x y e => by
      rcases k.fresh x y e with e' | e'
      · exact h.fresh x y e'
      · exact .inr (Nat.le_trans h.nbs e')⟩
theorem Go.states {s₁ s₂ t₁ t₂ : St} {ρ ρ' : Rho} {w w' : World} (h : Go s₁ ρ w s₂ ρ' w') (h1 : t₁.nb = s₁.nb) (h2 : t₂.nb = s₂.nb) : Go t₁ ρ w t₂ ρ' w' :=
  ⟨h.le, h.os, h.tape, h.output, h.size, h.block, h.new, by rw [h1, h2]; exact h.nbs, by rw [h1]; exact h.fresh⟩
theorem Rel.drop {ρ : Rho} {s s' : St} {w : World} (h : Rel ρ s w) (hb : s'.nb = s.nb) (hn : s'.nf = s.nf) (hh : ∀ x b, s'.h.get x = some b → s.h.get x = some b)
    (hf : ∀ x b f, s'.h.get x = some b → b.fam = f + 1 → ∃ ms, s'.fm.get f = some ms ∧ (x, b.d, b.c.length) ∈ ms) : Rel ρ s' w :=
  ⟨fun x y e => hb ▸ h.dom x y e, h.blk, fun x cb sh z b e e' => h.con x cb sh z b e (hh _ _ e'),
   fun x y cb sh sh' z z' bx b' hne e1 e2 e3 e4 => h.inj x y cb sh sh' z z' bx b' hne e1 e2 (hh _ _ e3) (hh _ _ e4), hf,
   fun x b e => hn ▸ h.nfl x b (hh _ _ e), fun x b e => hb ▸ h.lt x b (hh _ _ e)⟩
theorem Rel.drew {ρ : Rho} {s : St} {w : World} (h : Rel ρ s w) : Rel ρ s w.drew := ⟨h.dom, h.blk, h.con, h.inj, h.fam, h.nfl, h.lt⟩
theorem Go.drew {s s' : St} {ρ ρ' : Rho} {w w' : World} (h : Go s ρ w s' ρ' w') : Go s ρ w s' ρ' w'.drew := ⟨h.le, h.os, h.tape, h.output, h.size, h.block, h.new, h.nbs, h.fresh⟩
theorem Rel.cellsAt {ρ : Rho} {s : St} {w : World} (h : Rel ρ s w) {x o n : Nat} {l : List S} (hl : cellsAt s x o n = some l) {cb sh z : Nat} (hx : ρ x = some (cb, sh, z)) :
    l.length = n ∧ sh + o + n ≤ z ∧ ∀ i sv, l[i]? = some sv → ∃ cv, w.cell? ⟨cb, sh + o + i, none⟩ = some cv ∧ SR ρ sv cv := by
  unfold Ev.cellsAt at hl
  cases hb : s.h.get x with
  | none => simp [hb] at hl
  | some b =>
    simp only [hb, ltake_eq, ldrop_eq, llen_eq] at hl
    obtain ⟨hle, hl⟩ := cond_some hl
    · have hle' : o + n ≤ b.c.length := Nat.le_of_ble_eq_true hle
      simp only [Option.some.injEq] at hl
      obtain ⟨h1, h2⟩ := h.con x cb sh z b hx hb
      subst hl
      refine ⟨by simp; omega, by omega, fun i sv hi => ?_⟩
      have hi' : b.c[o + i]? = some sv := by
        rw [List.getElem?_take] at hi
        split at hi
        · simpa using hi
        · simp at hi
      have := h2 _ _ hi'
      simpa [Nat.add_assoc] using this
theorem Rel.cells_there {ρ : Rho} {s : St} {w : World} (h : Rel ρ s w) {x o n : Nat} {l : List S} (hl : Ev.cellsAt s x o n = some l) {cb sh z : Nat} (hx : ρ x = some (cb, sh, z)) :
    ∃ cs : List Value, cs.length = n ∧ LR (SR ρ) l cs ∧ ∀ j v, cs[j]? = some v → w.cell? ((⟨cb, sh + o, none⟩ : Addr).add j) = some v := by
  obtain ⟨h1, _, h3⟩ := h.cellsAt hl hx
  have hadd : ∀ j, (⟨cb, sh + o, none⟩ : Addr).add j = ⟨cb, sh + o + j, none⟩ := fun j => by unfold Addr.add; split <;> simp_all
  refine ⟨(List.range n).map fun j => (w.cell? ⟨cb, sh + o + j, none⟩).getD undef, by simp, ?_, ?_⟩
  · refine LR.of_get (by simp [h1]) fun i a b ha hb => ?_
    obtain ⟨cv, hc, hs⟩ := h3 i a ha
    have hi : i < n := by have := (List.getElem?_eq_some_iff.1 ha).1; omega
    simp [hi, hc] at hb
    exact hb ▸ hs
  · intro j v hj
    have hj' : j < n := by have := (List.getElem?_eq_some_iff.1 hj).1; simpa using this
    rw [hadd]
    obtain ⟨cv, hc, _⟩ := h3 j (l[j]'(by omega)) (by simp)
    simp [hj', hc] at hj
    rw [hc, hj]
end Go.Ev
end
section
set_option linter.unusedVariables false
set_option linter.unusedSimpArgs false
namespace Go.Ev
open Go
structure TyI where
  u : TypeDesc
  sz : Nat
  by_ : Nat
  z : List S
def valS : Value → Option S
  | .bool b => some (.b b)
  | .int k n => some (mkI k n)
  | .string bs => some (.s (bs.data.toList.map UInt8.toNat))
  | .pointer none => some .p0
  | .slice none 0 0 => some .l0
  | .nilFunc => some .f0
  | _ => none
def valL : List Value → Option (List S)
  | [] => some []
  | v :: l => match valS v, valL l with | some s, some m => some (s :: m) | _, _ => none
def valV : Value → Option V
  | .agg cs => (valL cs.toList).map .a
  | v => (valS v).map .c
def cO : Operand → Option O
  | .tmp t => some (.t t)
  | .const v => (valV v).map .k
  | .func f => some (.k (.c (.f f [])))
  | .global _ => none
def cOs : List Operand → Option (List O)
  | [] => some []
  | x :: l => match cO x, cOs l with | some y, some m => some (y :: m) | _, _ => none
def cOo : Option Operand → Option (Option O)
  | none => some none
  | some x => match cO x with | some y => some (some y) | none => none
def cParts (place : Nat → Option (Nat × Nat)) : List (Nat × Operand) → Option (List (Nat × Nat × O))
  | [] => some []
  | (i, x) :: l => match place i, cO x, cParts place l with
    | some (off, sz), some y, some m => some ((off, sz, y) :: m)
    | _, _, _ => none
def isAggD : TypeDesc → Bool
  | .struct _ | .array _ _ => true
  | _ => false
def tyI (P : Program) (t : TypeId) : Option TyI :=
  match P.underlying t, P.info? t with
  | some u, some i => match i.zero with
    | some z => match valL z.cells.toList with
      | some l => some ⟨u, i.size, i.bytes, l⟩
      | none => none
    | none => none
  | _, _ => none
section
variable (ty : TypeId → Option TyI) (ibs : FuncId → Bool)
def place (u : TypeDesc) (i : Nat) : Option (Nat × Nat) :=
  match u with
  | .struct fs => match fs[i]? with
    | some f => match ty f.type with | some j => some (f.offset, j.sz) | none => none
    | none => none
  | .array _ e => match ty e with | some j => some (i * j.sz, j.sz) | none => none
  | _ => none
def placesOk (u : TypeDesc) : Bool :=
  match u with
  | .struct fs => fs.toList.all fun f => (ty f.type).isSome
  | .array _ e => (ty e).isSome
  | _ => false
def elemT (t : TypeId) : Option TyI :=
  match ty t with
  | some i => match i.u with | .slice e => ty e | _ => none
  | none => none
def isNe : BinOp → Bool
  | .neq => true
  | _ => false
def cBin (op : BinOp) (t : TypeId) (x y : O) : Option W :=
  match op with
  | .eql | .neq => match ty t with
    | some i => match i.u with
      | .int _ => some (.bin op x y)
      | .string => some (.bin op x y)
      | .bool => some (.eqb (isNe op) x y)
      | .slice _ => some (.eql (isNe op) x y)
      | .pointer _ => some (.eqp (isNe op) x y)
      | .func _ _ _ => some (.eqf (isNe op) x y)
      | _ => none
    | none => none
  | op => some (.bin op x y)
noncomputable def cBuiltin (b : Builtin) (args : List O) (ts : List TypeId) : Option MO :=
  match b, args, ts with
  | .len, [x], [t] => match ty t with
    | some i => match i.u with | .string => some (.w (.lns x)) | .slice _ => some (.w (.lnl x)) | _ => none
    | none => none
  | .cap, [x], [t] => match ty t with
    | some i => match i.u with | .slice _ => some (.w (.cpl x)) | _ => none
    | none => none
  | .min, [x, y], _ => some (.w (.mnx false x y))
  | .max, [x, y], _ => some (.w (.mnx true x y))
  | .append, [x, y], [t, t'] => match elemT ty t, ty t' with
    | some i, some i' => if i.sz = 0 ∨ i.z.length ≠ i.sz then none else if t = t' then some (.m (.app i.sz i.by_ x y)) else match i'.u with
      | .int _ => some (.m (.apz i.sz i.by_ i.z x y))
      | _ => none
    | _, _ => none
  | .clear, [x], [t] => match elemT ty t with
    | some i => if i.sz = 0 ∨ i.z.length ≠ i.sz then none else some (.m (.clr i.sz i.z x))
    | none => none
  | _, _, _ => none
noncomputable def cMO : Op → Option MO
  | .move x => (cO x).map fun x => .w (.mv x)
  | .assign x => (cO x).map fun x => .w (.mv x)
  | .pick c a b => match cO c, cO a, cO b with | some c, some a, some b => some (.w (.pick c a b)) | _, _, _ => none
  | .alloc t => (ty t).map fun i => .a (.al i.z)
  | .box _ x => (cO x).map fun x => .a (.box x)
  | .build t ps => match ty t with
    | some i => if placesOk ty i.u then (cParts (place ty i.u) ps.toList).map fun l => .w (.build i.z l) else none
    | none => none
  | .buildSlice t n ps => match elemT ty t with
    | some j => if j.sz = 0 ∨ n * j.sz > 16777216 ∨ j.z.length ≠ j.sz then none else (cParts (fun i => some (i * j.sz, j.sz)) ps.toList).map fun l => .a (.bsl j.sz n (lrep j.z n) l)
    | none => none
  | .load t a => match ty t, cO a with | some i, some a => some (.r (.ld (if isAggD i.u then some i.sz else none) a)) | _, _ => none
  | .store t a v => match ty t, cO a, cO v with | some i, some a, some v => some (.m (.st i.sz a v)) | _, _, _ => none
  | .nilCheck x => (cO x).map fun x => .w (.nilc x)
  | .binOp op t x y _ => match cO x, cO y with | some x, some y => (cBin ty op t x y).map .w | _, _ => none
  | .unOp op _ x => (cO x).map fun x => .w (.un op x)
  | .convert s d x => match ty s, ty d, cO x with
    | some i, some j, some x => match i.u, j.u with
      | .int _, .int k => some (.w (.cv k x))
      | .int _, .string => some (.w (.cvs x))
      | .slice e, .string => match ty e with
        | some k => match k.u with | .int .u8 => some (.r (.bts x)) | _ => none
        | none => none
      | _, _ => none
    | _, _, _ => none
  | .makeFunc (.func g) first caps => if first.isEmpty then (cOs caps.toList).map fun l => .w (.mkf g l) else none
  | .makeSlice t n c => match elemT ty t, cO n, cO c with | some i, some n, some c => if i.sz = 0 ∨ i.z.length ≠ i.sz then none else some (.a (.mks i.sz i.by_ i.z n c)) | _, _, _ => none
  | .slice t x lo hi mx => match ty t, cO x, cOo lo, cOo hi, cOo mx with
    | some i, some x, some lo, some hi, some mx => match i.u with
      | .string => match mx with | none => some (.w (.sls x lo hi)) | some _ => none
      | .slice e => match ty e with | some j => if mx.isSome && hi.isNone then none else some (.w (.sll j.sz x lo hi mx)) | none => none
      | _ => none
    | _, _, _, _, _ => none
  | .fieldAddr t x f => match ty t, cO x with
    | some i, some x => match i.u with
      | .struct fs => match fs[f]? with
        | some f => match ty f.type with | some j => if j.sz = 0 then none else some (.w (.fad f.offset x)) | none => none
        | none => none
      | _ => none
    | _, _ => none
  | .field t x f => match ty t, cO x with
    | some i, some x => match i.u with
      | .struct fs => match fs[f]? with
        | some f => match ty f.type with | some j => some (.w (.fld f.offset (if isAggD j.u then some j.sz else none) x)) | none => none
        | none => none
      | _ => none
    | _, _ => none
  | .indexAddr t x ix => match elemT ty t, cO x, cO ix with | some j, some x, some ix => some (.w (.iad j.sz x ix)) | _, _, _ => none
  | .index t x ix => match ty t, cO x, cO ix with
    | some i, some x, some ix => match i.u with | .string => some (.w (.ixs x ix)) | _ => none
    | _, _, _ => none
  | .extract x i => (cO x).map fun x => .w (.ext i x)
  | .call c => match cOs c.args.toList with
    | some l => match c.callee with
      | .builtin b => cBuiltin ty b l c.argTypes.toList
      | .value (.func f) => if ibs f then (match l with | [x, y] => some (.w (.ibs x y)) | _ => none) else some (.m (.call f l))
      | .value x => (cO x).map fun x => .m (.cal x l)
      | _ => none
    | none => none
  | _ => none
end
def TyOk (P : Program) (ty : TypeId → Option TyI) : Prop := ∀ t i, ty t = some i → tyI P t = some i
theorem TyOk.under {P : Program} {ty : TypeId → Option TyI} (h : TyOk P ty) {t : TypeId} {i : TyI} (hi : ty t = some i) : P.underlying t = some i.u := by
  have := h t i hi
  unfold tyI at this
  split at this
  · rename_i u j hu hj
    split at this
    · split at this
      · simp only [Option.some.injEq] at this; subst this; exact hu
      · simp at this
    · simp at this
  · simp at this
theorem TyOk.info {P : Program} {ty : TypeId → Option TyI} (h : TyOk P ty) {t : TypeId} {i : TyI} (hi : ty t = some i) :
    ∃ j z, P.info? t = some j ∧ j.size = i.sz ∧ j.bytes = i.by_ ∧ j.zero = some z ∧ valL z.cells.toList = some i.z := by
  have := h t i hi
  unfold tyI at this
  split at this
  · rename_i u j hu hj
    split at this
    · rename_i z hz
      split at this
      · rename_i l hl
        simp only [Option.some.injEq] at this; subst this; exact ⟨j, z, hj, rfl, rfl, hz, hl⟩
      · simp at this
    · simp at this
  · simp at this
theorem TyOk.elem {P : Program} {ty : TypeId → Option TyI} (h : TyOk P ty) {t : TypeId} {i : TyI} (hi : elemT ty t = some i) :
    ∃ e, P.underlying t = some (.slice e) ∧ ty e = some i := by
  unfold elemT at hi
  split at hi
  · rename_i j hj
    split at hi
    · rename_i e he
      exact ⟨e, by rw [h.under hj, he], hi⟩
    · simp at hi
  · simp at hi
theorem valS_sr (ρ : Rho) {v : Value} {s : S} (h : valS v = some s) : SR ρ s v := by
  unfold valS at h
  split at h <;> simp only [Option.some.injEq, reduceCtorEq] at h <;> subst h
  · rfl
  · rename_i k n; cases k <;> rfl
  · exact ⟨_, rfl, rfl⟩
  · rfl
  · rfl
  · rfl
theorem valL_lr (ρ : Rho) : ∀ {l : List Value} {m : List S}, valL l = some m → LR (SR ρ) m l
  | [], m, h => by simp [valL] at h; subst h; trivial
  | v :: l, m, h => by
    unfold valL at h
    split at h
    · rename_i s m' h1 h2
      simp only [Option.some.injEq] at h; subst h
      exact ⟨valS_sr ρ h1, valL_lr ρ h2⟩
    · simp at h
theorem valV_vr (ρ : Rho) {v : Value} {x : V} (h : valV v = some x) : VR ρ x v := by
  unfold valV at h
  split at h
  · simp only [Option.map_eq_some_iff] at h
    obtain ⟨l, h1, rfl⟩ := h
    exact ⟨_, rfl, valL_lr ρ h1⟩
  · simp only [Option.map_eq_some_iff] at h
    obtain ⟨s, h1, rfl⟩ := h
    exact valS_sr ρ h1
def ER (ρ : Rho) (e : E) (a : Act) : Prop := ∀ t v, e.get t = some v → VR ρ v (a.tmps.getD t undef)
theorem ER.mono {ρ ρ' : Rho} (h : ρ.le ρ') {e : E} {a : Act} (he : ER ρ e a) : ER ρ' e a := fun t v hv => (he t v hv).mono h
theorem ER.ov {ρ : Rho} {e : E} {a : Act} (he : ER ρ e a) {x : Operand} {y : O} (h : cO x = some y) : VR ρ (ov e y) (a.eval x) := by
  cases x with
  | tmp t =>
    simp only [cO, Option.some.injEq] at h; subst h
    cases hg : T.get e t with
    | none => simp only [Ev.ov, hg]; trivial
    | some v => simp only [Ev.ov, Act.eval, hg]; exact he t v hg
  | const v =>
    simp only [cO, Option.map_eq_some_iff] at h
    obtain ⟨w, h1, rfl⟩ := h
    exact valV_vr ρ h1
  | func f => simp only [cO, Option.some.injEq] at h; subst h; exact ⟨#[], rfl, trivial⟩
  | global g => simp [cO] at h
theorem ER.os {ρ : Rho} {e : E} {a : Act} (he : ER ρ e a) {x : Operand} {y : O} (h : cO x = some y) {s : S} (hs : os e y = s) (hu : s ≠ .un) : SR ρ s (a.eval x) := by
  have := he.ov h
  unfold Ev.os at hs
  cases hv : Ev.ov e y with
  | c s' => rw [hv] at hs this; simp only at hs; subst hs; exact this
  | _ => rw [hv] at hs; simp only at hs; exact absurd hs.symm hu
theorem ER.ovs {ρ : Rho} {e : E} {a : Act} (he : ER ρ e a) : ∀ {xs : List Operand} {ys : List O}, cOs xs = some ys → LR (VR ρ) (ovs e ys) (xs.map a.eval)
  | [], ys, h => by simp [cOs] at h; subst h; trivial
  | x :: xs, ys, h => by
    unfold cOs at h
    split at h
    · rename_i y m h1 h2
      simp only [Option.some.injEq] at h; subst h
      exact ⟨he.ov h1, he.ovs h2⟩
    · simp at h
end Go.Ev
end
section
set_option linter.unusedVariables false
set_option linter.unusedSimpArgs false
namespace Go.Ev
open Go
theorem m63_eq : m63 = 9223372036854775807 := rfl
theorem ble_of {a : Nat} (h : Nat.ble a m63 = true) : (a : Int) ≤ 9223372036854775807 := by
  have h1 := Nat.le_of_ble_eq_true h
  have h2 : (a : Int) ≤ (m63 : Int) := Int.ofNat_le.2 h1
  rw [m63_eq] at h2
  exact h2
theorem w64_in (n : Int) (h : -9223372036854775808 ≤ n) (h' : n ≤ 9223372036854775807) : n = IntKind.i64.wrap n := (IntWalk.i64_in n ⟨h, h'⟩).symm
theorem w64_eq (n : Int) : w64 n = IntKind.i64.wrap n := by
  cases n with
  | ofNat a =>
    show (bif Nat.ble a m63 then Int.ofNat a else IntKind.i64.wrap (Int.ofNat a)) = _
    have hn : Int.ofNat a = (a : Int) := rfl
    generalize Int.ofNat a = n at hn
    cases h : Nat.ble a m63 with
    | false => rw [cond_false]
    | true => have h1 := ble_of h; rw [cond_true]; exact w64_in n (by omega) (by omega)
  | negSucc a =>
    show (bif Nat.ble a m63 then Int.negSucc a else IntKind.i64.wrap (Int.negSucc a)) = _
    have hn := Int.negSucc_eq a
    generalize Int.negSucc a = n at hn
    cases h : Nat.ble a m63 with
    | false => rw [cond_false]
    | true => have h1 := ble_of h; rw [cond_true]; exact w64_in n (by omega) (by omega)
theorem ile_eq (a b : Int) : ile a b = decide (a ≤ b) := by
  cases a <;> cases b <;> simp only [ile, nble] <;> rw [Bool.eq_iff_iff] <;> simp <;> omega
theorem ieq_eq (a b : Int) : ieq a b = (a == b) := by
  cases a <;> cases b <;> simp only [ieq, nbeq] <;> rw [Bool.eq_iff_iff] <;> simp <;> omega
theorem kbeq_eq {a b : IntKind} (h : kbeq a b = true) : a = b := by
  cases a <;> cases b <;> first | rfl | (simp [kbeq, kix] at h)
theorem mkI_sr (ρ : Rho) (k : IntKind) (n : Int) : SR ρ (mkI k n) (.int k n) := by cases k <;> rfl
theorem semS_sound (ρ : Rho) {m : Sem Value} {v : V} (h : semS m = some v) : ∃ cv, m = .pure cv ∧ VR ρ v cv := by
  unfold semS at h
  split at h <;> simp only [Option.some.injEq, reduceCtorEq] at h
  · exact ⟨_, rfl, h ▸ mkI_sr ρ _ _⟩
  · exact ⟨_, rfl, h ▸ rfl⟩
theorem seq_eq : ∀ (l m : List Nat), seq l m = (l == m)
  | [], [] => rfl
  | [], _ :: _ => rfl
  | _ :: _, [] => rfl
  | x :: l, y :: m => by
    show (Bool.rec (motive := fun _ => Bool) false (seq l m) (Nat.beq x y)) = _
    rw [seq_eq l m, nbeq]
    by_cases h : x = y
    · subst h; simp
    · have : (x == y) = false := by simpa using h
      simp [this]
theorem map_toNat_inj : ∀ {l m : List UInt8}, l.map UInt8.toNat = m.map UInt8.toNat → l = m
  | [], [], _ => rfl
  | [], _ :: _, h => by simp at h
  | _ :: _, [], h => by simp at h
  | x :: l, y :: m, h => by
    simp only [List.map_cons, List.cons.injEq] at h
    rw [map_toNat_inj h.2, UInt8.toNat_inj.1 h.1]
theorem map_toNat_beq (l m : List UInt8) : (l.map UInt8.toNat == m.map UInt8.toNat) = (l == m) := by
  rw [Bool.eq_iff_iff]
  simp only [beq_iff_eq]
  exact ⟨map_toNat_inj, fun h => h ▸ rfl⟩
theorem slt_eq : ∀ (l m : List UInt8), slt (l.map UInt8.toNat) (m.map UInt8.toNat) = Op.bytesLess l m
  | [], [] => rfl
  | [], _ :: _ => rfl
  | _ :: _, [] => by simp only [List.map_nil]; rfl
  | x :: l, y :: m => by
    show (Bool.rec (motive := fun _ => Bool) (Nat.ble (Nat.succ x.toNat) y.toNat) (slt (l.map UInt8.toNat) (m.map UInt8.toNat)) (Nat.beq x.toNat y.toNat)) = _
    rw [slt_eq l m, nbeq, nble, show Op.bytesLess (x :: l) (y :: m) = (decide (x < y) || (x == y && Op.bytesLess l m)) from rfl]
    by_cases h : x = y
    · subst h; simp [UInt8.lt_irrefl]
    · have h1 : ¬ x.toNat = y.toNat := fun e => h (UInt8.toNat_inj.1 e)
      have : (x.toNat == y.toNat) = false := by simpa using h1
      have h2 : (x == y) = false := by simpa using h
      simp only [this, h2, Bool.false_and, Bool.or_false]
      rw [Bool.eq_iff_iff]
      simp [UInt8.lt_iff_toNat_lt, Nat.succ_le_iff]
theorem binS_sound (P : Program) (ρ : Rho) {op : BinOp} {a b : ByteArray} {v : V} (h : binS op (a.data.toList.map UInt8.toNat) (b.data.toList.map UInt8.toNat) = some v) (t : TypeId) (w : World) :
    ∃ cv, (binOp op t (.string a) (.string b)).run P w = .ok cv w ∧ VR ρ v cv := by
  cases op <;> simp only [binS, Option.some.injEq, reduceCtorEq] at h
  case add =>
    obtain ⟨hc, h⟩ := cond_some h
    simp only [Option.some.injEq] at h
    have hle := Nat.le_of_ble_eq_true hc
    simp only [llen_eq, List.length_map, Nat.add_eq] at hle
    refine ⟨.string (a ++ b), ?_, ?_⟩
    · rw [binOp_string_add]
      exact run_string_add_sum w a b (by show a.data.size + b.data.size ≤ _; simp only [Array.length_toList] at hle; omega)
    · subst h
      exact ⟨a ++ b, rfl, by rw [lapp_eq]; simp⟩
  all_goals
    subst h
    refine ⟨_, by simp [binOp, Op.stringOp, pure, Sem.run]; rfl, ?_⟩
    simp [VR, SR, seq_eq, slt_eq, map_toNat_beq, ByteArray.toList_eq]
theorem binOp_t (op : BinOp) (t : TypeId) (k k' : IntKind) (a b : Int) : binOp op t (.int k a) (.int k' b) = binOp op 0 (.int k a) (.int k' b) := by cases op <;> rfl
theorem bin64_sound (P : Program) (ρ : Rho) {op : BinOp} {a b : Int} {v : V} (h : bin64 op a b = some v) (t : TypeId) (w : World) :
    ∃ cv, (binOp op t (.int .i64 a) (.int .i64 b)).run P w = .ok cv w ∧ VR ρ v cv := by
  rw [binOp_t]
  cases op <;> simp only [bin64] at h
  case add => simp only [Option.some.injEq] at h; subst h; exact ⟨_, rfl, by show _ = _; rw [w64_eq]; rfl⟩
  case sub => simp only [Option.some.injEq] at h; subst h; exact ⟨_, rfl, by show _ = _; rw [w64_eq]; rfl⟩
  case mul => simp only [Option.some.injEq] at h; subst h; exact ⟨_, rfl, by show _ = _; rw [w64_eq]; rfl⟩
  case eql => simp only [Option.some.injEq] at h; subst h; exact ⟨_, rfl, by show _ = _; rw [ieq_eq]⟩
  case neq => simp only [Option.some.injEq] at h; subst h; exact ⟨_, rfl, by show _ = _; rw [ieq_eq]; rfl⟩
  case lss => simp only [Option.some.injEq] at h; subst h; exact ⟨_, rfl, by show _ = _; rw [ile_eq]; congr 1; rw [Bool.eq_iff_iff]; simp⟩
  case leq => simp only [Option.some.injEq] at h; subst h; exact ⟨_, rfl, by show _ = _; rw [ile_eq]⟩
  case gtr => simp only [Option.some.injEq] at h; subst h; exact ⟨_, rfl, by show _ = _; rw [ile_eq]; congr 1; rw [Bool.eq_iff_iff]; simp⟩
  case geq => simp only [Option.some.injEq] at h; subst h; exact ⟨_, rfl, by show _ = _; rw [ile_eq]⟩
  all_goals
    obtain ⟨cv, h1, h2⟩ := semS_sound ρ h
    exact ⟨cv, by rw [h1]; rfl, h2⟩
theorem binJ_sound (P : Program) (ρ : Rho) {op : BinOp} {k k' : IntKind} {a b : Int} {v : V} (h : binJ op k a k' b = some v) (t : TypeId) (w : World) :
    ∃ cv, (binOp op t (.int k a) (.int k' b)).run P w = .ok cv w ∧ VR ρ v cv := by
  rw [binOp_t]
  have key : ∀ {x : V}, (bif kbeq k k' then some x else none) = some v → k = k' ∧ x = v := fun hh => by
    obtain ⟨h1, h2⟩ := cond_some hh
    exact ⟨kbeq_eq h1, by simpa using h2⟩
  cases op <;> simp only [binJ] at h
  case eql => obtain ⟨rfl, rfl⟩ := key h; exact ⟨_, by simp [binOp, Op.intCmp, pure, Sem.run]; rfl, by show _ = _; rw [ieq_eq]⟩
  case neq => obtain ⟨rfl, rfl⟩ := key h; exact ⟨_, by simp [binOp, Op.intCmp, pure, Sem.run]; rfl, by show _ = _; rw [ieq_eq]; rfl⟩
  case lss => obtain ⟨rfl, rfl⟩ := key h; exact ⟨_, by simp [binOp, Op.intCmp, pure, Sem.run]; rfl, by show _ = _; rw [ile_eq]; congr 1; rw [Bool.eq_iff_iff]; simp⟩
  case leq => obtain ⟨rfl, rfl⟩ := key h; exact ⟨_, by simp [binOp, Op.intCmp, pure, Sem.run]; rfl, by show _ = _; rw [ile_eq]⟩
  case gtr => obtain ⟨rfl, rfl⟩ := key h; exact ⟨_, by simp [binOp, Op.intCmp, pure, Sem.run]; rfl, by show _ = _; rw [ile_eq]; congr 1; rw [Bool.eq_iff_iff]; simp⟩
  case geq => obtain ⟨rfl, rfl⟩ := key h; exact ⟨_, by simp [binOp, Op.intCmp, pure, Sem.run]; rfl, by show _ = _; rw [ile_eq]⟩
  all_goals
    obtain ⟨cv, h1, h2⟩ := semS_sound ρ h
    exact ⟨cv, by rw [h1]; rfl, h2⟩
end Go.Ev
end
section
set_option linter.unusedVariables false
set_option linter.unusedSimpArgs false
namespace Go.Ev
open Go
def IbsOk (P : Program) (ibs : FuncId → Bool) : Prop :=
  ∀ f, ibs f = true → ∀ (args : Array Value) (v : Value) (w : World), (Extern.BytealgIndexByte.indexByte args).run P w = .ok v w → (callFunc f args).run P w = .ok (.value v) w
theorem execV {P : Program} {s : Sem Value} {cv : Value} {w w' : World} (h : s.run P w = .ok cv w') : ((do pure (Next.value (← s))) : Sem Next).run P w = .ok (.value cv) w' := by
  simp [h]
theorem run_under {P : Program} {t : TypeId} {u : TypeDesc} (h : P.underlying t = some u) (w : World) : (underlying t).run P w = .ok u w := by
  simp [underlying, h]
theorem run_size {P : Program} {t : TypeId} {i : TypeInfo} (h : P.info? t = some i) (w : World) : (sizeOf t).run P w = .ok i.size w := by
  simp [sizeOf, typeInfo, h]
theorem run_tinfo {P : Program} {t : TypeId} {i : TypeInfo} (h : P.info? t = some i) (w : World) : (typeInfo t).run P w = .ok i w := by
  simp [typeInfo, h]
theorem run_zero {P : Program} {t : TypeId} {i : TypeInfo} {z : Value} (h : P.info? t = some i) (hz : i.zero = some z) (w : World) : (zeroValue t).run P w = .ok z w := by
  simp [zeroValue, typeInfo, h, hz]
theorem run_isAgg {P : Program} {t : TypeId} {u : TypeDesc} (h : P.underlying t = some u) (w : World) : (isAgg t).run P w = .ok (isAggD u) w := by
  unfold isAgg
  simp only [Sem.run_bind, run_under h, Result.andThen_ok]
  cases u <;> rfl
theorem ER.at {ρ : Rho} {e : E} {a : Act} (he : ER ρ e a) {x : Operand} {y : O} (h : cO x = some y) {s : S} (hs : Ev.os e y = s) (hu : s ≠ .un := by simp) : SR ρ s (a.eval x) := he.os h hs hu
theorem onj_sound {ρ : Rho} {e : E} {a : Act} (he : ER ρ e a) {x : Operand} {y : O} (h : cO x = some y) {n : Nat} (hn : onj e y = some n) : ∃ k, a.eval x = .int k (n : Int) := by
  unfold onj at hn
  split at hn <;> simp only [Option.some.injEq, reduceCtorEq] at hn
  · rename_i m hm; subst hn; exact ⟨_, he.at h hm⟩
  · rename_i k m hm; subst hn; exact ⟨_, he.at h hm⟩
theorem on_sound {ρ : Rho} {e : E} {a : Act} (he : ER ρ e a) {x : Operand} {y : O} (h : cO x = some y) {n : Nat} (hn : on e y = some n) : a.eval x = .int .i64 (n : Int) := by
  unfold on at hn
  split at hn <;> simp only [Option.some.injEq, reduceCtorEq] at hn
  rename_i m hm; subst hn; exact he.at h hm
theorem onD_sound {ρ : Rho} {e : E} {a : Act} (he : ER ρ e a) {x : Option Operand} {y : Option O} (h : cOo x = some y) {d n : Nat} (hn : onD e d y = some n) :
    (x = none ∧ y = none ∧ n = d) ∨ ∃ x' k, x = some x' ∧ a.eval x' = .int k (n : Int) := by
  cases x with
  | none => simp only [cOo, Option.some.injEq] at h; subst h; simp only [onD, Option.some.injEq] at hn; exact .inl ⟨rfl, rfl, hn.symm⟩
  | some x =>
    unfold cOo at h
    split at h
    · simp at *
    · rename_i x' hx
      simp only [Option.some.injEq] at hx; subst hx
      split at h
      · rename_i y' hy
        simp only [Option.some.injEq] at h; subst h
        obtain ⟨k, hk⟩ := onj_sound he hy (by simpa [onD] using hn)
        exact .inr ⟨x, k, rfl, hk⟩
      · simp at h
theorem sliceBounds_run (P : Program) (w : World) (b : Bool) (len cap l h : Nat) {lo hi : Option Value} (hl : (lo = none ∧ l = 0) ∨ ∃ k, lo = some (.int k l)) (hh : (hi = none ∧ h = len) ∨ ∃ k, hi = some (.int k h))
    (h1 : l ≤ h) (h2 : h ≤ len) (h3 : len ≤ cap) : (Instr.sliceBounds b len cap lo hi none).run P w = .ok (l, h, cap) w := by
  have hb : ∀ (k : IntKind) (i y : Nat) (c : BoundsCode), i ≤ y → (Instr.sliceBound (.int k i) y c).run P w = .ok i w := fun k i y c hi => by
    simp [Instr.sliceBound, asIntOf, hi]
  unfold Instr.sliceBounds
  rcases hl with ⟨rfl, rfl⟩ | ⟨k, rfl⟩ <;> rcases hh with ⟨rfl, rfl⟩ | ⟨k', rfl⟩
  · simp
  · simp [hb k' h cap _ (by omega)]
  · simp [hb k l h _ (by omega)]
  · simp [hb k' h cap _ (by omega), hb k l h _ (by omega)]
theorem sliceBounds_run3 (P : Program) (w : World) (len cap l h m : Nat) {lo hi : Option Value} {k : IntKind} (hl : (lo = none ∧ l = 0) ∨ ∃ k, lo = some (.int k l)) (hh : ∃ k, hi = some (.int k h))
    (h1 : l ≤ h) (h2 : h ≤ m) (h3 : m ≤ cap) : (Instr.sliceBounds true len cap lo hi (some (.int k m))).run P w = .ok (l, h, m) w := by
  have hb : ∀ (k : IntKind) (i y : Nat) (c : BoundsCode), i ≤ y → (Instr.sliceBound (.int k i) y c).run P w = .ok i w := fun k i y c hi => by
    simp [Instr.sliceBound, asIntOf, hi]
  unfold Instr.sliceBounds
  obtain ⟨k', rfl⟩ := hh
  rcases hl with ⟨rfl, rfl⟩ | ⟨k'', rfl⟩
  · simp [hb k m cap _ h3, hb k' h m _ h2]
  · simp [hb k m cap _ h3, hb k' h m _ h2, hb k'' l h _ h1]
theorem foldl_set (src : List Value) : ∀ (off i : Nat) (cells : Array Value), off + i + src.length ≤ cells.size →
    ((src.zipIdx i).foldl (fun (cs : Array Value) (p : Value × Nat) => cs.setIfInBounds (off + p.2) p.1) cells).toList = cells.toList.take (off + i) ++ (src ++ cells.toList.drop (off + i + src.length)) := by
  induction src with
  | nil => intro off i cells h; simp
  | cons x t ih =>
    intro off i cells h
    simp only [List.zipIdx_cons, List.foldl_cons]
    rw [ih off (i + 1) _ (by simp at h ⊢; omega)]
    simp only [Array.toList_setIfInBounds, List.length_cons]
    have hlt : off + i < cells.toList.length := by simp at h ⊢; omega
    have e1 : (cells.toList.set (off + i) x).take (off + (i + 1)) = cells.toList.take (off + i) ++ [x] := by
      rw [show off + (i + 1) = (off + i) + 1 by omega, List.take_add_one]
      rw [List.getElem?_set_self hlt, List.take_set_of_le (Nat.le_refl _)]; rfl
    have e2 : (cells.toList.set (off + i) x).drop (off + (i + 1) + t.length) = cells.toList.drop (off + i + (t.length + 1)) := by
      rw [show off + (i + 1) + t.length = off + i + (t.length + 1) by omega, List.drop_set_of_lt (by omega)]
    rw [e1, e2]
    simp
theorem putAll_sound {ρ : Rho} {e : E} {a : Act} (he : ER ρ e a) {pl : Nat → Option (Nat × Nat)} :
    ∀ {ps : List (Nat × Operand)} {qs : List (Nat × Nat × O)} {z l : List S} {cells : Array Value}, cParts pl ps = some qs → putAll z e qs = some l → LR (SR ρ) z cells.toList →
      ∃ out, Instr.fill pl cells (ps.map fun p => (p.1, a.eval p.2)) = some out ∧ LR (SR ρ) l out.toList
  | [], qs, z, l, cells, h, hp, hz => by
    simp only [cParts, Option.some.injEq] at h; subst h
    have : some z = some l := hp
    simp only [Option.some.injEq] at this; subst this
    exact ⟨cells, rfl, hz⟩
  | (i, x) :: ps, qs, z, l, cells, h, hp, hz => by
    unfold cParts at h
    split at h
    · rename_i off sz y m h1 h2 h3
      simp only [Option.some.injEq] at h; subst h
      have hp' : (match cellsOf (ov e y) with
        | none => none
        | some l' => bif Nat.beq (llen l') sz && Nat.ble (Nat.add off sz) (llen z) then putAll (lput z l' off) e m else none) = some l := hp
      cases hc : cellsOf (ov e y) with
      | none => simp [hc] at hp'
      | some l' =>
        simp only [hc] at hp'
        obtain ⟨ht, hp'⟩ := cond_some hp'
        simp only [Bool.and_eq_true, nbeq, nble, beq_iff_eq, decide_eq_true_eq, llen_eq, Nat.add_eq] at ht
        have hcl := VR.cells (he.ov h2) hc
        have hlen := hcl.length
        have hzl := hz.length
        have hlen' : (a.eval x).cells.size = sz := by rw [← ht.1, hlen]; simp
        have hfit : ¬ (off + (a.eval x).cells.size > cells.size) := by
          have : z.length = cells.size := by rw [hzl]; simp
          omega
        have hfold := foldl_set (a.eval x).cells.toList off 0 cells (by simp at hzl ⊢; omega)
        have hnew : LR (SR ρ) (lput z l' off) (((a.eval x).cells.zipIdx.foldl (fun cs (c, j) => cs.setIfInBounds (off + j) c) cells)).toList := by
          rw [show ((a.eval x).cells.zipIdx.foldl (fun cs (c, j) => cs.setIfInBounds (off + j) c) cells) = (((a.eval x).cells.toList.zipIdx 0).foldl (fun (cs : Array Value) (p : Value × Nat) => cs.setIfInBounds (off + p.2) p.1) cells) by
            rw [← Array.foldl_toList, Array.toList_zipIdx]]
          rw [hfold, lput_eq]
          simp only [Nat.add_zero]
          refine (hz.take off).append (hcl.append ?_)
          rw [← hlen]
          exact hz.drop _
        obtain ⟨out, ho1, ho2⟩ := putAll_sound he h3 hp' hnew
        refine ⟨out, ?_, ho2⟩
        simp only [List.map_cons, Instr.fill, h1, hlen', ne_eq, not_true_eq_false, false_or]
        rw [hlen'] at hfit
        rw [if_neg (by simpa using hfit)]
        exact ho1
    · simp at h
theorem ptrs_sound {ρ : Rho} {e : E} {a : Act} (he : ER ρ e a) : ∀ {xs : List Operand} {ys : List O} {l : List (Nat × Nat)}, cOs xs = some ys → ptrs e ys = some l → LR (fun (c : Nat × Nat) v => PR ρ c.1 c.2 v) l (xs.map a.eval)
  | [], ys, l, h, hp => by
    simp only [cOs, Option.some.injEq] at h; subst h
    have : some [] = some l := hp
    simp only [Option.some.injEq] at this; subst this
    trivial
  | x :: xs, ys, l, h, hp => by
    unfold cOs at h
    split at h
    · rename_i y m h1 h2
      simp only [Option.some.injEq] at h; subst h
      have hp' : (match Ev.os e y, ptrs e m with | .p a b, some l => some ((a, b) :: l) | _, _ => none) = some l := hp
      split at hp'
      · rename_i a' b' l' h3 h4
        simp only [Option.some.injEq] at hp'; subst hp'
        exact ⟨he.at h1 h3, ptrs_sound he h2 h4⟩
      · simp at hp'
    · simp at h
theorem find_spec (c : UInt8) : ∀ (l : List UInt8) (k : Nat), find c.toNat (l.map UInt8.toNat) k = if Lib.indexByte l c = -1 then -1 else (k : Int) + Lib.indexByte l c
  | [], k => rfl
  | x :: l, k => by
    show (Bool.rec (motive := fun _ => Int) (find c.toNat (l.map UInt8.toNat) (Nat.succ k)) (.ofNat k) (Nat.beq x.toNat c.toNat)) = _
    rw [nbeq, find_spec c l]
    have hge := Lib.indexByte_ge l c
    rw [show Lib.indexByte (x :: l) c = (if x == c then 0 else if Lib.indexByte l c == -1 then -1 else Lib.indexByte l c + 1) from rfl]
    by_cases h : x = c
    · subst h; simp
    · have h1 : (x.toNat == c.toNat) = false := by simpa using fun e => h (UInt8.toNat_inj.1 e)
      have h2 : (x == c) = false := by simpa using h
      simp only [h1, h2, Bool.false_eq_true, if_false, beq_iff_eq]
      by_cases h3 : Lib.indexByte l c = -1
      · simp [h3]
      · rw [if_neg h3, if_neg h3, if_neg (by omega)]; omega
theorem bb_vr {ρ : Rho} {b : Bool} {v : V} (h : bb b = some v) : VR ρ v (.bool b) := by
  simp only [bb, Option.some.injEq] at h; subst h; rfl
def plainV : Value → Bool
  | .nilIface => false
  | .agg _ => false
  | _ => true
theorem eqGuard_run {P : Program} {w : World} (op : BinOp) (t : TypeId) (x y : Operand) (p q : Value) (h : plainV p = true) : (eqGuard op t x y p q).run P w = .ok () w := by
  unfold eqGuard
  cases op <;> first | rfl | (cases p <;> first | (simp [plainV] at h; done) | rfl)
def eqV : Value → Bool
  | .bool _ => true
  | .slice _ _ _ => true
  | .pointer _ => true
  | .func _ _ _ => true
  | .nilFunc => true
  | _ => false
theorem eqV_plain {p : Value} (h : eqV p = true) : plainV p = true := by cases p <;> first | rfl | (simp [eqV] at h)
theorem binOp_eql (t : TypeId) (p q : Value) (h : eqV p = true) : binOp .eql t p q = (do pure (.bool (← Op.equal t p q)) : Sem Value) := by
  cases p <;> first | (simp [eqV] at h; done) | rfl | (cases q <;> rfl)
theorem binOp_neq (t : TypeId) (p q : Value) (h : eqV p = true) : binOp .neq t p q = (do pure (.bool (!(← Op.equal t p q))) : Sem Value) := by
  cases p <;> first | (simp [eqV] at h; done) | rfl | (cases q <;> rfl)
theorem w_equal {P : Program} {w : World} {op : BinOp} (hop : op = .eql ∨ op = .neq) (t : TypeId) (x y : Operand) {p q : Value} {r : Bool} (hp : eqV p = true)
    (hr : (Op.equal t p q).run P w = .ok r w) : (do eqGuard op t x y p q; binOp op t p q : Sem Value).run P w = .ok (.bool (xor (isNe op) r)) w := by
  simp only [Sem.run_bind, eqGuard_run op t x y p q (eqV_plain hp), Result.andThen_ok]
  rcases hop with rfl | rfl
  · rw [binOp_eql t p q hp]; simp [hr, isNe]
  · rw [binOp_neq t p q hp]; simp [hr, isNe]
theorem equal_bool {P : Program} {w : World} {t : TypeId} (hu : P.underlying t = some .bool) (a b : Bool) : (Op.equal t (.bool a) (.bool b)).run P w = .ok (a == b) w := by
  show (Op.equalIn (9999 + 1) t (.bool a) (.bool b)).run P w = _
  unfold Op.equalIn
  simp only [Sem.run_bind, run_under hu, Result.andThen_ok]
  rfl
theorem equal_slice {P : Program} {w : World} {t e : TypeId} (hu : P.underlying t = some (.slice e)) (a b : Option Addr) (n c m d : Nat) (h : a = none ∨ b = none) :
    (Op.equal t (.slice a n c) (.slice b m d)).run P w = .ok (a.isNone && b.isNone) w := by
  show (Op.equalIn (9999 + 1) t _ _).run P w = _
  unfold Op.equalIn
  simp only [Sem.run_bind, run_under hu, Result.andThen_ok]
  cases a <;> cases b <;> first | rfl | (simp at h)
theorem equal_pointer {P : Program} {w : World} {t e : TypeId} (hu : P.underlying t = some (.pointer e)) (a b : Option Addr) (h : a = none ∨ b = none) :
    (Op.equal t (.pointer a) (.pointer b)).run P w = .ok (a.isNone && b.isNone) w := by
  show (Op.equalIn (9999 + 1) t _ _).run P w = _
  unfold Op.equalIn
  simp only [Sem.run_bind, run_under hu, Result.andThen_ok]
  cases a <;> cases b <;> first | rfl | (simp at h)
theorem equal_func {P : Program} {w : World} {t : TypeId} {ps rs : Array TypeId} {v : Bool} (hu : P.underlying t = some (.func ps rs v)) {p q : Value}
    (h : (p = .nilFunc ∧ q = .nilFunc) ∨ (p = .nilFunc ∧ ∃ g x y, q = .func g x y) ∨ (q = .nilFunc ∧ ∃ g x y, p = .func g x y)) :
    (Op.equal t p q).run P w = .ok (p matches .nilFunc && q matches .nilFunc) w := by
  show (Op.equalIn (9999 + 1) t _ _).run P w = _
  unfold Op.equalIn
  simp only [Sem.run_bind, run_under hu, Result.andThen_ok]
  rcases h with ⟨rfl, rfl⟩ | ⟨rfl, g, x, y, rfl⟩ | ⟨rfl, g, x, y, rfl⟩ <;> rfl
section
variable {P : Program} {ty : TypeId → Option TyI} {ibs : FuncId → Bool} (hty : TyOk P ty) (hib : IbsOk P ibs) {ρ : Rho} {e : E} {a : Act} (he : ER ρ e a) (w : World)
include he
theorem w_bin {op : BinOp} {x y : Operand} {x' y' : O} (hx : cO x = some x') (hy : cO y = some y') {v : V} (hv : wv e (.bin op x' y') = some v) (t : TypeId) :
    ∃ cv, (do eqGuard op t x y (a.eval x) (a.eval y); binOp op t (a.eval x) (a.eval y)).run P w = .ok cv w ∧ VR ρ v cv := by
  simp only [wv] at hv
  split at hv
  · rename_i p q h1 h2
    rw [show a.eval x = .int .i64 p from he.at hx h1, show a.eval y = .int .i64 q from he.at hy h2]
    obtain ⟨cv, h3, h4⟩ := bin64_sound P ρ hv t w
    exact ⟨cv, by simp only [Sem.run_bind, eqGuard_run _ _ _ _ (.int .i64 p) _ rfl, Result.andThen_ok, h3], h4⟩
  · rename_i k p k' q h1 h2
    rw [show a.eval x = .int k p from he.at hx h1, show a.eval y = .int k' q from he.at hy h2]
    obtain ⟨cv, h3, h4⟩ := binJ_sound P ρ hv t w
    exact ⟨cv, by simp only [Sem.run_bind, eqGuard_run _ _ _ _ (.int k p) _ rfl, Result.andThen_ok, h3], h4⟩
  · rename_i p q h1 h2
    obtain ⟨b1, e1, rfl⟩ := he.at hx h1
    obtain ⟨b2, e2, rfl⟩ := he.at hy h2
    rw [e1, e2]
    obtain ⟨cv, h3, h4⟩ := binS_sound P ρ hv t w
    exact ⟨cv, by simp only [Sem.run_bind, eqGuard_run _ _ _ _ (.string b1) _ rfl, Result.andThen_ok, h3], h4⟩
  · rename_i p k' q h1 h2
    rw [show a.eval x = .int .i64 p from he.at hx h1, show a.eval y = .int k' q from he.at hy h2, binOp_t]
    obtain ⟨cv, h3, h4⟩ := semS_sound ρ hv
    exact ⟨cv, by simp only [Sem.run_bind, eqGuard_run _ _ _ _ (.int .i64 p) _ rfl, Result.andThen_ok, h3, Sem.run_pure'], h4⟩
  · rename_i k p q h1 h2
    rw [show a.eval x = .int k p from he.at hx h1, show a.eval y = .int .i64 q from he.at hy h2, binOp_t]
    obtain ⟨cv, h3, h4⟩ := semS_sound ρ hv
    exact ⟨cv, by simp only [Sem.run_bind, eqGuard_run _ _ _ _ (.int k p) _ rfl, Result.andThen_ok, h3, Sem.run_pure'], h4⟩
  · simp at hv
theorem w_eqb {op : BinOp} (hop : op = .eql ∨ op = .neq) {x y : Operand} {x' y' : O} (hx : cO x = some x') (hy : cO y = some y') {v : V} (hv : wv e (.eqb (isNe op) x' y') = some v) {t : TypeId} (hu : P.underlying t = some .bool) :
    ∃ cv, (do eqGuard op t x y (a.eval x) (a.eval y); binOp op t (a.eval x) (a.eval y)).run P w = .ok cv w ∧ VR ρ v cv := by
  simp only [wv] at hv
  split at hv
  · rename_i p q h1 h2
    rw [show a.eval x = .bool p from he.at hx h1, show a.eval y = .bool q from he.at hy h2]
    refine ⟨_, w_equal hop t x y rfl (equal_bool hu p q), ?_⟩
    have := bb_vr (ρ := ρ) hv
    cases p <;> cases q <;> exact this
  · simp at hv
theorem w_eql {op : BinOp} (hop : op = .eql ∨ op = .neq) {x y : Operand} {x' y' : O} (hx : cO x = some x') (hy : cO y = some y') {v : V} (hv : wv e (.eql (isNe op) x' y') = some v) {t el : TypeId} (hu : P.underlying t = some (.slice el)) :
    ∃ cv, (do eqGuard op t x y (a.eval x) (a.eval y); binOp op t (a.eval x) (a.eval y)).run P w = .ok cv w ∧ VR ρ v cv := by
  simp only [wv] at hv
  split at hv
  · rename_i h1 h2
    rw [show a.eval x = .slice none 0 0 from he.at hx h1, show a.eval y = .slice none 0 0 from he.at hy h2]
    refine ⟨_, w_equal hop t x y rfl (equal_slice hu _ _ _ _ _ _ (.inl rfl)), ?_⟩
    have := bb_vr (ρ := ρ) hv
    simpa using this
  · rename_i h1 h2
    obtain ⟨_, _, _, _, _, _, e2, _⟩ := he.at hy h2
    rw [show a.eval x = .slice none 0 0 from he.at hx h1, e2]
    refine ⟨_, w_equal hop t x y rfl (equal_slice hu _ _ _ _ _ _ (.inl rfl)), ?_⟩
    have := bb_vr (ρ := ρ) hv
    simpa using this
  · rename_i h1 h2
    obtain ⟨_, _, _, _, _, _, e1, _⟩ := he.at hx h1
    rw [e1, show a.eval y = .slice none 0 0 from he.at hy h2]
    refine ⟨_, w_equal hop t x y rfl (equal_slice hu _ _ _ _ _ _ (.inr rfl)), ?_⟩
    have := bb_vr (ρ := ρ) hv
    simpa using this
  · simp at hv
theorem w_eqp {op : BinOp} (hop : op = .eql ∨ op = .neq) {x y : Operand} {x' y' : O} (hx : cO x = some x') (hy : cO y = some y') {v : V} (hv : wv e (.eqp (isNe op) x' y') = some v) {t el : TypeId} (hu : P.underlying t = some (.pointer el)) :
    ∃ cv, (do eqGuard op t x y (a.eval x) (a.eval y); binOp op t (a.eval x) (a.eval y)).run P w = .ok cv w ∧ VR ρ v cv := by
  simp only [wv] at hv
  split at hv
  · rename_i h1 h2
    rw [show a.eval x = .pointer none from he.at hx h1, show a.eval y = .pointer none from he.at hy h2]
    refine ⟨_, w_equal hop t x y rfl (equal_pointer hu _ _ (.inl rfl)), ?_⟩
    have := bb_vr (ρ := ρ) hv
    simpa using this
  · rename_i h1 h2
    obtain ⟨_, _, _, _, e2⟩ := he.at hy h2
    rw [show a.eval x = .pointer none from he.at hx h1, e2]
    refine ⟨_, w_equal hop t x y rfl (equal_pointer hu _ _ (.inl rfl)), ?_⟩
    have := bb_vr (ρ := ρ) hv
    simpa using this
  · rename_i h1 h2
    obtain ⟨_, _, _, _, e1⟩ := he.at hx h1
    rw [e1, show a.eval y = .pointer none from he.at hy h2]
    refine ⟨_, w_equal hop t x y rfl (equal_pointer hu _ _ (.inr rfl)), ?_⟩
    have := bb_vr (ρ := ρ) hv
    simpa using this
  · simp at hv
theorem w_eqf {op : BinOp} (hop : op = .eql ∨ op = .neq) {x y : Operand} {x' y' : O} (hx : cO x = some x') (hy : cO y = some y') {v : V} (hv : wv e (.eqf (isNe op) x' y') = some v) {t : TypeId} {ps rs : Array TypeId} {vr : Bool} (hu : P.underlying t = some (.func ps rs vr)) :
    ∃ cv, (do eqGuard op t x y (a.eval x) (a.eval y); binOp op t (a.eval x) (a.eval y)).run P w = .ok cv w ∧ VR ρ v cv := by
  simp only [wv] at hv
  split at hv
  · rename_i h1 h2
    rw [show a.eval x = .nilFunc from he.at hx h1, show a.eval y = .nilFunc from he.at hy h2]
    refine ⟨_, w_equal hop t x y rfl (equal_func hu (.inl ⟨rfl, rfl⟩)), ?_⟩
    have := bb_vr (ρ := ρ) hv
    simpa using this
  · rename_i h1 h2
    obtain ⟨_, e2, _⟩ := he.at hy h2
    rw [show a.eval x = .nilFunc from he.at hx h1, e2]
    refine ⟨_, w_equal hop t x y rfl (equal_func hu (.inr (.inl ⟨rfl, _, _, _, rfl⟩))), ?_⟩
    have := bb_vr (ρ := ρ) hv
    simpa using this
  · rename_i h1 h2
    obtain ⟨_, e1, _⟩ := he.at hx h1
    rw [e1, show a.eval y = .nilFunc from he.at hy h2]
    refine ⟨_, w_equal hop t x y rfl (equal_func hu (.inr (.inr ⟨rfl, _, _, _, rfl⟩))), ?_⟩
    have := bb_vr (ρ := ρ) hv
    simpa using this
  · simp at hv
end
end Go.Ev
end
