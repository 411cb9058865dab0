/-
How abstract values and the abstract heap of the evaluator stand to the model's: by a map of some blocks.
-/
import Derived.Test.YtjidglpldjcmdaaGreatEvA
import Derived.Laws.AppendOwn
import Derived.Laws.CopyRow
import Derived.Laws.Cells
set_option linter.unusedVariables false
set_option linter.unusedSimpArgs false
namespace Go.Ev
open Go

/-! Two lists, place by place. -/
def LR {α β : Type} (R : α → β → Prop) : List α → List β → Prop
  | [], [] => True
  | a :: l, b :: m => R a b ∧ LR R l m
  | _, _ => False

section
variable {α β : Type} {R R' : α → β → Prop}
theorem LR.mono (h : ∀ a b, R a b → R' a b) : ∀ {l : List α} {m : List β}, LR R l m → LR R' l m
  | [], [], _ => trivial
  | _ :: _, _ :: _, hh => ⟨h _ _ hh.1, LR.mono h hh.2⟩
  | [], _ :: _, hh => hh.elim
  | _ :: _, [], hh => hh.elim
theorem LR.length : ∀ {l : List α} {m : List β}, LR R l m → l.length = m.length
  | [], [], _ => rfl
  | _ :: _, _ :: _, hh => by simp [LR.length hh.2]
  | [], _ :: _, hh => hh.elim
  | _ :: _, [], hh => hh.elim
theorem LR.get : ∀ {l : List α} {m : List β} {i : Nat} {a : α}, LR R l m → l[i]? = some a → ∃ b, m[i]? = some b ∧ R a b
  | [], [], _, _, _, h => by simp at h
  | x :: l, y :: m, 0, a, hh, h => by simp at h; subst h; exact ⟨y, by simp, hh.1⟩
  | _ :: l, _ :: m, i + 1, a, hh, h => by
    have := LR.get (i := i) hh.2 (by simpa using h)
    simpa using this
  | [], _ :: _, _, _, hh, _ => hh.elim
  | _ :: _, [], _, _, hh, _ => hh.elim
theorem LR.of_get : ∀ {l : List α} {m : List β}, l.length = m.length → (∀ (i : Nat) (a : α) (b : β), l[i]? = some a → m[i]? = some b → R a b) → LR R l m
  | [], [], _, _ => trivial
  | a :: l, b :: m, hl, h => ⟨h 0 a b (by simp) (by simp), LR.of_get (by simpa using hl) fun i a b h1 h2 => h (i + 1) a b (by simpa using h1) (by simpa using h2)⟩
  | [], _ :: _, hl, _ => by simp at hl
  | _ :: _, [], hl, _ => by simp at hl
theorem LR.append : ∀ {l : List α} {m : List β} {l' : List α} {m' : List β}, LR R l m → LR R l' m' → LR R (l ++ l') (m ++ m')
  | [], [], _, _, _, h' => h'
  | _ :: _, _ :: _, _, _, h, h' => ⟨h.1, LR.append h.2 h'⟩
  | [], _ :: _, _, _, h, _ => h.elim
  | _ :: _, [], _, _, h, _ => h.elim
theorem LR.take : ∀ {l : List α} {m : List β} (n : Nat), LR R l m → LR R (l.take n) (m.take n)
  | [], [], _, _ => by simp [LR]
  | _ :: _, _ :: _, 0, _ => by simp [LR]
  | _ :: _, _ :: _, n + 1, h => by simp only [List.take_succ_cons]; exact ⟨h.1, LR.take n h.2⟩
  | [], _ :: _, _, h => h.elim
  | _ :: _, [], _, h => h.elim
theorem LR.drop : ∀ {l : List α} {m : List β} (n : Nat), LR R l m → LR R (l.drop n) (m.drop n)
  | [], [], _, _ => by simp [LR]
  | _ :: _, _ :: _, 0, h => h
  | _ :: _, _ :: _, n + 1, h => by simp only [List.drop_succ_cons]; exact LR.drop n h.2
  | [], _ :: _, _, h => h.elim
  | _ :: _, [], _, h => h.elim
theorem LR.map {γ : Type} (f : γ → β) : ∀ {l : List α} {m : List γ}, LR (fun a c => R a (f c)) l m → LR R l (m.map f)
  | [], [], _ => trivial
  | _ :: _, _ :: _, h => ⟨h.1, LR.map f h.2⟩
  | [], _ :: _, h => h.elim
  | _ :: _, [], h => h.elim
theorem LR.all {Q : β → Prop} (h : ∀ a b, R a b → Q b) : ∀ {l : List α} {m : List β}, LR R l m → ∀ b ∈ m, Q b
  | [], [], _, b, hb => by simp at hb
  | _ :: _, _ :: _, hh, b, hb => by
    rcases List.mem_cons.1 hb with e | hb
    · exact e ▸ h _ _ hh.1
    · exact LR.all h hh.2 b hb
  | [], _ :: _, hh, _, _ => hh.elim
  | _ :: _, [], hh, _, _ => hh.elim
end

/-- Where an abstract block lies: the model's block, how far in, the block's size. -/
abbrev Rho := Nat → Option (Nat × Nat × Nat)
def Rho.le (ρ ρ' : Rho) : Prop := ∀ x y, ρ x = some y → ρ' x = some y
theorem Rho.le_refl (ρ : Rho) : ρ.le ρ := fun _ _ h => h
theorem Rho.le_trans {a b c : Rho} (h : a.le b) (k : b.le c) : a.le c := fun _ _ e => k _ _ (h _ _ e)

def PR (ρ : Rho) (x o : Nat) (v : Value) : Prop := ∃ cb sh z, ρ x = some (cb, sh, z) ∧ v = .pointer (some ⟨cb, sh + o, none⟩)
def LS (ρ : Rho) (x o n e : Nat) (full : Bool) (v : Value) : Prop :=
  ∃ cb sh z a cap, ρ x = some (cb, sh, z) ∧ v = .slice (some a) n cap ∧ n ≤ cap ∧ (full = true → cap = n) ∧ (0 < cap → a = ⟨cb, sh + o, none⟩) ∧ sh + o + cap * e ≤ z ∧ 0 < e

def SR (ρ : Rho) : S → Value → Prop
  | .un, v => v.oneCell' = true
  | .b x, v => v = .bool x
  | .i n, v => v = .int .i64 n
  | .j k n, v => v = .int k n
  | .s l, v => ∃ bs : ByteArray, v = .string bs ∧ bs.data.toList.map UInt8.toNat = l
  | .p0, v => v = .pointer none
  | .p x o, v => PR ρ x o v
  | .l0, v => v = .slice none 0 0
  | .l x o n e full, v => LS ρ x o n e full v
  | .f g cs, v => ∃ arr : Array Value, v = .func (.func g) #[] arr ∧ LR (fun (c : Nat × Nat) v => PR ρ c.1 c.2 v) cs arr.toList
  | .f0, v => v = .nilFunc

def VR0 (ρ : Rho) : V → Value → Prop
  | .o, _ => True
  | .c s, v => SR ρ s v
  | .a l, v => ∃ arr : Array Value, v = .agg arr ∧ LR (SR ρ) l arr.toList
  | .t _, _ => False
def VR (ρ : Rho) : V → Value → Prop
  | .t l, v => ∃ arr : Array Value, v = .tuple arr ∧ LR (VR0 ρ) l arr.toList
  | .o, _ => True
  | .c s, v => SR ρ s v
  | .a l, v => ∃ arr : Array Value, v = .agg arr ∧ LR (SR ρ) l arr.toList

theorem PR.mono {ρ ρ' : Rho} (h : ρ.le ρ') {x o : Nat} {v : Value} : PR ρ x o v → PR ρ' x o v :=
  fun ⟨cb, sh, z, h1, h2⟩ => ⟨cb, sh, z, h _ _ h1, h2⟩
theorem SR.mono {ρ ρ' : Rho} (h : ρ.le ρ') {s : S} {v : Value} (hs : SR ρ s v) : SR ρ' s v := by
  cases s with
  | p x o => exact PR.mono h hs
  | l x o n e full => obtain ⟨cb, sh, z, a, cap, h1, hr⟩ := hs; exact ⟨cb, sh, z, a, cap, h _ _ h1, hr⟩
  | f g cs => obtain ⟨arr, h1, h2⟩ := hs; exact ⟨arr, h1, h2.mono fun _ _ => PR.mono h⟩
  | _ => exact hs
theorem VR0.mono {ρ ρ' : Rho} (h : ρ.le ρ') {s : V} {v : Value} (hs : VR0 ρ s v) : VR0 ρ' s v := by
  cases s with
  | o => trivial
  | c s => exact SR.mono h hs
  | a l => obtain ⟨arr, h1, h2⟩ := hs; exact ⟨arr, h1, h2.mono fun _ _ => SR.mono h⟩
  | t l => exact hs.elim
theorem VR.mono {ρ ρ' : Rho} (h : ρ.le ρ') {s : V} {v : Value} (hs : VR ρ s v) : VR ρ' s v := by
  cases s with
  | o => trivial
  | c s => exact SR.mono h hs
  | a l => obtain ⟨arr, h1, h2⟩ := hs; exact ⟨arr, h1, h2.mono fun _ _ => SR.mono h⟩
  | t l => obtain ⟨arr, h1, h2⟩ := hs; exact ⟨arr, h1, h2.mono fun _ _ => VR0.mono h⟩
theorem VR.of0 {ρ : Rho} {s : V} {v : Value} (h : VR0 ρ s v) : VR ρ s v := by cases s <;> first | exact h | exact h.elim
theorem SR.one {ρ : Rho} {s : S} {v : Value} (h : SR ρ s v) : v.oneCell' = true := by
  cases s with
  | un => exact h
  | p x o => obtain ⟨_, _, _, _, rfl⟩ := h; rfl
  | l x o n e full => obtain ⟨_, _, _, _, _, _, rfl, _⟩ := h; rfl
  | f g cs => obtain ⟨_, rfl, _⟩ := h; rfl
  | s l => obtain ⟨_, rfl, _⟩ := h; rfl
  | _ => have h' := h; simp only [SR] at h'; subst h'; rfl

/-- A value's cells: abstract and the model's. -/
theorem VR.cells {ρ : Rho} {v : V} {cv : Value} {l : List S} (h : VR ρ v cv) (hl : cellsOf v = some l) : LR (SR ρ) l cv.cells.toList := by
  cases v with
  | o => simp [cellsOf] at hl
  | c s =>
    simp only [cellsOf, Option.some.injEq] at hl
    subst hl
    have h1 := SR.one h
    have : cv.cells = #[cv] := by cases cv <;> first | rfl | simp [Value.oneCell'] at h1
    rw [this]
    exact ⟨h, trivial⟩
  | a l' =>
    simp only [cellsOf, Option.some.injEq] at hl
    subst hl
    obtain ⟨arr, rfl, h2⟩ := h
    exact h2
  | t l' => simp [cellsOf] at hl

structure Rel (ρ : Rho) (s : St) (w : World) : Prop where
  dom : ∀ x y, ρ x = some y → x < s.nb
  blk : ∀ x cb sh z, ρ x = some (cb, sh, z) → ∃ cs e, w.heap[cb]? = some (.cells cs e (0, 0)) ∧ cs.size = z
  con : ∀ x cb sh z b, ρ x = some (cb, sh, z) → s.h.get x = some b → sh + b.c.length ≤ z ∧ ∀ i sv, b.c[i]? = some sv → ∃ cv, w.cell? ⟨cb, sh + i, none⟩ = some cv ∧ SR ρ sv cv
  inj : ∀ x y cb sh sh' z z' bx b', x ≠ y → ρ x = some (cb, sh, z) → ρ y = some (cb, sh', z') → s.h.get x = some bx → s.h.get y = some b' → bx.fam = b'.fam ∧ bx.fam ≠ 0 ∧ sh + b'.d = sh' + bx.d
  fam : ∀ x b f, s.h.get x = some b → b.fam = f + 1 → ∃ ms, s.fm.get f = some ms ∧ (x, b.d, b.c.length) ∈ ms
  nfl : ∀ x b, s.h.get x = some b → b.fam ≤ s.nf
  lt : ∀ x b, s.h.get x = some b → x < s.nb

/-- What a step leaves: blocks that were there and that no abstract block means are as they were; what is meant anew is new or was meant before. -/
structure Go (s : St) (ρ : Rho) (w : World) (s' : St) (ρ' : Rho) (w' : World) : Prop where
  le : ρ.le ρ'
  os : w'.os = w.os
  tape : w'.tape = w.tape
  output : w'.output = w.output
  size : w.heap.size ≤ w'.heap.size
  block : ∀ c, c < w.heap.size → (∀ x sh z, ρ x ≠ some (c, sh, z)) → w'.heap[c]? = w.heap[c]?
  new : ∀ x cb sh z, ρ' x = some (cb, sh, z) → (∃ x0 sh0 z0, ρ x0 = some (cb, sh0, z0)) ∨ w.heap.size ≤ cb
  nbs : s.nb ≤ s'.nb
  fresh : ∀ x y, ρ' x = some y → ρ x = some y ∨ s.nb ≤ x

theorem Go.refl (s : St) (ρ : Rho) (w : World) : Go s ρ w s ρ w := ⟨Rho.le_refl _, rfl, rfl, rfl, Nat.le_refl _, fun _ _ _ => rfl, fun x cb sh z h => .inl ⟨x, sh, z, h⟩, Nat.le_refl _, fun _ _ h => .inl h⟩
theorem Go.trans {s₁ s₂ s₃ : St} {ρ₁ ρ₂ ρ₃ : Rho} {w₁ w₂ w₃ : World} (h : Go s₁ ρ₁ w₁ s₂ ρ₂ w₂) (k : Go s₂ ρ₂ w₂ s₃ ρ₃ w₃) : Go s₁ ρ₁ w₁ s₃ ρ₃ w₃ :=
  ⟨Rho.le_trans h.le k.le, k.os.trans h.os, k.tape.trans h.tape, k.output.trans h.output, Nat.le_trans h.size k.size,
   fun c hc hn => (k.block c (Nat.lt_of_lt_of_le hc h.size) (fun x sh z e => by
      rcases h.new x c sh z e with ⟨x0, sh0, z0, e0⟩ | h'
      · exact hn _ _ _ e0
      · omega)).trans (h.block c hc hn),
   fun x cb sh z e => by
      rcases k.new x cb sh z e with ⟨x0, sh0, z0, e0⟩ | h'
      · exact h.new _ _ _ _ e0
      · exact .inr (Nat.le_trans h.size h'),
   Nat.le_trans h.nbs k.nbs,
   fun x y e => by
      rcases k.fresh x y e with e' | e'
      · exact h.fresh x y e'
      · exact .inr (Nat.le_trans h.nbs e')⟩
/-- Only the number of blocks counts of the states. -/
theorem Go.states {s₁ s₂ t₁ t₂ : St} {ρ ρ' : Rho} {w w' : World} (h : Go s₁ ρ w s₂ ρ' w') (h1 : t₁.nb = s₁.nb) (h2 : t₂.nb = s₂.nb) : Go t₁ ρ w t₂ ρ' w' :=
  ⟨h.le, h.os, h.tape, h.output, h.size, h.block, h.new, by rw [h1, h2]; exact h.nbs, by rw [h1]; exact h.fresh⟩

/-- Less memory known. -/
theorem Rel.drop {ρ : Rho} {s s' : St} {w : World} (h : Rel ρ s w) (hb : s'.nb = s.nb) (hn : s'.nf = s.nf) (hh : ∀ x b, s'.h.get x = some b → s.h.get x = some b)
    (hf : ∀ x b f, s'.h.get x = some b → b.fam = f + 1 → ∃ ms, s'.fm.get f = some ms ∧ (x, b.d, b.c.length) ∈ ms) : Rel ρ s' w :=
  ⟨fun x y e => hb ▸ h.dom x y e, h.blk, fun x cb sh z b e e' => h.con x cb sh z b e (hh _ _ e'),
   fun x y cb sh sh' z z' bx b' hne e1 e2 e3 e4 => h.inj x y cb sh sh' z z' bx b' hne e1 e2 (hh _ _ e3) (hh _ _ e4), hf,
   fun x b e => hn ▸ h.nfl x b (hh _ _ e), fun x b e => hb ▸ h.lt x b (hh _ _ e)⟩

/-- A draw turns nothing. -/
theorem Rel.drew {ρ : Rho} {s : St} {w : World} (h : Rel ρ s w) : Rel ρ s w.drew := ⟨h.dom, h.blk, h.con, h.inj, h.fam, h.nfl, h.lt⟩
theorem Go.drew {s s' : St} {ρ ρ' : Rho} {w w' : World} (h : Go s ρ w s' ρ' w') : Go s ρ w s' ρ' w'.drew := ⟨h.le, h.os, h.tape, h.output, h.size, h.block, h.new, h.nbs, h.fresh⟩

/-! Loads. -/
theorem Rel.cellsAt {ρ : Rho} {s : St} {w : World} (h : Rel ρ s w) {x o n : Nat} {l : List S} (hl : cellsAt s x o n = some l) {cb sh z : Nat} (hx : ρ x = some (cb, sh, z)) :
    l.length = n ∧ sh + o + n ≤ z ∧ ∀ i sv, l[i]? = some sv → ∃ cv, w.cell? ⟨cb, sh + o + i, none⟩ = some cv ∧ SR ρ sv cv := by
  unfold Ev.cellsAt at hl
  cases hb : s.h.get x with
  | none => simp [hb] at hl
  | some b =>
    simp only [hb, ltake_eq, ldrop_eq, llen_eq] at hl
    obtain ⟨hle, hl⟩ := cond_some hl
    · have hle' : o + n ≤ b.c.length := Nat.le_of_ble_eq_true hle
      simp only [Option.some.injEq] at hl
      obtain ⟨h1, h2⟩ := h.con x cb sh z b hx hb
      subst hl
      refine ⟨by simp; omega, by omega, fun i sv hi => ?_⟩
      have hi' : b.c[o + i]? = some sv := by
        rw [List.getElem?_take] at hi
        split at hi
        · simpa using hi
        · simp at hi
      have := h2 _ _ hi'
      simpa [Nat.add_assoc] using this
/-- The model's cells there. -/
theorem Rel.cells_there {ρ : Rho} {s : St} {w : World} (h : Rel ρ s w) {x o n : Nat} {l : List S} (hl : Ev.cellsAt s x o n = some l) {cb sh z : Nat} (hx : ρ x = some (cb, sh, z)) :
    ∃ cs : List Value, cs.length = n ∧ LR (SR ρ) l cs ∧ ∀ j v, cs[j]? = some v → w.cell? ((⟨cb, sh + o, none⟩ : Addr).add j) = some v := by
  obtain ⟨h1, _, h3⟩ := h.cellsAt hl hx
  have hadd : ∀ j, (⟨cb, sh + o, none⟩ : Addr).add j = ⟨cb, sh + o + j, none⟩ := fun j => by unfold Addr.add; split <;> simp_all
  refine ⟨(List.range n).map fun j => (w.cell? ⟨cb, sh + o + j, none⟩).getD undef, by simp, ?_, ?_⟩
  · refine LR.of_get (by simp [h1]) fun i a b ha hb => ?_
    obtain ⟨cv, hc, hs⟩ := h3 i a ha
    have hi : i < n := by have := (List.getElem?_eq_some_iff.1 ha).1; omega
    simp [hi, hc] at hb
    exact hb ▸ hs
  · intro j v hj
    have hj' : j < n := by have := (List.getElem?_eq_some_iff.1 hj).1; simpa using this
    rw [hadd]
    obtain ⟨cv, hc, _⟩ := h3 j (l[j]'(by omega)) (by simp)
    simp [hj', hc] at hj
    rw [hc, hj]
end Go.Ev
