import Derived.Test.YtlkdlcpfcacigaaMgBlockAt
import Derived.Laws.CopyOwn
import Derived.Test.YtlkdlcpfcacigaaHeapTo
import Derived.Test.YtlkdlcpfcacigaaClone
import Derived.StillTailTactics
/- A block put behind all, in plain Lean; a run of numbers laid over others. Nothing of the program is named here. -/
namespace Go.Proofs.Ytlkdlcpfcacigaa
open Go.RowKit
set_option linter.unusedVariables false

/-- a header's word. -/
def hdOf (f : Bool) (tag : Int) (m : Nat) : Int := 2 * (2 * (64 * tag + m) + (if f then 1 else 0)) + 1
theorem hdOf_in (f : Bool) (tag : Int) (m : Nat) (h0 : 0 ≤ tag) (h1 : tag ≤ 3000) (h2 : m ≤ 20) : 0 ≤ hdOf f tag m ∧ hdOf f tag m ≤ 1000000 := by unfold hdOf; split <;> omega
/-- the numbers ks laid over ws from p on. -/
def ov (ws : List Int) (p : Nat) (ks : List Int) : List Int := ws.take p ++ (ks ++ ws.drop (p + ks.length))
theorem ov_len {ws : List Int} {p : Nat} {ks : List Int} (h : p + ks.length ≤ ws.length) : (ov ws p ks).length = ws.length := by simp [ov]; omega
theorem ov_one {ws : List Int} {p : Nat} (x : Int) (h : p < ws.length) : ws.set p x = ov ws p [x] := by
  unfold ov
  rw [List.set_eq_take_append_cons_drop, if_pos h]
  rfl
theorem ov_cons (ws : List Int) (p : Nat) (x : Int) (ks : List Int) (h : p < ws.length) : ov ws p (x :: ks) = splice (ov ws p [x]) (p + 1) ks := by
  have hl : (ws.take p ++ [x]).length = p + 1 := by simp; omega
  have e : ov ws p [x] = (ws.take p ++ [x]) ++ ws.drop (p + 1) := by unfold ov; rw [List.append_assoc]; rfl
  have t1 : (ov ws p [x]).take (p + 1) = ws.take p ++ [x] := by rw [e]; exact List.take_left' hl
  have t2 : (ov ws p [x]).drop (p + 1 + ks.length) = ws.drop (p + 1 + ks.length) := by
    rw [e, List.drop_append, hl, List.drop_eq_nil_of_le (by omega), List.nil_append, List.drop_drop]
    congr 1
    omega
  unfold splice
  rw [t1, t2]
  unfold ov
  rw [List.append_assoc, List.length_cons, show p + (ks.length + 1) = p + 1 + ks.length from by omega]
  rfl
theorem ov_next {ws : List Int} {p i : Nat} {ks : List Int} (hi : i < ks.length) (h : p + ks.length ≤ ws.length) : (ov ws p (ks.take i)).set (p + i) (ks.getD i 0) = ov ws p (ks.take (i + 1)) := by
  have h1 : (ks.take i).length = i := by simp; omega
  have h3 : (ws.take p).length = p := by simp; omega
  have h4 : ks.getD i 0 = ks[i] := by rw [List.getD_eq_getElem?_getD, List.getElem?_eq_getElem hi]; rfl
  have e : ks.take (i + 1) = ks.take i ++ [ks[i]] := (List.take_append_getElem hi).symm
  rw [h4, e]
  unfold ov
  rw [List.length_append, h1, List.set_append_right _ _ (by omega), List.set_append_right _ _ (by omega), h1, h3, show p + i - p - i = 0 from by omega, List.drop_eq_getElem_cons (show p + i < ws.length by omega), List.set_cons_zero, List.append_assoc]
  rfl
theorem ov_all {ws : List Int} {p : Nat} {ks : List Int} {i : Nat} (hi : i = ks.length) : ov ws p (ks.take i) = ov ws p ks := by rw [hi, List.take_length]

theorem getD_mem_or {zs : List Int} (j : Nat) : zs.getD j 0 ∈ zs ∨ zs.getD j 0 = 0 := by
  by_cases h : j < zs.length
  · left
    rw [List.getD_eq_getElem?_getD, List.getElem?_eq_getElem h]
    exact List.getElem_mem h
  · right
    rw [List.getD_eq_getElem?_getD, List.getElem?_eq_none (by omega)]
    rfl
theorem intsOk_of {zs : List Int} (h : ∀ x ∈ zs, -9223372036854775808 ≤ x ∧ x ≤ 9223372036854775807) : intsOk zs := by
  intro j
  rcases getD_mem_or (zs := zs) j with h' | h'
  · exact h _ h'
  · rw [h']; omega
theorem intsOk_mem {zs : List Int} (h : intsOk zs) : ∀ x ∈ zs, -9223372036854775808 ≤ x ∧ x ≤ 9223372036854775807 := by
  intro x hx
  obtain ⟨i, hi, rfl⟩ := List.mem_iff_getElem.1 hx
  have := h i
  rwa [List.getD_eq_getElem?_getD, List.getElem?_eq_getElem hi] at this
theorem ov_ok {ws : List Int} {p : Nat} {ks : List Int} (h1 : intsOk ws) (h2 : intsOk ks) : intsOk (ov ws p ks) := by
  refine intsOk_of fun x hx => ?_
  unfold ov at hx
  rcases List.mem_append.1 hx with h | h
  · exact intsOk_mem h1 x (List.mem_of_mem_take h)
  rcases List.mem_append.1 h with h | h
  · exact intsOk_mem h2 x h
  · exact intsOk_mem h1 x (List.mem_of_mem_drop h)

/-- what Alloc tells: the words, the next place, the block's place, whether. -/
structure Put where
  ws : List Int
  next : Int
  at_ : Int
  ok : Bool
def allocOf (ws : List Int) (h b n : Int) (f : Bool) (tag : Int) (ks : List Int) : Put :=
  if heapOk ws h b n && (inB tag 0 3000 && (decide (ks.length ≤ 20) && (decide (n + (1 + ks.length) ≤ b + h) && heapOk (ov ws n.toNat (hdOf f tag ks.length :: ks)) h b (n + (1 + ks.length))))) then
    ⟨ov ws n.toNat (hdOf f tag ks.length :: ks), n + (1 + ks.length), n, true⟩ else ⟨ws, n, 0, false⟩
theorem alloc_not {ws : List Int} {h b n : Int} {f : Bool} {tag : Int} {ks : List Int} (hn : ¬ (heapOk ws h b n = true ∧ inB tag 0 3000 = true ∧ ks.length ≤ 20 ∧ n + (1 + ks.length) ≤ b + h)) : allocOf ws h b n f tag ks = ⟨ws, n, 0, false⟩ := by
  unfold allocOf
  rw [if_neg]
  simp only [Bool.and_eq_true, decide_eq_true_eq]
  rintro ⟨a, b, c, d, e⟩
  exact hn ⟨a, b, c, d⟩
theorem alloc_if {ws : List Int} {h b : Int} {n : Nat} {f : Bool} {tag : Int} {ks : List Int} (h1 : heapOk ws h b n = true) (h2 : inB tag 0 3000 = true) (h3 : ks.length ≤ 20) (h4 : (n : Int) + (1 + ks.length) ≤ b + h) :
    allocOf ws h b n f tag ks = if heapOk (ov ws n (hdOf f tag ks.length :: ks)) h b (n + (1 + ks.length)) then ⟨ov ws n (hdOf f tag ks.length :: ks), n + (1 + ks.length), n, true⟩ else ⟨ws, n, 0, false⟩ := by
  unfold allocOf
  rw [h1, h2, decide_eq_true h3, decide_eq_true h4]
  simp

theorem splice_map {α β : Type} (f : α → β) (xs : List α) (off : Nat) (cs : List α) : splice (xs.map f) off (cs.map f) = (splice xs off cs).map f := by simp [splice, List.map_take, List.map_drop]
/-- a run laid over a row that is owned. -/
theorem own_splice {base : Nat} {e : TypeId} {w w' : World} {g cap n : Nat} {xs : List Value} (h : w.ownsRow base e 1 (.slice (some ⟨g, 0, none⟩) n cap) n xs) (cur : List Value) (hc : w.heap[g]? = some (.cells cur.toArray e (0, 0))) (off : Nat) (cs : List Value) (hw : w'.heap[g]? = some (.cells (splice cur off cs).toArray e (0, 0))) (hfit : off + cs.length ≤ n) :
    w'.ownsRow base e 1 (.slice (some ⟨g, 0, none⟩) n cap) n (splice xs off cs) := by
  obtain ⟨h1, h2⟩ := h
  rcases h2 with ⟨hh, _⟩ | ⟨g', cap', cur', hv, hb, hg, hn, hm, hsz, ht⟩
  · cases hh
  · cases hv
    rw [hc] at hg
    cases hg
    have hcl : cur.length = cap := by simpa using hsz
    simp only [Nat.mul_one] at h1 ht
    subst ht
    refine ⟨by rw [length_splice _ _ _ (by rw [h1]; omega)]; omega, .inr ⟨g, cap, _, rfl, hb, hw, hn, hm, by rw [List.size_toArray, length_splice _ _ _ (by omega)]; simpa using hsz, ?_⟩⟩
    simp only [Nat.mul_one, splice]
    rw [List.take_append, List.take_append]
    simp only [List.length_take, List.take_take, List.drop_take]
    rw [Nat.min_comm n off, show min off cur.length = off from by omega, List.take_of_length_le (l := cs) (by omega), show n - off - cs.length = n - (off + cs.length) from by omega]
theorem own_cells {base : Nat} {e : TypeId} {w : World} {g cap n : Nat} {xs : List Value} (h : w.ownsRow base e 1 (.slice (some ⟨g, 0, none⟩) n cap) n xs) : ∃ cur : List Value, w.heap[g]? = some (.cells cur.toArray e (0, 0)) ∧ n ≤ cur.length ∧ base ≤ g ∧ n ≤ cap := by
  rcases h.2 with ⟨hh, _⟩ | ⟨g', cap', cur', hv, hb, hg, hn, hm, hsz, ht⟩
  · cases hh
  · cases hv
    exact ⟨cur'.toList, by simpa using hg, by simp; omega, hb, hn⟩

end Go.Proofs.Ytlkdlcpfcacigaa

/- The header's word; a heap's copy. -/
namespace Go.Proofs.Ytlkdlcpfcacigaa
open Go.RowKit
set_option linter.unusedVariables false

theorem alloc_box2 {w x : World} {A B : Array Value} {e f : TypeId} (h : (w.alloc (.cells A e)).alloc (.cells B f) = x) :
    Below w.heap.size w x ∧ Bx x w.heap.size A ∧ Bx x (w.heap.size + 1) B ∧ x.heap.size = w.heap.size + 2 := by
  obtain ⟨b1, k1⟩ := Bx.alloc (w := w) (cur := A) (e := e) rfl
  obtain ⟨b2, k2⟩ := Bx.alloc (w := w.alloc (.cells A e)) (cur := B) (e := f) rfl
  have s1 : (w.alloc (.cells A e)).heap.size = w.heap.size + 1 := by simp
  rw [s1] at k2 b2
  subst h
  exact ⟨b1.trans (b2.mono (by omega)), k1.below b2 (by omega), k2, by simp⟩

end Go.Proofs.Ytlkdlcpfcacigaa

/- A block put behind all, in a heap of one's own. -/
namespace Go.Proofs.Ytlkdlcpfcacigaa
open Go.RowKit
set_option linter.unusedVariables false

theorem Bx.set {w : World} {g : Nat} {cur : Array Value} (h : Bx w g cur) (i : Nat) (hi : i < cur.size) (u : Value) : Bx (w.setCell ⟨g, i, none⟩ u) g (cur.setIfInBounds i u) := by
  refine ⟨by rw [World.size_setCell]; exact h.1, fun j => ?_, fun j => by rw [World.frozen?_setCell]; exact h.2.2 j⟩
  by_cases hj : i = j
  · subst hj
    rw [World.cell?_setCell_same _ _ _ ((h.2.1 i).trans (Array.getElem?_eq_getElem hi))]
    simp [hi]
  · rw [World.cell?_setCell_other _ _ _ _ (by intro he; injection he; exact hj (by assumption)), h.2.1 j, Array.getElem?_setIfInBounds_ne hj]
theorem grownBy.row {w w' : World} {g : Nat} (cs : Array Value) (h : w.setRow g cs = w') : w.grownBy w' (some g) := by
  subst h
  exact ⟨rfl, rfl, rfl, by simp, fun k _ hne => setRow_other w g k cs (by intro h; exact hne (by rw [h]))⟩

/-- all blocks but two are as they were. -/
def Kept2 (w w' : World) (g gr : Nat) : Prop := w.heap.size ≤ w'.heap.size ∧ ∀ i, i < w.heap.size → i ≠ g → i ≠ gr → w'.heap[i]? = w.heap[i]?
theorem Kept2.grown {a b c : World} {g gr : Nat} {row : Option Nat} (h : Kept2 a b g gr) (k : b.grownBy c row) (hr : row = some g ∨ row = some gr) : Kept2 a c g gr :=
  ⟨Nat.le_trans h.1 k.size, fun i hi h1 h2 => (k.block i (Nat.lt_of_lt_of_le hi h.1) (by rcases hr with e | e <;> (rw [e]; intro hh; have := Option.some.inj hh; omega))).trans (h.2 i hi h1 h2)⟩
theorem Kept2.drew (w : World) (g gr : Nat) : Kept2 w w.drew g gr := ⟨Nat.le_refl _, fun i _ _ _ => rfl⟩

end Go.Proofs.Ytlkdlcpfcacigaa
