/- A row of functions that the call owns and that grows; within which blocks it lies. -/
import Derived.Test.YtlkdlcpfcacigaaMgFunE
import Derived.Test.YtlkdlcpfcacigaaAppR
namespace Go.Proofs.Ytlkdlcpfcacigaa
open Go.RowKit
set_option linter.unusedVariables false
set_option linter.unusedSimpArgs false

/-- OwnF, all of it in blocks from base up to hi. -/
def OwnH (base hi : Nat) (w : World) (v : Value) (fs : List F2) : Prop := ∃ fl : List (Int × Value), (w.ownsRow base 52 2 v fs.length (flat encFV fl) ∧ fl.length = fs.length ∧
  (∀ j (h : j < fl.length) (h' : j < fs.length), fl[j].1 = fs[j].f ∧ w.ownsRow base 74 3 fl[j].2 fs[j].os.length (flat O3.enc fs[j].os)) ∧ (∀ x ∈ fl, Blk v x.2) ∧ fl.Pairwise (fun x y => Blk x.2 y.2)) ∧
  (∀ q, v.ownBlock = some q → q < hi) ∧ ∀ x ∈ fl, ∀ q, x.2.ownBlock = some q → q < hi
theorem OwnF.to_h {base : Nat} {w : World} {v : Value} {fs : List F2} (h : OwnF base w v fs) : OwnH base w.heap.size w v fs := by
  obtain ⟨fl, h1, h2, h3, h4⟩ := h
  refine ⟨fl, ⟨h1, h2, h3, h4⟩, own_lt h1, fun x hx q hq => ?_⟩
  obtain ⟨j, hj, rfl⟩ := List.mem_iff_getElem.1 hx
  exact own_lt (h3 j hj (by omega)).2 q hq
theorem OwnH.to_f {base hi : Nat} {w : World} {v : Value} {fs : List F2} (h : OwnH base hi w v fs) : OwnF base w v fs := by
  obtain ⟨fl, h1, _⟩ := h
  exact ⟨fl, h1⟩
theorem own_blocks {base hi : Nat} {e : TypeId} {sz n : Nat} {w w' : World} {v : Value} {xs : List Value} (h : w.ownsRow base e sz v n xs) (hv : ∀ q, v.ownBlock = some q → q < hi) (hs : ∀ k, base ≤ k → k < hi → w'.heap[k]? = w.heap[k]?) : w'.ownsRow base e sz v n xs := by
  refine ⟨h.1, ?_⟩
  rcases h.2 with hn | ⟨b, cap, cur, rfl, hbs, hg, rest⟩
  · exact .inl hn
  · exact .inr ⟨b, cap, cur, rfl, hbs, by rw [hs b hbs (hv b rfl)]; exact hg, rest⟩
/-- what lies from base up to hi stays as it was. -/
theorem OwnH.same {base hi : Nat} {w w' : World} {v : Value} {fs : List F2} (h : OwnH base hi w v fs) (hs : ∀ k, base ≤ k → k < hi → w'.heap[k]? = w.heap[k]?) : OwnH base hi w' v fs := by
  obtain ⟨fl, ⟨h1, h2, h3, h4⟩, h5, h6⟩ := h
  exact ⟨fl, ⟨own_blocks h1 h5 hs, h2, fun j a b => ⟨(h3 j a b).1, own_blocks (h3 j a b).2 (h6 _ (List.getElem_mem a)) hs⟩, h4⟩, h5, h6⟩
theorem OwnH.mono {base hi hi' : Nat} {w : World} {v : Value} {fs : List F2} (h : OwnH base hi w v fs) (hh : hi ≤ hi') : OwnH base hi' w v fs := by
  obtain ⟨fl, h1, h5, h6⟩ := h
  exact ⟨fl, h1, fun q hq => Nat.lt_of_lt_of_le (h5 q hq) hh, fun x hx q hq => Nat.lt_of_lt_of_le (h6 x hx q hq) hh⟩
theorem OwnH.row {base hi : Nat} {w : World} {v : Value} {fs : List F2} (h : OwnH base hi w v fs) : ∃ xs, w.ownsRow base 52 2 v fs.length xs ∧ ∀ q, v.ownBlock = some q → base ≤ q ∧ q < hi := by
  obtain ⟨fl, ⟨h1, _⟩, h5, _⟩ := h
  exact ⟨_, h1, fun q hq => ⟨(h1.lt q hq).1, h5 q hq⟩⟩
theorem OwnH.form {base hi : Nat} {w : World} {v : Value} {fs : List F2} (h : OwnH base hi w v fs) : ∃ a cap, v = .slice a fs.length cap := by
  obtain ⟨xs, h1, _⟩ := h.row
  exact own_form h1
theorem OwnH.nil {base hi : Nat} {w : World} {v : Value} (h : w.ownsRow base 52 2 v 0 []) (hv : ∀ q, v.ownBlock = some q → q < hi) : OwnH base hi w v [] :=
  ⟨[], ⟨h, rfl, fun j a => absurd a (by simp), fun x hx => by simp at hx, List.Pairwise.nil⟩, hv, fun x hx => by simp at hx⟩
theorem own_uniq {base : Nat} {e : TypeId} {sz n : Nat} {w : World} {v : Value} {xs ys : List Value} (h : w.ownsRow base e sz v n xs) (k : w.ownsRow base e sz v n ys) : xs = ys := by
  have hl := h.1
  have kl := k.1
  rcases h.2 with ⟨rfl, h0⟩ | ⟨g, cap, cur, hv, hb, hg, hn, hm, hc, ht⟩
  · subst h0
    rw [Nat.zero_mul] at hl kl
    rw [List.eq_nil_of_length_eq_zero hl, List.eq_nil_of_length_eq_zero kl]
  · rcases k.2 with ⟨kv, _⟩ | ⟨g', cap', cur', kv, kb, kg, kn, km, kc, kt⟩
    · rw [hv] at kv; cases kv
    · rw [hv] at kv
      cases kv
      rw [hg] at kg
      cases kg
      rw [← ht, ← kt]
/-- one more function, whose row lies behind. -/
theorem OwnH.snoc {base hi : Nat} {W W' : World} {v v' u : Value} {fs : List F2} {x : F2} (h : OwnH base hi W v fs) (ho : W.ownsRow base 74 3 u x.os.length (flat O3.enc x.os)) (hu : ∀ q, u.ownBlock = some q → hi ≤ q)
    (hhi : hi ≤ W.heap.size) (hg : W.grownBy W' v.ownBlock) (hr : ∀ xs, W.ownsRow base 52 2 v fs.length xs → W'.ownsRow base 52 2 v' (fs.length + 1) (xs ++ [.int .i64 x.f, u]))
    (hv' : v'.ownBlock = v.ownBlock ∨ v'.ownBlock = some (W.heap.size + 1)) : OwnH base W'.heap.size W' v' (fs ++ [x]) := by
  obtain ⟨fl, ⟨h1, h2, h3, h4, h5⟩, h6, h7⟩ := h
  have hoc := own_lt ho
  have hnew : W'.ownsRow base 52 2 v' (fs ++ [x]).length (flat encFV (fl ++ [(x.f, u)])) := by
    rw [flat_snoc, List.length_append]
    exact hr _ h1
  have hvu : Blk v u := fun p q hp hq => by have := h6 p hp; have := hu q hq; omega
  have hko : W'.ownsRow base 74 3 u x.os.length (flat O3.enc x.os) := ho.kept hg (by
    cases hq : u.ownBlock with
    | none => exact .inl rfl
    | some k => exact .inr (fun hh => hvu k k hh.symm hq rfl))
  have hke : ∀ j (h : j < fl.length) (h' : j < fs.length), W'.ownsRow base 74 3 fl[j].2 fs[j].os.length (flat O3.enc fs[j].os) := fun j a b => (h3 j a b).2.kept hg (by
    cases hq : fl[j].2.ownBlock with
    | none => exact .inl rfl
    | some k => exact .inr (fun hh => h4 _ (List.getElem_mem a) k k hh.symm hq rfl))
  have hsz := hg.size
  have hblk : ∀ y ∈ fl ++ [(x.f, u)], Blk v' y.2 ∧ ∀ q, y.2.ownBlock = some q → q < W.heap.size := by
    intro y hy
    have : Blk v y.2 ∧ ∀ q, y.2.ownBlock = some q → q < W.heap.size := by
      rcases List.mem_append.1 hy with hy | hy
      · exact ⟨h4 y hy, fun q hq => Nat.lt_of_lt_of_le (h7 y hy q hq) hhi⟩
      · rw [List.mem_singleton] at hy
        subst hy
        exact ⟨hvu, hoc⟩
    refine ⟨fun p q hp hq => ?_, this.2⟩
    rcases hv' with e | e
    · exact this.1 p q (e ▸ hp) hq
    · rw [e] at hp
      cases hp
      have := this.2 q hq
      omega
  refine ⟨fl ++ [(x.f, u)], ⟨hnew, by simp [h2], fun j a b => ?_, fun y hy => (hblk y hy).1, ?_⟩, own_lt hnew, fun y hy q hq => Nat.lt_of_lt_of_le ((hblk y hy).2 q hq) hsz⟩
  · by_cases hj : j < fl.length
    · have hj' : j < fs.length := by omega
      rw [List.getElem_append_left hj, List.getElem_append_left hj']
      exact ⟨(h3 j hj hj').1, hke j hj hj'⟩
    · have e1 : j = fl.length := by simp at a; omega
      subst e1
      rw [List.getElem_append_right (Nat.le_refl _), List.getElem_append_right (by omega)]
      simp only [h2, Nat.sub_self, List.getElem_cons_zero]
      exact ⟨trivial, hko⟩
  · rw [List.pairwise_append]
    refine ⟨h5, List.pairwise_singleton _ _, fun a ha b hb p q hp hq => ?_⟩
    rw [List.mem_singleton] at hb
    subst hb
    have := h7 a ha p hp
    have := hu q hq
    omega
theorem OwnH.grown {base hi : Nat} {w w' : World} {row : Option Nat} {v : Value} {fs : List F2} (h : OwnH base hi w v fs) (g : w.grownBy w' row) (hh : hi ≤ w.heap.size) (hr : ∀ r, row = some r → r < base ∨ hi ≤ r) : OwnH base hi w' v fs :=
  h.same (fun q h1 h2 => g.block q (by omega) (fun e => by have := hr q e.symm; omega))
theorem OwnH.below {base hi B : Nat} {w w' : World} {v : Value} {fs : List F2} (h : OwnH base hi w v fs) (b : Below B w w') (hh : hi ≤ B) : OwnH base hi w' v fs :=
  h.same (fun q h1 h2 => b.block q (by omega))
theorem Bx.put {w : World} {g : Nat} {cur : Array Value} (h : Bx w g cur) (i : Nat) (hi : i < cur.size) (u : Value) : Bx (w.setCell ⟨g, i, none⟩ u) g (cur.setIfInBounds i u) := by
  refine ⟨by rw [World.size_setCell]; exact h.1, fun j => ?_, fun j => by rw [World.frozen?_setCell]; exact h.2.2 j⟩
  by_cases hj : i = j
  · subst hj
    rw [World.cell?_setCell_same _ _ _ ((h.2.1 i).trans (Array.getElem?_eq_getElem hi))]
    simp [hi]
  · rw [World.cell?_setCell_other _ _ _ _ (by intro he; injection he; exact hj (by assumption)), h.2.1 j, Array.getElem?_setIfInBounds_ne hj]
theorem alloc_two {w x : World} {A B : Array Value} {e f : TypeId} (h : (w.alloc (.cells A e)).alloc (.cells B f) = x) :
    Below w.heap.size w x ∧ Bx x w.heap.size A ∧ Bx x (w.heap.size + 1) B ∧ x.heap.size = w.heap.size + 2 := by
  obtain ⟨b1, k1⟩ := Bx.alloc (w := w) (cur := A) (e := e) rfl
  obtain ⟨b2, k2⟩ := Bx.alloc (w := w.alloc (.cells A e)) (cur := B) (e := f) rfl
  have s1 : (w.alloc (.cells A e)).heap.size = w.heap.size + 1 := by simp
  rw [s1] at k2 b2
  subst h
  exact ⟨b1.trans (b2.mono (by omega)), k1.below b2 (by omega), k2, by simp⟩

end Go.Proofs.Ytlkdlcpfcacigaa
