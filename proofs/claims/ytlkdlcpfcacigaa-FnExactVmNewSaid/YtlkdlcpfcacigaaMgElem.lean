import Derived.Test.YtlkdlcpfcacigaaMgLib
import Derived.Maps.AppendAt
import Derived.Deep.AppendLies
import Derived.Test.YtlkdlcpfcacigaaRows
import Derived.Test.YtlkdlcpfcacigaaHeapTo
/- Slices of structs: what they read as, rows of them that the call owns. Nothing of the program is named here. -/
namespace Go.Proofs.Ytlkdlcpfcacigaa
open Go.RowKit
set_option linter.unusedVariables false

/-- The slice value v reads as the elements xs, each laid in size cells, in a block below B. -/
def RdE {α : Type} (enc : α → List Value) (size B : Nat) (w : World) (v : Value) (xs : List α) : Prop :=
  (xs = [] ∧ ∃ a cap, v = .slice a 0 cap) ∨
  ∃ b off cap, v = .slice (some ⟨b, off, none⟩) xs.length cap ∧ b < B ∧ b < w.heap.size ∧ (xs.length ≤ maxLen ∧ xs.length ≤ cap) ∧
    ∀ (j : Nat) (x : α), xs[j]? = some x → ∀ t, t < size → w.cell? ⟨b, off + j * size + t, none⟩ = (enc x)[t]?

section
variable {α : Type} {enc : α → List Value} {size B B' : Nat} {w w' : World} {v : Value} {xs : List α}
theorem RdE.below (h : RdE enc size B w v xs) (hb : Below B' w w') (hB : B ≤ B') : RdE enc size B w' v xs := by
  rcases h with h | ⟨b, off, cap, h1, h2, h3, h4, h5⟩
  · exact .inl h
  · exact .inr ⟨b, off, cap, h1, h2, Nat.lt_of_lt_of_le h3 hb.size, h4, fun j x hj t ht => (hb.cell (p := ⟨b, _, none⟩) (by show b < B'; omega)).trans (h5 j x hj t ht)⟩
theorem RdE.below' (h : RdE enc size B w v xs) (hb : Below w.heap.size w w') : RdE enc size w.heap.size w' v xs := by
  rcases h with h | ⟨b, off, cap, h1, h2, h3, h4, h5⟩
  · exact .inl h
  · exact .inr ⟨b, off, cap, h1, h3, Nat.lt_of_lt_of_le h3 hb.size, h4, fun j x hj t ht => (hb.cell (p := ⟨b, _, none⟩) h3).trans (h5 j x hj t ht)⟩
theorem RdE.form (h : RdE enc size B w v xs) : ∃ a cap, v = .slice a xs.length cap := by
  rcases h with ⟨rfl, a, cap, rfl⟩ | ⟨b, off, cap, rfl, _⟩
  · exact ⟨_, _, rfl⟩
  · exact ⟨_, _, rfl⟩
theorem RdE.len (h : RdE enc size B w v xs) : xs.length ≤ maxLen := by
  rcases h with ⟨rfl, _⟩ | ⟨b, off, cap, _, _, _, h, _⟩
  · simp
  · exact h.1
theorem RdE.at_ (h : RdE enc size B w v xs) {k : Nat} (hk : k < xs.length) : ∃ b off cap, v = .slice (some ⟨b, off, none⟩) xs.length cap ∧ b < B ∧ b < w.heap.size ∧ xs.length ≤ cap ∧ ∀ t, t < size → w.cell? ⟨b, off + k * size + t, none⟩ = (enc xs[k])[t]? := by
  rcases h with ⟨rfl, _⟩ | ⟨b, off, cap, h1, h2, h3, h4, h5⟩
  · simp at hk
  · exact ⟨b, off, cap, h1, h2, h3, h4.2, fun t ht => h5 k _ (List.getElem?_eq_getElem hk) t ht⟩
end

/-- elements laid flat. -/
def flat {α : Type} (enc : α → List Value) (xs : List α) : List Value := xs.flatMap enc
theorem flat_len {α : Type} {enc : α → List Value} {size : Nat} (hs : ∀ x, (enc x).length = size) (xs : List α) : (flat enc xs).length = xs.length * size := by
  induction xs with
  | nil => simp [flat]
  | cons x xs ih =>
    unfold flat at ih ⊢
    rw [List.flatMap_cons, List.length_append, hs, ih, List.length_cons, Nat.add_mul, Nat.one_mul, Nat.add_comm]
theorem flat_at {α : Type} {enc : α → List Value} {size : Nat} (hs : ∀ x, (enc x).length = size) : ∀ (xs : List α) (j : Nat) (x : α), xs[j]? = some x → ∀ t, t < size → (flat enc xs)[j * size + t]? = (enc x)[t]? := by
  intro xs
  induction xs with
  | nil => intro j x h; simp at h
  | cons y xs ih =>
    intro j x hj t ht
    unfold flat at ih ⊢
    rw [List.flatMap_cons]
    cases j with
    | zero =>
      simp only [List.getElem?_cons_zero, Option.some.injEq] at hj
      subst hj
      rw [Nat.zero_mul, Nat.zero_add, List.getElem?_append_left (by rw [hs]; exact ht)]
    | succ j =>
      rw [List.getElem?_append_right (by rw [hs, Nat.add_mul]; omega), hs, show (j + 1) * size + t - size = j * size + t by rw [Nat.add_mul]; omega]
      exact ih j x (by simpa using hj) t ht
theorem flat_snoc {α : Type} {enc : α → List Value} (xs : List α) (x : α) : flat enc (xs ++ [x]) = flat enc xs ++ enc x := by simp [flat]

theorem own_cellN {base : Nat} {e : TypeId} {size : Nat} {w : World} {g cap n : Nat} {xs : List Value} (h : w.ownsRow base e size (.slice (some ⟨g, 0, none⟩) n cap) n xs) (j : Nat) (hj : j < n * size) : w.cell? ⟨g, j, none⟩ = xs[j]? := by
  obtain ⟨h1, h2⟩ := h
  rcases h2 with ⟨hh, _⟩ | ⟨g', cap', cur, hv, hb, hg, hn, hm, hc, ht⟩
  · cases hh
  · cases hv
    rw [cell_of_row w g j cur e (0, 0) hg, ← ht, List.getElem?_take, if_pos hj, Array.getElem?_toList]
theorem own_setN {base : Nat} {e : TypeId} {size : Nat} {w : World} {g cap n : Nat} {xs : List Value} (h : w.ownsRow base e size (.slice (some ⟨g, 0, none⟩) n cap) n xs) (j : Nat) (hj : j < n * size) (u : Value) :
    (w.setCell ⟨g, j, none⟩ u).ownsRow base e size (.slice (some ⟨g, 0, none⟩) n cap) n (xs.set j u) := by
  obtain ⟨h1, h2⟩ := h
  refine ⟨by simpa using h1, ?_⟩
  rcases h2 with ⟨hh, _⟩ | ⟨g', cap', cur, hv, hb, hg, hn, hm, hc, ht⟩
  · cases hh
  · cases hv
    refine .inr ⟨g, cap, cur.setIfInBounds j u, rfl, hb, ?_, hn, hm, by simpa using hc, ?_⟩
    · have hlt := (Array.getElem?_eq_some_iff.1 hg).1
      simp only [World.setCell, Array.getElem?_modify, hg, if_pos]
      simp
    · rw [Array.toList_setIfInBounds, List.take_set, ht]
theorem RdE.of_own {α : Type} {enc : α → List Value} {size base : Nat} {e : TypeId} {w : World} {v : Value} {xs : List α} (hs : ∀ x, (enc x).length = size) (h : w.ownsRow base e size v xs.length (flat enc xs)) : RdE enc size w.heap.size w v xs := by
  obtain ⟨h1, h2⟩ := h
  rcases h2 with ⟨rfl, h0⟩ | ⟨g, cap, cur, rfl, hb, hg, hn, hm, hc, ht⟩
  · exact .inl ⟨List.eq_nil_of_length_eq_zero h0, none, 0, rfl⟩
  · have hlt : g < w.heap.size := (Array.getElem?_eq_some_iff.1 hg).1
    refine .inr ⟨g, 0, cap, rfl, hlt, hlt, ⟨by omega, hn⟩, fun j x hj t htt => ?_⟩
    have hjl : j < xs.length := (List.getElem?_eq_some_iff.1 hj).1
    have hlt2 : j * size + t < xs.length * size := by
      have : (j + 1) * size ≤ xs.length * size := Nat.mul_le_mul_right _ hjl
      rw [Nat.add_mul] at this
      omega
    rw [Nat.zero_add, cell_of_row w g _ cur e (0, 0) hg, ← flat_at hs xs j x hj t htt, ← ht, List.getElem?_take, if_pos hlt2, Array.getElem?_toList]

/-- A row of elements of which the first k are xs's, the others as they were. -/
def rowE {α : Type} (enc : α → List Value) (size : Nat) (xs : List α) (ys : List Value) (k : Nat) : List Value := flat enc (xs.take k) ++ ys.drop (k * size)
theorem rowE_zero {α : Type} {enc : α → List Value} {size : Nat} {xs : List α} {ys : List Value} : rowE enc size xs ys 0 = ys := by simp [rowE, flat]
theorem rowE_all {α : Type} {enc : α → List Value} {size : Nat} {xs : List α} {ys : List Value} (h : ys.length = xs.length * size) : rowE enc size xs ys xs.length = flat enc xs := by
  unfold rowE
  rw [List.take_of_length_le (Nat.le_refl _), List.drop_eq_nil_of_le (by omega), List.append_nil]
theorem rowE_len {α : Type} {enc : α → List Value} {size : Nat} (hs : ∀ x, (enc x).length = size) {xs : List α} {ys : List Value} (h : ys.length = xs.length * size) {k : Nat} (hk : k ≤ xs.length) : (rowE enc size xs ys k).length = xs.length * size := by
  unfold rowE
  have h1 : k * size ≤ xs.length * size := Nat.mul_le_mul_right _ hk
  rw [List.length_append, flat_len hs, List.length_take, Nat.min_eq_left hk, List.length_drop, h]
  omega
/-- three stores make the next element. -/
theorem rowE_set3 {α : Type} {enc : α → List Value} {xs : List α} {ys : List Value} (hs : ∀ x, (enc x).length = 3) (h : ys.length = xs.length * 3) {k : Nat} {x : α} (hk : xs[k]? = some x) {a b c : Value} (he : enc x = [a, b, c]) :
    (((rowE enc 3 xs ys k).set (k * 3) a).set (k * 3 + 1) b).set (k * 3 + 2) c = rowE enc 3 xs ys (k + 1) := by
  obtain ⟨hl, hx⟩ := List.getElem?_eq_some_iff.1 hk
  unfold rowE
  have hf : (flat enc (xs.take k)).length = k * 3 := by rw [flat_len hs, List.length_take, Nat.min_eq_left (by omega)]
  have hd : ys.drop (k * 3) = ys[k * 3]'(by omega) :: ys[k * 3 + 1]'(by omega) :: ys[k * 3 + 2]'(by omega) :: ys.drop (k * 3 + 3) := by
    rw [List.drop_eq_getElem_cons (by omega), List.drop_eq_getElem_cons (by omega), List.drop_eq_getElem_cons (by omega)]
  rw [hd, List.set_append_right _ _ (by omega), List.set_append_right _ _ (by omega), List.set_append_right _ _ (by omega), hf, Nat.sub_self, show k * 3 + 1 - k * 3 = 1 by omega, show k * 3 + 2 - k * 3 = 2 by omega]
  rw [← List.take_append_getElem hl, flat_snoc, hx, he, List.append_assoc, show (k + 1) * 3 = k * 3 + 3 by omega]
  rfl

end Go.Proofs.Ytlkdlcpfcacigaa

/- A function's places: what a slice of them reads as; toOpS, eqOpS, szOpS. -/
namespace Go.Proofs.Ytlkdlcpfcacigaa
open Go.RowKit
set_option linter.unusedVariables false

structure O3 where
  c : Int
  n : Int
  m : Int
deriving DecidableEq
def O3.enc (o : O3) : List Value := [.int .i64 o.c, .int .i64 o.n, .int .i64 o.m]
theorem O3.enc_len (o : O3) : o.enc.length = 3 := rfl
def O3.val (o : O3) : Value := .agg #[.int .i64 o.c, .int .i64 o.n, .int .i64 o.m]
def o3In (o : O3) : Prop := (-9223372036854775808 ≤ o.c ∧ o.c ≤ 9223372036854775807) ∧ (-9223372036854775808 ≤ o.n ∧ o.n ≤ 9223372036854775807) ∧ (-9223372036854775808 ≤ o.m ∧ o.m ≤ 9223372036854775807)
abbrev RdO (B : Nat) (w : World) (v : Value) (os : List O3) : Prop := RdE O3.enc 3 B w v os
/-- the three cells of a place. -/
theorem RdO.at_ {B : Nat} {w : World} {v : Value} {os : List O3} (h : RdO B w v os) {k : Nat} (hk : k < os.length) : ∃ b off cap, v = .slice (some ⟨b, off, none⟩) os.length cap ∧ b < B ∧ b < w.heap.size ∧ os.length ≤ cap ∧
    w.cell? ⟨b, off + k * 3, none⟩ = some (.int .i64 os[k].c) ∧ w.cell? ⟨b, off + k * 3 + 1, none⟩ = some (.int .i64 os[k].n) ∧ w.cell? ⟨b, off + k * 3 + 2, none⟩ = some (.int .i64 os[k].m) := by
  obtain ⟨b, off, cap, h1, h2, h3, h4, h5⟩ := RdE.at_ h hk
  exact ⟨b, off, cap, h1, h2, h3, h4, h5 0 (by decide), h5 1 (by decide), h5 2 (by decide)⟩

set_option maxHeartbeats 800000 in
set_option maxRecDepth 100000 in
theorem toOp_any (c n m : Int) (w : World) :
    Calls Try.prog 60 #[.agg #[.int .i64 c, .int .i64 n, .int .i64 m]] w fun e w' => e = .returned (.agg #[.int .i64 c, .int .i64 n, .int .i64 m]) ∧ Below w.heap.size w w' := by
  go_enter Try.func60, Try.ntmps60
  go_wp2
  refine bodyPost_ret (v := .agg #[.int .i64 c, .int .i64 n, .int .i64 m]) ?_ rfl ⟨rfl, ?_⟩
  · simp [results, Try.results60, go_sem]
  · repeat (with_reducible refine Below.setCell ?_ (by dsimp only; omega) _)
    exact (((Below.refl _ _).alloc (Nat.le_refl _) _).alloc (by simp) _).alloc (by simp; omega) _

set_option maxHeartbeats 400000 in
theorem szOpS_any {B : Nat} (v : Value) (os : List O3) (left : Int) (w : World) (hr : RdO B w v os) (h0 : -1 ≤ left) (h1 : left ≤ 4611686018427387904) :
    Calls Try.prog 35 #[v, .int .i64 left] w fun e w' => e = .returned (.int .i64 (szOf os.length left)) ∧ w = w' := by
  have hx := hr.len
  unfold maxLen at hx
  obtain ⟨a, cap, rfl⟩ := hr.form
  clear hr
  by_cases hneg : left - os.length < 0
  · have HF := Lib.hid (show szOf os.length left = -1 from if_pos hneg)
    go_enter Try.func35, Try.ntmps35
    go_wp2
    go_ret
    exact ⟨ret_int HF.out.symm, rfl⟩
  · have HF := Lib.hid (show szOf os.length left = left - os.length from if_neg hneg)
    go_enter Try.func35, Try.ntmps35
    go_wp2
    go_ret
    exact ⟨ret_int HF.out.symm, rfl⟩

theorem Try.infoOp : (Try.prog.info? 74).map (fun i => (i.zero, i.size, i.bytes)) = some (some (.agg #[.int .i64 0, .int .i64 0, .int .i64 0]), 3, 24) := by kernel_rfl

end Go.Proofs.Ytlkdlcpfcacigaa
