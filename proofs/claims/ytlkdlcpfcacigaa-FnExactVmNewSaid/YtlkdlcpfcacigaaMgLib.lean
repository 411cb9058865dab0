import Derived.WalkKit
import Derived.WalkSpells
import Derived.WalkLawsBesides
import Derived.Lib.Hide
import Derived.Deep.QuietTactic
import Derived.BigQuiet
import Derived.Laws.AppendOwn
import Derived.Outline
import Derived.OpenShut
/- Plain lemmas on numbers that the walks use; nothing of the program is named here. -/
namespace Go.Proofs.Ytlkdlcpfcacigaa
open Go.RowKit
set_option linter.unusedVariables false

theorem i64_mask (k : Nat) (m n : Int) (hk : k ≤ 62) (hm : (BitVec.ofInt 64 m).toNat = 2 ^ k - 1) : bits .and .i64 n m = n % (2 ^ k : Nat) := by
  have key : (BitVec.ofInt 64 n &&& BitVec.ofInt 64 m).toNat = (n % ((2 ^ 64 : Nat) : Int)).toNat % 2 ^ k := by
    rw [BitVec.toNat_and, BitVec.toNat_ofInt, hm, Nat.and_two_pow_sub_one_eq_mod]
  show IntKind.i64.wrap ((BitVec.ofInt 64 n &&& BitVec.ofInt 64 m).toNat : Nat) = n % (2 ^ k : Nat)
  rw [key, IntKind.wrap_i64]
  have hd : ((2 ^ k : Nat) : Int) ∣ ((2 ^ 64 : Nat) : Int) := by
    exact Int.natCast_dvd_natCast.2 (Nat.pow_dvd_pow 2 (by omega))
  have h1 : 0 ≤ n % ((2 ^ 64 : Nat) : Int) := Int.emod_nonneg _ (by decide)
  have h2 : (((n % ((2 ^ 64 : Nat) : Int)).toNat % 2 ^ k : Nat) : Int) = n % (2 ^ k : Nat) := by
    rw [Int.natCast_emod, Int.toNat_of_nonneg h1, Int.emod_emod_of_dvd _ hd]
  have h4 : 2 ^ k ≤ 2 ^ 62 := Nat.pow_le_pow_right (by decide) hk
  have h3 : (n % ((2 ^ 64 : Nat) : Int)).toNat % 2 ^ k < 2 ^ k := Nat.mod_lt _ (Nat.pow_pos (by decide))
  rw [← h2]
  generalize (n % ((2 ^ 64 : Nat) : Int)).toNat % 2 ^ k = x at h3 ⊢
  have h5 : x < 2 ^ 62 := Nat.lt_of_lt_of_le h3 h4
  omega
theorem i64_and1 (n : Int) : bits .and .i64 n 1 = n % 2 := i64_mask 1 1 n (by decide) (by decide)
theorem i64_and63 (n : Int) : bits .and .i64 n 63 = n % 64 := i64_mask 6 63 n (by decide) (by decide)
theorem i64_and255 (n : Int) : bits .and .i64 n 255 = n % 256 := i64_mask 8 255 n (by decide) (by decide)
theorem i64_and30 (n : Int) : bits .and .i64 n 1073741823 = n % 1073741824 := i64_mask 30 1073741823 n (by decide) (by decide)
theorem i64_and31 (n : Int) : bits .and .i64 n 2147483647 = n % 2147483648 := i64_mask 31 2147483647 n (by decide) (by decide)
attribute [go_sem] i64_and1 i64_and63 i64_and255 i64_and30 i64_and31

theorem or_low (i : Nat) (hi : i ≤ 62) (x y : Int) (hx0 : 0 ≤ x) (hx1 : x < 4611686018427387904) (hm : x % ((2 ^ i : Nat) : Int) = 0) (h0 : 0 ≤ y) (h1 : y < ((2 ^ i : Nat) : Int)) : bits .or .i64 y x = y + x := by
  have hc : bits .or .i64 y x = bits .or .i64 x y := by simp only [bits, BitVec.or_comm]
  have h2 : ((2 ^ i : Nat) : Int) ≤ ((2 ^ 62 : Nat) : Int) := Int.ofNat_le.2 (Nat.pow_le_pow_right (by decide) hi)
  have h3 : y < ((2 ^ 62 : Nat) : Int) := Int.lt_of_lt_of_le h1 h2
  rw [hc, bits_join .i64 62 (by decide) (fun n a b => IntWalk.i64_in n ⟨by omega, by omega⟩) i x y hx0 (by simpa using hm) (by simpa using hx1) h0 (by simpa using h1) (by simpa using h3)]
  omega
theorem or_shift (k : Nat) (hk : k < 5) (n x : Int) (h0 : 0 ≤ n) (h1 : n < 128 ^ k) (x0 : 0 ≤ x) (x1 : x < 128) : bits .or .i64 n (wrap64 (x * 2 ^ (7 * k))) = n + x * 128 ^ k := by
  match k, hk with
  | 0, _ => simp only [Nat.mul_zero, Int.pow_zero, Int.mul_one] at h1 ⊢; rw [show wrap64 x = x from by unfold wrap64; omega]; exact or_low 0 (by decide) x n x0 (by omega) (by simp) h0 (by simpa using h1)
  | 1, _ => simp only [Nat.mul_one, Int.reducePow] at h1 ⊢; rw [show wrap64 (x * 128) = x * 128 from by unfold wrap64; omega]; exact or_low 7 (by decide) (x * 128) n (by omega) (by omega) (by simp) h0 (by simpa using h1)
  | 2, _ => simp only [Nat.reduceMul, Int.reducePow] at h1 ⊢; rw [show wrap64 (x * 16384) = x * 16384 from by unfold wrap64; omega]; exact or_low 14 (by decide) (x * 16384) n (by omega) (by omega) (by simp) h0 (by simpa using h1)
  | 3, _ => simp only [Nat.reduceMul, Int.reducePow] at h1 ⊢; rw [show wrap64 (x * 2097152) = x * 2097152 from by unfold wrap64; omega]; exact or_low 21 (by decide) (x * 2097152) n (by omega) (by omega) (by simp) h0 (by simpa using h1)
  | 4, _ => simp only [Nat.reduceMul, Int.reducePow] at h1 ⊢; rw [show wrap64 (x * 268435456) = x * 268435456 from by unfold wrap64; omega]; exact or_low 28 (by decide) (x * 268435456) n (by omega) (by omega) (by simp) h0 (by simpa using h1)

/-- lo <= n <= hi, as one Bool that the walk does not open. -/
def inB (n lo hi : Int) : Bool := decide (lo ≤ n) && decide (n ≤ hi)
theorem inB_true {n lo hi : Int} : inB n lo hi = true ↔ lo ≤ n ∧ n ≤ hi := by simp [inB]
theorem inB_false {n lo hi : Int} : inB n lo hi = false ↔ ¬ (lo ≤ n ∧ n ≤ hi) := by rw [← inB_true]; simp
/-- a word. -/
def wordB (n : Int) : Bool := inB n (-1073741824) 1073741823
def intW (n : Int) : Int := if wordB n then 2 * n + 1 else 1
def refW (n : Int) : Int := if inB n 0 6000 then 2 * n else 0
theorem results_tmp4 {fn : Func} {t u v x : Tmp} (h : fn.results = #[.tmp t, .tmp u, .tmp v, .tmp x]) (tmps : Array Value) (P : Program) (w : World) :
    (results fn tmps).run P w = .ok (.tuple #[tmps.getD t undef, tmps.getD u undef, tmps.getD v undef, tmps.getD x undef]) w := by
  simp [results, h]
theorem ret_bool {a b : Bool} (h : a = b) : Ending.returned (.bool a) = .returned (.bool b) := by rw [h]
theorem ret_int {k : IntKind} {a b : Int} (h : a = b) : Ending.returned (.int k a) = .returned (.int k b) := by rw [h]

end Go.Proofs.Ytlkdlcpfcacigaa

/- Plain lemmas on memory: slices of one-cell numbers that are read, rows of the call's own that are written. Nothing of the program is named here. -/
namespace Go.Proofs.Ytlkdlcpfcacigaa
open Go.RowKit
set_option linter.unusedVariables false

/-- The slice value v reads as the numbers zs (of kind k), in a block below B. -/
def Rd (B : Nat) (k : IntKind) (w : World) (v : Value) (zs : List Int) : Prop :=
  (zs = [] ∧ ∃ a cap, v = .slice a 0 cap) ∨
  ∃ b off cap, v = .slice (some ⟨b, off, none⟩) zs.length cap ∧ b < B ∧ b < w.heap.size ∧ (zs.length ≤ maxLen ∧ zs.length ≤ cap) ∧ ∀ j, j < zs.length → w.cell? ⟨b, off + j, none⟩ = some (.int k (zs.getD j 0))

theorem Rd.below {B B' : Nat} {k : IntKind} {w w' : World} {v : Value} {zs : List Int} (h : Rd B k w v zs) (hb : Below B' w w') (hB : B ≤ B') : Rd B k w' v zs := by
  rcases h with h | ⟨b, off, cap, h1, h2, h3, h4, h5⟩
  · exact .inl h
  · exact .inr ⟨b, off, cap, h1, h2, Nat.lt_of_lt_of_le h3 hb.size, h4, fun j hj => (hb.cell (p := ⟨b, off + j, none⟩) (by show b < B'; omega)).trans (h5 j hj)⟩

theorem Rd.below' {B : Nat} {k : IntKind} {w w' : World} {v : Value} {zs : List Int} (h : Rd B k w v zs) (hb : Below w.heap.size w w') : Rd w.heap.size k w' v zs := by
  rcases h with h | ⟨b, off, cap, h1, h2, h3, h4, h5⟩
  · exact .inl h
  · exact .inr ⟨b, off, cap, h1, h3, Nat.lt_of_lt_of_le h3 hb.size, h4, fun j hj => (hb.cell (p := ⟨b, off + j, none⟩) h3).trans (h5 j hj)⟩
theorem Rd.mono {B B' : Nat} {k : IntKind} {w : World} {v : Value} {zs : List Int} (h : Rd B k w v zs) (hB : B ≤ B') : Rd B' k w v zs := by
  rcases h with h | ⟨b, off, cap, h1, h2, h3⟩
  · exact .inl h
  · exact .inr ⟨b, off, cap, h1, by omega, h3⟩

/-- w' has the heap of w: only the count of draws may differ. -/
def Still (w w' : World) : Prop := ∃ n, w' = w.drewN n
theorem Still.below {w w' : World} (h : Still w w') (B : Nat) : Below B w w' := by
  obtain ⟨n, rfl⟩ := h
  exact below_drewN (Below.refl _ _) n
theorem Still.refl (w : World) : Still w w := ⟨0, rfl⟩
theorem Still.trans {a b c : World} (h : Still a b) (k : Still b c) : Still a c := by
  obtain ⟨n, rfl⟩ := h
  obtain ⟨m, rfl⟩ := k
  exact ⟨n + m, by simp⟩

/-- A row that the call owns reads as what it owns. -/
theorem Rd.of_own {base : Nat} {k : IntKind} {e : TypeId} {w : World} {v : Value} {n : Nat} {zs : List Int} (h : w.ownsRow base e 1 v n (zs.map (Value.int k))) : Rd w.heap.size k w v zs := by
  obtain ⟨h1, h2⟩ := h
  rw [List.length_map, Nat.mul_one] at h1
  subst h1
  rcases h2 with ⟨rfl, h0⟩ | ⟨g, cap, cur, rfl, hb, hg, hn, hm, hc, ht⟩
  · exact .inl ⟨List.eq_nil_of_length_eq_zero h0, none, 0, rfl⟩
  · have hlt : g < w.heap.size := (Array.getElem?_eq_some_iff.1 hg).1
    refine .inr ⟨g, 0, cap, rfl, hlt, hlt, ⟨by omega, hn⟩, fun j hj => ?_⟩
    rw [Nat.zero_add, cell_of_row w g j cur e (0, 0) hg]
    have := congrArg (fun l => l[j]?) ht
    simp only [Nat.mul_one, List.getElem?_take, List.getElem?_map] at this
    rw [if_pos hj] at this
    simp only [Array.getElem?_toList] at this
    rw [this, List.getElem?_eq_getElem hj]
    simp [List.getD, List.getElem?_eq_getElem hj]

theorem Rd.len {B : Nat} {k : IntKind} {w : World} {v : Value} {zs : List Int} (h : Rd B k w v zs) : zs.length ≤ maxLen := by
  rcases h with ⟨rfl, _⟩ | ⟨b, off, cap, _, _, _, h, _⟩
  · simp
  · exact h.1

/-- What is owned stays so where nothing below B is written, the row itself below B. -/
theorem own_below {base B : Nat} {e : TypeId} {sz : Nat} {w w' : World} {v : Value} {n : Nat} {xs : List Value} (h : w.ownsRow base e sz v n xs) (hb : Below B w w') (hB : ∀ k, v.ownBlock = some k → k < B) : w'.ownsRow base e sz v n xs := by
  refine ⟨h.1, ?_⟩
  rcases h.2 with hn | ⟨g, cap, cur, rfl, hbs, hg, rest⟩
  · exact .inl hn
  · refine .inr ⟨g, cap, cur, rfl, hbs, ?_, rest⟩
    rw [hb.block g (hB g rfl)]; exact hg

theorem own_lt {base : Nat} {e : TypeId} {sz : Nat} {w : World} {v : Value} {n : Nat} {xs : List Value} (h : w.ownsRow base e sz v n xs) : ∀ k, v.ownBlock = some k → k < w.heap.size := fun k hk => (h.lt k hk).2

theorem own_base {base base' : Nat} {e : TypeId} {sz : Nat} {w : World} {v : Value} {n : Nat} {xs : List Value} (h : w.ownsRow base e sz v n xs) (hB : base' ≤ base) : w.ownsRow base' e sz v n xs := by
  refine ⟨h.1, ?_⟩
  rcases h.2 with hn | ⟨g, cap, cur, rfl, hbs, rest⟩
  · exact .inl hn
  · exact .inr ⟨g, cap, cur, rfl, by omega, rest⟩

theorem Below.of_grown {w w' : World} {row : Option Nat} {B : Nat} (hg : w.grownBy w' row) (hB : B ≤ w.heap.size) (hr : ∀ k, row = some k → B ≤ k) : Below B w w' :=
  (Below.refl B w).grown hg hB hr

theorem grownBy.refl (w : World) (row : Option Nat) : w.grownBy w row := ⟨rfl, rfl, rfl, Nat.le_refl _, fun _ _ _ => rfl⟩
theorem grownBy.trans {a b c : World} {row : Option Nat} (h : a.grownBy b row) (k : b.grownBy c row) : a.grownBy c row :=
  ⟨k.os.trans h.os, k.tape.trans h.tape, k.output.trans h.output, Nat.le_trans h.size k.size, fun i hi hne => (k.block i (Nat.lt_of_lt_of_le hi h.size) hne).trans (h.block i hi hne)⟩
theorem _root_.Go.World.grownBy.trans' {a b c : World} {row : Option Nat} (h : a.grownBy b row) (k : b.grownBy c row) : a.grownBy c row := grownBy.trans h k
theorem grownBy.setCell (w : World) (g j : Nat) (u : Value) : w.grownBy (w.setCell ⟨g, j, none⟩ u) (some g) :=
  ⟨rfl, rfl, rfl, by simp [World.setCell], fun k _ hne => Below.heap_setCell _ _ _ _ (by intro h; exact hne (by rw [h]))⟩

theorem own_cell {base : Nat} {e : TypeId} {w : World} {g cap n : Nat} {xs : List Value} (h : w.ownsRow base e 1 (.slice (some ⟨g, 0, none⟩) n cap) n xs) (j : Nat) (hj : j < n) : w.cell? ⟨g, j, none⟩ = xs[j]? := by
  obtain ⟨h1, h2⟩ := h
  rw [Nat.mul_one] at h1
  rcases h2 with ⟨hh, _⟩ | ⟨g', cap', cur, hv, hb, hg, hn, hm, hc, ht⟩
  · cases hh
  · cases hv
    rw [cell_of_row w g j cur e (0, 0) hg, ← ht, Nat.mul_one, List.getElem?_take, if_pos hj, Array.getElem?_toList]

theorem own_frozen {base : Nat} {e : TypeId} {sz : Nat} {w : World} {g cap n : Nat} {xs : List Value} (h : w.ownsRow base e sz (.slice (some ⟨g, 0, none⟩) n cap) n xs) (j : Nat) : w.frozen? ⟨g, j, none⟩ = false := by
  rcases h.2 with ⟨hh, _⟩ | ⟨g', cap', cur, hv, hb, hg, _⟩
  · cases hh
  · cases hv
    simp [World.frozen?, hg]

/-- A store into a row that is owned. -/
theorem own_set {base : Nat} {e : TypeId} {w : World} {g cap n : Nat} {xs : List Value} (h : w.ownsRow base e 1 (.slice (some ⟨g, 0, none⟩) n cap) n xs) (j : Nat) (hj : j < n) (u : Value) :
    (w.setCell ⟨g, j, none⟩ u).ownsRow base e 1 (.slice (some ⟨g, 0, none⟩) n cap) n (xs.set j u) := by
  obtain ⟨h1, h2⟩ := h
  refine ⟨by simpa using h1, ?_⟩
  rcases h2 with ⟨hh, _⟩ | ⟨g', cap', cur, hv, hb, hg, hn, hm, hc, ht⟩
  · cases hh
  · cases hv
    refine .inr ⟨g, cap, cur.setIfInBounds j u, rfl, hb, ?_, hn, hm, by simpa using hc, ?_⟩
    · have hlt := (Array.getElem?_eq_some_iff.1 hg).1
      simp only [World.setCell, Array.getElem?_modify, hg, if_pos]
      simp
    · rw [Array.toList_setIfInBounds, List.take_set, ht]

/-- A row of which the first i are f's, the others as they were. -/
def mkRow {α : Type} (f : Nat → α) (xs : List α) (i : Nat) : List α := (List.range i).map f ++ xs.drop i
theorem mkRow_zero {α : Type} (f : Nat → α) (xs : List α) : mkRow f xs 0 = xs := by simp [mkRow]
theorem mkRow_all {α : Type} (f : Nat → α) (xs : List α) (n : Nat) (h : xs.length = n) : mkRow f xs n = (List.range n).map f := by simp [mkRow, h]
theorem mkRow_len {α : Type} (f : Nat → α) (xs : List α) (i : Nat) (h : i ≤ xs.length) : (mkRow f xs i).length = xs.length := by simp [mkRow]; omega
theorem mkRow_set {α : Type} (f : Nat → α) (xs : List α) (i : Nat) (h : i < xs.length) : (mkRow f xs i).set i (f i) = mkRow f xs (i + 1) := by
  unfold mkRow
  rw [List.set_append_right _ _ (by simp), List.range_succ, List.map_append, List.append_assoc]
  congr 1
  simp only [List.length_map, List.length_range, Nat.sub_self, List.map_cons, List.map_nil]
  rw [List.drop_eq_getElem_cons h]
  rfl
theorem mkRow_get {α : Type} (f : Nat → α) (xs : List α) (i : Nat) (h : i < xs.length) : (mkRow f xs i)[i]? = some xs[i] := by
  unfold mkRow
  rw [List.getElem?_append_right (by simp)]
  simp [List.getElem?_drop, h]

/-- the numbers that a mark writes. -/
def marks (k : IntKind) (s : Int) (n : Nat) : List Int := (List.range n).map fun (i : Nat) => k.wrap (s + i)
theorem marks_len (k : IntKind) (s : Int) (n : Nat) : (marks k s n).length = n := by simp [marks]
theorem marks_get (k : IntKind) (s : Int) (n : Nat) (i : Nat) (h : i < n) : (marks k s n).getD i 0 = k.wrap (s + i) := by
  simp [marks, List.getD, h]

theorem eq_step {xs ys : List Int} {k : Nat} (hl : xs.length = ys.length) (hk : k < xs.length) (h : ∀ j, j < k → xs.getD j 0 = ys.getD j 0) (he : xs.getD k 0 = ys.getD k 0) : ∀ j, j < k + 1 → xs.getD j 0 = ys.getD j 0 := by
  intro j hj
  by_cases e : j = k
  · subst e; exact he
  · exact h j (by omega)
theorem eq_all {xs ys : List Int} (hl : xs.length = ys.length) (h : ∀ j, j < xs.length → xs.getD j 0 = ys.getD j 0) : xs = ys := by
  refine List.ext_getElem hl fun i h1 h2 => ?_
  have := h i h1
  simpa [List.getD, List.getElem?_eq_getElem h1, List.getElem?_eq_getElem h2] using this

theorem range_getD {β : Type} (f : Int → β) (zs : List Int) : (List.range zs.length).map (fun i => f (zs.getD i 0)) = zs.map f := by
  refine List.ext_getElem (by simp) fun i h1 h2 => ?_
  simp only [List.length_map, List.length_range] at h1
  simp [List.getD, List.getElem?_eq_getElem h1]

theorem Rd.of_row {k : IntKind} {w : World} {a : Option Addr} {len cap : Nat} {zs : List Int}
    (h : (a = none ∧ len = 0 ∧ cap = 0 ∧ zs = []) ∨ ∃ x, a = some x ∧ len ≤ cap ∧ cap ≤ maxLen ∧ zs.length = cap ∧ (∀ i, i < zs.length → w.cell? (x.add i) = some (.int k (zs.getD i 0))) ∧ ∀ n ∈ zs, (Lit.int k n).wf = true) :
    Rd w.heap.size k w (.slice a len cap) (zs.take len) := by
  rcases h with ⟨rfl, rfl, rfl, rfl⟩ | ⟨x, rfl, h1, h2, h3, h4, h5⟩
  · exact .inl ⟨rfl, none, 0, rfl⟩
  · by_cases h0 : len = 0
    · subst h0
      exact .inl ⟨by simp, some x, cap, rfl⟩
    · obtain ⟨b, off, rfl, hc⟩ := ints_at h4 (by omega)
      have hb := World.block_lt_of_cell? w _ (hc 0 (by omega))
      have hl : (zs.take len).length = len := by simp; omega
      refine .inr ⟨b, off, cap, by rw [hl], hb, hb, ⟨by omega, by omega⟩, fun j hj => ?_⟩
      rw [hl] at hj
      rw [hc j (by omega)]
      simp [List.getD, hj]

theorem wf_all {k : IntKind} {w : World} {a : Option Addr} {len cap : Nat} {zs : List Int}
    (h : (a = none ∧ len = 0 ∧ cap = 0 ∧ zs = []) ∨ ∃ x, a = some x ∧ len ≤ cap ∧ cap ≤ maxLen ∧ zs.length = cap ∧ (∀ i, i < zs.length → w.cell? (x.add i) = some (.int k (zs.getD i 0))) ∧ ∀ n ∈ zs, (Lit.int k n).wf = true) :
    (zs.take len).length = len ∧ ∀ n ∈ zs.take len, (Lit.int k n).wf = true := by
  rcases h with ⟨rfl, rfl, rfl, rfl⟩ | ⟨x, rfl, h1, h2, h3, h4, h5⟩
  · simp
  · exact ⟨by simp; omega, fun n hn => h5 n (List.mem_of_mem_take hn)⟩
theorem wf_take (k : IntKind) : True := trivial
theorem Rd.form {B : Nat} {k : IntKind} {w : World} {v : Value} {zs : List Int} (h : Rd B k w v zs) : ∃ a cap, v = .slice a zs.length cap := by
  rcases h with ⟨rfl, a, cap, rfl⟩ | ⟨b, off, cap, rfl, _⟩
  · exact ⟨_, _, rfl⟩
  · exact ⟨_, _, rfl⟩
theorem own_form {base : Nat} {e : TypeId} {sz : Nat} {w : World} {v : Value} {n : Nat} {xs : List Value} (h : w.ownsRow base e sz v n xs) : ∃ a cap, v = .slice a n cap := by
  rcases h.2 with ⟨rfl, rfl⟩ | ⟨g, cap, cur, rfl, _⟩
  · exact ⟨_, _, rfl⟩
  · exact ⟨_, _, rfl⟩

/-- A struct variable's block: what is in it. -/
def Bx (w : World) (g : Nat) (cur : Array Value) : Prop := g < w.heap.size ∧ (∀ j, w.cell? ⟨g, j, none⟩ = cur[j]?) ∧ ∀ j, w.frozen? ⟨g, j, none⟩ = false
theorem Bx.alloc {w x : World} {cur : Array Value} {e : TypeId} (h : w.alloc (.cells cur e) = x) : Below w.heap.size w x ∧ Bx x w.heap.size cur := by
  subst h
  refine ⟨(Below.refl _ _).alloc (Nat.le_refl _) _, by simp, fun j => ?_, fun j => ?_⟩
  · exact World.cell?_alloc_at _ _ _ _ rfl
  · exact World.frozen?_alloc_at _ _ _ _ rfl
theorem Bx.below {w w' : World} {g B : Nat} {cur : Array Value} (h : Bx w g cur) (hb : Below B w w') (hg : g < B) : Bx w' g cur :=
  ⟨Nat.lt_of_lt_of_le h.1 hb.size, fun j => (hb.cell (p := ⟨g, j, none⟩) hg).trans (h.2.1 j), fun j => (hb.frozen (p := ⟨g, j, none⟩) hg).trans (h.2.2 j)⟩
theorem Bx.grown {w w' : World} {g : Nat} {row : Option Nat} {cur : Array Value} (h : Bx w g cur) (hg : w.grownBy w' row) (hne : some g ≠ row) : Bx w' g cur :=
  ⟨Nat.lt_of_lt_of_le h.1 hg.size, fun j => (World.cell?_of_block (hg.block g h.1 hne)).trans (h.2.1 j), fun j => (World.frozen?_of_block (hg.block g h.1 hne)).trans (h.2.2 j)⟩

theorem own_empty {w : World} {base g size : Nat} {e : TypeId} (hg : g = w.heap.size) (hb : base ≤ g) : (w.alloc (.cells #[] e)).ownsRow base e size (.slice (some ⟨g, 0, none⟩) 0 0) 0 [] := by
  subst hg
  exact World.ownsRow_made w #[] 0 hb (Nat.zero_le _) (by simp)

/-- append of ONE element, laid in a new block ahead of it, to a row of the call's own. -/
theorem wpList_app1 {P : Program} {w : World} {ops : Array Oper} {rest : List Oper} {o : Oper} {a : Act} {Q : Exit → Act → World → Prop} (hgd : o.guard = none) (s x : Operand) (t : TypeId)
    (ho : o.op = .call { callee := .builtin .append, args := #[s, x], argTypes := #[t, t] })
    (base : Nat) (e : TypeId) (i : TypeInfo) (z : Value) (size bytes : Nat) (ht : P.underlying t = some (.slice e)) (hi : P.info? e = some i) (hz : i.zero = some z)
    (hsize : i.size = size) (hby : i.bytes = bytes) (hzs : z.cells.size = size) (hsz : 0 < size)
    (v : Value) (n : Nat) (xs : List Value) (hs : a.eval s = v) (hown : w.ownsRow base e size v n xs) (us : Array Value) (hus : us.size = size) (h1 : ∀ u ∈ us.toList, u.oneCell' = true)
    (hx : a.eval x = .slice (some ⟨w.heap.size, 0, none⟩) 1 1)
    (h63 : n + 1 ≤ maxLen) (hbytes : (n + 1) * bytes ≤ 140737488355328) (hbase : base ≤ w.heap.size)
    (h : ∀ v' w', w'.ownsRow base e size v' (n + 1) (xs ++ us.toList) → w.grownBy w' v.ownBlock → v' ≠ .slice none 0 0 → wpList P ops Q rest (a.put o.dst v') w') :
    wpList P ops Q (o :: rest) a (w.alloc (.cells us e)) := by
  refine wpList_append_own _ hgd s x t ho base e i z size bytes ht hi hz hsize hby hzs hsz v n xs hs (hown.alloc _) ⟨w.heap.size, 0, none⟩ 1 1 us.toList hx (by simp [hus]) ?_ h1 h63 hbytes (by simp; omega) ?_
  · intro j u hj
    have hadd : (⟨w.heap.size, 0, none⟩ : Addr).add j = ⟨w.heap.size, j, none⟩ := by unfold Addr.add; split <;> simp_all
    rw [hadd, World.cell?_alloc_at _ _ _ _ rfl]
    simpa using hj
  · intro v' w' h2 h3 h4
    exact h v' w' h2 ((World.grownBy_alloc w _ _).trans' h3) (by intro hh; have := (h4.1 hh).2; omega)

end Go.Proofs.Ytlkdlcpfcacigaa
