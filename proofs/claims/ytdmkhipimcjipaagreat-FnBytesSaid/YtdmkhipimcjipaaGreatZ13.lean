/- Parts of the proof of FnBytes. -/
import Derived.WalkKit
import Derived.WalkSpells
import Derived.WalkLawsBesides
import Derived.Lib.Hide
import Derived.Deep.QuietTactic
import Derived.BigQuiet
import Derived.Laws.AppendOwn
import Derived.Outline
import Derived.OpenShut
import Derived.ProofKit
import Derived.ShutString
import Derived.ChangeOld
import Derived.Below
import Derived.Lib.SmallJoins
import Derived.Maps.AppendAt
import Derived.Deep.AppendLies
import Derived.Test.YtdmkhipimcjipaaGreatRows
import Derived.Deep.RegionHeld3
import Derived.Test.YtdmkhipimcjipaaGreatZ12
import Derived.IntWalk
set_option linter.unusedVariables false
set_option linter.unusedSimpArgs false
section
namespace Go.Proofs.YtdmkhipimcjipaaGreat
open Go.RowKit
set_option linter.unusedVariables false
theorem i64_mask (k : Nat) (m n : Int) (hk : k ≤ 62) (hm : (BitVec.ofInt 64 m).toNat = 2 ^ k - 1) : bits .and .i64 n m = n % (2 ^ k : Nat) := by
  have key : (BitVec.ofInt 64 n &&& BitVec.ofInt 64 m).toNat = (n % ((2 ^ 64 : Nat) : Int)).toNat % 2 ^ k := by
    rw [BitVec.toNat_and, BitVec.toNat_ofInt, hm, Nat.and_two_pow_sub_one_eq_mod]
  show IntKind.i64.wrap ((BitVec.ofInt 64 n &&& BitVec.ofInt 64 m).toNat : Nat) = n % (2 ^ k : Nat)
  rw [key, IntKind.wrap_i64]
  have hd : ((2 ^ k : Nat) : Int) ∣ ((2 ^ 64 : Nat) : Int) := by
    exact Int.natCast_dvd_natCast.2 (Nat.pow_dvd_pow 2 (by omega))
  have h1 : 0 ≤ n % ((2 ^ 64 : Nat) : Int) := Int.emod_nonneg _ (by decide)
  have h2 : (((n % ((2 ^ 64 : Nat) : Int)).toNat % 2 ^ k : Nat) : Int) = n % (2 ^ k : Nat) := by
    rw [Int.natCast_emod, Int.toNat_of_nonneg h1, Int.emod_emod_of_dvd _ hd]
  have h4 : 2 ^ k ≤ 2 ^ 62 := Nat.pow_le_pow_right (by decide) hk
  have h3 : (n % ((2 ^ 64 : Nat) : Int)).toNat % 2 ^ k < 2 ^ k := Nat.mod_lt _ (Nat.pow_pos (by decide))
  rw [← h2]
  generalize (n % ((2 ^ 64 : Nat) : Int)).toNat % 2 ^ k = x at h3 ⊢
  have h5 : x < 2 ^ 62 := Nat.lt_of_lt_of_le h3 h4
  omega
theorem i64_and1 (n : Int) : bits .and .i64 n 1 = n % 2 := i64_mask 1 1 n (by decide) (by decide)
theorem i64_and63 (n : Int) : bits .and .i64 n 63 = n % 64 := i64_mask 6 63 n (by decide) (by decide)
theorem i64_and255 (n : Int) : bits .and .i64 n 255 = n % 256 := i64_mask 8 255 n (by decide) (by decide)
theorem i64_and30 (n : Int) : bits .and .i64 n 1073741823 = n % 1073741824 := i64_mask 30 1073741823 n (by decide) (by decide)
theorem i64_and31 (n : Int) : bits .and .i64 n 2147483647 = n % 2147483648 := i64_mask 31 2147483647 n (by decide) (by decide)
attribute [go_sem] i64_and1 i64_and63 i64_and255 i64_and30 i64_and31
theorem or_low (i : Nat) (hi : i ≤ 62) (x y : Int) (hx0 : 0 ≤ x) (hx1 : x < 4611686018427387904) (hm : x % ((2 ^ i : Nat) : Int) = 0) (h0 : 0 ≤ y) (h1 : y < ((2 ^ i : Nat) : Int)) : bits .or .i64 y x = y + x := by
  have hc : bits .or .i64 y x = bits .or .i64 x y := by simp only [bits, BitVec.or_comm]
  have h2 : ((2 ^ i : Nat) : Int) ≤ ((2 ^ 62 : Nat) : Int) := Int.ofNat_le.2 (Nat.pow_le_pow_right (by decide) hi)
  have h3 : y < ((2 ^ 62 : Nat) : Int) := Int.lt_of_lt_of_le h1 h2
  rw [hc, bits_join .i64 62 (by decide) (fun n a b => IntWalk.i64_in n ⟨by omega, by omega⟩) i x y hx0 (by simpa using hm) (by simpa using hx1) h0 (by simpa using h1) (by simpa using h3)]
  omega
theorem or_shift (k : Nat) (hk : k < 5) (n x : Int) (h0 : 0 ≤ n) (h1 : n < 128 ^ k) (x0 : 0 ≤ x) (x1 : x < 128) : bits .or .i64 n (wrap64 (x * 2 ^ (7 * k))) = n + x * 128 ^ k := by
  match k, hk with
  | 0, _ => simp only [Nat.mul_zero, Int.pow_zero, Int.mul_one] at h1 ⊢; rw [show wrap64 x = x from by unfold wrap64; omega]; exact or_low 0 (by decide) x n x0 (by omega) (by simp) h0 (by simpa using h1)
  | 1, _ => simp only [Nat.mul_one, Int.reducePow] at h1 ⊢; rw [show wrap64 (x * 128) = x * 128 from by unfold wrap64; omega]; exact or_low 7 (by decide) (x * 128) n (by omega) (by omega) (by simp) h0 (by simpa using h1)
  | 2, _ => simp only [Nat.reduceMul, Int.reducePow] at h1 ⊢; rw [show wrap64 (x * 16384) = x * 16384 from by unfold wrap64; omega]; exact or_low 14 (by decide) (x * 16384) n (by omega) (by omega) (by simp) h0 (by simpa using h1)
  | 3, _ => simp only [Nat.reduceMul, Int.reducePow] at h1 ⊢; rw [show wrap64 (x * 2097152) = x * 2097152 from by unfold wrap64; omega]; exact or_low 21 (by decide) (x * 2097152) n (by omega) (by omega) (by simp) h0 (by simpa using h1)
  | 4, _ => simp only [Nat.reduceMul, Int.reducePow] at h1 ⊢; rw [show wrap64 (x * 268435456) = x * 268435456 from by unfold wrap64; omega]; exact or_low 28 (by decide) (x * 268435456) n (by omega) (by omega) (by simp) h0 (by simpa using h1)
def inB (n lo hi : Int) : Bool := decide (lo ≤ n) && decide (n ≤ hi)
theorem inB_true {n lo hi : Int} : inB n lo hi = true ↔ lo ≤ n ∧ n ≤ hi := by simp [inB]
theorem inB_false {n lo hi : Int} : inB n lo hi = false ↔ ¬ (lo ≤ n ∧ n ≤ hi) := by rw [← inB_true]; simp
def wordB (n : Int) : Bool := inB n (-1073741824) 1073741823
theorem ret_bool {a b : Bool} (h : a = b) : Ending.returned (.bool a) = .returned (.bool b) := by rw [h]
end Go.Proofs.YtdmkhipimcjipaaGreat
end
section
namespace Go.Proofs.YtdmkhipimcjipaaGreat
open Go.RowKit
set_option linter.unusedVariables false
def Rd (B : Nat) (k : IntKind) (w : World) (v : Value) (zs : List Int) : Prop :=
  (zs = [] ∧ ∃ a cap, v = .slice a 0 cap) ∨
  ∃ b off cap, v = .slice (some ⟨b, off, none⟩) zs.length cap ∧ b < B ∧ b < w.heap.size ∧ (zs.length ≤ maxLen ∧ zs.length ≤ cap) ∧ ∀ j, j < zs.length → w.cell? ⟨b, off + j, none⟩ = some (.int k (zs.getD j 0))
theorem Rd.below {B B' : Nat} {k : IntKind} {w w' : World} {v : Value} {zs : List Int} (h : Rd B k w v zs) (hb : Below B' w w') (hB : B ≤ B') : Rd B k w' v zs := by
  rcases h with h | ⟨b, off, cap, h1, h2, h3, h4, h5⟩
  · exact .inl h
  · exact .inr ⟨b, off, cap, h1, h2, Nat.lt_of_lt_of_le h3 hb.size, h4, fun j hj => (hb.cell (p := ⟨b, off + j, none⟩) (by show b < B'; omega)).trans (h5 j hj)⟩
theorem Rd.below' {B : Nat} {k : IntKind} {w w' : World} {v : Value} {zs : List Int} (h : Rd B k w v zs) (hb : Below w.heap.size w w') : Rd w.heap.size k w' v zs := by
  rcases h with h | ⟨b, off, cap, h1, h2, h3, h4, h5⟩
  · exact .inl h
  · exact .inr ⟨b, off, cap, h1, h3, Nat.lt_of_lt_of_le h3 hb.size, h4, fun j hj => (hb.cell (p := ⟨b, off + j, none⟩) h3).trans (h5 j hj)⟩
theorem Rd.mono {B B' : Nat} {k : IntKind} {w : World} {v : Value} {zs : List Int} (h : Rd B k w v zs) (hB : B ≤ B') : Rd B' k w v zs := by
  rcases h with h | ⟨b, off, cap, h1, h2, h3⟩
  · exact .inl h
  · exact .inr ⟨b, off, cap, h1, by omega, h3⟩
def Still (w w' : World) : Prop := ∃ n, w' = w.drewN n
theorem Still.below {w w' : World} (h : Still w w') (B : Nat) : Below B w w' := by
  obtain ⟨n, rfl⟩ := h
  exact below_drewN (Below.refl _ _) n
theorem Still.refl (w : World) : Still w w := ⟨0, rfl⟩
theorem Still.trans {a b c : World} (h : Still a b) (k : Still b c) : Still a c := by
  obtain ⟨n, rfl⟩ := h
  obtain ⟨m, rfl⟩ := k
  exact ⟨n + m, by simp⟩
theorem Rd.of_own {base : Nat} {k : IntKind} {e : TypeId} {w : World} {v : Value} {n : Nat} {zs : List Int} (h : w.ownsRow base e 1 v n (zs.map (Value.int k))) : Rd w.heap.size k w v zs := by
  obtain ⟨h1, h2⟩ := h
  rw [List.length_map, Nat.mul_one] at h1
  subst h1
  rcases h2 with ⟨rfl, h0⟩ | ⟨g, cap, cur, rfl, hb, hg, hn, hm, hc, ht⟩
  · exact .inl ⟨List.eq_nil_of_length_eq_zero h0, none, 0, rfl⟩
  · have hlt : g < w.heap.size := (Array.getElem?_eq_some_iff.1 hg).1
    refine .inr ⟨g, 0, cap, rfl, hlt, hlt, ⟨by omega, hn⟩, fun j hj => ?_⟩
    rw [Nat.zero_add, cell_of_row w g j cur e (0, 0) hg]
    have := congrArg (fun l => l[j]?) ht
    simp only [Nat.mul_one, List.getElem?_take, List.getElem?_map] at this
    rw [if_pos hj] at this
    simp only [Array.getElem?_toList] at this
    rw [this, List.getElem?_eq_getElem hj]
    simp [List.getD, List.getElem?_eq_getElem hj]
theorem Rd.len {B : Nat} {k : IntKind} {w : World} {v : Value} {zs : List Int} (h : Rd B k w v zs) : zs.length ≤ maxLen := by
  rcases h with ⟨rfl, _⟩ | ⟨b, off, cap, _, _, _, h, _⟩
  · simp
  · exact h.1
theorem own_below {base B : Nat} {e : TypeId} {sz : Nat} {w w' : World} {v : Value} {n : Nat} {xs : List Value} (h : w.ownsRow base e sz v n xs) (hb : Below B w w') (hB : ∀ k, v.ownBlock = some k → k < B) : w'.ownsRow base e sz v n xs := by
  refine ⟨h.1, ?_⟩
  rcases h.2 with hn | ⟨g, cap, cur, rfl, hbs, hg, rest⟩
  · exact .inl hn
  · refine .inr ⟨g, cap, cur, rfl, hbs, ?_, rest⟩
    rw [hb.block g (hB g rfl)]; exact hg
theorem own_lt {base : Nat} {e : TypeId} {sz : Nat} {w : World} {v : Value} {n : Nat} {xs : List Value} (h : w.ownsRow base e sz v n xs) : ∀ k, v.ownBlock = some k → k < w.heap.size := fun k hk => (h.lt k hk).2
theorem own_base {base base' : Nat} {e : TypeId} {sz : Nat} {w : World} {v : Value} {n : Nat} {xs : List Value} (h : w.ownsRow base e sz v n xs) (hB : base' ≤ base) : w.ownsRow base' e sz v n xs := by
  refine ⟨h.1, ?_⟩
  rcases h.2 with hn | ⟨g, cap, cur, rfl, hbs, rest⟩
  · exact .inl hn
  · exact .inr ⟨g, cap, cur, rfl, by omega, rest⟩
theorem Below.of_grown {w w' : World} {row : Option Nat} {B : Nat} (hg : w.grownBy w' row) (hB : B ≤ w.heap.size) (hr : ∀ k, row = some k → B ≤ k) : Below B w w' :=
  (Below.refl B w).grown hg hB hr
theorem grownBy.refl (w : World) (row : Option Nat) : w.grownBy w row := ⟨rfl, rfl, rfl, Nat.le_refl _, fun _ _ _ => rfl⟩
theorem grownBy.trans {a b c : World} {row : Option Nat} (h : a.grownBy b row) (k : b.grownBy c row) : a.grownBy c row :=
  ⟨k.os.trans h.os, k.tape.trans h.tape, k.output.trans h.output, Nat.le_trans h.size k.size, fun i hi hne => (k.block i (Nat.lt_of_lt_of_le hi h.size) hne).trans (h.block i hi hne)⟩
theorem _root_.Go.World.grownBy.trans' {a b c : World} {row : Option Nat} (h : a.grownBy b row) (k : b.grownBy c row) : a.grownBy c row := grownBy.trans h k
theorem grownBy.setCell (w : World) (g j : Nat) (u : Value) : w.grownBy (w.setCell ⟨g, j, none⟩ u) (some g) :=
  ⟨rfl, rfl, rfl, by simp [World.setCell], fun k _ hne => Below.heap_setCell _ _ _ _ (by intro h; exact hne (by rw [h]))⟩
theorem own_frozen {base : Nat} {e : TypeId} {sz : Nat} {w : World} {g cap n : Nat} {xs : List Value} (h : w.ownsRow base e sz (.slice (some ⟨g, 0, none⟩) n cap) n xs) (j : Nat) : w.frozen? ⟨g, j, none⟩ = false := by
  rcases h.2 with ⟨hh, _⟩ | ⟨g', cap', cur, hv, hb, hg, _⟩
  · cases hh
  · cases hv
    simp [World.frozen?, hg]
theorem Rd.of_row {k : IntKind} {w : World} {a : Option Addr} {len cap : Nat} {zs : List Int}
    (h : (a = none ∧ len = 0 ∧ cap = 0 ∧ zs = []) ∨ ∃ x, a = some x ∧ len ≤ cap ∧ cap ≤ maxLen ∧ zs.length = cap ∧ (∀ i, i < zs.length → w.cell? (x.add i) = some (.int k (zs.getD i 0))) ∧ ∀ n ∈ zs, (Lit.int k n).wf = true) :
    Rd w.heap.size k w (.slice a len cap) (zs.take len) := by
  rcases h with ⟨rfl, rfl, rfl, rfl⟩ | ⟨x, rfl, h1, h2, h3, h4, h5⟩
  · exact .inl ⟨rfl, none, 0, rfl⟩
  · by_cases h0 : len = 0
    · subst h0
      exact .inl ⟨by simp, some x, cap, rfl⟩
    · obtain ⟨b, off, rfl, hc⟩ := ints_at h4 (by omega)
      have hb := World.block_lt_of_cell? w _ (hc 0 (by omega))
      have hl : (zs.take len).length = len := by simp; omega
      refine .inr ⟨b, off, cap, by rw [hl], hb, hb, ⟨by omega, by omega⟩, fun j hj => ?_⟩
      rw [hl] at hj
      rw [hc j (by omega)]
      simp [List.getD, hj]
theorem wf_all {k : IntKind} {w : World} {a : Option Addr} {len cap : Nat} {zs : List Int}
    (h : (a = none ∧ len = 0 ∧ cap = 0 ∧ zs = []) ∨ ∃ x, a = some x ∧ len ≤ cap ∧ cap ≤ maxLen ∧ zs.length = cap ∧ (∀ i, i < zs.length → w.cell? (x.add i) = some (.int k (zs.getD i 0))) ∧ ∀ n ∈ zs, (Lit.int k n).wf = true) :
    (zs.take len).length = len ∧ ∀ n ∈ zs.take len, (Lit.int k n).wf = true := by
  rcases h with ⟨rfl, rfl, rfl, rfl⟩ | ⟨x, rfl, h1, h2, h3, h4, h5⟩
  · simp
  · exact ⟨by simp; omega, fun n hn => h5 n (List.mem_of_mem_take hn)⟩
theorem Rd.form {B : Nat} {k : IntKind} {w : World} {v : Value} {zs : List Int} (h : Rd B k w v zs) : ∃ a cap, v = .slice a zs.length cap := by
  rcases h with ⟨rfl, a, cap, rfl⟩ | ⟨b, off, cap, rfl, _⟩
  · exact ⟨_, _, rfl⟩
  · exact ⟨_, _, rfl⟩
theorem own_form {base : Nat} {e : TypeId} {sz : Nat} {w : World} {v : Value} {n : Nat} {xs : List Value} (h : w.ownsRow base e sz v n xs) : ∃ a cap, v = .slice a n cap := by
  rcases h.2 with ⟨rfl, rfl⟩ | ⟨g, cap, cur, rfl, _⟩
  · exact ⟨_, _, rfl⟩
  · exact ⟨_, _, rfl⟩
def Bx (w : World) (g : Nat) (cur : Array Value) : Prop := g < w.heap.size ∧ (∀ j, w.cell? ⟨g, j, none⟩ = cur[j]?) ∧ ∀ j, w.frozen? ⟨g, j, none⟩ = false
theorem Bx.alloc {w x : World} {cur : Array Value} {e : TypeId} (h : w.alloc (.cells cur e) = x) : Below w.heap.size w x ∧ Bx x w.heap.size cur := by
  subst h
  refine ⟨(Below.refl _ _).alloc (Nat.le_refl _) _, by simp, fun j => ?_, fun j => ?_⟩
  · exact World.cell?_alloc_at _ _ _ _ rfl
  · exact World.frozen?_alloc_at _ _ _ _ rfl
theorem Bx.below {w w' : World} {g B : Nat} {cur : Array Value} (h : Bx w g cur) (hb : Below B w w') (hg : g < B) : Bx w' g cur :=
  ⟨Nat.lt_of_lt_of_le h.1 hb.size, fun j => (hb.cell (p := ⟨g, j, none⟩) hg).trans (h.2.1 j), fun j => (hb.frozen (p := ⟨g, j, none⟩) hg).trans (h.2.2 j)⟩
theorem Bx.grown {w w' : World} {g : Nat} {row : Option Nat} {cur : Array Value} (h : Bx w g cur) (hg : w.grownBy w' row) (hne : some g ≠ row) : Bx w' g cur :=
  ⟨Nat.lt_of_lt_of_le h.1 hg.size, fun j => (World.cell?_of_block (hg.block g h.1 hne)).trans (h.2.1 j), fun j => (World.frozen?_of_block (hg.block g h.1 hne)).trans (h.2.2 j)⟩
theorem own_empty {w : World} {base g size : Nat} {e : TypeId} (hg : g = w.heap.size) (hb : base ≤ g) : (w.alloc (.cells #[] e)).ownsRow base e size (.slice (some ⟨g, 0, none⟩) 0 0) 0 [] := by
  subst hg
  exact World.ownsRow_made w #[] 0 hb (Nat.zero_le _) (by simp)
theorem wpList_app1 {P : Program} {w : World} {ops : Array Oper} {rest : List Oper} {o : Oper} {a : Act} {Q : Exit → Act → World → Prop} (hgd : o.guard = none) (s x : Operand) (t : TypeId)
    (ho : o.op = .call { callee := .builtin .append, args := #[s, x], argTypes := #[t, t] })
    (base : Nat) (e : TypeId) (i : TypeInfo) (z : Value) (size bytes : Nat) (ht : P.underlying t = some (.slice e)) (hi : P.info? e = some i) (hz : i.zero = some z)
    (hsize : i.size = size) (hby : i.bytes = bytes) (hzs : z.cells.size = size) (hsz : 0 < size)
    (v : Value) (n : Nat) (xs : List Value) (hs : a.eval s = v) (hown : w.ownsRow base e size v n xs) (us : Array Value) (hus : us.size = size) (h1 : ∀ u ∈ us.toList, u.oneCell' = true)
    (hx : a.eval x = .slice (some ⟨w.heap.size, 0, none⟩) 1 1)
    (h63 : n + 1 ≤ maxLen) (hbytes : (n + 1) * bytes ≤ 140737488355328) (hbase : base ≤ w.heap.size)
    (h : ∀ v' w', w'.ownsRow base e size v' (n + 1) (xs ++ us.toList) → w.grownBy w' v.ownBlock → v' ≠ .slice none 0 0 → wpList P ops Q rest (a.put o.dst v') w') :
    wpList P ops Q (o :: rest) a (w.alloc (.cells us e)) := by
  refine wpList_append_own _ hgd s x t ho base e i z size bytes ht hi hz hsize hby hzs hsz v n xs hs (hown.alloc _) ⟨w.heap.size, 0, none⟩ 1 1 us.toList hx (by simp [hus]) ?_ h1 h63 hbytes (by simp; omega) ?_
  · intro j u hj
    have hadd : (⟨w.heap.size, 0, none⟩ : Addr).add j = ⟨w.heap.size, j, none⟩ := by unfold Addr.add; split <;> simp_all
    rw [hadd, World.cell?_alloc_at _ _ _ _ rfl]
    simpa using hj
  · intro v' w' h2 h3 h4
    exact h v' w' h2 ((World.grownBy_alloc w _ _).trans' h3) (by intro hh; have := (h4.1 hh).2; omega)
end Go.Proofs.YtdmkhipimcjipaaGreat
end
section
namespace Go.Proofs.YtdmkhipimcjipaaGreat
open Go.ChangeShapes Go.WideShapes Go.ChangeAt Go.RowKit
set_option linter.unusedVariables false
def bytesIn' (b : List Int) : Prop := ∀ j, 0 ≤ b.getD j 0 ∧ b.getD j 0 ≤ 255
theorem bytes_rd {H : Type} {enc : TypeId × Value → H} {P : Program} {w : World} {base fuel : Nat} {held : Bool} {t e : TypeId} {c : Value} {x : DataW H × List MemPlace} (ht : P.underlying t = some (.slice e)) (he : P.underlying e = some (.int .u8)) (hc : P.cellsOf e = 1)
    (h : DataW.trod enc P w base (fun _ => true) held fuel t [c] = some x) : ∃ zs, Rd w.heap.size .u8 w c zs ∧ bytesIn' zs := by
  rcases open_ints ht he hc h with ⟨hcs, _⟩ | ⟨a, len, cap, zs, hcs, _, hl, hm, hz, _, hcell, hwz⟩
  · simp only [List.cons.injEq, and_true] at hcs
    subst hcs
    exact ⟨[], .inl ⟨rfl, _, _, rfl⟩, fun j => by simp [List.getD]⟩
  · simp only [List.cons.injEq, and_true] at hcs
    subst hcs
    have hrow : (some a = none ∧ len = 0 ∧ cap = 0 ∧ zs = []) ∨ ∃ x, some a = some x ∧ len ≤ cap ∧ cap ≤ maxLen ∧ zs.length = cap ∧ (∀ i, i < zs.length → w.cell? (x.add i) = some (.int .u8 (zs.getD i 0))) ∧ ∀ n ∈ zs, (Lit.int .u8 n).wf = true :=
      .inr ⟨a, rfl, hl, hm, by simpa using hz, hcell, hwz⟩
    refine ⟨zs.take len, Rd.of_row hrow, fun j => ?_⟩
    have := range_u8 (wf_all hrow).2 j
    simpa [List.getD] using this
end Go.Proofs.YtdmkhipimcjipaaGreat
end
section
namespace Go.Proofs.YtdmkhipimcjipaaGreat
open Go.RowKit
set_option linter.unusedVariables false
def RdE {α : Type} (enc : α → List Value) (size B : Nat) (w : World) (v : Value) (xs : List α) : Prop :=
  (xs = [] ∧ ∃ a cap, v = .slice a 0 cap) ∨
  ∃ b off cap, v = .slice (some ⟨b, off, none⟩) xs.length cap ∧ b < B ∧ b < w.heap.size ∧ (xs.length ≤ maxLen ∧ xs.length ≤ cap) ∧
    ∀ (j : Nat) (x : α), xs[j]? = some x → ∀ t, t < size → w.cell? ⟨b, off + j * size + t, none⟩ = (enc x)[t]?
section
variable {α : Type} {enc : α → List Value} {size B B' : Nat} {w w' : World} {v : Value} {xs : List α}
theorem RdE.below (h : RdE enc size B w v xs) (hb : Below B' w w') (hB : B ≤ B') : RdE enc size B w' v xs := by
  rcases h with h | ⟨b, off, cap, h1, h2, h3, h4, h5⟩
  · exact .inl h
  · exact .inr ⟨b, off, cap, h1, h2, Nat.lt_of_lt_of_le h3 hb.size, h4, fun j x hj t ht => (hb.cell (p := ⟨b, _, none⟩) (by show b < B'; omega)).trans (h5 j x hj t ht)⟩
theorem RdE.below' (h : RdE enc size B w v xs) (hb : Below w.heap.size w w') : RdE enc size w.heap.size w' v xs := by
  rcases h with h | ⟨b, off, cap, h1, h2, h3, h4, h5⟩
  · exact .inl h
  · exact .inr ⟨b, off, cap, h1, h3, Nat.lt_of_lt_of_le h3 hb.size, h4, fun j x hj t ht => (hb.cell (p := ⟨b, _, none⟩) h3).trans (h5 j x hj t ht)⟩
theorem RdE.form (h : RdE enc size B w v xs) : ∃ a cap, v = .slice a xs.length cap := by
  rcases h with ⟨rfl, a, cap, rfl⟩ | ⟨b, off, cap, rfl, _⟩
  · exact ⟨_, _, rfl⟩
  · exact ⟨_, _, rfl⟩
theorem RdE.len (h : RdE enc size B w v xs) : xs.length ≤ maxLen := by
  rcases h with ⟨rfl, _⟩ | ⟨b, off, cap, _, _, _, h, _⟩
  · simp
  · exact h.1
theorem RdE.at_ (h : RdE enc size B w v xs) {k : Nat} (hk : k < xs.length) : ∃ b off cap, v = .slice (some ⟨b, off, none⟩) xs.length cap ∧ b < B ∧ b < w.heap.size ∧ xs.length ≤ cap ∧ ∀ t, t < size → w.cell? ⟨b, off + k * size + t, none⟩ = (enc xs[k])[t]? := by
  rcases h with ⟨rfl, _⟩ | ⟨b, off, cap, h1, h2, h3, h4, h5⟩
  · simp at hk
  · exact ⟨b, off, cap, h1, h2, h3, h4.2, fun t ht => h5 k _ (List.getElem?_eq_getElem hk) t ht⟩
end
def flat {α : Type} (enc : α → List Value) (xs : List α) : List Value := xs.flatMap enc
theorem flat_len {α : Type} {enc : α → List Value} {size : Nat} (hs : ∀ x, (enc x).length = size) (xs : List α) : (flat enc xs).length = xs.length * size := by
  induction xs with
  | nil => simp [flat]
  | cons x xs ih =>
    unfold flat at ih ⊢
    rw [List.flatMap_cons, List.length_append, hs, ih, List.length_cons, Nat.add_mul, Nat.one_mul, Nat.add_comm]
theorem flat_at {α : Type} {enc : α → List Value} {size : Nat} (hs : ∀ x, (enc x).length = size) : ∀ (xs : List α) (j : Nat) (x : α), xs[j]? = some x → ∀ t, t < size → (flat enc xs)[j * size + t]? = (enc x)[t]? := by
  intro xs
  induction xs with
  | nil => intro j x h; simp at h
  | cons y xs ih =>
    intro j x hj t ht
    unfold flat at ih ⊢
    rw [List.flatMap_cons]
    cases j with
    | zero =>
      simp only [List.getElem?_cons_zero, Option.some.injEq] at hj
      subst hj
      rw [Nat.zero_mul, Nat.zero_add, List.getElem?_append_left (by rw [hs]; exact ht)]
    | succ j =>
      rw [List.getElem?_append_right (by rw [hs, Nat.add_mul]; omega), hs, show (j + 1) * size + t - size = j * size + t by rw [Nat.add_mul]; omega]
      exact ih j x (by simpa using hj) t ht
theorem flat_snoc {α : Type} {enc : α → List Value} (xs : List α) (x : α) : flat enc (xs ++ [x]) = flat enc xs ++ enc x := by simp [flat]
theorem own_cellN {base : Nat} {e : TypeId} {size : Nat} {w : World} {g cap n : Nat} {xs : List Value} (h : w.ownsRow base e size (.slice (some ⟨g, 0, none⟩) n cap) n xs) (j : Nat) (hj : j < n * size) : w.cell? ⟨g, j, none⟩ = xs[j]? := by
  obtain ⟨h1, h2⟩ := h
  rcases h2 with ⟨hh, _⟩ | ⟨g', cap', cur, hv, hb, hg, hn, hm, hc, ht⟩
  · cases hh
  · cases hv
    rw [cell_of_row w g j cur e (0, 0) hg, ← ht, List.getElem?_take, if_pos hj, Array.getElem?_toList]
theorem own_setN {base : Nat} {e : TypeId} {size : Nat} {w : World} {g cap n : Nat} {xs : List Value} (h : w.ownsRow base e size (.slice (some ⟨g, 0, none⟩) n cap) n xs) (j : Nat) (hj : j < n * size) (u : Value) :
    (w.setCell ⟨g, j, none⟩ u).ownsRow base e size (.slice (some ⟨g, 0, none⟩) n cap) n (xs.set j u) := by
  obtain ⟨h1, h2⟩ := h
  refine ⟨by simpa using h1, ?_⟩
  rcases h2 with ⟨hh, _⟩ | ⟨g', cap', cur, hv, hb, hg, hn, hm, hc, ht⟩
  · cases hh
  · cases hv
    refine .inr ⟨g, cap, cur.setIfInBounds j u, rfl, hb, ?_, hn, hm, by simpa using hc, ?_⟩
    · have hlt := (Array.getElem?_eq_some_iff.1 hg).1
      simp only [World.setCell, Array.getElem?_modify, hg, if_pos]
      simp
    · rw [Array.toList_setIfInBounds, List.take_set, ht]
theorem RdE.of_own {α : Type} {enc : α → List Value} {size base : Nat} {e : TypeId} {w : World} {v : Value} {xs : List α} (hs : ∀ x, (enc x).length = size) (h : w.ownsRow base e size v xs.length (flat enc xs)) : RdE enc size w.heap.size w v xs := by
  obtain ⟨h1, h2⟩ := h
  rcases h2 with ⟨rfl, h0⟩ | ⟨g, cap, cur, rfl, hb, hg, hn, hm, hc, ht⟩
  · exact .inl ⟨List.eq_nil_of_length_eq_zero h0, none, 0, rfl⟩
  · have hlt : g < w.heap.size := (Array.getElem?_eq_some_iff.1 hg).1
    refine .inr ⟨g, 0, cap, rfl, hlt, hlt, ⟨by omega, hn⟩, fun j x hj t htt => ?_⟩
    have hjl : j < xs.length := (List.getElem?_eq_some_iff.1 hj).1
    have hlt2 : j * size + t < xs.length * size := by
      have : (j + 1) * size ≤ xs.length * size := Nat.mul_le_mul_right _ hjl
      rw [Nat.add_mul] at this
      omega
    rw [Nat.zero_add, cell_of_row w g _ cur e (0, 0) hg, ← flat_at hs xs j x hj t htt, ← ht, List.getElem?_take, if_pos hlt2, Array.getElem?_toList]
end Go.Proofs.YtdmkhipimcjipaaGreat
end
section
namespace Go.Proofs.YtdmkhipimcjipaaGreat
open Go.RowKit
set_option linter.unusedVariables false
theorem within_any (n lo hi : Int) (w : World) :
    Calls Tryz.prog 21 #[.int .i64 n, .int .i64 lo, .int .i64 hi] w fun e w' => e = .returned (.bool (inB n lo hi)) ∧ w = w' := by
  go_enter Tryz.func21, Tryz.ntmps21
  go_wp2
  all_goals go_ret
  all_goals exact ⟨ret_bool (by unfold inB; rw [Bool.eq_iff_iff]; simp; try omega), rfl⟩
theorem l1In_any (n lo hi : Int) (w : World) :
    Calls Tryz.prog 22 #[.int .i64 n, .int .i64 lo, .int .i64 hi] w fun e w' => e = .returned (.bool (inB n lo hi)) ∧ w = w' := by
  go_enter Tryz.func22, Tryz.ntmps22
  go_wp2
  all_goals go_ret
  all_goals exact ⟨ret_bool (by unfold inB; rw [Bool.eq_iff_iff]; simp; try omega), rfl⟩
theorem iWordOk_any (n : Int) (w : World) :
    Calls Tryz.prog 36 #[.int .i64 n] w fun e w' => e = .returned (.bool (wordB n)) ∧ w = w' := by
  go_enter Tryz.func36, Tryz.ntmps36
  go_wp2_with (go_at_call 21; refine (within_any _ _ _ _).mono ?_; rintro e w' ⟨rfl, rfl⟩)
  go_ret
  exact ⟨rfl, rfl⟩
theorem sWordOk_any (n : Int) (w : World) :
    Calls Tryz.prog 39 #[.int .i64 n] w fun e w' => e = .returned (.bool (wordB n)) ∧ w = w' := by
  go_enter Tryz.func39, Tryz.ntmps39
  go_wp2_with (go_at_call 22; refine (l1In_any _ _ _ _).mono ?_; rintro e w' ⟨rfl, rfl⟩)
  go_ret
  exact ⟨rfl, rfl⟩
end Go.Proofs.YtdmkhipimcjipaaGreat
end
section
namespace Go.Proofs.YtdmkhipimcjipaaGreat
open Go.RowKit
set_option linter.unusedVariables false
structure O3 where
  c : Int
  n : Int
  m : Int
deriving DecidableEq
def O3.enc (o : O3) : List Value := [.int .i64 o.c, .int .i64 o.n, .int .i64 o.m]
theorem O3.enc_len (o : O3) : o.enc.length = 3 := rfl
def o3In (o : O3) : Prop := (-9223372036854775808 ≤ o.c ∧ o.c ≤ 9223372036854775807) ∧ (-9223372036854775808 ≤ o.n ∧ o.n ≤ 9223372036854775807) ∧ (-9223372036854775808 ≤ o.m ∧ o.m ≤ 9223372036854775807)
abbrev RdO (B : Nat) (w : World) (v : Value) (os : List O3) : Prop := RdE O3.enc 3 B w v os
theorem RdO.at_ {B : Nat} {w : World} {v : Value} {os : List O3} (h : RdO B w v os) {k : Nat} (hk : k < os.length) : ∃ b off cap, v = .slice (some ⟨b, off, none⟩) os.length cap ∧ b < B ∧ b < w.heap.size ∧ os.length ≤ cap ∧
    w.cell? ⟨b, off + k * 3, none⟩ = some (.int .i64 os[k].c) ∧ w.cell? ⟨b, off + k * 3 + 1, none⟩ = some (.int .i64 os[k].n) ∧ w.cell? ⟨b, off + k * 3 + 2, none⟩ = some (.int .i64 os[k].m) := by
  obtain ⟨b, off, cap, h1, h2, h3, h4, h5⟩ := RdE.at_ h hk
  exact ⟨b, off, cap, h1, h2, h3, h4, h5 0 (by decide), h5 1 (by decide), h5 2 (by decide)⟩
theorem Tryz.infoOp : (Tryz.prog.info? 50).map (fun i => (i.zero, i.size, i.bytes)) = some (some (.agg #[.int .i64 0, .int .i64 0, .int .i64 0]), 3, 24) := by kernel_rfl
end Go.Proofs.YtdmkhipimcjipaaGreat
end
section
namespace Go.Proofs.YtdmkhipimcjipaaGreat
open Go.RowKit
set_option linter.unusedVariables false
theorem Tryz.infoOp2 : (Tryz.prog.info? 50).map (fun i => (i.zero, i.size, i.bytes)) = some (some (.agg #[.int .i64 0, .int .i64 0, .int .i64 0]), 3, 24) := by kernel_rfl
end Go.Proofs.YtdmkhipimcjipaaGreat
end
section
namespace Go.Proofs.YtdmkhipimcjipaaGreat
open Go.RowKit
set_option linter.unusedVariables false
structure F2 where
  f : Int
  os : List O3
deriving DecidableEq
def encFV (x : Int × Value) : List Value := [.int .i64 x.1, x.2]
theorem encFV_len (x : Int × Value) : (encFV x).length = 2 := rfl
def fnIn (x : F2) : Prop := (-9223372036854775808 ≤ x.f ∧ x.f ≤ 9223372036854775807) ∧ ∀ o ∈ x.os, o3In o
def AllF (B : Nat) (w : World) (fl : List (Int × Value)) (fs : List F2) : Prop := fl.length = fs.length ∧ ∀ j (h : j < fl.length) (h' : j < fs.length), fl[j].1 = fs[j].f ∧ RdO B w fl[j].2 fs[j].os
def RdF (B : Nat) (w : World) (v : Value) (fs : List F2) : Prop := ∃ fl, RdE encFV 2 B w v fl ∧ AllF B w fl fs
section
variable {B B' : Nat} {w w' : World} {v : Value} {fs : List F2}
theorem RdF.below (h : RdF B w v fs) (hb : Below B' w w') (hB : B ≤ B') : RdF B w' v fs := by
  obtain ⟨fl, h1, h2, h3⟩ := h
  exact ⟨fl, h1.below hb hB, h2, fun j h h' => ⟨(h3 j h h').1, RdE.below (h3 j h h').2 hb hB⟩⟩
theorem RdF.below' (h : RdF B w v fs) (hb : Below w.heap.size w w') : RdF w.heap.size w' v fs := by
  obtain ⟨fl, h1, h2, h3⟩ := h
  exact ⟨fl, h1.below' hb, h2, fun j h h' => ⟨(h3 j h h').1, RdE.below' (h3 j h h').2 hb⟩⟩
theorem RdF.form (h : RdF B w v fs) : ∃ a cap, v = .slice a fs.length cap := by
  obtain ⟨fl, h1, h2, h3⟩ := h
  rw [← h2]
  exact h1.form
theorem RdF.len (h : RdF B w v fs) : fs.length ≤ maxLen := by
  obtain ⟨fl, h1, h2, h3⟩ := h
  rw [← h2]
  exact h1.len
theorem RdF.at_ (h : RdF B w v fs) {k : Nat} (hk : k < fs.length) : ∃ b off cap lv, v = .slice (some ⟨b, off, none⟩) fs.length cap ∧ b < B ∧ b < w.heap.size ∧ fs.length ≤ cap ∧
    w.cell? ⟨b, off + k * 2, none⟩ = some (.int .i64 fs[k].f) ∧ w.cell? ⟨b, off + k * 2 + 1, none⟩ = some lv ∧ RdO B w lv fs[k].os := by
  obtain ⟨fl, h1, h2, h3⟩ := h
  have hk2 : k < fl.length := by omega
  obtain ⟨b, off, cap, e1, e2, e3, e4, e5⟩ := RdE.at_ h1 hk2
  obtain ⟨e6, e7⟩ := h3 k hk2 hk
  refine ⟨b, off, cap, fl[k].2, by rw [← h2]; exact e1, e2, e3, by omega, ?_, e5 1 (by decide), e7⟩
  rw [← e6]
  exact e5 0 (by decide)
end
def Blk (u v : Value) : Prop := ∀ x y, u.ownBlock = some x → v.ownBlock = some y → x ≠ y
def OwnF (base : Nat) (w : World) (v : Value) (fs : List F2) : Prop := ∃ fl : List (Int × Value), w.ownsRow base 48 2 v fs.length (flat encFV fl) ∧ fl.length = fs.length ∧
  (∀ j (h : j < fl.length) (h' : j < fs.length), fl[j].1 = fs[j].f ∧ w.ownsRow base 50 3 fl[j].2 fs[j].os.length (flat O3.enc fs[j].os)) ∧ (∀ x ∈ fl, Blk v x.2) ∧ fl.Pairwise (fun x y => Blk x.2 y.2)
theorem RdF.of_own {base : Nat} {w : World} {v : Value} {fs : List F2} (h : OwnF base w v fs) : RdF w.heap.size w v fs := by
  obtain ⟨fl, h1, h2, h3, _⟩ := h
  refine ⟨fl, RdE.of_own encFV_len (by rw [h2]; exact h1), h2, fun j a b => ⟨(h3 j a b).1, RdE.of_own O3.enc_len (h3 j a b).2⟩⟩
theorem OwnF.below {base : Nat} {w w' : World} {v : Value} {fs : List F2} (h : OwnF base w v fs) (hb : Below w.heap.size w w') : OwnF base w' v fs := by
  obtain ⟨fl, h1, h2, h3, h4⟩ := h
  exact ⟨fl, own_below h1 hb (own_lt h1), h2, fun j a b => ⟨(h3 j a b).1, own_below (h3 j a b).2 hb (own_lt (h3 j a b).2)⟩, h4⟩
theorem OwnF.base {base base' : Nat} {w : World} {v : Value} {fs : List F2} (h : OwnF base w v fs) (hb : base' ≤ base) : OwnF base' w v fs := by
  obtain ⟨fl, h1, h2, h3, h4⟩ := h
  exact ⟨fl, own_base h1 hb, h2, fun j a b => ⟨(h3 j a b).1, own_base (h3 j a b).2 hb⟩, h4⟩
theorem OwnF.form {base : Nat} {w : World} {v : Value} {fs : List F2} (h : OwnF base w v fs) : ∃ a cap, v = .slice a fs.length cap := by
  obtain ⟨fl, h1, _⟩ := h
  exact own_form h1
def tot (fs : List F2) : Nat := (fs.map (fun x => x.os.length)).sum
theorem tot_mem : ∀ {fs : List F2} {x : F2}, x ∈ fs → x.os.length ≤ tot fs := by
  intro fs
  induction fs with
  | nil => intro x h; cases h
  | cons y fs ih =>
    intro x h
    have e : tot (y :: fs) = y.os.length + tot fs := by simp [tot]
    rcases List.mem_cons.1 h with rfl | h
    · omega
    · have := ih h; omega
end Go.Proofs.YtdmkhipimcjipaaGreat
end
section
namespace Go.Proofs.YtdmkhipimcjipaaGreat
open Go.RowKit Go.Ev
set_option linter.unusedVariables false
set_option linter.unusedSimpArgs false
def toO3 (o : OpL) : O3 := ⟨o.1, o.2.1, o.2.2⟩
def toF2 (f : FunL) : F2 := ⟨f.1, f.2.map toO3⟩
theorem ev_ls_cells {B : Nat} {ρ : Rho} {u : St} {w : World} {x o n e m : Nat} {full : Bool} {v : Value} {l : List S} (hr : Rel ρ u w) (h : LS ρ x o n e full v) (hB : ∀ x cb sh z, ρ x = some (cb, sh, z) → cb < B) (hc : cellsAt u x o m = some l) (hn : 0 < n) :
    l.length = m ∧ ∃ cb off cap, v = .slice (some ⟨cb, off, none⟩) n cap ∧ (cb < B ∧ cb < w.heap.size) ∧ n ≤ cap ∧ ∀ t sv, l[t]? = some sv → ∃ cv, w.cell? ⟨cb, off + t, none⟩ = some cv ∧ SR ρ sv cv := by
  obtain ⟨cb, sh, z, a, cap, e1, rfl, e2, e3, e4, e5, e6⟩ := h
  have ha := e4 (by omega)
  subst ha
  unfold cellsAt at hc
  cases hb : u.h.get x with
  | none => rw [hb] at hc; cases hc
  | some b =>
    rw [hb] at hc
    simp only at hc
    cases hle : Nat.ble (Nat.add o m) (llen b.c) with
    | false => rw [hle] at hc; cases hc
    | true =>
      rw [hle] at hc
      simp only [cond_true, Option.some.injEq] at hc
      have hle' : o + m ≤ b.c.length := by rw [← llen_eq]; exact Nat.le_of_ble_eq_true hle
      rw [ldrop_eq, ltake_eq] at hc
      subst hc
      have hlt : cb < w.heap.size := by
        obtain ⟨cs, el, f1, _⟩ := hr.blk x cb sh z e1
        rcases Nat.lt_or_ge cb w.heap.size with h | h
        · exact h
        · rw [Array.getElem?_eq_none h] at f1; cases f1
      refine ⟨by simp; omega, cb, sh + o, cap, rfl, ⟨hB _ _ _ _ e1, hlt⟩, e2, fun t sv ht => ?_⟩
      have ht' : b.c[o + t]? = some sv := by
        rw [List.getElem?_take] at ht
        split at ht
        · rw [List.getElem?_drop] at ht; exact ht
        · cases ht
      obtain ⟨_, k2⟩ := hr.con x cb sh z b e1 hb
      obtain ⟨cv, c1, c2⟩ := k2 _ _ ht'
      exact ⟨cv, by rw [Nat.add_assoc]; exact c1, c2⟩
theorem ev_opsS_at : ∀ (l : List OpL) (j : Nat) (o : OpL), l[j]? = some o → (opsS l)[j * 3]? = some (.i o.1) ∧ (opsS l)[j * 3 + 1]? = some (.i o.2.1) ∧ (opsS l)[j * 3 + 2]? = some (.i o.2.2)
  | [], j, o, h => by simp at h
  | x :: l, 0, o, h => by simp at h; subst h; exact ⟨rfl, rfl, rfl⟩
  | x :: l, j + 1, o, h => by
    obtain ⟨h1, h2, h3⟩ := ev_opsS_at l j o (by simpa using h)
    have e0 : (j + 1) * 3 = j * 3 + 3 := by omega
    rw [e0]
    exact ⟨h1, h2, h3⟩
theorem ev_ops_rd {B : Nat} {ρ : Rho} {u : St} {w : World} {ops : List OpL} {x : S} {v : Value} (hr : Rel ρ u w) (hs : SR ρ x v) (hB : ∀ x cb sh z, ρ x = some (cb, sh, z) → cb < B) (h : opsIs (cellsAt u) ops x = true) (hm : ops.length ≤ maxLen) : RdO B w v (ops.map toO3) := by
  cases x with
  | l b o n sz fl =>
    have h' : (Nat.beq sz 3 && Nat.beq n (llen ops) && (match cellsAt u b o (Nat.mul n 3) with | some l => lEq l (opsS ops) | none => false)) = true := h
    obtain ⟨h1, h2⟩ := (Bool.and_eq_true _ _).mp h'
    obtain ⟨h3, h4⟩ := (Bool.and_eq_true _ _).mp h1
    have e3 := Nat.eq_of_beq_eq_true h3
    have e4 := Nat.eq_of_beq_eq_true h4
    rw [llen_eq] at e4
    have hs' : LS ρ b o n sz fl v := hs
    cases ops with
    | nil =>
      obtain ⟨cb, sh, z, a, cap, _, rfl, _⟩ := hs'
      left
      exact ⟨rfl, _, cap, by rw [e4]; rfl⟩
    | cons op ops =>
      have hn : 0 < n := by rw [e4]; simp
      split at h2
      · rename_i l hl
        have el := lEq_eq h2
        obtain ⟨_, cb, off, cap, rfl, hcb, hcap, hc⟩ := ev_ls_cells hr hs' hB hl hn
        right
        have hlen : (List.map toO3 (op :: ops)).length = n := by rw [e4]; simp
        refine ⟨cb, off, cap, by rw [hlen], hcb.1, hcb.2, ⟨by simpa using hm, by rw [hlen]; exact hcap⟩, fun j y hj t ht => ?_⟩
        rw [List.getElem?_map] at hj
        obtain ⟨o', ho', rfl⟩ := Option.map_eq_some_iff.mp hj
        obtain ⟨k1, k2, k3⟩ := ev_opsS_at _ _ _ ho'
        rw [← el] at k1 k2 k3
        obtain ⟨c1, d1, s1⟩ := hc _ _ k1
        obtain ⟨c2, d2, s2⟩ := hc _ _ k2
        obtain ⟨c3, d3, s3⟩ := hc _ _ k3
        cases s1; cases s2; cases s3
        have ht' : t = 0 ∨ t = 1 ∨ t = 2 := by omega
        rcases ht' with rfl | rfl | rfl
        · exact d1
        · rw [Nat.add_assoc]; exact d2
        · rw [Nat.add_assoc]; exact d3
      · cases h2
  | _ => cases h
theorem ev_funsS_at {cells : Nat → Nat → Nat → Option (List S)} : ∀ (fs : List FunL) (l : List S), funsS cells fs l = true → ∀ (j : Nat) (f : FunL), fs[j]? = some f →
    ∃ x, l[j * 2]? = some (.i f.1) ∧ l[j * 2 + 1]? = some x ∧ opsIs cells f.2 x = true
  | [], l, h, j, f, hj => by simp at hj
  | g :: fs, l, h, j, f, hj => by
    rcases l with _ | ⟨a, _ | ⟨x, l'⟩⟩
    · simp [funsS] at h
    · cases a <;> simp [funsS] at h
    · cases a with
      | i n =>
        have h' : (ieq n g.1 && opsIs cells g.2 x && funsS cells fs l') = true := by simpa [funsS] using h
        obtain ⟨h1, h2⟩ := (Bool.and_eq_true _ _).mp h'
        obtain ⟨h3, h4⟩ := (Bool.and_eq_true _ _).mp h1
        rw [ieq_eq] at h3
        have h5 : n = g.1 := by simpa using h3
        cases j with
        | zero =>
          simp at hj; subst hj
          exact ⟨x, by rw [← h5]; rfl, rfl, h4⟩
        | succ j =>
          obtain ⟨y, k1, k2, k3⟩ := ev_funsS_at fs l' h2 j f (by simpa using hj)
          have e0 : (j + 1) * 2 = j * 2 + 2 := by omega
          rw [e0]
          exact ⟨y, k1, k2, k3⟩
      | _ => simp [funsS] at h
theorem ev_funs_rd {B : Nat} {ρ : Rho} {u : St} {w : World} {fs : List FunL} {x : S} {v : Value} (hr : Rel ρ u w) (hs : SR ρ x v) (hB : ∀ x cb sh z, ρ x = some (cb, sh, z) → cb < B) (h : funsIs (cellsAt u) fs x = true) (hm : fs.length ≤ maxLen) (hm2 : ∀ f ∈ fs, f.2.length ≤ maxLen) (h0 : 0 < fs.length) :
    RdF B w v (fs.map toF2) := by
  cases x with
  | l b o n sz fl =>
    have h' : (Nat.beq sz 2 && Nat.beq n (llen fs) && (match cellsAt u b o (Nat.mul n 2) with | some l => funsS (cellsAt u) fs l | none => false)) = true := h
    obtain ⟨h1, h2⟩ := (Bool.and_eq_true _ _).mp h'
    obtain ⟨h3, h4⟩ := (Bool.and_eq_true _ _).mp h1
    have e3 := Nat.eq_of_beq_eq_true h3
    have e4 := Nat.eq_of_beq_eq_true h4
    rw [llen_eq] at e4
    have hs' : LS ρ b o n sz fl v := hs
    have hn : 0 < n := by rw [e4]; exact h0
    split at h2
    · rename_i l hl
      obtain ⟨_, cb, off, cap, rfl, hcb, hcap, hc⟩ := ev_ls_cells hr hs' hB hl hn
      have H : ∀ j, ∃ lv, ∀ f, fs[j]? = some f → w.cell? ⟨cb, off + j * 2, none⟩ = some (.int .i64 f.1) ∧ w.cell? ⟨cb, off + j * 2 + 1, none⟩ = some lv ∧ RdO B w lv (f.2.map toO3) := by
        intro j
        cases hj : fs[j]? with
        | none => exact ⟨.bool true, fun f hf => by cases hf⟩
        | some f =>
          obtain ⟨y, k1, k2, k3⟩ := ev_funsS_at fs l h2 j f hj
          obtain ⟨c1, d1, s1⟩ := hc _ _ k1
          obtain ⟨c2, d2, s2⟩ := hc _ _ k2
          cases s1
          refine ⟨c2, fun f' hf => ?_⟩
          cases hf
          exact ⟨d1, by rw [Nat.add_assoc]; exact d2, ev_ops_rd hr s2 hB k3 (hm2 f (List.mem_of_getElem? hj))⟩
      obtain ⟨F, hF⟩ := Classical.skolem.mp H
      refine ⟨(List.range n).map (fun j => ((fs.getD j (0, [])).1, F j)), .inr ⟨cb, off, cap, by simp, hcb.1, hcb.2, ⟨by simp; omega, by simpa using hcap⟩, fun j y hj t ht => ?_⟩, by simp [e4], fun j hj hj' => ?_⟩
      · rw [List.getElem?_map] at hj
        obtain ⟨j', hj1, rfl⟩ := Option.map_eq_some_iff.mp hj
        obtain ⟨hjn, hjj⟩ := List.getElem?_eq_some_iff.mp hj1
        rw [List.getElem_range] at hjj
        subst hjj
        have hjn' : j < fs.length := by simpa [e4] using hjn
        obtain ⟨d1, d2, _⟩ := hF j fs[j] (List.getElem?_eq_getElem hjn')
        have eg : fs.getD j (0, []) = fs[j] := by rw [List.getD_eq_getElem?_getD, List.getElem?_eq_getElem hjn']; rfl
        have ht' : t = 0 ∨ t = 1 := by omega
        rcases ht' with rfl | rfl
        · rw [eg]; exact d1
        · exact d2
      · have hjn' : j < fs.length := by simpa using hj'
        obtain ⟨_, _, d3⟩ := hF j fs[j] (List.getElem?_eq_getElem hjn')
        have eg : fs.getD j (0, []) = fs[j] := by rw [List.getD_eq_getElem?_getD, List.getElem?_eq_getElem hjn']; rfl
        simp only [List.getElem_map, List.getElem_range]
        exact ⟨by rw [eg]; rfl, d3⟩
    · cases h2
  | _ => cases h
end Go.Proofs.YtdmkhipimcjipaaGreat
end
section
namespace Go.Proofs.YtdmkhipimcjipaaGreat
open Go.RowKit
set_option linter.unusedVariables false
def bytesIn (b : List Int) : Prop := ∀ j, 0 ≤ b.getD j 0 ∧ b.getD j 0 ≤ 255
def i64In (n : Int) : Prop := -9223372036854775808 ≤ n ∧ n ≤ 9223372036854775807
structure Cur (w : World) (g : Nat) (v : Value) (m : Nat) : Prop where
  ex : ∃ (i : Nat) (h : Int), Bx w g #[v, .int .i64 i, .int .i64 h] ∧ i ≤ m ∧ i64In h
theorem wrap_in (x : Int) : i64In (wrap64 x) := by unfold wrap64 i64In; omega
set_option maxHeartbeats 800000 in
set_option maxRecDepth 100000 in
theorem l1New_any {B : Nat} (v : Value) (zs : List Int) (w : World) (hr : Rd B .u8 w v zs) (hz : bytesIn zs) (hl : zs.length ≤ 4294967296) :
    Calls Tryz.prog 20 #[v] w fun e w' => (∃ g, e = .returned (.pointer (some ⟨g, 0, none⟩)) ∧ w.heap.size ≤ g ∧ Cur w' g v zs.length) ∧ Below w.heap.size w w' := by
  obtain ⟨a, c, rfl⟩ := hr.form
  have hc : ∀ k, k < zs.length → ∃ b off, a = some ⟨b, off, none⟩ ∧ w.cell? ⟨b, off + k, none⟩ = some (.int .u8 (zs.getD k 0)) := by
    intro k hk
    rcases hr with ⟨h', _⟩ | ⟨b, off, c', hv, _, _, _, hcell⟩
    · rw [h'] at hk; simp at hk
    · cases hv; exact ⟨b, off, rfl, hcell k hk⟩
  have HC := Lib.hid hc
  clear hr hc
  go_enter Tryz.func20, Tryz.ntmps20
  go_wp2
  go_loop [3, 4] (fun t i => ∃ (k : Nat) (h : Int), k ≤ zs.length ∧ i = .int .i64 k ∧ t = .int .i64 h ∧ 0 ≤ h ∧ h ≤ 9223372036) (fun _ i => zs.length - (intOf i).toNat)
  case atStart => exact ⟨0, _, Nat.zero_le _, rfl, rfl, by omega, by omega⟩
  case round =>
    obtain ⟨k, h, hk, rfl, rfl, h0, h1⟩ := hrel
    by_cases hlt : k < zs.length
    · by_cases h4 : k < 4000
      · obtain ⟨b, off, rfl, c0⟩ := HC.out k hlt
        obtain ⟨x0, x1⟩ := hz k
        obtain ⟨x, hxx⟩ : ∃ x, zs.getD k 0 = x := ⟨_, rfl⟩
        rw [hxx] at c0 x0 x1
        have hki : (k : Int) < (zs.length : Int) := by omega
        have hk4 : (k : Int) < 4000 := by omega
        clear hxx hz
        go_wp2
        go_round
        case rel => exact ⟨k + 1, _, hlt, by go_num, rfl, by omega, by omega⟩
        case measure => simp [intOf]; omega
      · have hk4 : ¬ (k : Int) < 4000 := by omega
        have hki : (k : Int) < (zs.length : Int) := by omega
        go_wp2
        go_ret
        refine ⟨⟨w.heap.size, rfl, Nat.le_refl _, ⟨0, h, ?_, Nat.zero_le _, by unfold i64In; omega⟩⟩, (Below.refl _ _).alloc (Nat.le_refl _) _⟩
        exact (Bx.alloc rfl).2
    · have hki : ¬ (k : Int) < (zs.length : Int) := by omega
      go_wp2
      go_ret
      refine ⟨⟨w.heap.size, rfl, Nat.le_refl _, ⟨0, h, ?_, Nat.zero_le _, by unfold i64In; omega⟩⟩, (Below.refl _ _).alloc (Nat.le_refl _) _⟩
      exact (Bx.alloc rfl).2
theorem Bx.set_ {w : World} {g : Nat} {cur : Array Value} (h : Bx w g cur) (i : Nat) (hi : i < cur.size) (u : Value) : Bx (w.setCell ⟨g, i, none⟩ u) g (cur.setIfInBounds i u) := by
  refine ⟨by rw [World.size_setCell]; exact h.1, fun j => ?_, fun j => by rw [World.frozen?_setCell]; exact h.2.2 j⟩
  by_cases hj : i = j
  · subst hj
    rw [World.cell?_setCell_same _ _ _ ((h.2.1 i).trans (Array.getElem?_eq_getElem hi))]
    simp [hi]
  · rw [World.cell?_setCell_other _ _ _ _ (by intro he; injection he; exact hj (by assumption)), h.2.1 j, Array.getElem?_setIfInBounds_ne hj]
theorem drewN_grown (w : World) (n : Nat) (row : Option Nat) : w.grownBy (w.drewN n) row := ⟨rfl, rfl, rfl, Nat.le_refl _, fun _ _ _ => rfl⟩
def Byte (e : Ending) : Prop := ∃ x : Int, e = .returned (.int .i64 x) ∧ 0 ≤ x ∧ x ≤ 255
set_option maxHeartbeats 1600000 in
set_option maxRecDepth 100000 in
theorem l1Byte_any {B g : Nat} (v : Value) (zs : List Int) (w : World) (hC : Cur w g v zs.length) (hr : Rd B .u8 w v zs) (hz : bytesIn zs) (hl : zs.length ≤ 4294967296) (hg : B ≤ g) :
    Calls Tryz.prog 33 #[.pointer (some ⟨g, 0, none⟩)] w fun e w' => Byte e ∧ Cur w' g v zs.length ∧ w.grownBy w' (some g) := by
  obtain ⟨i, h, kb, hi, hh⟩ := hC
  obtain ⟨a, c, rfl⟩ := hr.form
  have hc : ∀ k, k < zs.length → ∃ b off, a = some ⟨b, off, none⟩ ∧ b ≠ g ∧ b < w.heap.size ∧ w.cell? ⟨b, off + k, none⟩ = some (.int .u8 (zs.getD k 0)) := by
    intro k hk
    rcases hr with ⟨h', _⟩ | ⟨b, off, c', hv, hB, hbs, _, hcell⟩
    · rw [h'] at hk; simp at hk
    · cases hv; exact ⟨b, off, rfl, by omega, hbs, hcell k hk⟩
  have HC := Lib.hid hc
  obtain ⟨h0, h1⟩ := hh
  have k2 := fun (x : Int) => kb.set_ 2 (by simp) (.int .i64 x)
  have q1 := kb.2.1
  have f1 := kb.2.2
  have K2 := Lib.hid k2
  clear hr hc k2 kb
  go_enter Tryz.func33, Tryz.ntmps33
  go_wp2_with fail
  generalize hx : w.setCell ⟨g, 2, none⟩ _ = w1
  have hy : ∃ y, i64In y ∧ w.setCell ⟨g, 2, none⟩ (.int .i64 y) = w1 := ⟨_, wrap_in _, hx⟩
  clear hx
  obtain ⟨y, hy0, rfl⟩ := hy
  have k2 := K2.out y
  have g2 := grownBy.setCell w g 2 (.int .i64 y)
  generalize hx : w.setCell ⟨g, 2, none⟩ (.int .i64 y) = w1 at k2 g2 ⊢
  clear hx q1 f1 K2
  have k2' : Bx w1 g #[.slice a zs.length c, .int .i64 i, .int .i64 y] := by simpa using k2
  have q1 := k2'.2.1
  clear k2
  go_quiet (fail)
  have k3 := k2'.below (below_drewN (Below.refl _ w1) nq) k2'.1
  have g3 := g2.trans' (drewN_grown w1 nq (some g))
  generalize hx : w1.drewN nq = w2 at k3 g3 ⊢
  clear hx q1 k2' g2 nq w1
  go_wp2_with fail
  obtain ⟨x, hxe⟩ : ∃ x, bits .xor .i64 (y / 8589934592) (y / 35184372088832) % 256 = x := ⟨_, rfl⟩
  have hx0 : 0 ≤ x := by rw [← hxe]; exact Int.emod_nonneg _ (by decide)
  have hx1 : x < 256 := by rw [← hxe]; exact Int.emod_lt_of_pos _ (by decide)
  rw [hxe]
  clear hxe
  have q1 := k3.2.1
  by_cases hlt : i < zs.length
  · obtain ⟨b, off, rfl, hbg, hbs, c0⟩ := HC.out i hlt
    obtain ⟨d, hd⟩ : ∃ d, zs.getD i 0 = d := ⟨_, rfl⟩
    obtain ⟨d0, d1⟩ := hz i
    rw [hd] at c0 d0 d1
    have c1 := (g3.cell_far ⟨b, off + i, none⟩ hbs (by intro h; exact hbg (Option.some.inj h))).trans c0
    have hii : (i : Int) < (zs.length : Int) := by omega
    clear hd hz c0
    go_quiet (fail)
    have k4 := k3.below (below_drewN (Below.refl _ w2) nq) k3.1
    have g4 := g3.trans' (drewN_grown w2 nq (some g))
    have c4 : (w2.drewN nq).cell? ⟨b, off + i, none⟩ = some (.int .u8 d) := c1
    generalize hx : w2.drewN nq = w3 at k4 g4 c4 ⊢
    clear hx q1 k3 g3 c1 nq w2
    have q1 := k4.2.1
    go_wp2_with fail
    go_quiet (fail)
    have k5 := k4.below (below_drewN (Below.refl _ w3) nq) k4.1
    have g5 := g4.trans' (drewN_grown w3 nq (some g))
    generalize hx : w3.drewN nq = w4 at k5 g5 ⊢
    clear hx q1 k4 g4 c4 nq w3
    have q1 := k5.2.1
    have f1 := k5.2.2
    have k6 := Lib.hid (k5.set_ 1 (by simp) (.int .i64 ((i : Int) + 1)))
    have g6 := Lib.hid (g5.trans' (grownBy.setCell w4 g 1 (.int .i64 ((i : Int) + 1))))
    clear k5 g5
    go_wp2
    go_ret
    exact ⟨⟨_, rfl, by omega, by omega⟩, ⟨i + 1, y, by simpa using k6.out, hlt, hy0⟩, g6.out⟩
  · have hii : ¬ (i : Int) < (zs.length : Int) := by omega
    clear hz HC
    go_quiet (fail)
    have k4 := k3.below (below_drewN (Below.refl _ w2) nq) k3.1
    have g4 := g3.trans' (drewN_grown w2 nq (some g))
    generalize hx : w2.drewN nq = w3 at k4 g4 ⊢
    clear hx q1 k3 g3 nq w2
    go_wp2
    go_ret
    exact ⟨⟨_, rfl, by omega, by omega⟩, ⟨i, y, k4, hi, hy0⟩, g4⟩
theorem Rd.grown_row {B g : Nat} {k : IntKind} {w w' : World} {v : Value} {zs : List Int} (h : Rd B k w v zs) (hg : w.grownBy w' (some g)) (hB : B ≤ g) : Rd B k w' v zs := by
  rcases h with h | ⟨b, off, cap, h1, h2, h3, h4, h5⟩
  · exact .inl h
  · exact .inr ⟨b, off, cap, h1, h2, Nat.lt_of_lt_of_le h3 hg.size, h4, fun j hj => (hg.cell_far ⟨b, off + j, none⟩ h3 (by intro h; have := Option.some.inj h; dsimp only at this; omega)).trans (h5 j hj)⟩
def Under (n : Int) (e : Ending) : Prop := ∃ r : Int, e = .returned (.int .i64 r) ∧ (n ≤ 0 → r = 0) ∧ (0 < n → 0 ≤ r ∧ r < n)
set_option maxHeartbeats 1600000 in
set_option maxRecDepth 100000 in
theorem l1Below_any {B g : Nat} (v : Value) (zs : List Int) (n : Int) (w : World) (hC : Cur w g v zs.length) (hr : Rd B .u8 w v zs) (hz : bytesIn zs) (hl : zs.length ≤ 4294967296) (hg : B ≤ g) (hn : i64In n) :
    Calls Tryz.prog 23 #[.pointer (some ⟨g, 0, none⟩), .int .i64 n] w fun e w' => Under n e ∧ Cur w' g v zs.length ∧ w.grownBy w' (some g) := by
  have HB := Lib.hid (fun (W : World) (hC : Cur W g v zs.length) (hr : Rd B .u8 W v zs) => l1Byte_any v zs W hC hr hz hl hg)
  obtain ⟨n0, n1⟩ := hn
  by_cases h0 : n ≤ 0
  · have Cc := hC
    clear HB hC hr
    go_enter Tryz.func23, Tryz.ntmps23
    go_wp2
    go_ret
    exact ⟨⟨0, rfl, fun _ => rfl, fun h => by omega⟩, Cc, grownBy.refl _ _⟩
  · have hp : 0 < n := by omega
    by_cases h256 : n ≤ 256
    · have HC := Lib.hid hC
      have HR := Lib.hid hr
      clear hC hr
      go_enter Tryz.func23, Tryz.ntmps23
      go_wp2_with fail
      refine (HB.out w HC.out HR.out).mono ?_
      rintro e w1 ⟨⟨x, rfl, x0, x1⟩, c1, g1⟩
      have C1 := Lib.hid c1
      have G1 := Lib.hid g1
      have m0 : 0 ≤ x % n := Int.emod_nonneg _ (by omega)
      have m1 : x % n < n := Int.emod_lt_of_pos _ hp
      clear c1 g1
      go_wp2
      go_ret
      exact ⟨⟨_, rfl, fun h => by omega, fun _ => ⟨m0, m1⟩⟩, C1.out, G1.out⟩
    · have HC := Lib.hid hC
      have HR := Lib.hid hr
      clear hC hr
      go_enter Tryz.func23, Tryz.ntmps23
      go_wp2_with fail
      refine (HB.out w HC.out HR.out).mono ?_
      rintro e w1 ⟨⟨x1, rfl, x10, x11⟩, c1, g1⟩
      have C1 := Lib.hid c1
      have G1 := Lib.hid g1
      clear c1 g1
      go_wp2_with fail
      refine (HB.out w1 C1.out (HR.out.grown_row G1.out hg)).mono ?_
      rintro e w2 ⟨⟨x2, rfl, x20, x21⟩, c2, g2⟩
      have C2 := Lib.hid c2
      have G2 := Lib.hid (G1.out.trans' g2)
      clear c2 g2
      go_wp2_with fail
      refine (HB.out w2 C2.out (HR.out.grown_row G2.out hg)).mono ?_
      rintro e w3 ⟨⟨x3, rfl, x30, x31⟩, c3, g3⟩
      have C3 := Lib.hid c3
      have G3 := Lib.hid (G2.out.trans' g3)
      clear c3 g3
      go_wp2_with fail
      refine (HB.out w3 C3.out (HR.out.grown_row G3.out hg)).mono ?_
      rintro e w4 ⟨⟨x4, rfl, x40, x41⟩, c4, g4⟩
      have C4 := Lib.hid c4
      have G4 := Lib.hid (G3.out.trans' g4)
      clear c4 g4
      have HM := Lib.hid (fun (y : Int) => And.intro (Int.emod_nonneg y (show n ≠ 0 by omega)) (Int.emod_lt_of_pos y hp))
      go_wp2
      go_ret
      exact ⟨⟨_, rfl, fun h => by omega, fun _ => HM.out _⟩, C4.out, G4.out⟩
set_option maxHeartbeats 1600000 in
set_option maxRecDepth 100000 in
theorem l1PickInt_any {B B2 g : Nat} (v u : Value) (zs ys : List Int) (w : World) (hC : Cur w g v zs.length) (hr : Rd B .u8 w v zs) (hz : bytesIn zs) (hl : zs.length ≤ 4294967296) (hg : B ≤ g)
    (hy : Rd B2 .i64 w u ys) (h0 : 0 < ys.length) (h1 : ys.length ≤ 4294967296) (hne : ∀ a n c, u = .slice (some a) n c → a.block ≠ g) :
    Calls Tryz.prog 19 #[.pointer (some ⟨g, 0, none⟩), u] w fun e w' => (∃ x, e = .returned (.int .i64 x) ∧ x ∈ ys) ∧ Cur w' g v zs.length ∧ w.grownBy w' (some g) := by
  have HB := Lib.hid (fun (W : World) (hC : Cur W g v zs.length) (hr : Rd B .u8 W v zs) => l1Below_any v zs ys.length W hC hr hz hl hg (by unfold i64In; omega))
  rcases hy with ⟨h', _⟩ | ⟨b, off, c, rfl, hb2, hbs, hm, hc⟩
  · rw [h'] at h0; simp at h0
  have hbg : b ≠ g := hne _ _ _ rfl
  have HC := Lib.hid hC
  have HR := Lib.hid hr
  have HY := Lib.hid hc
  clear hC hr hc hne
  go_enter Tryz.func19, Tryz.ntmps19
  go_wp2_with fail
  refine (HB.out w HC.out HR.out).mono ?_
  rintro e w1 ⟨⟨r, rfl, _, hr2⟩, c1, g1⟩
  obtain ⟨r0, r1⟩ := hr2 (by omega)
  obtain ⟨k, rfl⟩ := Int.eq_ofNat_of_zero_le r0
  have c0 := (g1.cell_far ⟨b, off + k, none⟩ hbs (by intro h; exact hbg (Option.some.inj h))).trans (HY.out k (by omega))
  have hmem : ys.getD k 0 ∈ ys := by
    rw [List.getD_eq_getElem?_getD, List.getElem?_eq_getElem (show k < ys.length by omega)]
    exact List.getElem_mem _
  obtain ⟨x, hx⟩ : ∃ x, ys.getD k 0 = x := ⟨_, rfl⟩
  rw [hx] at c0 hmem
  have C1 := Lib.hid c1
  have G1 := Lib.hid g1
  have HM := Lib.hid hmem
  clear c1 g1 hx hmem hr2
  go_wp2
  go_ret
  exact ⟨⟨x, rfl, HM.out⟩, C1.out, G1.out⟩
end Go.Proofs.YtdmkhipimcjipaaGreat
end
section
namespace Go.Proofs.YtdmkhipimcjipaaGreat
open Go.RowKit
set_option linter.unusedVariables false
set_option linter.unusedSimpArgs false
theorem grow_step {w0 w w' : World} {g : Nat} {r : Option Nat} (h : w0.grownBy w (some g)) (k : w.grownBy w' r) (hr : ∀ i, r = some i → i = g ∨ w0.heap.size ≤ i) : w0.grownBy w' (some g) := by
  refine ⟨k.os.trans h.os, k.tape.trans h.tape, k.output.trans h.output, Nat.le_trans h.size k.size, fun i hi hne => ?_⟩
  refine (k.block i (Nat.lt_of_lt_of_le hi h.size) (fun e => ?_)).trans (h.block i hi hne)
  rcases hr i e.symm with rfl | h'
  · exact hne rfl
  · omega
theorem Cur.below {w w' : World} {g m : Nat} {v : Value} (h : Cur w g v m) (hb : Below w.heap.size w w') : Cur w' g v m := by
  obtain ⟨i, x, k, hh⟩ := h
  exact ⟨i, x, k.below hb k.1, hh⟩
theorem Cur.lt {w : World} {g m : Nat} {v : Value} (h : Cur w g v m) : g < w.heap.size := by
  obtain ⟨i, x, k, hh⟩ := h
  exact k.1
theorem Cur.kept {w w' : World} {g m : Nat} {v : Value} {r : Option Nat} (h : Cur w g v m) (hg : w.grownBy w' r) (hr : some g ≠ r) : Cur w' g v m := by
  obtain ⟨i, x, k, hh⟩ := h
  exact ⟨i, x, k.grown hg hr, hh⟩
theorem own_far {base : Nat} {e : TypeId} {sz n : Nat} {w : World} {v : Value} {xs : List Value} (h : w.ownsRow base e sz v n xs) {g : Nat} (hg : g < base) : v.ownBlock = none ∨ v.ownBlock ≠ some g := by
  rcases hv : v.ownBlock with _ | k
  · exact .inl rfl
  · right
    intro he
    have := (h.lt k hv).1
    injection he with he
    omega
theorem own_made {w x : World} {A : Array Value} {e : TypeId} (h : w.alloc (.cells A e) = x) {base : Nat} (hb : base ≤ w.heap.size) (n : Nat) (hn : A.size = n) (hm : n ≤ maxLen) : x.ownsRow base e 1 (.slice (some ⟨w.heap.size, 0, none⟩) n n) n A.toList := by
  subst h
  refine ⟨by simpa using hn, .inr ⟨w.heap.size, n, A, rfl, hb, heap_alloc_new w _, Nat.le_refl _, hm, by simpa using hn, ?_⟩⟩
  rw [Nat.mul_one, List.take_of_length_le (by simp; omega)]
end Go.Proofs.YtdmkhipimcjipaaGreat
end
section
namespace Go.Proofs.YtdmkhipimcjipaaGreat
open Go.RowKit
set_option linter.unusedVariables false
theorem Rd.made {w x : World} {A : Array Value} {e : TypeId} (h : w.alloc (.cells A e) = x) (ys : List Int) (hA : A = (ys.map (Value.int .i64)).toArray) (hl : ys.length ≤ 4294967296) : Rd x.heap.size .i64 x (.slice (some ⟨w.heap.size, 0, none⟩) ys.length ys.length) ys := by
  subst hA
  obtain ⟨_, k⟩ := Bx.alloc h
  refine .inr ⟨w.heap.size, 0, ys.length, rfl, k.1, k.1, ⟨by unfold maxLen; omega, Nat.le_refl _⟩, fun j hj => ?_⟩
  rw [Nat.zero_add, k.2.1 j]
  simp [List.getD, List.getElem?_eq_getElem hj]
theorem all_in {ys : List Int} (h : ys.all (fun x => inB x (-9223372036854775808) 9223372036854775807) = true) {x : Int} (hx : x ∈ ys) : i64In x := by
  rw [List.all_eq_true] at h
  exact inB_true.1 (h x hx)
set_option maxHeartbeats 800000 in
theorem big_any {B : Nat} (v : Value) (zs : List Int) (w : World) (hr : Rd B .u8 w v zs) :
    Calls Tryz.prog 4 #[v] w fun e w' => e = .returned (.bool (decide (1048576 < zs.length))) ∧ w = w' := by
  have hl := hr.len
  unfold maxLen at hl
  obtain ⟨a, c, rfl⟩ := hr.form
  clear hr
  go_enter Tryz.func4, Tryz.ntmps4
  go_wp2
  go_ret
  exact ⟨ret_bool (by rw [decide_eq_decide]; omega), rfl⟩
end Go.Proofs.YtdmkhipimcjipaaGreat
end
section
namespace Go.Proofs.YtdmkhipimcjipaaGreat
open Go.RowKit
set_option linter.unusedVariables false
set_option linter.unusedSimpArgs false
set_option maxHeartbeats 800000 in
set_option maxRecDepth 100000 in
theorem l1Once_any {B g : Nat} (v : Value) (zs : List Int) (n : Int) (w : World) (hC : Cur w g v zs.length) (hr : Rd B .u8 w v zs) (hz : bytesIn zs) (hl : zs.length ≤ 4294967296) (hg : B ≤ g) (hn : i64In n) :
    Calls Tryz.prog 24 #[.pointer (some ⟨g, 0, none⟩), .int .i64 n] w fun e w' => (∃ b, e = .returned (.bool b)) ∧ Cur w' g v zs.length ∧ w.grownBy w' (some g) := by
  have HB := Lib.hid (l1Below_any v zs n w hC hr hz hl hg hn)
  clear hC hr
  go_enter Tryz.func24, Tryz.ntmps24
  go_wp2_with fail
  refine HB.out.mono ?_
  rintro e w1 ⟨⟨r, rfl, _, _⟩, c1, g1⟩
  have C1 := Lib.hid c1
  have G1 := Lib.hid g1
  clear c1 g1
  go_wp2
  go_ret
  exact ⟨⟨_, rfl⟩, C1.out, G1.out⟩
end Go.Proofs.YtdmkhipimcjipaaGreat
end
