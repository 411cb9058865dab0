import Derived.Test.YtlkdlcpfcacigaaRows
import Derived.Test.YtlkdlcpfcacigaaMgLib
import Derived.Test.YtlkdlcpfcacigaaMgScalar
/- l7In, slices.Contains, slices.BinarySearch at ints. -/
namespace Go.Proofs.Ytlkdlcpfcacigaa
open Go.RowKit
set_option linter.unusedVariables false

theorem notin_step {zs : List Int} {n : Int} {k : Nat} (h : ∀ j, j < k → zs.getD j 0 ≠ n) (he : zs.getD k 0 ≠ n) : ∀ j, j < k + 1 → zs.getD j 0 ≠ n := by
  intro j hj
  by_cases e : j = k
  · subst e; exact he
  · exact h j (by omega)
theorem mem_of_get {zs : List Int} {n : Int} {k : Nat} (hk : k < zs.length) (h : zs.getD k 0 = n) : n ∈ zs := by
  subst h
  simp [List.getD, List.getElem?_eq_getElem hk]
theorem notin_all {zs : List Int} {n : Int} (h : ∀ j, j < zs.length → zs.getD j 0 ≠ n) : n ∉ zs := by
  intro hm
  obtain ⟨i, hi, he⟩ := List.getElem_of_mem hm
  exact h i hi (by simp [List.getD, List.getElem?_eq_getElem hi, he])

set_option maxHeartbeats 400000 in
theorem l7In_any {B : Nat} (v : Value) (zs : List Int) (n : Int) (w : World) (hr : Rd B .i64 w v zs) :
    Calls Try.prog 57 #[v, .int .i64 n] w fun e w' => e = .returned (.bool (decide (n ∈ zs))) ∧ w = w' := by
  have hx := hr.len
  unfold maxLen at hx
  rcases hr with ⟨rfl, a, cap, rfl⟩ | ⟨b, off, cap, rfl, hB, hbs, hm, hc⟩
  · go_enter Try.func57, Try.ntmps57
    go_wp2
    refine wp_loop_rounds 1 ?_
    rw [rounds_succ]
    go_wp2
    go_ret
    exact ⟨ret_bool (by simp), rfl⟩
  · go_enter Try.func57, Try.ntmps57
    go_wp2
    go_loop [5] (fun i => ∃ k : Nat, k ≤ zs.length ∧ i = .int .i64 k ∧ Hid (∀ j, j < k → zs.getD j 0 ≠ n)) (fun i => zs.length - (intOf i).toNat)
    case atStart => exact ⟨0, Nat.zero_le _, rfl, fun j hj => by omega⟩
    case round =>
      obtain ⟨k, hk, rfl, hd⟩ := hrel
      by_cases hlt : k < zs.length
      · have c1 := hc k hlt
        obtain ⟨x, hx⟩ : ∃ x, zs.getD k 0 = x := ⟨_, rfl⟩
        rw [hx] at c1
        have HX := Lib.hid hx
        clear hc hx
        by_cases he : x = n
        · subst he
          go_wp2
          go_ret
          exact ⟨ret_bool (by symm; rw [decide_eq_true_iff]; exact mem_of_get hlt HX.out), rfl⟩
        · have he1 : (x == n) = false := by simpa using he
          go_wp2
          go_round
          case rel => exact ⟨k + 1, hlt, by go_num, notin_step hd.out (by rw [HX.out]; exact he)⟩
          case measure => simp [intOf]; omega
      · go_wp2
        go_ret
        exact ⟨ret_bool (by symm; rw [decide_eq_false_iff_not]; exact notin_all (fun j hj => hd.out j (by omega))), rfl⟩

/-- an index, not below 0 just where n is there. -/
def Found (zs : List Int) (n : Int) (e : Ending) : Prop := ∃ r : Int, e = .returned (.int .i64 r) ∧ (0 ≤ r ↔ n ∈ zs)

theorem sorted_le {zs : List Int} (h : zs.Pairwise (· < ·)) {k m : Nat} (hk : k ≤ m) (hm : m < zs.length) : zs.getD k 0 ≤ zs.getD m 0 := by
  by_cases e : k = m
  · subst e; omega
  · have := List.pairwise_iff_getElem.1 h k m (by omega) hm (by omega)
    simp [List.getD, List.getElem?_eq_getElem hm, List.getElem?_eq_getElem (show k < zs.length by omega)]
    omega
theorem bs_no {zs : List Int} {n : Int} {p : Nat} (h1 : ∀ k, k < p → zs.getD k 0 < n) (h2 : ∀ k, p ≤ k → k < zs.length → n < zs.getD k 0) : n ∉ zs := by
  refine notin_all fun j hj => ?_
  by_cases e : j < p
  · have := h1 j e; omega
  · have := h2 j (by omega) hj; omega
theorem bs_mid {i j : Nat} (h : i < j) (hj : j ≤ 9223372036854775807) : i ≤ (i + j) / 2 ∧ (i + j) / 2 < j := by omega
/-- what is told of a search. -/
def Sought (zs : List Int) (n : Int) (e : Ending) : Prop := ∃ r : Int, e = .returned (.tuple #[.int .i64 r, .bool (decide (n ∈ zs))])

end Go.Proofs.Ytlkdlcpfcacigaa

/- wordOk, l17There: whether a word is one of a heap; whether all of some words are. -/
namespace Go.Proofs.Ytlkdlcpfcacigaa
open Go.RowKit
set_option linter.unusedVariables false

/-- places as numbers. -/
def nums (ps : List Nat) : List Int := ps.map fun (p : Nat) => (p : Int)
theorem nums_len (ps : List Nat) : (nums ps).length = ps.length := by simp [nums]
theorem mem_nums {ps : List Nat} {x : Int} : x ∈ nums ps ↔ ∃ p ∈ ps, (p : Int) = x := by simp [nums]
theorem nums_sorted {ps : List Nat} (h : ps.Pairwise (· < ·)) : (nums ps).Pairwise (· < ·) := by
  unfold nums
  rw [List.pairwise_map]
  exact h.imp fun h => by omega
theorem wordIn_even {ps : List Nat} {x : Int} (h : x % 2 = 0) : wordIn ps x = decide (x / 2 ∈ nums ps) := by
  unfold wordIn
  rw [if_pos h]
  simp only [mem_nums]
theorem wordIn_odd {ps : List Nat} {x : Int} (h : ¬ x % 2 = 0) : wordIn ps x = wordB (x / 2) := by
  unfold wordIn
  rw [if_neg h]

set_option maxHeartbeats 400000 in
theorem l17There_any {B : Nat} (v : Value) (ps : List Nat) (x : Int) (w : World) (hr : Rd B .i64 w v (nums ps)) :
    Calls Try.prog 41 #[v, .int .i64 x] w fun e w' => e = .returned (.bool (wordIn ps x)) ∧ w = w' := by
  have hs' := l7In_any v (nums ps) (x / 2) w hr
  have HS := Lib.hid hs'
  obtain ⟨a, cap, rfl⟩ := hr.form
  clear hr hs'
  by_cases h : x % 2 = 0
  · have e1 : (x % 2 == 0) = true := by simpa using h
    have HF := Lib.hid (wordIn_even (ps := ps) h)
    clear h
    go_enter Try.func41, Try.ntmps41
    go_wp2_with (first | (go_at_call 58; refine (sWordRef_any _ _).mono ?_; rintro e w' ⟨rfl, rfl⟩) | (go_at_call 56; refine (sIsRef_any _ _).mono ?_; rintro e w' ⟨rfl, rfl⟩))
    refine HS.out.mono ?_
    rintro e w' ⟨rfl, rfl⟩
    go_wp2
    go_ret
    exact ⟨ret_bool HF.out.symm, rfl⟩
  · have e1 : (x % 2 == 0) = false := by simpa using h
    have HF := Lib.hid (wordIn_odd (ps := ps) h)
    clear h
    go_enter Try.func41, Try.ntmps41
    go_wp2_with (first | (go_at_call 59; refine (sWordInt_any _ _).mono ?_; rintro e w' ⟨rfl, rfl⟩) | (go_at_call 56; refine (sIsRef_any _ _).mono ?_; rintro e w' ⟨rfl, rfl⟩) | (go_at_call 42; refine (sWordOk_any _ _).mono ?_; rintro e w' ⟨rfl, rfl⟩))
    go_ret
    exact ⟨ret_bool HF.out.symm, rfl⟩

end Go.Proofs.Ytlkdlcpfcacigaa

/- slices.ContainsFunc over words, with the closures of HeapOk and rootsOk: whether some word is none of a heap's. -/
namespace Go.Proofs.Ytlkdlcpfcacigaa
open Go.RowKit
set_option linter.unusedVariables false

/-- an index, not below 0 just where some word is none of the heap's. -/
def FoundOut (ps : List Nat) (xs : List Int) (e : Ending) : Prop := ∃ r : Int, e = .returned (.int .i64 r) ∧ (0 ≤ r ↔ xs.all (wordIn ps) = false)
theorem out_here {ps : List Nat} {xs : List Int} {x : Int} {k : Nat} (hk : k < xs.length) (hx : xs.getD k 0 = x) (h : wordIn ps x = false) : xs.all (wordIn ps) = false := by
  rw [List.all_eq_false]
  exact ⟨x, mem_of_get hk hx, by rw [h]; simp⟩
theorem out_none {ps : List Nat} {xs : List Int} (h : ∀ j, j < xs.length → wordIn ps (xs.getD j 0) = true) : xs.all (wordIn ps) = true := by
  rw [List.all_eq_true]
  intro x hx
  obtain ⟨i, hi, he⟩ := List.getElem_of_mem hx
  have := h i hi
  simpa [List.getD, List.getElem?_eq_getElem hi, he] using this
theorem out_step {ps : List Nat} {xs : List Int} {k : Nat} (h : ∀ j, j < k → wordIn ps (xs.getD j 0) = true) (he : wordIn ps (xs.getD k 0) = true) : ∀ j, j < k + 1 → wordIn ps (xs.getD j 0) = true := by
  intro j hj
  by_cases e : j = k
  · subst e; exact he
  · exact h j (by omega)

end Go.Proofs.Ytlkdlcpfcacigaa
