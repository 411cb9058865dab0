/- slices.ContainsFunc over words, with the closures of HeapOk and rootsOk: whether some word is none of a heap's. -/
import Derived.Test.YtmcoidnonmmpjaaWordOk
namespace Go.Proofs.Ytmcoidnonmmpjaa
open Go.RowKit
set_option linter.unusedVariables false

/-- an index, not below 0 just where some word is none of the heap's. -/
def FoundOut (ps : List Nat) (xs : List Int) (e : Ending) : Prop := ∃ r : Int, e = .returned (.int .i64 r) ∧ (0 ≤ r ↔ xs.all (wordIn ps) = false)
theorem out_here {ps : List Nat} {xs : List Int} {x : Int} {k : Nat} (hk : k < xs.length) (hx : xs.getD k 0 = x) (h : wordIn ps x = false) : xs.all (wordIn ps) = false := by
  rw [List.all_eq_false]
  exact ⟨x, mem_of_get hk hx, by rw [h]; simp⟩
theorem out_none {ps : List Nat} {xs : List Int} (h : ∀ j, j < xs.length → wordIn ps (xs.getD j 0) = true) : xs.all (wordIn ps) = true := by
  rw [List.all_eq_true]
  intro x hx
  obtain ⟨i, hi, he⟩ := List.getElem_of_mem hx
  have := h i hi
  simpa [List.getD, List.getElem?_eq_getElem hi, he] using this
theorem out_step {ps : List Nat} {xs : List Int} {k : Nat} (h : ∀ j, j < k → wordIn ps (xs.getD j 0) = true) (he : wordIn ps (xs.getD k 0) = true) : ∀ j, j < k + 1 → wordIn ps (xs.getD j 0) = true := by
  intro j hj
  by_cases e : j = k
  · subst e; exact he
  · exact h j (by omega)

set_option maxHeartbeats 400000 in
theorem heapOk1_fun {B : Nat} (g : Nat) (v : Value) (ps : List Nat) (x : Int) (w : World) (hr : Rd B .i64 w v (nums ps)) (hs : ps.Pairwise (· < ·)) (hlen : ps.length ≤ 4294967296) (hg : w.cell? ⟨g, 0, none⟩ = some v) :
    Calls Try.prog 45 #[.int .i64 x, .pointer (some ⟨g, 0, none⟩)] w fun e w' => e = .returned (.bool (!wordIn ps x)) ∧ w = w' := by
  have HW := Lib.hid (wordOk_any v ps x w hr hs hlen)
  obtain ⟨a, cap, rfl⟩ := hr.form
  clear hr hs
  go_enter Try.func45, Try.ntmps45
  go_wp2_with fail
  refine HW.out.mono ?_
  rintro e w' ⟨rfl, rfl⟩
  go_wp2
  go_ret
  exact ⟨rfl, rfl⟩

set_option maxHeartbeats 400000 in
theorem heapOk1_index {B B' : Nat} (g : Nat) (v u : Value) (ps : List Nat) (xs : List Int) (w : World) (hr : Rd B .i64 w v (nums ps)) (hs : ps.Pairwise (· < ·)) (hlen : ps.length ≤ 4294967296) (hg : w.cell? ⟨g, 0, none⟩ = some v) (hu : Rd B' .i64 w u xs) :
    Calls Try.prog 75 #[u, .func (.func 45) #[] #[.pointer (some ⟨g, 0, none⟩)]] w fun e w' => FoundOut ps xs e ∧ w = w' := by
  have hx := hu.len
  unfold maxLen at hx
  have HF := Lib.hid (fun x => heapOk1_fun g v ps x w hr hs hlen hg)
  clear hr hs hg
  rcases hu with ⟨rfl, a, cap, rfl⟩ | ⟨b, off, cap, rfl, hB, hbs, hm, hc⟩
  · go_enter Try.func75, Try.ntmps75
    go_wp2
    refine wp_loop_rounds 1 ?_
    rw [rounds_succ]
    go_wp2
    go_ret
    exact ⟨⟨-1, rfl, by simp⟩, rfl⟩
  · go_enter Try.func75, Try.ntmps75
    go_wp2
    go_loop [5, 8] (fun _ i => ∃ k : Nat, k ≤ xs.length ∧ i = .int .i64 k ∧ Hid (∀ j, j < k → wordIn ps (xs.getD j 0) = true)) (fun _ i => xs.length - (intOf i).toNat)
    case atStart => exact ⟨0, Nat.zero_le _, rfl, fun j hj => by omega⟩
    case round =>
      obtain ⟨k, hk, rfl, hd⟩ := hrel
      by_cases hlt : k < xs.length
      · have c1 := hc k hlt
        obtain ⟨x, hx⟩ : ∃ x, xs.getD k 0 = x := ⟨_, rfl⟩
        rw [hx] at c1
        have HX := Lib.hid hx
        clear hc hx
        cases he : wordIn ps x
        · go_wp2_with fail
          refine (HF.out x).mono ?_
          rintro e w' ⟨rfl, rfl⟩
          rw [he]
          go_wp2
          go_ret
          exact ⟨⟨k, rfl, by simp only [Int.natCast_nonneg, true_iff]; exact out_here hlt HX.out he⟩, rfl⟩
        · go_wp2_with fail
          refine (HF.out x).mono ?_
          rintro e w' ⟨rfl, rfl⟩
          rw [he]
          go_wp2
          go_round
          case rel => exact ⟨k + 1, hlt, by go_num, out_step hd.out (by rw [HX.out]; exact he)⟩
          case measure => simp [intOf]; omega
      · go_wp2
        go_ret
        exact ⟨⟨-1, rfl, ⟨fun h => by omega, fun h => by rw [out_none (fun j hj => hd.out j (by omega))] at h; cases h⟩⟩, rfl⟩

set_option maxHeartbeats 400000 in
theorem heapOk1_contains {B B' : Nat} (g : Nat) (v u : Value) (ps : List Nat) (xs : List Int) (w : World) (hr : Rd B .i64 w v (nums ps)) (hs : ps.Pairwise (· < ·)) (hlen : ps.length ≤ 4294967296) (hg : w.cell? ⟨g, 0, none⟩ = some v) (hu : Rd B' .i64 w u xs) :
    Calls Try.prog 44 #[u, .func (.func 45) #[] #[.pointer (some ⟨g, 0, none⟩)]] w fun e w' => e = .returned (.bool (!xs.all (wordIn ps))) ∧ w = w' := by
  have HI := Lib.hid (heapOk1_index g v u ps xs w hr hs hlen hg hu)
  clear hr hs hg hu
  go_enter Try.func44, Try.ntmps44
  go_wp2_with fail
  refine HI.out.mono ?_
  rintro e w' ⟨⟨r, rfl, hr⟩, rfl⟩
  have HR := Lib.hid hr
  clear hr
  go_wp2
  all_goals go_ret
  all_goals exact ⟨ret_bool (by have := HR.out; rw [Bool.eq_iff_iff]; simp only [decide_eq_true_iff, Bool.not_eq_true']; exact this), rfl⟩

set_option maxHeartbeats 400000 in
theorem rootsOk1_fun {B : Nat} (g : Nat) (v : Value) (ps : List Nat) (x : Int) (w : World) (hr : Rd B .i64 w v (nums ps)) (hs : ps.Pairwise (· < ·)) (hlen : ps.length ≤ 4294967296) (hg : w.cell? ⟨g, 0, none⟩ = some v) :
    Calls Try.prog 82 #[.int .i64 x, .pointer (some ⟨g, 0, none⟩)] w fun e w' => e = .returned (.bool (!wordIn ps x)) ∧ w = w' := by
  have HW := Lib.hid (wordOk_any v ps x w hr hs hlen)
  obtain ⟨a, cap, rfl⟩ := hr.form
  clear hr hs
  go_enter Try.func82, Try.ntmps82
  go_wp2_with fail
  refine HW.out.mono ?_
  rintro e w' ⟨rfl, rfl⟩
  go_wp2
  go_ret
  exact ⟨rfl, rfl⟩

set_option maxHeartbeats 400000 in
theorem rootsOk1_index {B B' : Nat} (g : Nat) (v u : Value) (ps : List Nat) (xs : List Int) (w : World) (hr : Rd B .i64 w v (nums ps)) (hs : ps.Pairwise (· < ·)) (hlen : ps.length ≤ 4294967296) (hg : w.cell? ⟨g, 0, none⟩ = some v) (hu : Rd B' .i64 w u xs) :
    Calls Try.prog 75 #[u, .func (.func 82) #[] #[.pointer (some ⟨g, 0, none⟩)]] w fun e w' => FoundOut ps xs e ∧ w = w' := by
  have hx := hu.len
  unfold maxLen at hx
  have HF := Lib.hid (fun x => rootsOk1_fun g v ps x w hr hs hlen hg)
  clear hr hs hg
  rcases hu with ⟨rfl, a, cap, rfl⟩ | ⟨b, off, cap, rfl, hB, hbs, hm, hc⟩
  · go_enter Try.func75, Try.ntmps75
    go_wp2
    refine wp_loop_rounds 1 ?_
    rw [rounds_succ]
    go_wp2
    go_ret
    exact ⟨⟨-1, rfl, by simp⟩, rfl⟩
  · go_enter Try.func75, Try.ntmps75
    go_wp2
    go_loop [5, 8] (fun _ i => ∃ k : Nat, k ≤ xs.length ∧ i = .int .i64 k ∧ Hid (∀ j, j < k → wordIn ps (xs.getD j 0) = true)) (fun _ i => xs.length - (intOf i).toNat)
    case atStart => exact ⟨0, Nat.zero_le _, rfl, fun j hj => by omega⟩
    case round =>
      obtain ⟨k, hk, rfl, hd⟩ := hrel
      by_cases hlt : k < xs.length
      · have c1 := hc k hlt
        obtain ⟨x, hx⟩ : ∃ x, xs.getD k 0 = x := ⟨_, rfl⟩
        rw [hx] at c1
        have HX := Lib.hid hx
        clear hc hx
        cases he : wordIn ps x
        · go_wp2_with fail
          refine (HF.out x).mono ?_
          rintro e w' ⟨rfl, rfl⟩
          rw [he]
          go_wp2
          go_ret
          exact ⟨⟨k, rfl, by simp only [Int.natCast_nonneg, true_iff]; exact out_here hlt HX.out he⟩, rfl⟩
        · go_wp2_with fail
          refine (HF.out x).mono ?_
          rintro e w' ⟨rfl, rfl⟩
          rw [he]
          go_wp2
          go_round
          case rel => exact ⟨k + 1, hlt, by go_num, out_step hd.out (by rw [HX.out]; exact he)⟩
          case measure => simp [intOf]; omega
      · go_wp2
        go_ret
        exact ⟨⟨-1, rfl, ⟨fun h => by omega, fun h => by rw [out_none (fun j hj => hd.out j (by omega))] at h; cases h⟩⟩, rfl⟩

set_option maxHeartbeats 400000 in
theorem rootsOk1_contains {B B' : Nat} (g : Nat) (v u : Value) (ps : List Nat) (xs : List Int) (w : World) (hr : Rd B .i64 w v (nums ps)) (hs : ps.Pairwise (· < ·)) (hlen : ps.length ≤ 4294967296) (hg : w.cell? ⟨g, 0, none⟩ = some v) (hu : Rd B' .i64 w u xs) :
    Calls Try.prog 44 #[u, .func (.func 82) #[] #[.pointer (some ⟨g, 0, none⟩)]] w fun e w' => e = .returned (.bool (!xs.all (wordIn ps))) ∧ w = w' := by
  have HI := Lib.hid (rootsOk1_index g v u ps xs w hr hs hlen hg hu)
  clear hr hs hg hu
  go_enter Try.func44, Try.ntmps44
  go_wp2_with fail
  refine HI.out.mono ?_
  rintro e w' ⟨⟨r, rfl, hr⟩, rfl⟩
  have HR := Lib.hid hr
  clear hr
  go_wp2
  all_goals go_ret
  all_goals exact ⟨ret_bool (by have := HR.out; rw [Bool.eq_iff_iff]; simp only [decide_eq_true_iff, Bool.not_eq_true']; exact this), rfl⟩

end Go.Proofs.Ytmcoidnonmmpjaa
