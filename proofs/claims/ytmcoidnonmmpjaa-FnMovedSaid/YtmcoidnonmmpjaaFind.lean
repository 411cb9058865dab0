/- l7In, slices.Contains, slices.BinarySearch at ints. -/
import Derived.Test.YtmcoidnonmmpjaaRows
import Derived.Test.YtmcoidnonmmpjaaMem
namespace Go.Proofs.Ytmcoidnonmmpjaa
open Go.RowKit
set_option linter.unusedVariables false

theorem notin_step {zs : List Int} {n : Int} {k : Nat} (h : ∀ j, j < k → zs.getD j 0 ≠ n) (he : zs.getD k 0 ≠ n) : ∀ j, j < k + 1 → zs.getD j 0 ≠ n := by
  intro j hj
  by_cases e : j = k
  · subst e; exact he
  · exact h j (by omega)
theorem mem_of_get {zs : List Int} {n : Int} {k : Nat} (hk : k < zs.length) (h : zs.getD k 0 = n) : n ∈ zs := by
  subst h
  simp [List.getD, List.getElem?_eq_getElem hk]
theorem notin_all {zs : List Int} {n : Int} (h : ∀ j, j < zs.length → zs.getD j 0 ≠ n) : n ∉ zs := by
  intro hm
  obtain ⟨i, hi, he⟩ := List.getElem_of_mem hm
  exact h i hi (by simp [List.getD, List.getElem?_eq_getElem hi, he])

set_option maxHeartbeats 400000 in
theorem l7In_any {B : Nat} (v : Value) (zs : List Int) (n : Int) (w : World) (hr : Rd B .i64 w v zs) :
    Calls Try.prog 54 #[v, .int .i64 n] w fun e w' => e = .returned (.bool (decide (n ∈ zs))) ∧ w = w' := by
  have hx := hr.len
  unfold maxLen at hx
  rcases hr with ⟨rfl, a, cap, rfl⟩ | ⟨b, off, cap, rfl, hB, hbs, hm, hc⟩
  · go_enter Try.func54, Try.ntmps54
    go_wp2
    refine wp_loop_rounds 1 ?_
    rw [rounds_succ]
    go_wp2
    go_ret
    exact ⟨ret_bool (by simp), rfl⟩
  · go_enter Try.func54, Try.ntmps54
    go_wp2
    go_loop [5] (fun i => ∃ k : Nat, k ≤ zs.length ∧ i = .int .i64 k ∧ Hid (∀ j, j < k → zs.getD j 0 ≠ n)) (fun i => zs.length - (intOf i).toNat)
    case atStart => exact ⟨0, Nat.zero_le _, rfl, fun j hj => by omega⟩
    case round =>
      obtain ⟨k, hk, rfl, hd⟩ := hrel
      by_cases hlt : k < zs.length
      · have c1 := hc k hlt
        obtain ⟨x, hx⟩ : ∃ x, zs.getD k 0 = x := ⟨_, rfl⟩
        rw [hx] at c1
        have HX := Lib.hid hx
        clear hc hx
        by_cases he : x = n
        · subst he
          go_wp2
          go_ret
          exact ⟨ret_bool (by symm; rw [decide_eq_true_iff]; exact mem_of_get hlt HX.out), rfl⟩
        · have he1 : (x == n) = false := by simpa using he
          go_wp2
          go_round
          case rel => exact ⟨k + 1, hlt, by go_num, notin_step hd.out (by rw [HX.out]; exact he)⟩
          case measure => simp [intOf]; omega
      · go_wp2
        go_ret
        exact ⟨ret_bool (by symm; rw [decide_eq_false_iff_not]; exact notin_all (fun j hj => hd.out j (by omega))), rfl⟩

/-- an index, not below 0 just where n is there. -/
def Found (zs : List Int) (n : Int) (e : Ending) : Prop := ∃ r : Int, e = .returned (.int .i64 r) ∧ (0 ≤ r ↔ n ∈ zs)

set_option maxHeartbeats 400000 in
theorem index_any {B : Nat} (v : Value) (zs : List Int) (n : Int) (w : World) (hr : Rd B .i64 w v zs) :
    Calls Try.prog 81 #[v, .int .i64 n] w fun e w' => Found zs n e ∧ w = w' := by
  have hx := hr.len
  unfold maxLen at hx
  rcases hr with ⟨rfl, a, cap, rfl⟩ | ⟨b, off, cap, rfl, hB, hbs, hm, hc⟩
  · go_enter Try.func81, Try.ntmps81
    go_wp2
    refine wp_loop_rounds 1 ?_
    rw [rounds_succ]
    go_wp2
    go_ret
    exact ⟨⟨-1, rfl, by simp⟩, rfl⟩
  · go_enter Try.func81, Try.ntmps81
    go_wp2
    go_loop [5, 8] (fun _ i => ∃ k : Nat, k ≤ zs.length ∧ i = .int .i64 k ∧ Hid (∀ j, j < k → zs.getD j 0 ≠ n)) (fun _ i => zs.length - (intOf i).toNat)
    case atStart => exact ⟨0, Nat.zero_le _, rfl, fun j hj => by omega⟩
    case round =>
      obtain ⟨k, hk, rfl, hd⟩ := hrel
      by_cases hlt : k < zs.length
      · have c1 := hc k hlt
        obtain ⟨x, hx⟩ : ∃ x, zs.getD k 0 = x := ⟨_, rfl⟩
        rw [hx] at c1
        have HX := Lib.hid hx
        clear hc hx
        by_cases he : n = x
        · subst he
          go_wp2
          go_ret
          exact ⟨⟨k, rfl, by simp only [Int.natCast_nonneg, true_iff]; exact mem_of_get hlt HX.out⟩, rfl⟩
        · have he1 : (n == x) = false := by simpa using he
          go_wp2
          go_round
          case rel => exact ⟨k + 1, hlt, by go_num, notin_step hd.out (by rw [HX.out]; exact fun h => he h.symm)⟩
          case measure => simp [intOf]; omega
      · go_wp2
        go_ret
        exact ⟨⟨-1, rfl, ⟨fun h => by omega, fun h => absurd h (notin_all (fun j hj => hd.out j (by omega)))⟩⟩, rfl⟩

set_option maxHeartbeats 400000 in
theorem contains_any {B : Nat} (v : Value) (zs : List Int) (n : Int) (w : World) (hr : Rd B .i64 w v zs) :
    Calls Try.prog 51 #[v, .int .i64 n] w fun e w' => e = .returned (.bool (decide (n ∈ zs))) ∧ w = w' := by
  go_enter Try.func51, Try.ntmps51
  go_wp2_with fail
  refine (index_any _ _ _ _ hr).mono ?_
  rintro e w' ⟨⟨r, rfl, hr⟩, rfl⟩
  have HR := Lib.hid hr
  clear hr
  go_wp2
  all_goals go_ret
  all_goals exact ⟨ret_bool (by have := HR.out; rw [Bool.eq_iff_iff]; simp only [decide_eq_true_iff]; exact this), rfl⟩

set_option maxHeartbeats 400000 in
theorem less_any (a b : Int) (w : World) :
    Calls Try.prog 93 #[.int .i64 a, .int .i64 b] w fun e w' => e = .returned (.bool (decide (a < b))) ∧ w = w' := by
  have e1 : (a != a) = false := by simp
  go_enter Try.func93, Try.ntmps93
  go_wp2
  go_ret
  exact ⟨rfl, rfl⟩

theorem sorted_le {zs : List Int} (h : zs.Pairwise (· < ·)) {k m : Nat} (hk : k ≤ m) (hm : m < zs.length) : zs.getD k 0 ≤ zs.getD m 0 := by
  by_cases e : k = m
  · subst e; omega
  · have := List.pairwise_iff_getElem.1 h k m (by omega) hm (by omega)
    simp [List.getD, List.getElem?_eq_getElem hm, List.getElem?_eq_getElem (show k < zs.length by omega)]
    omega
theorem bs_no {zs : List Int} {n : Int} {p : Nat} (h1 : ∀ k, k < p → zs.getD k 0 < n) (h2 : ∀ k, p ≤ k → k < zs.length → n < zs.getD k 0) : n ∉ zs := by
  refine notin_all fun j hj => ?_
  by_cases e : j < p
  · have := h1 j e; omega
  · have := h2 j (by omega) hj; omega
theorem bs_mid {i j : Nat} (h : i < j) (hj : j ≤ 9223372036854775807) : i ≤ (i + j) / 2 ∧ (i + j) / 2 < j := by omega
/-- what is told of a search. -/
def Sought (zs : List Int) (n : Int) (e : Ending) : Prop := ∃ r : Int, e = .returned (.tuple #[.int .i64 r, .bool (decide (n ∈ zs))])

set_option maxHeartbeats 400000 in
theorem search_any {B : Nat} (v : Value) (zs : List Int) (n : Int) (w : World) (hr : Rd B .i64 w v zs) (hs : zs.Pairwise (· < ·)) (hlen : zs.length ≤ 4294967296) :
    Calls Try.prog 77 #[v, .int .i64 n] w fun e w' => Sought zs n e ∧ w = w' := by
  have HS := Lib.hid hs
  clear hs
  obtain ⟨a, cap, rfl⟩ := hr.form
  have hc : ∀ k, k < zs.length → ∃ b off, a = some ⟨b, off, none⟩ ∧ w.cell? ⟨b, off + k, none⟩ = some (.int .i64 (zs.getD k 0)) := by
    intro k hk
    rcases hr with ⟨h, _⟩ | ⟨b, off, cap', hs, hB, hbs, _, hc⟩
    · rw [h] at hk; simp at hk
    · cases hs
      exact ⟨b, off, rfl, hc k hk⟩
  clear hr
  go_enter Try.func77, Try.ntmps77
  go_wp2
  go_loop [7, 8, 9] (fun i j _ => ∃ p q : Nat, p ≤ q ∧ q ≤ zs.length ∧ i = .int .i64 p ∧ j = .int .i64 q ∧ Hid ((∀ k, k < p → zs.getD k 0 < n) ∧ (∀ k, q ≤ k → k < zs.length → n ≤ zs.getD k 0))) (fun i j _ => (intOf j).toNat - (intOf i).toNat)
  case atStart => exact ⟨0, zs.length, Nat.zero_le _, Nat.le_refl _, rfl, rfl, fun k hk => by omega, fun k h1 h2 => by omega⟩
  case round =>
    obtain ⟨p, q, hpq, hq, rfl, rfl, hd⟩ := hrel
    by_cases hlt : p < q
    · obtain ⟨m1, m2⟩ := bs_mid hlt (by omega)
      obtain ⟨b, off, rfl, c1⟩ := hc ((p + q) / 2) (by omega)
      go_wp2_with (go_at_call 93; refine (less_any _ _ _).mono ?_; rintro e w' ⟨rfl, rfl⟩)
      · have h : zs[(p + q) / 2]?.getD 0 < n := by assumption
        go_round
        case rel =>
          refine ⟨(p + q) / 2 + 1, q, by omega, hq, by go_num, rfl, fun k hk => ?_, hd.out.2⟩
          have := sorted_le HS.out (show k ≤ (p + q) / 2 by omega) (by omega)
          simp only [List.getD] at this ⊢
          omega
        case measure => simp [intOf]; omega
      · have h : n ≤ zs[(p + q) / 2]?.getD 0 := by assumption
        go_round
        case rel =>
          refine ⟨p, (p + q) / 2, by omega, by omega, rfl, by go_num, hd.out.1, fun k h1 h2 => ?_⟩
          have := sorted_le HS.out h1 h2
          simp only [List.getD] at this ⊢
          omega
        case measure => simp [intOf]; omega
    · obtain rfl : p = q := by omega
      by_cases hin : p < zs.length
      · obtain ⟨b, off, rfl, c1⟩ := hc p hin
        obtain ⟨x, hx⟩ : ∃ x, zs.getD p 0 = x := ⟨_, rfl⟩
        rw [hx] at c1
        have HX := Lib.hid hx
        clear hc hx
        by_cases he : x = n
        · subst he
          have hfin : decide (x ∈ zs) = true := by rw [decide_eq_true_iff]; exact mem_of_get hin HX.out
          have HF := Lib.hid hfin
          clear hfin
          go_wp2
          go_ret2
          exact ⟨⟨p, by rw [HF.out]; rfl⟩, rfl⟩
        · have he1 : (x == n) = false := by simpa using he
          have he2 : (x != x) = false := by simp
          have hfin : decide (n ∈ zs) = false := by
            rw [decide_eq_false_iff_not]
            refine bs_no (p := p) hd.out.1 fun k h1 h2 => ?_
            have h3 := hd.out.2 p (Nat.le_refl _) hin
            have h4 := sorted_le HS.out h1 h2
            rw [HX.out] at h3 h4
            omega
          have HF := Lib.hid hfin
          clear hfin
          go_wp2
          go_ret2
          exact ⟨⟨p, by rw [HF.out]; rfl⟩, rfl⟩
      · have hfin : decide (n ∈ zs) = false := by
          rw [decide_eq_false_iff_not]
          exact bs_no (p := p) hd.out.1 fun k h1 h2 => by omega
        have HF := Lib.hid hfin
        clear hfin
        go_wp2
        go_ret2
        exact ⟨⟨p, by rw [HF.out]; rfl⟩, rfl⟩

end Go.Proofs.Ytmcoidnonmmpjaa
