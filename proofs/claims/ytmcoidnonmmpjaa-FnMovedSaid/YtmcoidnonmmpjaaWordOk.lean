/- wordOk, l17There: whether a word is one of a heap; whether all of some words are. -/
import Derived.Test.YtmcoidnonmmpjaaFind
import Derived.Test.YtmcoidnonmmpjaaScalar
import Derived.Test.YtmcoidnonmmpjaaHeapM
namespace Go.Proofs.Ytmcoidnonmmpjaa
open Go.RowKit
set_option linter.unusedVariables false

/-- places as numbers. -/
def nums (ps : List Nat) : List Int := ps.map fun (p : Nat) => (p : Int)
theorem nums_len (ps : List Nat) : (nums ps).length = ps.length := by simp [nums]
theorem mem_nums {ps : List Nat} {x : Int} : x ∈ nums ps ↔ ∃ p ∈ ps, (p : Int) = x := by simp [nums]
theorem nums_sorted {ps : List Nat} (h : ps.Pairwise (· < ·)) : (nums ps).Pairwise (· < ·) := by
  unfold nums
  rw [List.pairwise_map]
  exact h.imp fun h => by omega
theorem wordIn_even {ps : List Nat} {x : Int} (h : x % 2 = 0) : wordIn ps x = decide (x / 2 ∈ nums ps) := by
  unfold wordIn
  rw [if_pos h]
  simp only [mem_nums]
theorem wordIn_odd {ps : List Nat} {x : Int} (h : ¬ x % 2 = 0) : wordIn ps x = wordB (x / 2) := by
  unfold wordIn
  rw [if_neg h]

set_option maxHeartbeats 400000 in
theorem wordOk_any {B : Nat} (v : Value) (ps : List Nat) (x : Int) (w : World) (hr : Rd B .i64 w v (nums ps)) (hs : ps.Pairwise (· < ·)) (hlen : ps.length ≤ 4294967296) :
    Calls Try.prog 46 #[.int .i64 x, v] w fun e w' => e = .returned (.bool (wordIn ps x)) ∧ w = w' := by
  have hs' := search_any v (nums ps) (x / 2) w hr (nums_sorted hs) (by rw [nums_len]; exact hlen)
  have HS := Lib.hid hs'
  obtain ⟨a, cap, rfl⟩ := hr.form
  clear hr hs hs'
  by_cases h : x % 2 = 0
  · have e1 : (x % 2 == 0) = true := by simpa using h
    have HF := Lib.hid (wordIn_even (ps := ps) h)
    clear h
    go_enter Try.func46, Try.ntmps46
    go_wp2_with (first | (go_at_call 67; refine (iWordRef_any _ _).mono ?_; rintro e w' ⟨rfl, rfl⟩) | (go_at_call 65; refine (iIsRef_any _ _).mono ?_; rintro e w' ⟨rfl, rfl⟩))
    refine HS.out.mono ?_
    rintro e w' ⟨⟨r, rfl⟩, rfl⟩
    go_wp2
    go_ret
    exact ⟨ret_bool HF.out.symm, rfl⟩
  · have e1 : (x % 2 == 0) = false := by simpa using h
    have HF := Lib.hid (wordIn_odd (ps := ps) h)
    clear h
    go_enter Try.func46, Try.ntmps46
    go_wp2_with (first | (go_at_call 68; refine (iWordInt_any _ _).mono ?_; rintro e w' ⟨rfl, rfl⟩) | (go_at_call 65; refine (iIsRef_any _ _).mono ?_; rintro e w' ⟨rfl, rfl⟩) | (go_at_call 76; refine (iWordOk_any _ _).mono ?_; rintro e w' ⟨rfl, rfl⟩))
    go_ret
    exact ⟨ret_bool HF.out.symm, rfl⟩

set_option maxHeartbeats 400000 in
theorem l17There_any {B : Nat} (v : Value) (ps : List Nat) (x : Int) (w : World) (hr : Rd B .i64 w v (nums ps)) :
    Calls Try.prog 49 #[v, .int .i64 x] w fun e w' => e = .returned (.bool (wordIn ps x)) ∧ w = w' := by
  have hs' := l7In_any v (nums ps) (x / 2) w hr
  have HS := Lib.hid hs'
  obtain ⟨a, cap, rfl⟩ := hr.form
  clear hr hs'
  by_cases h : x % 2 = 0
  · have e1 : (x % 2 == 0) = true := by simpa using h
    have HF := Lib.hid (wordIn_even (ps := ps) h)
    clear h
    go_enter Try.func49, Try.ntmps49
    go_wp2_with (first | (go_at_call 50; refine (sWordRef_any _ _).mono ?_; rintro e w' ⟨rfl, rfl⟩) | (go_at_call 78; refine (sIsRef_any _ _).mono ?_; rintro e w' ⟨rfl, rfl⟩))
    refine HS.out.mono ?_
    rintro e w' ⟨rfl, rfl⟩
    go_wp2
    go_ret
    exact ⟨ret_bool HF.out.symm, rfl⟩
  · have e1 : (x % 2 == 0) = false := by simpa using h
    have HF := Lib.hid (wordIn_odd (ps := ps) h)
    clear h
    go_enter Try.func49, Try.ntmps49
    go_wp2_with (first | (go_at_call 80; refine (sWordInt_any _ _).mono ?_; rintro e w' ⟨rfl, rfl⟩) | (go_at_call 78; refine (sIsRef_any _ _).mono ?_; rintro e w' ⟨rfl, rfl⟩) | (go_at_call 79; refine (sWordOk_any _ _).mono ?_; rintro e w' ⟨rfl, rfl⟩))
    go_ret
    exact ⟨ret_bool HF.out.symm, rfl⟩

end Go.Proofs.Ytmcoidnonmmpjaa
