/- collect's closure: a word behind the move. -/
import Derived.Test.YtmcoidnonmmpjaaCollP
import Derived.Test.YtmcoidnonmmpjaaMet
namespace Go.Proofs.Ytmcoidnonmmpjaa
open Go.RowKit
set_option linter.unusedVariables false

/-- the places of blocks that are laid one behind the other. -/
def newPl (ws : List Int) (b : Nat) (q : List Nat) : List Nat := (List.range q.length).map fun j => b + (raw ws (q.take j)).length
theorem newPl_len (ws : List Int) (b : Nat) (q : List Nat) : (newPl ws b q).length = q.length := by simp [newPl]
theorem newPl_nil (ws : List Int) (b : Nat) : newPl ws b [] = [] := rfl
theorem newPl_snoc (ws : List Int) (b : Nat) (q : List Nat) (p : Nat) : newPl ws b (q ++ [p]) = newPl ws b q ++ [b + (raw ws q).length] := by
  unfold newPl
  rw [List.length_append, List.length_singleton, List.range_succ, List.map_append]
  congr 1
  · refine List.map_congr_left fun j hj => ?_
    rw [List.take_append_of_le_length (Nat.le_of_lt (List.mem_range.1 hj))]
  · simp
theorem newPl_get {ws : List Int} {b : Nat} {q : List Nat} {j : Nat} (h : j < q.length) : (newPl ws b q)[j]? = some (b + (raw ws (q.take j)).length) := by simp [newPl, h]

set_option maxHeartbeats 800000 in
theorem moved_any {B7 B9 g7 g9 : Nat} (pv nv : Value) (ws : List Int) (b' : Nat) (o ps : List Nat) (x : Int) (N : Nat) (w : World) (k9 : Bx w g9 #[pv]) (k7 : Bx w g7 #[nv]) (rp : Rd B9 .i64 w pv (nums (newPl ws b' o))) (rn : Rd B7 .i64 w nv (numbers o N))
    (hx : wordIn ps x = true) (ho : x % 2 = 0 → (x / 2).toNat ∈ o) (hN : ∀ p ∈ ps, p < N) (hN6 : N ≤ 6000) (hle : ∀ p, newAt ws b' o p ≤ 6000) (hol : o.length ≤ 6000) :
    Calls Try.prog 83 #[.int .i64 x, .pointer (some ⟨g9, 0, none⟩), .pointer (some ⟨g7, 0, none⟩)] w fun e w' => e = .returned (.int .i64 (mv ws b' o x)) ∧ Still w w' := by
  by_cases hev : x % 2 = 0
  · obtain ⟨p, hpp, hpx⟩ := wordIn_ref hx hev
    have hpe : (x / 2).toNat = p := by omega
    have hpo := ho hev
    rw [hpe] at hpo
    have hpN := hN p hpp
    have HX := Lib.hid hpx
    have e1 : (x % 2 == 0) = true := by simp; omega
    have hidx := List.idxOf_lt_length_of_mem hpo
    have hnw : numOf o p = (o.idxOf p : Int) := by unfold numOf; rw [if_pos hpo]
    have hmv : mv ws b' o x = 2 * ((newAt ws b' o p : Nat) : Int) := by unfold mv; rw [if_pos hev, hpe]
    have hna := hle p
    rcases rn with ⟨h', _⟩ | ⟨bn, offn, cn', rfl, _, _, _, hcn⟩
    · have := congrArg List.length h'; rw [numbers_len, List.length_nil] at this; omega
    rcases rp with ⟨h', _⟩ | ⟨bp, offp, cp', rfl, _, _, _, hcp⟩
    · have := congrArg List.length h'; rw [nums_len, newPl_len, List.length_nil] at this; omega
    rw [numbers_len] at hcn k7
    rw [nums_len, newPl_len] at hcp k9
    have c1 := hcn p hpN
    rw [numbers_get hpN, hnw] at c1
    have c2 := hcp (o.idxOf p) hidx
    rw [nums_get, List.getD_eq_getElem?_getD, newPl_get hidx] at c2
    change _ = some (Value.int .i64 ((newAt ws b' o p : Nat) : Int)) at c2
    obtain ⟨i, hi⟩ : ∃ i, o.idxOf p = i := ⟨_, rfl⟩
    obtain ⟨m, hm⟩ : ∃ m, newAt ws b' o p = m := ⟨_, rfl⟩
    rw [hi] at c1 c2 hidx
    rw [hm] at c2 hmv hna
    rw [hmv]
    have hil : (i : Int) < (o.length : Int) := by omega
    have hpi : (p : Int) < (N : Int) := by omega
    have q9 := k9.2.1
    have q7 := k7.2.1
    have HR := Lib.hid (fun (W : World) => (by have := (iWordRef_any x W).mono (fun e w' h => And.intro h.1 h.2.symm); rw [← HX.out] at this; exact this : Calls Try.prog 67 #[.int .i64 x] W _))
    have hrw := fun (W : World) => (iRefWord_any (m : Int) W).mono (fun e w' h => And.intro h.1 h.2.symm)
    rw [show refW (m : Int) = 2 * (m : Int) by unfold refW inB; rw [if_pos (by simp; omega)]] at hrw
    have HW := Lib.hid hrw
    clear k9 k7 hcn hcp hx ho hN hle hpp hpo hpe hnw hmv hi hm hrw hpx
    go_enter Try.func83, Try.ntmps83
    go_wp2_with (go_at_call 65; refine (iIsRef_any _ _).mono ?_; rintro e w' ⟨rfl, rfl⟩)
    go_quiet (first | (go_at_call 67; exact Calls.quiet_of_same (HR.out _)) | (go_at_call 84; exact Calls.quiet_of_same (HW.out _)))
    go_wp2
    go_ret
    exact ⟨rfl, ⟨nq, rfl⟩⟩
  · have e1 : (x % 2 == 0) = false := by simp; omega
    have hmv : mv ws b' o x = x := by unfold mv; rw [if_neg hev]
    rw [hmv]
    clear k9 k7 rp rn hx ho hN hle hmv
    go_enter Try.func83, Try.ntmps83
    go_wp2_with (go_at_call 65; refine (iIsRef_any _ _).mono ?_; rintro e w' ⟨rfl, rfl⟩)
    go_ret
    exact ⟨rfl, Still.refl _⟩

end Go.Proofs.Ytmcoidnonmmpjaa
