/- headed, l17Of: what a header tells. -/
import Derived.Test.YtmcoidnonmmpjaaScalar
import Derived.Test.YtmcoidnonmmpjaaHeapM
namespace Go.Proofs.Ytmcoidnonmmpjaa
open Go.RowKit
set_option linter.unusedVariables false

/-- what is told of a word that is no header: something, and false. -/
def BadHead (e : Ending) : Prop := ∃ b t k, e = .returned (.tuple #[.bool b, .int .i64 t, .int .i64 k, .bool false])

set_option maxHeartbeats 400000 in
theorem headed_ok (x : Int) (w : World) (h : hOk x = true) (hx : x ≤ 9223372036854775807) :
    Calls Try.prog 43 #[.int .i64 x] w fun e w' => e = .returned (.tuple #[.bool (hFun x), .int .i64 (hTag x), .int .i64 (hKids x), .bool true]) ∧ w = w' := by
  obtain ⟨h1, h2, h3, h4⟩ := hOk_true.1 h
  unfold hTag at h3
  unfold hKids at h4
  have e1 : (x % 2 == 0) = false := by simp; omega
  have e2 : 0 ≤ x / 2 := by omega
  have e3 : 0 ≤ x / 2 / 2 := by omega
  go_enter Try.func43, Try.ntmps43
  go_wp2_with (first | (go_at_call 68; refine (iWordInt_any _ _).mono ?_; rintro e w' ⟨rfl, rfl⟩) | (go_at_call 65; refine (iIsRef_any _ _).mono ?_; rintro e w' ⟨rfl, rfl⟩))
  ((try simp only [Exit.inBlock, Exit.then]); refine bodyPost_ret (results_tmp4 rfl _ _ _) rfl ?_)
  exact ⟨rfl, rfl⟩

set_option maxHeartbeats 400000 in
theorem headed_bad (x : Int) (w : World) (h : hOk x = false) (hx : x ≤ 9223372036854775807) (hx0 : -9223372036854775808 ≤ x) :
    Calls Try.prog 43 #[.int .i64 x] w fun e w' => BadHead e ∧ w = w' := by
  have hn := hOk_false.1 h
  unfold hTag hKids at hn
  by_cases c1 : x % 2 = 0
  · have e1 : (x % 2 == 0) = true := by simp; omega
    clear hn
    go_enter Try.func43, Try.ntmps43
    go_wp2_with (first | (go_at_call 68; refine (iWordInt_any _ _).mono ?_; rintro e w' ⟨rfl, rfl⟩) | (go_at_call 65; refine (iIsRef_any _ _).mono ?_; rintro e w' ⟨rfl, rfl⟩))
    ((try simp only [Exit.inBlock, Exit.then]); refine bodyPost_ret (results_tmp4 rfl _ _ _) rfl ?_)
    exact ⟨⟨_, _, _, rfl⟩, rfl⟩
  · have e1 : (x % 2 == 0) = false := by simp; omega
    by_cases c2 : x < 0
    · have e2 : x / 2 < 0 := by omega
      clear hn
      go_enter Try.func43, Try.ntmps43
      go_wp2_with (first | (go_at_call 68; refine (iWordInt_any _ _).mono ?_; rintro e w' ⟨rfl, rfl⟩) | (go_at_call 65; refine (iIsRef_any _ _).mono ?_; rintro e w' ⟨rfl, rfl⟩))
      ((try simp only [Exit.inBlock, Exit.then]); refine bodyPost_ret (results_tmp4 rfl _ _ _) rfl ?_)
      exact ⟨⟨_, _, _, rfl⟩, rfl⟩
    · have e2 : 0 ≤ x / 2 := by omega
      have e3 : 0 ≤ x / 2 / 2 := by omega
      by_cases c3 : x / 2 / 2 / 64 ≤ 3000
      · have e4 : decide (x / 2 / 2 % 64 ≤ 20) = false := by simp; omega
        clear hn
        go_enter Try.func43, Try.ntmps43
        go_wp2_with (first | (go_at_call 68; refine (iWordInt_any _ _).mono ?_; rintro e w' ⟨rfl, rfl⟩) | (go_at_call 65; refine (iIsRef_any _ _).mono ?_; rintro e w' ⟨rfl, rfl⟩))
        ((try simp only [Exit.inBlock, Exit.then]); refine bodyPost_ret (results_tmp4 rfl _ _ _) rfl ?_)
        exact ⟨⟨_, _, _, rfl⟩, rfl⟩
      · clear hn
        go_enter Try.func43, Try.ntmps43
        go_wp2_with (first | (go_at_call 68; refine (iWordInt_any _ _).mono ?_; rintro e w' ⟨rfl, rfl⟩) | (go_at_call 65; refine (iIsRef_any _ _).mono ?_; rintro e w' ⟨rfl, rfl⟩))
        ((try simp only [Exit.inBlock, Exit.then]); refine bodyPost_ret (results_tmp4 rfl _ _ _) rfl ?_)
        exact ⟨⟨_, _, _, rfl⟩, rfl⟩

set_option maxHeartbeats 400000 in
theorem l17Of_any (x : Int) (w : World) (h : 0 ≤ x) (hx : x ≤ 9223372036854775807) :
    Calls Try.prog 48 #[.int .i64 x] w fun e w' => e = .returned (.tuple #[.bool (hFun x), .int .i64 (hTag x), .int .i64 (hKids x)]) ∧ w = w' := by
  have e2 : 0 ≤ x / 2 := by omega
  have e3 : 0 ≤ x / 2 / 2 := by omega
  go_enter Try.func48, Try.ntmps48
  go_wp2
  go_ret3
  exact ⟨rfl, rfl⟩

/-- what is told of a word below 0: something. -/
def SomeHead (e : Ending) : Prop := ∃ b t k, e = .returned (.tuple #[.bool b, .int .i64 t, .int .i64 k])

set_option maxHeartbeats 400000 in
theorem l17Of_neg (x : Int) (w : World) (h : x < 0) (hx : -9223372036854775808 ≤ x) :
    Calls Try.prog 48 #[.int .i64 x] w fun e w' => SomeHead e ∧ w = w' := by
  have e2 : x / 2 < 0 := by omega
  have e3 : x / 2 / 2 < 0 := by omega
  go_enter Try.func48, Try.ntmps48
  go_wp2
  go_ret3
  exact ⟨⟨_, _, _, rfl⟩, rfl⟩

end Go.Proofs.Ytmcoidnonmmpjaa
