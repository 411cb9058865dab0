/- eqIntS: two slices of ints are held against each other. -/
import Derived.Test.YtlkdlcpfcacigaaRows
import Derived.Test.YtlkdlcpfcacigaaMgLib
import Derived.Deep.QuietTactic
import Derived.BigQuiet
namespace Go.Proofs.Ytlkdlcpfcacigaa
open Go.RowKit
set_option linter.unusedVariables false

set_option maxHeartbeats 400000 in
theorem eqIntS_any {B1 B2 : Nat} (va vb : Value) (xs ys : List Int) (w : World) (ha : Rd B1 .i64 w va xs) (hb : Rd B2 .i64 w vb ys) :
    Calls Try.prog 24 #[va, vb] w fun e w' => e = .returned (.bool (decide (xs = ys))) ∧ Still w w' := by
  have hx := ha.len
  have hy := hb.len
  unfold maxLen at hx hy
  by_cases hl : xs.length = ys.length
  · rcases ha with ⟨rfl, a, cap, rfl⟩ | ⟨b, off, cap, rfl, hB, hbs, hm, hc⟩
    · have hy0 : ys = [] := List.eq_nil_of_length_eq_zero (by simpa using hl.symm)
      subst hy0
      rcases hb with ⟨_, a', cap', rfl⟩ | ⟨b', off', cap', rfl, hB', hbs', hm', hc'⟩
      all_goals
        go_enter Try.func24, Try.ntmps24
        go_wp2
        refine wp_loop_rounds 1 ?_
        rw [rounds_succ]
        go_wp2
        go_ret
        exact ⟨ret_bool (by simp), Still.refl _⟩
    · rcases hb with ⟨rfl, a', cap', rfl⟩ | ⟨b', off', cap', rfl, hB', hbs', hm', hc'⟩
      · have hx0 : xs = [] := List.eq_nil_of_length_eq_zero (by simpa using hl)
        subst hx0
        go_enter Try.func24, Try.ntmps24
        go_wp2
        refine wp_loop_rounds 1 ?_
        rw [rounds_succ]
        go_wp2
        go_ret
        exact ⟨ret_bool (by simp), Still.refl _⟩
      · have hne : ((xs.length : Int) != (ys.length : Int)) = false := by simp [hl]
        have HL := Lib.hid hl
        clear hl
        go_enter Try.func24, Try.ntmps24
        go_wp2
        go_loopw [5] (fun i wr => ∃ k n : Nat, k ≤ xs.length ∧ i = .int .i64 k ∧ wr = w.drewN n ∧ Hid (∀ j, j < k → xs.getD j 0 = ys.getD j 0)) (fun i _ => xs.length - (intOf i).toNat)
        case atStart => exact ⟨0, 0, Nat.zero_le _, rfl, rfl, fun j hj => by omega⟩
        case round =>
          obtain ⟨k, n, hk, rfl, rfl, hd⟩ := hrel
          by_cases hlt : k < xs.length
          · have c1 := hc k hlt
            have c2 := hc' k (by rw [← HL.out]; exact hlt)
            have hlt2 : k < ys.length := by rw [← HL.out]; exact hlt
            clear hc hc'
            go_wp2
            go_quiet (fail)
            go_wp2
            · have h : (xs[k] != ys[k]) = true := by assumption
              go_ret
              exact ⟨ret_bool (by simp only [bne_iff_ne] at h; symm; rw [decide_eq_false_iff_not]; rintro rfl; exact h rfl), ⟨n + nq, by simp⟩⟩
            · have h : (xs[k] != ys[k]) = false := by assumption
              go_roundw
              case rel => exact ⟨k + 1, n + nq, hlt, by go_num, rfl, eq_step HL.out hlt hd (by simp only [bne_eq_false_iff_eq] at h; simpa [List.getD, List.getElem?_eq_getElem hlt, List.getElem?_eq_getElem hlt2] using h)⟩
              case measure => simp [intOf]; omega
          · go_wp2
            go_ret
            exact ⟨ret_bool (by rw [eq_all HL.out (fun j hj => hd j (by omega))]; simp), ⟨_, rfl⟩⟩
  · have hne : ((xs.length : Int) != (ys.length : Int)) = true := by simp; omega
    have hv : (∃ a n cap, va = .slice a n cap ∧ n = xs.length) ∧ (∃ a n cap, vb = .slice a n cap ∧ n = ys.length) := by
      constructor
      · rcases ha with ⟨rfl, a, cap, rfl⟩ | ⟨b, off, cap, rfl, _⟩
        · exact ⟨_, _, _, rfl, rfl⟩
        · exact ⟨_, _, _, rfl, rfl⟩
      · rcases hb with ⟨rfl, a, cap, rfl⟩ | ⟨b, off, cap, rfl, _⟩
        · exact ⟨_, _, _, rfl, rfl⟩
        · exact ⟨_, _, _, rfl, rfl⟩
    obtain ⟨⟨a1, n1, c1, rfl, rfl⟩, ⟨a2, n2, c2, rfl, rfl⟩⟩ := hv
    have hf : decide (xs = ys) = false := by simp; intro h; exact hl (by rw [h])
    have HF := Lib.hid hf
    clear hf ha hb hl
    go_enter Try.func24, Try.ntmps24
    go_wp2
    go_ret
    exact ⟨ret_bool HF.out.symm, Still.refl _⟩

end Go.Proofs.Ytlkdlcpfcacigaa
