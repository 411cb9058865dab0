/- markIntS, heldIntS: a row of ints is marked; its marks are looked for. -/
import Derived.Test.YtlkdlcpfcacigaaRows
import Derived.Test.YtlkdlcpfcacigaaMgLib
namespace Go.Proofs.Ytlkdlcpfcacigaa
open Go.RowKit
set_option linter.unusedVariables false

set_option maxHeartbeats 400000 in
theorem markIntS_any {base n : Nat} (v : Value) (xs : List Value) (s : Int) (w : World) (hown : w.ownsRow base 3 1 v n xs) (h0 : 0 ≤ s) (h1 : s + n ≤ 4611686018427387904) :
    Calls Try.prog 29 #[v, .int .i64 s] w fun e w' => e = .returned (.int .i64 (s + n)) ∧ w'.ownsRow base 3 1 v n ((marks .i64 s n).map (Value.int .i64)) ∧ w.grownBy w' v.ownBlock := by
  have hlen : xs.length = n := by simpa using hown.1
  rcases hown.2 with ⟨rfl, rfl⟩ | ⟨g, cap, cur, rfl, _, _, _, _, _, _⟩
  · go_enter Try.func29, Try.ntmps29
    go_wp2
    refine wp_loop_rounds 1 ?_
    rw [rounds_succ]
    go_wp2
    go_ret
    exact ⟨ret_int (by simp), World.ownsRow_nil _ _ _ _, grownBy.refl _ _⟩
  · go_enter Try.func29, Try.ntmps29
    go_wp2
    go_loopw [1, 5] (fun q i wr => ∃ k : Nat, k ≤ n ∧ i = .int .i64 k ∧ q = .int .i64 (s + k) ∧ wr.ownsRow base 3 1 (.slice (some ⟨g, 0, none⟩) n cap) n (mkRow (fun i => Value.int .i64 (IntKind.i64.wrap (s + i))) xs k) ∧ w.grownBy wr (some g)) (fun _ i _ => n - (intOf i).toNat)
    case atStart => exact ⟨0, Nat.zero_le _, rfl, by go_num, by rw [mkRow_zero]; exact hown, grownBy.refl _ _⟩
    case round =>
      obtain ⟨k, hk, rfl, rfl, ho, hg⟩ := hrel
      by_cases hlt : k < n
      · have c1 := own_cell ho k hlt
        rw [mkRow_get _ _ _ (by omega)] at c1
        have c2 := own_frozen ho k
        go_wp2
        go_roundw
        case rel =>
          refine ⟨k + 1, hlt, by go_num, by go_num, ?_, hg.trans (grownBy.setCell _ _ _ _)⟩
          rw [← mkRow_set _ _ _ (by omega), show IntKind.i64.wrap (s + (k : Int)) = s + (k : Int) from IntWalk.i64_in _ (by omega)]
          exact own_set ho k hlt _
        case measure => simp [intOf]; omega
      · obtain rfl : k = n := by omega
        go_wp2
        go_ret
        rw [mkRow_all _ _ _ hlen] at ho
        exact ⟨rfl, by unfold marks; rw [List.map_map]; exact ho, hg⟩

set_option maxHeartbeats 400000 in
theorem heldIntS_any {B n : Nat} (v : Value) (s : Int) (w : World) (hr : Rd B .i64 w v (marks .i64 s n)) (h0 : 0 ≤ s) (h1 : s + n ≤ 4611686018427387904) :
    Calls Try.prog 33 #[v, .int .i64 s] w fun e w' => e = .returned (.int .i64 (s + n)) ∧ Still w w' := by
  have hlen : (marks .i64 s n).length = n := marks_len _ _ _
  have hm := hr.len
  rw [hlen] at hm
  unfold maxLen at hm
  rcases hr with ⟨he, a, cap, rfl⟩ | ⟨b, off, cap, rfl, hB, hbs, _, hc⟩
  · have : n = 0 := by rw [← hlen, he]; rfl
    subst this
    go_enter Try.func33, Try.ntmps33
    go_wp2
    refine wp_loop_rounds 1 ?_
    rw [rounds_succ]
    go_wp2
    go_ret
    exact ⟨ret_int (by simp), Still.refl _⟩
  · rw [hlen] at hc ⊢
    go_enter Try.func33, Try.ntmps33
    go_wp2
    go_loopw [1, 5] (fun q i wr => ∃ k n' : Nat, k ≤ n ∧ i = .int .i64 k ∧ q = .int .i64 (s + k) ∧ wr = w.drewN n') (fun _ i _ => n - (intOf i).toNat)
    case atStart => exact ⟨0, 0, Nat.zero_le _, rfl, by go_num, rfl⟩
    case round =>
      obtain ⟨k, n', hk, rfl, rfl, rfl⟩ := hrel
      by_cases hlt : k < n
      · have c1 := hc k hlt
        rw [marks_get _ _ _ _ hlt, show IntKind.i64.wrap (s + (k : Int)) = s + (k : Int) from IntWalk.i64_in _ (by omega)] at c1
        clear hc
        go_wp2
        go_roundw
        case rel => exact ⟨k + 1, n', hlt, by go_num, by go_num, rfl⟩
        case measure => simp [intOf]; omega
      · obtain rfl : k = n := by omega
        go_wp2
        go_ret
        exact ⟨rfl, ⟨_, rfl⟩⟩

end Go.Proofs.Ytlkdlcpfcacigaa
