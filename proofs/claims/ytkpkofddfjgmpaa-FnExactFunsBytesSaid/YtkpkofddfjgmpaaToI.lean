/- toIntS: a copy of a slice of ints, in a new row. -/
import Derived.Test.YtkpkofddfjgmpaaRows
import Derived.Test.YtkpkofddfjgmpaaMem
namespace Go.Proofs.Ytkpkofddfjgmpaa
open Go.RowKit
set_option linter.unusedVariables false

theorem Try.infoI : (Try.prog.info? 3).map (fun i => (i.zero, i.size, i.bytes)) = some (some (.int .i64 0), 1, 8) := by kernel_rfl

set_option maxHeartbeats 400000 in
theorem toIntS_any {B : Nat} (v : Value) (zs : List Int) (w : World) (hr : Rd B .i64 w v zs) (hn : zs.length ≤ 4294967296) :
    Calls Try.prog 76 #[v] w fun e w' => ∃ v', e = .returned v' ∧ w'.ownsRow w.heap.size 3 1 v' zs.length (zs.map (Value.int .i64)) ∧ Below w.heap.size w w' := by
  obtain ⟨i0, hi, hz0, hz1, hz2⟩ := info_parts Try.infoI
  have hv : ∃ a n cap, v = .slice a n cap ∧ n = zs.length := by
    rcases hr with ⟨rfl, a, cap, rfl⟩ | ⟨b, off, cap, rfl, _⟩
    · exact ⟨_, _, _, rfl, rfl⟩
    · exact ⟨_, _, _, rfl, rfl⟩
  obtain ⟨a, n, cap, rfl, hnz⟩ := hv
  have HN := Lib.hid hnz
  clear hnz
  have hn' : n ≤ 4294967296 := by rw [HN.out]; exact hn
  have hc : ∀ k, k < n → ∃ b off, a = some ⟨b, off, none⟩ ∧ b < w.heap.size ∧ w.cell? ⟨b, off + k, none⟩ = some (.int .i64 (zs.getD k 0)) := by
    intro k hk
    rcases hr with ⟨h, _⟩ | ⟨b, off, cap', hs, hB, hbs, _, hc⟩
    · have := HN.out; rw [h] at this; simp at this; omega
    · cases hs
      exact ⟨b, off, rfl, hbs, hc k hk⟩
  clear hr
  go_enter Try.func76, Try.ntmps76
  go_wp2_with (refine wpList_make_full _ rfl (.tmp 6) (.tmp 6) 39 rfl w.heap.size 3 i0 (.int .i64 0) 1 Try.underlying39 hi hz0 hz1 .i64 .i64 _ _ n rfl rfl rfl rfl ?_ ?_ ?_ ?_)
  · rw [hz2]; omega
  · unfold maxLen; omega
  · exact Nat.le_refl _
  · intro w1 hown hgrow
    have hb1 : Below w.heap.size w w1 := (Below.refl _ _).grown hgrow (Nat.le_refl _) (by simp)
    obtain ⟨xs, hown, hlen⟩ : ∃ xs, w1.ownsRow w.heap.size 3 1 (.slice (some ⟨w.heap.size, 0, none⟩) n n) n xs ∧ xs.length = n := ⟨_, hown, by simpa using hown.1⟩
    have HL := Lib.hid hlen
    clear hlen
    go_wp2
    go_loopw [4] (fun i wr => ∃ k : Nat, k ≤ n ∧ i = .int .i64 k ∧ wr.ownsRow w.heap.size 3 1 (.slice (some ⟨w.heap.size, 0, none⟩) n n) n (mkRow (fun i => Value.int .i64 (zs.getD i 0)) xs k) ∧ Below w.heap.size w wr) (fun i _ => n - (intOf i).toNat)
    case atStart => exact ⟨0, Nat.zero_le _, rfl, by rw [mkRow_zero]; exact hown, hb1⟩
    case round =>
      obtain ⟨k, hk, rfl, ho, hb⟩ := hrel
      by_cases hlt : k < n
      · obtain ⟨b, off, rfl, hbs, hck⟩ := hc k hlt
        have c0 := (hb.cell (p := ⟨b, off + k, none⟩) hbs).trans hck
        have c1 := own_cell ho k hlt
        rw [mkRow_get _ _ _ (by rw [HL.out]; exact hlt)] at c1
        have c2 := own_frozen ho k
        clear hc hck
        go_wp2
        go_roundw
        case rel =>
          refine ⟨k + 1, hlt, by go_num, ?_, hb.setCell (Nat.le_refl _) _⟩
          rw [← mkRow_set _ _ _ (by rw [HL.out]; exact hlt)]
          exact own_set ho k hlt _
        case measure => simp [intOf]; omega
      · obtain rfl : k = n := by omega
        go_wp2
        go_ret
        refine ⟨_, rfl, ?_, hb⟩
        rw [← HN.out, ← range_getD, ← HN.out, ← mkRow_all _ _ _ HL.out]
        exact ho

end Go.Proofs.Ytkpkofddfjgmpaa
