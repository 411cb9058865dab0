/- What an input's length is told to be, and the numbers that are taken from it. -/
import Derived.Test.YtjidglpldjcmdaaGreatRows
import Derived.Test.YtjidglpldjcmdaaGreatMem
import Derived.IntWalk
namespace Go.Proofs.YtjidglpldjcmdaaGreat
open Go.RowKit
set_option linter.unusedVariables false

/-- bytes. -/
def bytesIn (b : List Int) : Prop := ∀ j, 0 ≤ b.getD j 0 ∧ b.getD j 0 ≤ 255

set_option maxHeartbeats 800000 in
theorem big_any {B : Nat} (v : Value) (zs : List Int) (w : World) (hr : Rd B .u8 w v zs) :
    Calls Tryz.prog 4 #[v] w fun e w' => e = .returned (.bool (decide (1048576 < zs.length))) ∧ w = w' := by
  have hl := hr.len
  unfold maxLen at hl
  obtain ⟨a, c, rfl⟩ := hr.form
  clear hr
  go_enter Tryz.func4, Tryz.ntmps4
  go_wp2
  go_ret
  exact ⟨ret_bool (by rw [decide_eq_decide]; omega), rfl⟩

set_option maxHeartbeats 800000 in
theorem at_any {B : Nat} (v : Value) (zs : List Int) (w : World) (hr : Rd B .u8 w v zs) (hz : bytesIn zs) (hl : zs.length ≤ 1048576) (i : Nat) (hi : i ≤ 1048576) :
    Calls Tryz.prog 5 #[v, .int .i64 i] w fun e w' => ∃ x : Nat, e = .returned (.int .i64 x) ∧ x < 256 ∧ w = w' := by
  obtain ⟨a, c, rfl⟩ := hr.form
  have hc : ∀ k, k < zs.length → ∃ b off, a = some ⟨b, off, none⟩ ∧ w.cell? ⟨b, off + k, none⟩ = some (.int .u8 (zs.getD k 0)) := by
    intro k hk
    rcases hr with ⟨h', _⟩ | ⟨b, off, c', hv, hB, hbs, _, hcell⟩
    · rw [h'] at hk; simp at hk
    · cases hv; exact ⟨b, off, rfl, hcell k hk⟩
  clear hr
  by_cases hlt : i < zs.length
  · obtain ⟨b, off, rfl, c0⟩ := hc i hlt
    obtain ⟨d0, d1⟩ := hz i
    obtain ⟨d, hd⟩ : ∃ d, zs.getD i 0 = d := ⟨_, rfl⟩
    rw [hd] at c0 d0 d1
    have hii : (i : Int) < (zs.length : Int) := by omega
    clear hd hz hc
    obtain ⟨d', rfl⟩ : ∃ d' : Nat, d = d' := ⟨d.toNat, by omega⟩
    go_enter Tryz.func5, Tryz.ntmps5
    go_wp2
    go_ret
    exact ⟨d', rfl, by omega, rfl⟩
  · have hii : ¬ (i : Int) < (zs.length : Int) := by omega
    clear hz hc
    go_enter Tryz.func5, Tryz.ntmps5
    go_wp2
    go_ret
    obtain ⟨x, hx⟩ : ∃ x : Nat, ((i : Int) * 7 + zs.length) % 256 = x := ⟨(((i : Int) * 7 + zs.length) % 256).toNat, by omega⟩
    exact ⟨x, ret_int (by omega), by omega, rfl⟩
end Go.Proofs.YtjidglpldjcmdaaGreat
