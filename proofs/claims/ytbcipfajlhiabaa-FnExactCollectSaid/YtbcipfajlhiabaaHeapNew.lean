/- HeapNew of the program and of the reference; eqHeap, markHeap, heldHeap. -/
import Derived.Test.YtbcipfajlhiabaaScalar
import Derived.Test.YtbcipfajlhiabaaEqI
import Derived.Test.YtbcipfajlhiabaaMarkI
namespace Go.Proofs.Ytbcipfajlhiabaa
open Go.RowKit
set_option linter.unusedVariables false

/-- a heap as a value. -/
def hv (v : Value) (h b n : Int) : Value := .agg #[v, .int .i64 h, .int .i64 b, .int .i64 n]

set_option maxHeartbeats 400000 in
set_option maxRecDepth 100000 in
theorem eqHeap_same {B1 B2 : Nat} (va vb : Value) (xs : List Int) (h b n : Int) (w : World) (ra : Rd B1 .i64 w va xs) (rb : Rd B2 .i64 w vb xs) :
    Calls Try.prog 14 #[.agg #[va, .int .i64 h, .int .i64 b, .int .i64 n], .agg #[vb, .int .i64 h, .int .i64 b, .int .i64 n]] w fun e w' => e = .returned (.bool true) ∧ Below w.heap.size w w' := by
  have ra' := fun (w' : World) (hb : Below w.heap.size w w') => ra.below' hb
  have rb' := fun (w' : World) (hb : Below w.heap.size w w') => rb.below' hb
  obtain ⟨a1, c1, rfl⟩ := ra.form
  obtain ⟨a2, c2, rfl⟩ := rb.form
  clear ra rb
  go_enter Try.func14, Try.ntmps14
  go_wp2_with fail
  refine (eqIntS_any _ _ _ _ _ (ra' _ ?_) (rb' _ ?_)).mono ?_
  · exact ((Below.refl _ _).alloc (Nat.le_refl _) _).alloc (by simp) _
  · exact ((Below.refl _ _).alloc (Nat.le_refl _) _).alloc (by simp) _
  rintro e w1 ⟨rfl, n1, rfl⟩
  rw [decide_eq_true rfl]
  go_wp2
  go_ret
  refine ⟨rfl, ?_⟩
  exact below_drewN (((Below.refl _ _).alloc (Nat.le_refl _) _).alloc (by simp) _) _

set_option maxHeartbeats 400000 in
set_option maxRecDepth 100000 in
theorem markHeap_any {base n : Nat} (v : Value) (xs : List Value) (h b nx s : Int) (w : World) (hown : w.ownsRow base 3 1 v n xs) (h0 : 0 ≤ s) (h1 : s + n ≤ 4611686018427387904) :
    Calls Try.prog 20 #[.agg #[v, .int .i64 h, .int .i64 b, .int .i64 nx], .int .i64 s] w fun e w' => e = .returned (.int .i64 (s + n)) ∧ w'.ownsRow base 3 1 v n ((marks .i64 s n).map (Value.int .i64)) ∧ w.grownBy w' v.ownBlock := by
  have hown' := fun o => hown.alloc o
  obtain ⟨a, cap, rfl⟩ := own_form hown
  clear hown
  go_enter Try.func20, Try.ntmps20
  go_wp2_with fail
  refine (markIntS_any _ _ _ _ (hown' _) h0 h1).mono ?_
  rintro e w1 ⟨rfl, o1, g1⟩
  have g2 := (World.grownBy_alloc w _ _).trans' g1
  go_wp2
  go_ret
  exact ⟨rfl, o1, g2⟩

set_option maxHeartbeats 400000 in
set_option maxRecDepth 100000 in
theorem heldHeap_any {B n : Nat} (v : Value) (h b nx s : Int) (w : World) (hr : Rd B .i64 w v (marks .i64 s n)) (h0 : 0 ≤ s) (h1 : s + n ≤ 4611686018427387904) :
    Calls Try.prog 26 #[.agg #[v, .int .i64 h, .int .i64 b, .int .i64 nx], .int .i64 s] w fun e w' => e = .returned (.int .i64 (s + n)) ∧ Below w.heap.size w w' := by
  have hr' := fun (w' : World) (hb : Below w.heap.size w w') => hr.below' hb
  obtain ⟨a, cap, rfl⟩ := hr.form
  clear hr
  go_enter Try.func26, Try.ntmps26
  go_wp2_with fail
  refine (heldIntS_any _ _ _ (hr' _ ((Below.refl _ _).alloc (Nat.le_refl _) _)) h0 h1).mono ?_
  rintro e w1 ⟨rfl, n1, rfl⟩
  go_wp2
  go_ret
  exact ⟨rfl, below_drewN ((Below.refl _ _).alloc (Nat.le_refl _) _) _⟩

/-- the words of a new heap. -/
def newWords (n : Int) : List Int := if inB n 1 3000 then List.replicate (2 * n.toNat) 0 else []
theorem newWords_len (n : Int) : (newWords n).length ≤ 6000 := by
  unfold newWords
  cases hw : inB n 1 3000
  · simp
  · obtain ⟨h0, h1⟩ := inB_true.1 hw
    simp
    omega
theorem Try.infoI0 : (Try.prog.info? 3).map (fun i => (i.zero, i.size, i.bytes)) = some (some (.int .i64 0), 1, 8) := by kernel_rfl

end Go.Proofs.Ytbcipfajlhiabaa
