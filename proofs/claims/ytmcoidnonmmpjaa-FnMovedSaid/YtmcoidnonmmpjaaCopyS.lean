/- l17Copy: a heap's copy. -/
import Derived.Test.YtmcoidnonmmpjaaAppR
import Derived.Test.YtmcoidnonmmpjaaHdr
namespace Go.Proofs.Ytmcoidnonmmpjaa
open Go.RowKit
set_option linter.unusedVariables false
attribute [local go_sem ↓] Go.wp_at_zero Go.wp_at_succ

set_option maxHeartbeats 8000000 in
set_option maxRecDepth 100000 in
theorem l17Copy_any {B : Nat} (v : Value) (zs : List Int) (h b nx : Int) (w : World) (hr : Rd B .i64 w v zs) (hn : zs.length ≤ 4294967296) :
    Calls Try.prog 40 #[.agg #[v, .int .i64 h, .int .i64 b, .int .i64 nx]] w fun e w' => ∃ v', e = .returned (.agg #[v', .int .i64 h, .int .i64 b, .int .i64 nx]) ∧
      w'.ownsRow w.heap.size 3 1 v' zs.length (zs.map (Value.int .i64)) ∧ Below w.heap.size w w' := by
  have hr' := fun (w' : World) (hb : Below w.heap.size w w') => hr.below' hb
  obtain ⟨a, cap, rfl⟩ := hr.form
  obtain ⟨i0, hi, hz0, hz1, hz2⟩ := info_parts Try.infoI2
  clear hr
  go_enter Try.func40, Try.ntmps40
  go_wp2
  generalize hx : (w.alloc _).alloc _ = x
  obtain ⟨bx, k1, k2, sx⟩ := alloc_box2 hx
  have hsx := Lib.hid sx
  clear hx
  have q0 : x.cell? ⟨w.heap.size, 0, none⟩ = some (.slice a zs.length cap) := k1.2.1 0
  have q1 : x.cell? ⟨w.heap.size, 1, none⟩ = some (.int .i64 h) := k1.2.1 1
  have q2 : x.cell? ⟨w.heap.size, 2, none⟩ = some (.int .i64 b) := k1.2.1 2
  have q3 : x.cell? ⟨w.heap.size, 3, none⟩ = some (.int .i64 nx) := k1.2.1 3
  have l0 : w.heap.size < x.heap.size := k1.1
  have l1 : w.heap.size + 1 < x.heap.size := k2.1
  have r0 := cellAt_of (w := x) (p := ⟨w.heap.size + 1, 0, none⟩) ⟨_, k2.2.1 0⟩
  have f0 := k2.2.2 0
  have r1 := cellAt_of (w := x) (p := ⟨w.heap.size + 1, 1, none⟩) ⟨_, k2.2.1 1⟩
  have f1 := k2.2.2 1
  have r2 := cellAt_of (w := x) (p := ⟨w.heap.size + 1, 2, none⟩) ⟨_, k2.2.1 2⟩
  have f2 := k2.2.2 2
  have r3 := cellAt_of (w := x) (p := ⟨w.heap.size + 1, 3, none⟩) ⟨_, k2.2.1 3⟩
  have f3 := k2.2.2 3
  have HR := Lib.hid (fun (W : World) (hb : Below x.heap.size x W) => hr' W (bx.trans (hb.mono (by omega))))
  have K2 := Lib.hid k2
  have BX := Lib.hid bx
  clear sx hr' k1 k2 bx
  go_region_held3 (fun w' => w'.cell? ⟨w.heap.size, 0, none⟩ = some (.slice a zs.length cap) ∧ w'.cell? ⟨w.heap.size, 1, none⟩ = some (.int .i64 h) ∧ w'.cell? ⟨w.heap.size, 2, none⟩ = some (.int .i64 b) ∧ w'.cell? ⟨w.heap.size, 3, none⟩ = some (.int .i64 nx) ∧ w'.cell? ⟨w.heap.size + 1, 0, none⟩ = some (cellAt w' ⟨w.heap.size + 1, 0, none⟩) ∧ w'.cell? ⟨w.heap.size + 1, 1, none⟩ = some (cellAt w' ⟨w.heap.size + 1, 1, none⟩) ∧ w'.cell? ⟨w.heap.size + 1, 2, none⟩ = some (cellAt w' ⟨w.heap.size + 1, 2, none⟩) ∧ w'.cell? ⟨w.heap.size + 1, 3, none⟩ = some (cellAt w' ⟨w.heap.size + 1, 3, none⟩) ∧ w'.frozen? ⟨w.heap.size + 1, 0, none⟩ = false ∧ w'.frozen? ⟨w.heap.size + 1, 1, none⟩ = false ∧ w'.frozen? ⟨w.heap.size + 1, 2, none⟩ = false ∧ w'.frozen? ⟨w.heap.size + 1, 3, none⟩ = false) ((go_split_ands; refine ⟨?_, ?_, ?_, ?_, ?_, ?_, ?_, ?_, ?_, ?_, ?_, ?_⟩ <;> (first | (refine cellAt_of ?_; (repeat (with_reducible (first | refine Has.setCell ?_ _ _ | refine Has.drew ?_ | refine Has.alloc ?_ (by dsimp only; omega) _ | refine Has.grown ?_ g1 (by simp; omega) (by simp; omega)))); exact ⟨_, by with_reducible assumption⟩) | (rw [g1.cell_far _ (by simp; omega) (by simp; omega)]; with_reducible assumption) | (rw [g1.frozen_far _ (by simp; omega) (by simp; omega)]; with_reducible assumption) | (rw [World.frozen?_drew, alloc_frozen (by dsimp only; omega)]; with_reducible assumption) | (go_keep; done)))) ((refine step_copy_rd _ (by rfl) (.tmp 3) (.tmp 5) 24 (by rfl) x.heap.size 3 i0 (.int .i64 0) 8 (Try.underlying24) hi hz0 hz1 hz2 rfl x.heap.size (by rfl) (by exact heap_alloc_new x _) (Nat.le_refl _) a zs.length cap zs (by rfl) (HR.out _ (by repeat (first | exact Below.refl _ _ | refine Below.drew ?_ | refine Below.alloc ?_ (Nat.le_refl _) _))) (by omega) (by decide) ?_; intro v1 w1 o1 g1; obtain ⟨a1, c1, hv1⟩ := own_form o1; subst hv1))
  have O1 := Lib.hid o1
  have B1 := Lib.hid (Below.grown_at ((Below.refl x.heap.size x).alloc (Nat.le_refl _) (.cells #[] 3)).drew g1 (by simp) (Nat.le_refl _))
  have C1 := Lib.hid (show w1.cell? ⟨w.heap.size + 1, 0, none⟩ = w1.cell? ⟨w.heap.size + 1, 0, none⟩ from rfl)
  have K3 := K2.out.below B1.out (by omega)
  have ck3 := K3.2.1
  clear q0 q1 q2 q3 r0 r1 r2 r3 f0 f1 f2 f3 g1 o1 C1
  go_wp2
  refine bodyPost_ret (v := .agg #[.slice a1 zs.length c1, .int .i64 h, .int .i64 b, .int .i64 nx]) ?_ rfl ⟨_, rfl, ?_, ?_⟩
  · simp [results, Try.results40, go_sem, ck3]
  · refine own_base (base := x.heap.size) ?_ (by omega)
    repeat (refine ownsRow_setCell_below ?_ (by dsimp only; omega) _)
    exact O1.out
  · repeat (refine Below.setCell ?_ (by dsimp only; omega) _)
    exact BX.out.trans (B1.out.mono (by omega))

end Go.Proofs.Ytmcoidnonmmpjaa
