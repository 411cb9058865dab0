/- HeapNew of the program and of the reference; eqHeap, markHeap, heldHeap. -/
import Derived.Test.YtlkdlcpfcacigaaMgScalar
import Derived.Test.YtlkdlcpfcacigaaEqI
import Derived.Test.YtlkdlcpfcacigaaMarkI
namespace Go.Proofs.Ytlkdlcpfcacigaa
open Go.RowKit
set_option linter.unusedVariables false

/-- a heap as a value. -/
def hv (v : Value) (h b n : Int) : Value := .agg #[v, .int .i64 h, .int .i64 b, .int .i64 n]

set_option maxHeartbeats 400000 in
set_option maxRecDepth 100000 in
theorem eqHeap_same {B1 B2 : Nat} (va vb : Value) (xs : List Int) (h b n : Int) (w : World) (ra : Rd B1 .i64 w va xs) (rb : Rd B2 .i64 w vb xs) :
    Calls Try.prog 23 #[.agg #[va, .int .i64 h, .int .i64 b, .int .i64 n], .agg #[vb, .int .i64 h, .int .i64 b, .int .i64 n]] w fun e w' => e = .returned (.bool true) ∧ Below w.heap.size w w' := by
  have ra' := fun (w' : World) (hb : Below w.heap.size w w') => ra.below' hb
  have rb' := fun (w' : World) (hb : Below w.heap.size w w') => rb.below' hb
  obtain ⟨a1, c1, rfl⟩ := ra.form
  obtain ⟨a2, c2, rfl⟩ := rb.form
  clear ra rb
  go_enter Try.func23, Try.ntmps23
  go_wp2_with fail
  refine (eqIntS_any _ _ _ _ _ (ra' _ ?_) (rb' _ ?_)).mono ?_
  · exact ((Below.refl _ _).alloc (Nat.le_refl _) _).alloc (by simp) _
  · exact ((Below.refl _ _).alloc (Nat.le_refl _) _).alloc (by simp) _
  rintro e w1 ⟨rfl, n1, rfl⟩
  rw [decide_eq_true rfl]
  go_wp2
  go_ret
  refine ⟨rfl, ?_⟩
  exact below_drewN (((Below.refl _ _).alloc (Nat.le_refl _) _).alloc (by simp) _) _

set_option maxHeartbeats 400000 in
set_option maxRecDepth 100000 in
theorem markHeap_any {base n : Nat} (v : Value) (xs : List Value) (h b nx s : Int) (w : World) (hown : w.ownsRow base 3 1 v n xs) (h0 : 0 ≤ s) (h1 : s + n ≤ 4611686018427387904) :
    Calls Try.prog 28 #[.agg #[v, .int .i64 h, .int .i64 b, .int .i64 nx], .int .i64 s] w fun e w' => e = .returned (.int .i64 (s + n)) ∧ w'.ownsRow base 3 1 v n ((marks .i64 s n).map (Value.int .i64)) ∧ w.grownBy w' v.ownBlock := by
  have hown' := fun o => hown.alloc o
  obtain ⟨a, cap, rfl⟩ := own_form hown
  clear hown
  go_enter Try.func28, Try.ntmps28
  go_wp2_with fail
  refine (markIntS_any _ _ _ _ (hown' _) h0 h1).mono ?_
  rintro e w1 ⟨rfl, o1, g1⟩
  have g2 := (World.grownBy_alloc w _ _).trans' g1
  go_wp2
  go_ret
  exact ⟨rfl, o1, g2⟩

set_option maxHeartbeats 400000 in
set_option maxRecDepth 100000 in
theorem heldHeap_any {B n : Nat} (v : Value) (h b nx s : Int) (w : World) (hr : Rd B .i64 w v (marks .i64 s n)) (h0 : 0 ≤ s) (h1 : s + n ≤ 4611686018427387904) :
    Calls Try.prog 32 #[.agg #[v, .int .i64 h, .int .i64 b, .int .i64 nx], .int .i64 s] w fun e w' => e = .returned (.int .i64 (s + n)) ∧ Below w.heap.size w w' := by
  have hr' := fun (w' : World) (hb : Below w.heap.size w w') => hr.below' hb
  obtain ⟨a, cap, rfl⟩ := hr.form
  clear hr
  go_enter Try.func32, Try.ntmps32
  go_wp2_with fail
  refine (heldIntS_any _ _ _ (hr' _ ((Below.refl _ _).alloc (Nat.le_refl _) _)) h0 h1).mono ?_
  rintro e w1 ⟨rfl, n1, rfl⟩
  go_wp2
  go_ret
  exact ⟨rfl, below_drewN ((Below.refl _ _).alloc (Nat.le_refl _) _) _⟩

/-- the words of a new heap. -/
def newWords (n : Int) : List Int := if inB n 1 3000 then List.replicate (2 * n.toNat) 0 else []
theorem newWords_len (n : Int) : (newWords n).length ≤ 6000 := by
  unfold newWords
  cases hw : inB n 1 3000
  · simp
  · obtain ⟨h0, h1⟩ := inB_true.1 hw
    simp
    omega
theorem Try.infoI0 : (Try.prog.info? 3).map (fun i => (i.zero, i.size, i.bytes)) = some (some (.int .i64 0), 1, 8) := by kernel_rfl

set_option maxHeartbeats 400000 in
set_option maxRecDepth 100000 in
theorem iHeapNew_any (n : Int) (w : World) :
    Calls Try.prog 19 #[.int .i64 n] w fun e w' => ∃ v, e = .returned (.tuple #[.agg #[v, .int .i64 (if inB n 1 3000 then n else 0), .int .i64 0, .int .i64 0], .bool (inB n 1 3000)]) ∧
      w'.ownsRow w.heap.size 3 1 v (newWords n).length ((newWords n).map (Value.int .i64)) ∧ Below w.heap.size w w' := by
  cases hw : inB n 1 3000
  · have he : newWords n = [] := by simp [newWords, hw]
    have HE := Lib.hid he
    clear he
    go_enter Try.func19, Try.ntmps19
    go_wp2_with (go_at_call 44; refine (within_any _ _ _ _).mono ?_; rintro e w' ⟨rfl, rfl⟩)
    refine bodyPost_ret (v := .tuple #[.agg #[.slice none 0 0, .int .i64 0, .int .i64 0, .int .i64 0], .bool false]) (by simp [results, Try.results19, go_sem]) rfl ⟨_, rfl, ?_, ?_⟩
    · rw [HE.out]; exact World.ownsRow_nil _ _ _ _
    · exact (Below.refl _ _).alloc (Nat.le_refl _) _
  · obtain ⟨h0, h1⟩ := inB_true.1 hw
    obtain ⟨m, rfl⟩ := Int.eq_ofNat_of_zero_le (show 0 ≤ n by omega)
    have he : newWords m = List.replicate (2 * m) 0 := by simp [newWords, hw]
    have HE := Lib.hid he
    clear he
    obtain ⟨i0, hi, hz0, hz1, hz2⟩ := info_parts Try.infoI0
    go_enter Try.func19, Try.ntmps19
    go_wp2_with (first | (go_at_call 44; refine (within_any _ _ _ _).mono ?_; rintro e w' ⟨rfl, rfl⟩) | (refine wpList_make_full _ rfl (.tmp 9) (.tmp 9) 25 rfl (w.heap.size + 1) 3 i0 (.int .i64 0) 1 Try.underlying25 hi hz0 hz1 .i64 .i64 _ _ (2 * m) rfl rfl ?_ ?_ ?_ ?_ ?_ ?_))
    · omega
    · omega
    · rw [hz2]; omega
    · unfold maxLen; omega
    · simp
    · intro w1 hown hg
      have hblk := (hg.block w.heap.size (by simp) (by simp)).trans (heap_alloc_new w _)
      have c0 : w1.cell? ⟨w.heap.size, 0, none⟩ = some (.slice none 0 0) := by rw [cell_of_row _ _ _ _ _ _ hblk]; rfl
      have c1 : w1.cell? ⟨w.heap.size, 1, none⟩ = some (.int .i64 0) := by rw [cell_of_row _ _ _ _ _ _ hblk]; rfl
      have c2 : w1.cell? ⟨w.heap.size, 2, none⟩ = some (.int .i64 0) := by rw [cell_of_row _ _ _ _ _ _ hblk]; rfl
      have c3 : w1.cell? ⟨w.heap.size, 3, none⟩ = some (.int .i64 0) := by rw [cell_of_row _ _ _ _ _ _ hblk]; rfl
      have f0 : ∀ j, w1.frozen? ⟨w.heap.size, j, none⟩ = false := fun j => by simp [World.frozen?, hblk]
      have HO := Lib.hid hown
      have HG := Lib.hid hg
      clear hown hg hblk
      go_wp2
      refine bodyPost_ret (v := .tuple #[.agg #[.slice (some ⟨w.heap.size + 1, 0, none⟩) (2 * m) (2 * m), .int .i64 m, .int .i64 0, .int .i64 0], .bool true]) ?_ rfl ⟨_, rfl, ?_, ?_⟩
      · simp [results, Try.results19, go_sem, c0, c1, c2, c3]
      · have ho := HO.out
        rw [toList_madeCells_one] at ho
        rw [HE.out, List.map_replicate, List.length_replicate]
        exact own_base (ownsRow_setCell_below (ownsRow_setCell_below (ownsRow_setCell_below (ownsRow_setCell_below ho (by simp) _) (by simp) _) (by simp) _) (by simp) _) (by omega)
      · exact ((((((Below.refl _ _).alloc (Nat.le_refl _) _).grown HG.out (by simp) (by simp)).setCell (Nat.le_refl _) _).setCell (Nat.le_refl _) _).setCell (Nat.le_refl _) _).setCell (Nat.le_refl _) _

set_option maxHeartbeats 400000 in
set_option maxRecDepth 100000 in
theorem sHeapNew_any (n : Int) (w : World) :
    Calls Try.prog 14 #[.int .i64 n] w fun e w' => ∃ v, e = .returned (.tuple #[.agg #[v, .int .i64 (if inB n 1 3000 then n else 0), .int .i64 0, .int .i64 0], .bool (inB n 1 3000)]) ∧
      w'.ownsRow w.heap.size 3 1 v (newWords n).length ((newWords n).map (Value.int .i64)) ∧ Below w.heap.size w w' := by
  cases hw : inB n 1 3000
  · have he : newWords n = [] := by simp [newWords, hw]
    have HE := Lib.hid he
    clear he
    go_enter Try.func14, Try.ntmps14
    go_wp2_with (go_at_call 36; refine (l1In_any _ _ _ _).mono ?_; rintro e w' ⟨rfl, rfl⟩)
    refine bodyPost_ret (v := .tuple #[.agg #[.slice none 0 0, .int .i64 0, .int .i64 0, .int .i64 0], .bool false]) (by simp [results, Try.results14, go_sem]) rfl ⟨_, rfl, ?_, ?_⟩
    · rw [HE.out]; exact World.ownsRow_nil _ _ _ _
    · exact (Below.refl _ _).alloc (Nat.le_refl _) _
  · obtain ⟨h0, h1⟩ := inB_true.1 hw
    obtain ⟨m, rfl⟩ := Int.eq_ofNat_of_zero_le (show 0 ≤ n by omega)
    have he : newWords m = List.replicate (2 * m) 0 := by simp [newWords, hw]
    have HE := Lib.hid he
    clear he
    obtain ⟨i0, hi, hz0, hz1, hz2⟩ := info_parts Try.infoI0
    go_enter Try.func14, Try.ntmps14
    go_wp2_with (first | (go_at_call 36; refine (l1In_any _ _ _ _).mono ?_; rintro e w' ⟨rfl, rfl⟩) | (refine wpList_make_full _ rfl (.tmp 9) (.tmp 9) 25 rfl (w.heap.size + 1) 3 i0 (.int .i64 0) 1 Try.underlying25 hi hz0 hz1 .i64 .i64 _ _ (2 * m) rfl rfl ?_ ?_ ?_ ?_ ?_ ?_))
    · omega
    · omega
    · rw [hz2]; omega
    · unfold maxLen; omega
    · simp
    · intro w1 hown hg
      have hblk := (hg.block w.heap.size (by simp) (by simp)).trans (heap_alloc_new w _)
      have c0 : w1.cell? ⟨w.heap.size, 0, none⟩ = some (.slice none 0 0) := by rw [cell_of_row _ _ _ _ _ _ hblk]; rfl
      have c1 : w1.cell? ⟨w.heap.size, 1, none⟩ = some (.int .i64 0) := by rw [cell_of_row _ _ _ _ _ _ hblk]; rfl
      have c2 : w1.cell? ⟨w.heap.size, 2, none⟩ = some (.int .i64 0) := by rw [cell_of_row _ _ _ _ _ _ hblk]; rfl
      have c3 : w1.cell? ⟨w.heap.size, 3, none⟩ = some (.int .i64 0) := by rw [cell_of_row _ _ _ _ _ _ hblk]; rfl
      have f0 : ∀ j, w1.frozen? ⟨w.heap.size, j, none⟩ = false := fun j => by simp [World.frozen?, hblk]
      have HO := Lib.hid hown
      have HG := Lib.hid hg
      clear hown hg hblk
      go_wp2
      refine bodyPost_ret (v := .tuple #[.agg #[.slice (some ⟨w.heap.size + 1, 0, none⟩) (2 * m) (2 * m), .int .i64 m, .int .i64 0, .int .i64 0], .bool true]) ?_ rfl ⟨_, rfl, ?_, ?_⟩
      · simp [results, Try.results14, go_sem, c0, c1, c2, c3]
      · have ho := HO.out
        rw [toList_madeCells_one] at ho
        rw [HE.out, List.map_replicate, List.length_replicate]
        exact own_base (ownsRow_setCell_below (ownsRow_setCell_below (ownsRow_setCell_below (ownsRow_setCell_below ho (by simp) _) (by simp) _) (by simp) _) (by simp) _) (by omega)
      · exact ((((((Below.refl _ _).alloc (Nat.le_refl _) _).grown HG.out (by simp) (by simp)).setCell (Nat.le_refl _) _).setCell (Nat.le_refl _) _).setCell (Nat.le_refl _) _).setCell (Nat.le_refl _) _

end Go.Proofs.Ytlkdlcpfcacigaa
