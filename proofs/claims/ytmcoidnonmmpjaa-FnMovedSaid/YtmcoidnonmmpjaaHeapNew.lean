/- HeapNew of the program and of the reference; eqHeap, markHeap, heldHeap. -/
import Derived.Test.YtmcoidnonmmpjaaScalar
import Derived.Test.YtmcoidnonmmpjaaEqI
import Derived.Test.YtmcoidnonmmpjaaMarkI
namespace Go.Proofs.Ytmcoidnonmmpjaa
open Go.RowKit
set_option linter.unusedVariables false

/-- a heap as a value. -/
def hv (v : Value) (h b n : Int) : Value := .agg #[v, .int .i64 h, .int .i64 b, .int .i64 n]

/-- the words of a new heap. -/
def newWords (n : Int) : List Int := if inB n 1 3000 then List.replicate (2 * n.toNat) 0 else []
theorem newWords_len (n : Int) : (newWords n).length ≤ 6000 := by
  unfold newWords
  cases hw : inB n 1 3000
  · simp
  · obtain ⟨h0, h1⟩ := inB_true.1 hw
    simp
    omega
theorem Try.infoI0 : (Try.prog.info? 3).map (fun i => (i.zero, i.size, i.bytes)) = some (some (.int .i64 0), 1, 8) := by kernel_rfl

set_option maxHeartbeats 400000 in
set_option maxRecDepth 100000 in
theorem iHeapNew_any (n : Int) (w : World) :
    Calls Try.prog 17 #[.int .i64 n] w fun e w' => ∃ v, e = .returned (.tuple #[.agg #[v, .int .i64 (if inB n 1 3000 then n else 0), .int .i64 0, .int .i64 0], .bool (inB n 1 3000)]) ∧
      w'.ownsRow w.heap.size 3 1 v (newWords n).length ((newWords n).map (Value.int .i64)) ∧ Below w.heap.size w w' := by
  cases hw : inB n 1 3000
  · have he : newWords n = [] := by simp [newWords, hw]
    have HE := Lib.hid he
    clear he
    go_enter Try.func17, Try.ntmps17
    go_wp2_with (go_at_call 37; refine (within_any _ _ _ _).mono ?_; rintro e w' ⟨rfl, rfl⟩)
    refine bodyPost_ret (v := .tuple #[.agg #[.slice none 0 0, .int .i64 0, .int .i64 0, .int .i64 0], .bool false]) (by simp [results, Try.results17, go_sem]) rfl ⟨_, rfl, ?_, ?_⟩
    · rw [HE.out]; exact World.ownsRow_nil _ _ _ _
    · exact (Below.refl _ _).alloc (Nat.le_refl _) _
  · obtain ⟨h0, h1⟩ := inB_true.1 hw
    obtain ⟨m, rfl⟩ := Int.eq_ofNat_of_zero_le (show 0 ≤ n by omega)
    have he : newWords m = List.replicate (2 * m) 0 := by simp [newWords, hw]
    have HE := Lib.hid he
    clear he
    obtain ⟨i0, hi, hz0, hz1, hz2⟩ := info_parts Try.infoI0
    go_enter Try.func17, Try.ntmps17
    go_wp2_with (first | (go_at_call 37; refine (within_any _ _ _ _).mono ?_; rintro e w' ⟨rfl, rfl⟩) | (refine wpList_make_full _ rfl (.tmp 9) (.tmp 9) 24 rfl (w.heap.size + 1) 3 i0 (.int .i64 0) 1 Try.underlying24 hi hz0 hz1 .i64 .i64 _ _ (2 * m) rfl rfl ?_ ?_ ?_ ?_ ?_ ?_))
    · omega
    · omega
    · rw [hz2]; omega
    · unfold maxLen; omega
    · simp
    · intro w1 hown hg
      have hblk := (hg.block w.heap.size (by simp) (by simp)).trans (heap_alloc_new w _)
      have c0 : w1.cell? ⟨w.heap.size, 0, none⟩ = some (.slice none 0 0) := by rw [cell_of_row _ _ _ _ _ _ hblk]; rfl
      have c1 : w1.cell? ⟨w.heap.size, 1, none⟩ = some (.int .i64 0) := by rw [cell_of_row _ _ _ _ _ _ hblk]; rfl
      have c2 : w1.cell? ⟨w.heap.size, 2, none⟩ = some (.int .i64 0) := by rw [cell_of_row _ _ _ _ _ _ hblk]; rfl
      have c3 : w1.cell? ⟨w.heap.size, 3, none⟩ = some (.int .i64 0) := by rw [cell_of_row _ _ _ _ _ _ hblk]; rfl
      have f0 : ∀ j, w1.frozen? ⟨w.heap.size, j, none⟩ = false := fun j => by simp [World.frozen?, hblk]
      have HO := Lib.hid hown
      have HG := Lib.hid hg
      clear hown hg hblk
      go_wp2
      refine bodyPost_ret (v := .tuple #[.agg #[.slice (some ⟨w.heap.size + 1, 0, none⟩) (2 * m) (2 * m), .int .i64 m, .int .i64 0, .int .i64 0], .bool true]) ?_ rfl ⟨_, rfl, ?_, ?_⟩
      · simp [results, Try.results17, go_sem, c0, c1, c2, c3]
      · have ho := HO.out
        rw [toList_madeCells_one] at ho
        rw [HE.out, List.map_replicate, List.length_replicate]
        exact own_base (ownsRow_setCell_below (ownsRow_setCell_below (ownsRow_setCell_below (ownsRow_setCell_below ho (by simp) _) (by simp) _) (by simp) _) (by simp) _) (by omega)
      · exact ((((((Below.refl _ _).alloc (Nat.le_refl _) _).grown HG.out (by simp) (by simp)).setCell (Nat.le_refl _) _).setCell (Nat.le_refl _) _).setCell (Nat.le_refl _) _).setCell (Nat.le_refl _) _

set_option maxHeartbeats 400000 in
set_option maxRecDepth 100000 in
theorem sHeapNew_any (n : Int) (w : World) :
    Calls Try.prog 18 #[.int .i64 n] w fun e w' => ∃ v, e = .returned (.tuple #[.agg #[v, .int .i64 (if inB n 1 3000 then n else 0), .int .i64 0, .int .i64 0], .bool (inB n 1 3000)]) ∧
      w'.ownsRow w.heap.size 3 1 v (newWords n).length ((newWords n).map (Value.int .i64)) ∧ Below w.heap.size w w' := by
  cases hw : inB n 1 3000
  · have he : newWords n = [] := by simp [newWords, hw]
    have HE := Lib.hid he
    clear he
    go_enter Try.func18, Try.ntmps18
    go_wp2_with (go_at_call 39; refine (l1In_any _ _ _ _).mono ?_; rintro e w' ⟨rfl, rfl⟩)
    refine bodyPost_ret (v := .tuple #[.agg #[.slice none 0 0, .int .i64 0, .int .i64 0, .int .i64 0], .bool false]) (by simp [results, Try.results18, go_sem]) rfl ⟨_, rfl, ?_, ?_⟩
    · rw [HE.out]; exact World.ownsRow_nil _ _ _ _
    · exact (Below.refl _ _).alloc (Nat.le_refl _) _
  · obtain ⟨h0, h1⟩ := inB_true.1 hw
    obtain ⟨m, rfl⟩ := Int.eq_ofNat_of_zero_le (show 0 ≤ n by omega)
    have he : newWords m = List.replicate (2 * m) 0 := by simp [newWords, hw]
    have HE := Lib.hid he
    clear he
    obtain ⟨i0, hi, hz0, hz1, hz2⟩ := info_parts Try.infoI0
    go_enter Try.func18, Try.ntmps18
    go_wp2_with (first | (go_at_call 39; refine (l1In_any _ _ _ _).mono ?_; rintro e w' ⟨rfl, rfl⟩) | (refine wpList_make_full _ rfl (.tmp 9) (.tmp 9) 24 rfl (w.heap.size + 1) 3 i0 (.int .i64 0) 1 Try.underlying24 hi hz0 hz1 .i64 .i64 _ _ (2 * m) rfl rfl ?_ ?_ ?_ ?_ ?_ ?_))
    · omega
    · omega
    · rw [hz2]; omega
    · unfold maxLen; omega
    · simp
    · intro w1 hown hg
      have hblk := (hg.block w.heap.size (by simp) (by simp)).trans (heap_alloc_new w _)
      have c0 : w1.cell? ⟨w.heap.size, 0, none⟩ = some (.slice none 0 0) := by rw [cell_of_row _ _ _ _ _ _ hblk]; rfl
      have c1 : w1.cell? ⟨w.heap.size, 1, none⟩ = some (.int .i64 0) := by rw [cell_of_row _ _ _ _ _ _ hblk]; rfl
      have c2 : w1.cell? ⟨w.heap.size, 2, none⟩ = some (.int .i64 0) := by rw [cell_of_row _ _ _ _ _ _ hblk]; rfl
      have c3 : w1.cell? ⟨w.heap.size, 3, none⟩ = some (.int .i64 0) := by rw [cell_of_row _ _ _ _ _ _ hblk]; rfl
      have f0 : ∀ j, w1.frozen? ⟨w.heap.size, j, none⟩ = false := fun j => by simp [World.frozen?, hblk]
      have HO := Lib.hid hown
      have HG := Lib.hid hg
      clear hown hg hblk
      go_wp2
      refine bodyPost_ret (v := .tuple #[.agg #[.slice (some ⟨w.heap.size + 1, 0, none⟩) (2 * m) (2 * m), .int .i64 m, .int .i64 0, .int .i64 0], .bool true]) ?_ rfl ⟨_, rfl, ?_, ?_⟩
      · simp [results, Try.results18, go_sem, c0, c1, c2, c3]
      · have ho := HO.out
        rw [toList_madeCells_one] at ho
        rw [HE.out, List.map_replicate, List.length_replicate]
        exact own_base (ownsRow_setCell_below (ownsRow_setCell_below (ownsRow_setCell_below (ownsRow_setCell_below ho (by simp) _) (by simp) _) (by simp) _) (by simp) _) (by omega)
      · exact ((((((Below.refl _ _).alloc (Nat.le_refl _) _).grown HG.out (by simp) (by simp)).setCell (Nat.le_refl _) _).setCell (Nat.le_refl _) _).setCell (Nat.le_refl _) _).setCell (Nat.le_refl _) _

end Go.Proofs.Ytmcoidnonmmpjaa
