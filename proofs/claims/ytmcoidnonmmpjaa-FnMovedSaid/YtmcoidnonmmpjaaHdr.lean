/- The header's word; a heap's copy. -/
import Derived.Test.YtmcoidnonmmpjaaAllocP
import Derived.Test.YtmcoidnonmmpjaaHeapTo
import Derived.Test.YtmcoidnonmmpjaaClone
namespace Go.Proofs.Ytmcoidnonmmpjaa
open Go.RowKit
set_option linter.unusedVariables false

set_option maxHeartbeats 400000 in
theorem header_any (f : Bool) (tag : Int) (m : Nat) (w : World) (h0 : 0 ≤ tag) (h1 : tag ≤ 3000) (h2 : m ≤ 20) :
    Calls Try.prog 73 #[.bool f, .int .i64 tag, .int .i64 m] w fun e w' => e = .returned (.int .i64 (hdOf f tag m)) ∧ w' = w := by
  have HI := Lib.hid (fun (n : Int) (h : 0 ≤ n) (h' : n ≤ 1000000) => (show intW n = 2 * n + 1 from if_pos (inB_true.2 ⟨by omega, by omega⟩)))
  cases f
  · have HD := Lib.hid (show hdOf false tag m = 2 * (2 * (64 * tag + m)) + 1 by simp [hdOf])
    go_enter Try.func73, Try.ntmps73
    go_wp2_with (go_at_call 91; refine (iIntWord_any _ _).mono ?_; rw [HI.out _ (by omega) (by omega)]; rintro e w' ⟨rfl, rfl⟩)
    go_ret
    exact ⟨ret_int HD.out.symm, rfl⟩
  · have HD := Lib.hid (show hdOf true tag m = 2 * (2 * (64 * tag + m) + 1) + 1 by simp [hdOf])
    go_enter Try.func73, Try.ntmps73
    go_wp2_with (go_at_call 91; refine (iIntWord_any _ _).mono ?_; rw [HI.out _ (by omega) (by omega)]; rintro e w' ⟨rfl, rfl⟩)
    go_ret
    exact ⟨ret_int HD.out.symm, rfl⟩

set_option maxHeartbeats 400000 in
theorem l1Bit_any (f : Bool) (w : World) :
    Calls Try.prog 92 #[.bool f] w fun e w' => e = .returned (.int .i64 (if f then 1 else 0)) ∧ w = w' := by
  cases f
  all_goals
    go_enter Try.func92, Try.ntmps92
    go_wp2
    go_ret
    exact ⟨rfl, rfl⟩

set_option maxHeartbeats 400000 in
theorem l17Head_any (f : Bool) (tag : Int) (m : Nat) (w : World) (h0 : 0 ≤ tag) (h1 : tag ≤ 3000) (h2 : m ≤ 20) :
    Calls Try.prog 74 #[.bool f, .int .i64 tag, .int .i64 m] w fun e w' => e = .returned (.int .i64 (hdOf f tag m)) ∧ w' = w := by
  have hb := l1Bit_any f
  obtain ⟨x, hx⟩ : ∃ x : Int, (if f = true then (1 : Int) else 0) = x := ⟨_, rfl⟩
  have hx0 : 0 ≤ x ∧ x ≤ 1 := by rw [← hx]; split <;> omega
  obtain ⟨hx0, hx1⟩ := hx0
  have HD := Lib.hid (show hdOf f tag m = 2 * (2 * (64 * tag + m) + x) + 1 by unfold hdOf; rw [hx])
  rw [hx] at hb
  have HB := Lib.hid hb
  clear hb hx
  go_enter Try.func74, Try.ntmps74
  go_wp2_with (go_at_call 92; refine (HB.out _).mono ?_; rintro e w' ⟨rfl, rfl⟩)
  go_ret
  exact ⟨ret_int HD.out.symm, rfl⟩

theorem alloc_box2 {w x : World} {A B : Array Value} {e f : TypeId} (h : (w.alloc (.cells A e)).alloc (.cells B f) = x) :
    Below w.heap.size w x ∧ Bx x w.heap.size A ∧ Bx x (w.heap.size + 1) B ∧ x.heap.size = w.heap.size + 2 := by
  obtain ⟨b1, k1⟩ := Bx.alloc (w := w) (cur := A) (e := e) rfl
  obtain ⟨b2, k2⟩ := Bx.alloc (w := w.alloc (.cells A e)) (cur := B) (e := f) rfl
  have s1 : (w.alloc (.cells A e)).heap.size = w.heap.size + 1 := by simp
  rw [s1] at k2 b2
  subst h
  exact ⟨b1.trans (b2.mono (by omega)), k1.below b2 (by omega), k2, by simp⟩

set_option maxHeartbeats 800000 in
set_option maxRecDepth 100000 in
theorem copyHeap_any {B : Nat} (v : Value) (zs : List Int) (h b nx : Int) (w : World) (hr : Rd B .i64 w v zs) (hn : zs.length ≤ 4294967296) :
    Calls Try.prog 36 #[.agg #[v, .int .i64 h, .int .i64 b, .int .i64 nx]] w fun e w' => ∃ v', e = .returned (.agg #[v', .int .i64 h, .int .i64 b, .int .i64 nx]) ∧
      w'.ownsRow w.heap.size 3 1 v' zs.length (zs.map (Value.int .i64)) ∧ Below w.heap.size w w' := by
  have hr' := fun (w' : World) (hb : Below w.heap.size w w') => hr.below' hb
  obtain ⟨a, cap, rfl⟩ := hr.form
  clear hr
  go_enter Try.func36, Try.ntmps36
  go_wp2_with fail
  generalize hx : (w.alloc _).alloc _ = x
  obtain ⟨bx, k1, k2, sx⟩ := alloc_box2 hx
  clear hx
  have q1 := k1.2.1
  have y1 := k1.1
  go_wp2_with fail
  refine (clone_any _ _ _ (hr' _ bx) hn).mono ?_
  rintro e w1 ⟨v1, rfl, o1, b1⟩
  obtain ⟨a1, c1, rfl⟩ := own_form o1
  clear q1 y1
  replace k1 := k1.below b1 k1.1
  replace k2 := k2.below b1 k2.1
  have q1 := k1.2.1
  have q2 := k2.2.1
  have f1 := k1.2.2
  have f2 := k2.2.2
  have y1 := k1.1
  have y2 := k2.1
  have HS := Lib.hid sx
  clear k1 k2 sx hr'
  have HO := Lib.hid o1
  have b2 := bx.trans (b1.mono bx.size)
  clear o1 bx b1
  go_wp2
  refine bodyPost_ret (v := .agg #[.slice a1 zs.length c1, .int .i64 h, .int .i64 b, .int .i64 nx]) ?_ rfl ⟨_, rfl, ?_, ?_⟩
  · simp [results, Try.results36, go_sem, q2]
  · have hs := HS.out
    refine own_base (base := x.heap.size) ?_ (by omega)
    repeat (refine ownsRow_setCell_below ?_ (by dsimp only; omega) _)
    exact HO.out
  · repeat (refine Below.setCell ?_ (by dsimp only; omega) _)
    exact b2

end Go.Proofs.Ytmcoidnonmmpjaa
