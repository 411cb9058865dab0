/- szIntS, szHeap: how much is left; toHeap: a heap of the program's own type. -/
import Derived.Test.YtkpkofddfjgmpaaToI
import Derived.Test.YtkpkofddfjgmpaaScalar
namespace Go.Proofs.Ytkpkofddfjgmpaa
open Go.RowKit
set_option linter.unusedVariables false

def szOf (n : Nat) (left : Int) : Int := if left - n < 0 then -1 else left - n

set_option maxHeartbeats 400000 in
theorem szIntS_any {B : Nat} (v : Value) (zs : List Int) (left : Int) (w : World) (hr : Rd B .i64 w v zs) (h0 : -1 ≤ left) (h1 : left ≤ 4611686018427387904) :
    Calls Try.prog 73 #[v, .int .i64 left] w fun e w' => e = .returned (.int .i64 (szOf zs.length left)) ∧ w = w' := by
  have hx := hr.len
  unfold maxLen at hx
  obtain ⟨a, cap, rfl⟩ := hr.form
  clear hr
  by_cases hneg : left - zs.length < 0
  · have HF := Lib.hid (show szOf zs.length left = -1 from if_pos hneg)
    go_enter Try.func73, Try.ntmps73
    go_wp2
    go_ret
    exact ⟨ret_int HF.out.symm, rfl⟩
  · have HF := Lib.hid (show szOf zs.length left = left - zs.length from if_neg hneg)
    go_enter Try.func73, Try.ntmps73
    go_wp2
    go_ret
    exact ⟨ret_int HF.out.symm, rfl⟩

theorem szOf_ge (n : Nat) (left : Int) : -1 ≤ szOf n left := by unfold szOf; split <;> omega

set_option maxHeartbeats 400000 in
theorem szHeap_any {B : Nat} (v : Value) (zs : List Int) (h b nx left : Int) (w : World) (hr : Rd B .i64 w v zs) (h0 : -1 ≤ left) (h1 : left ≤ 4611686018427387904) :
    Calls Try.prog 72 #[.agg #[v, .int .i64 h, .int .i64 b, .int .i64 nx], .int .i64 left] w fun e w' => e = .returned (.int .i64 (szOf zs.length left)) ∧ Below w.heap.size w w' := by
  have hr' := fun (w' : World) (hb : Below w.heap.size w w') => hr.below' hb
  obtain ⟨a, cap, rfl⟩ := hr.form
  clear hr
  have hge := szOf_ge zs.length left
  obtain ⟨s, hs⟩ : ∃ s, szOf zs.length left = s := ⟨_, rfl⟩
  have hz := fun (W : World) (hb : Below w.heap.size w W) => szIntS_any _ _ left W (hr' _ hb) h0 h1
  rw [hs] at hge hz
  rw [hs]
  have HZ := Lib.hid hz
  clear hz hs hr'
  go_enter Try.func72, Try.ntmps72
  go_wp2_with fail
  refine (HZ.out _ ((Below.refl _ _).alloc (Nat.le_refl _) _)).mono ?_
  rintro e w1 ⟨rfl, rfl⟩
  go_wp2
  all_goals go_ret
  all_goals exact ⟨ret_int (by omega), (Below.refl _ _).alloc (Nat.le_refl _) _⟩

theorem alloc_box3 {w x : World} {A B C : Array Value} {e f g : TypeId} (h : ((w.alloc (.cells A e)).alloc (.cells B f)).alloc (.cells C g) = x) :
    Below w.heap.size w x ∧ Bx x w.heap.size A ∧ Bx x (w.heap.size + 1) B ∧ Bx x (w.heap.size + 2) C ∧ x.heap.size = w.heap.size + 3 := by
  obtain ⟨b1, k1⟩ := Bx.alloc (w := w) (cur := A) (e := e) rfl
  obtain ⟨b2, k2⟩ := Bx.alloc (w := w.alloc (.cells A e)) (cur := B) (e := f) rfl
  obtain ⟨b3, k3⟩ := Bx.alloc (w := (w.alloc (.cells A e)).alloc (.cells B f)) (cur := C) (e := g) rfl
  have s1 : (w.alloc (.cells A e)).heap.size = w.heap.size + 1 := by simp
  have s2 : ((w.alloc (.cells A e)).alloc (.cells B f)).heap.size = w.heap.size + 2 := by simp
  rw [s1] at k2 b2
  rw [s2] at k3 b3
  subst h
  exact ⟨(b1.trans (b2.mono (by omega))).trans (b3.mono (by omega)), (k1.below b2 (by omega)).below b3 (by omega), k2.below b3 (by omega), k3, by simp⟩

set_option maxHeartbeats 800000 in
set_option maxRecDepth 100000 in
theorem toHeap_any {B : Nat} (v : Value) (zs : List Int) (h b nx : Int) (w : World) (hr : Rd B .i64 w v zs) (hn : zs.length ≤ 4294967296) :
    Calls Try.prog 75 #[.agg #[v, .int .i64 h, .int .i64 b, .int .i64 nx]] w fun e w' => ∃ v', e = .returned (.agg #[v', .int .i64 h, .int .i64 b, .int .i64 nx]) ∧
      w'.ownsRow w.heap.size 3 1 v' zs.length (zs.map (Value.int .i64)) ∧ Below w.heap.size w w' := by
  have hr' := fun (w' : World) (hb : Below w.heap.size w w') => hr.below' hb
  obtain ⟨a, cap, rfl⟩ := hr.form
  clear hr
  go_enter Try.func75, Try.ntmps75
  go_wp2_with fail
  generalize hx : ((w.alloc _).alloc _).alloc _ = x
  obtain ⟨bx, k1, k2, k3, sx⟩ := alloc_box3 hx
  clear hx
  refine (toIntS_any _ _ _ (hr' _ bx) hn).mono ?_
  rintro e w1 ⟨v1, rfl, o1, b1⟩
  obtain ⟨a1, c1, rfl⟩ := own_form o1
  replace k1 := k1.below b1 k1.1
  replace k2 := k2.below b1 k2.1
  replace k3 := k3.below b1 k3.1
  have q1 := k1.2.1
  have q2 := k2.2.1
  have q3 := k3.2.1
  have f1 := k1.2.2
  have f2 := k2.2.2
  have f3 := k3.2.2
  have y1 := k1.1
  have y2 := k2.1
  have y3 := k3.1
  have HS := Lib.hid sx
  clear k1 k2 k3 sx hr'
  have HO := Lib.hid o1
  have b2 := bx.trans (b1.mono bx.size)
  clear o1 bx b1
  go_wp2
  refine bodyPost_ret (v := .agg #[.slice a1 zs.length c1, .int .i64 h, .int .i64 b, .int .i64 nx]) ?_ rfl ⟨_, rfl, ?_, ?_⟩
  · simp [results, Try.results75, go_sem, q2]
  · have hs := HS.out
    refine own_base (base := x.heap.size) ?_ (by omega)
    repeat (refine ownsRow_setCell_below ?_ (by show _ + 1 < _; omega) _)
    exact HO.out
  · repeat (refine Below.setCell ?_ (by show _ ≤ _ + 1; omega) _)
    exact b2

end Go.Proofs.Ytkpkofddfjgmpaa
