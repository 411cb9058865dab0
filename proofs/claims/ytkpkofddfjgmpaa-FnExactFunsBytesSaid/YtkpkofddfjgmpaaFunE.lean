/- Functions: szFun, toFun, eqFun. -/
import Derived.Test.YtkpkofddfjgmpaaOpsT
import Derived.Test.YtkpkofddfjgmpaaOpsE
import Derived.Test.YtkpkofddfjgmpaaHeapTo
namespace Go.Proofs.Ytkpkofddfjgmpaa
open Go.RowKit
set_option linter.unusedVariables false

set_option maxHeartbeats 400000 in
theorem szFun_any {B : Nat} (f : Int) (v : Value) (os : List O3) (left : Int) (w : World) (hr : RdO B w v os) (h0 : -1 ≤ left) (h1 : left ≤ 4611686018427387904) :
    Calls Try.prog 28 #[.agg #[.int .i64 f, v], .int .i64 left] w fun e w' => e = .returned (.int .i64 (szOf os.length left)) ∧ Below w.heap.size w w' := by
  have hr' := fun (w' : World) (hb : Below w.heap.size w w') => hr.below' hb
  obtain ⟨a, cap, rfl⟩ := hr.form
  clear hr
  have hge := szOf_ge os.length left
  obtain ⟨s, hs⟩ : ∃ s, szOf os.length left = s := ⟨_, rfl⟩
  have hz := fun (W : World) (hb : Below w.heap.size w W) => szOpS_any _ _ left W (hr' _ hb) h0 h1
  rw [hs] at hge hz
  rw [hs]
  have HZ := Lib.hid hz
  clear hz hs hr'
  go_enter Try.func28, Try.ntmps28
  go_wp2_with fail
  refine (HZ.out _ ((Below.refl _ _).alloc (Nat.le_refl _) _)).mono ?_
  rintro e w1 ⟨rfl, rfl⟩
  go_wp2
  all_goals go_ret
  all_goals exact ⟨ret_int (by omega), (Below.refl _ _).alloc (Nat.le_refl _) _⟩

set_option maxHeartbeats 800000 in
set_option maxRecDepth 100000 in
theorem toFun_any {B : Nat} (f : Int) (v : Value) (os : List O3) (w : World) (hr : RdO B w v os) (hn : os.length ≤ 4294967296) :
    Calls Try.prog 30 #[.agg #[.int .i64 f, v]] w fun e w' => ∃ v', e = .returned (.agg #[.int .i64 f, v']) ∧
      w'.ownsRow w.heap.size 81 3 v' os.length (flat O3.enc os) ∧ Below w.heap.size w w' := by
  have hr' := fun (w' : World) (hb : Below w.heap.size w w') => hr.below' hb
  obtain ⟨a, cap, rfl⟩ := hr.form
  clear hr
  go_enter Try.func30, Try.ntmps30
  go_wp2_with fail
  generalize hx : ((w.alloc _).alloc _).alloc _ = x
  obtain ⟨bx, k1, k2, k3, sx⟩ := alloc_box3 hx
  clear hx
  refine (toOpS_any _ _ _ (hr' _ bx) hn).mono ?_
  rintro e w1 ⟨v1, rfl, o1, b1⟩
  obtain ⟨a1, c1, rfl⟩ := own_form o1
  replace k1 := k1.below b1 k1.1
  replace k2 := k2.below b1 k2.1
  replace k3 := k3.below b1 k3.1
  have q1 := k1.2.1
  have q2 := k2.2.1
  have q3 := k3.2.1
  have f1 := k1.2.2
  have f2 := k2.2.2
  have f3 := k3.2.2
  have y1 := k1.1
  have y2 := k2.1
  have y3 := k3.1
  have HS := Lib.hid sx
  clear k1 k2 k3 sx hr'
  have HO := Lib.hid o1
  have b2 := bx.trans (b1.mono bx.size)
  clear o1 bx b1
  go_wp2
  refine bodyPost_ret (v := .agg #[.int .i64 f, .slice a1 os.length c1]) ?_ rfl ⟨_, rfl, ?_, ?_⟩
  · simp [results, Try.results30, go_sem, q2]
  · have hs := HS.out
    refine own_base (base := x.heap.size) ?_ (by omega)
    repeat (refine ownsRow_setCell_below ?_ (by show _ + 1 < _; omega) _)
    exact HO.out
  · repeat (refine Below.setCell ?_ (by show _ ≤ _ + 1; omega) _)
    exact b2

theorem fun_f {f g : Int} {os ps : List O3} (h : (f != g) = true) : false = (decide (f = g) && decide (os = ps)) := by simp at h; simp [h]

set_option maxHeartbeats 400000 in
theorem eqFun_any {B1 B2 : Nat} (f g : Int) (va vb : Value) (os ps : List O3) (w : World) (ha : RdO B1 w va os) (hb : RdO B2 w vb ps) :
    Calls Try.prog 32 #[.agg #[.int .i64 f, va], .agg #[.int .i64 g, vb]] w fun e w' => e = .returned (.bool (decide (f = g) && decide (os = ps))) ∧ Below w.heap.size w w' := by
  have ha' := fun (w' : World) (hb : Below w.heap.size w w') => ha.below' hb
  have hb' := fun (w' : World) (h : Below w.heap.size w w') => hb.below' h
  obtain ⟨a1, c1, rfl⟩ := ha.form
  obtain ⟨a2, c2, rfl⟩ := hb.form
  clear ha hb
  by_cases hf : f = g
  · have hne : (f != g) = false := by simp [hf]
    have hq := fun (W : World) (h : Below w.heap.size w W) => eqOpS_any _ _ _ _ W (ha' W h) (hb' W h)
    obtain ⟨q, hqq⟩ : ∃ q, decide (os = ps) = q := ⟨_, rfl⟩
    rw [hqq] at hq ⊢
    rw [show (decide (f = g) && q) = q by simp [hf]]
    have HQ := Lib.hid hq
    clear hq hqq hf ha' hb'
    go_enter Try.func32, Try.ntmps32
    go_wp2_with fail
    have bx : Below w.heap.size w ((w.alloc (.cells #[.int .i64 f, .slice a1 os.length c1] 34)).alloc (.cells #[.int .i64 g, .slice a2 ps.length c2] 34)) := ((Below.refl _ _).alloc (Nat.le_refl _) _).alloc (by simp) _
    refine (HQ.out _ bx).mono ?_
    rintro e w1 ⟨rfl, b1⟩
    have B1 := Lib.hid (bx.trans (b1.mono bx.size))
    clear bx b1
    cases q
    all_goals go_wp2
    all_goals go_ret
    all_goals exact ⟨rfl, B1.out⟩
  · have hne : (f != g) = true := by simp [hf]
    rw [show (decide (f = g) && decide (os = ps)) = false by simp [hf]]
    go_enter Try.func32, Try.ntmps32
    go_wp2
    go_ret
    exact ⟨rfl, ((Below.refl _ _).alloc (Nat.le_refl _) _).alloc (by simp) _⟩

theorem eqFun_same {B1 B2 : Nat} (f : Int) (va vb : Value) (os : List O3) (w : World) (ha : RdO B1 w va os) (hb : RdO B2 w vb os) :
    Calls Try.prog 32 #[.agg #[.int .i64 f, va], .agg #[.int .i64 f, vb]] w fun e w' => e = .returned (.bool true) ∧ Below w.heap.size w w' :=
  (eqFun_any f f va vb os os w ha hb).mono fun e w' h => ⟨by rw [h.1]; simp, h.2⟩

end Go.Proofs.Ytkpkofddfjgmpaa
