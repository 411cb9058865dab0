/- The law FnExactRoom returns true for every input that can be read as data, with no condition, and its arguments read as they did. -/
import Derived.Deep.RegionWith
import Derived.Test.YtbcipfajlhiabaaRows
import Derived.Test.YtbcipfajlhiabaaOpen
import Derived.Test.YtbcipfajlhiabaaRoom
import Derived.Test.YtbcipfajlhiabaaHeapTo
import Derived.Test.YtbcipfajlhiabaaHeapNew
namespace Go.Proofs.Ytbcipfajlhiabaa.fnExactRoom
open Go.ChangeShapes Go.WideShapes Go.ChangeAt Go.RowKit
open Go.ChangeMaps (open_string shut_string)
set_option linter.unusedVariables false

theorem own : ownKnob Try.prog.godebug = none := by kernel_rfl
theorem laidOut : laidOutB Try.prog = true := by kernel_rfl

set_option maxHeartbeats 800000 in
set_option maxRecDepth 100000 in
theorem walk (w : World) (u0 : Value) (z0 : List Int) (h0 b0 n0 : Int) (r0 : Rd w.heap.size .i64 w u0 z0) (i0 : intsIn z0) (ih0 : -9223372036854775808 ≤ h0 ∧ h0 ≤ 9223372036854775807) (ib0 : -9223372036854775808 ≤ b0 ∧ b0 ≤ 9223372036854775807) (in0 : -9223372036854775808 ≤ n0 ∧ n0 ≤ 9223372036854775807) :
    Calls Try.prog 4 #[.agg #[u0, .int .i64 h0, .int .i64 b0, .int .i64 n0]] w fun e w' => e = .returned (.bool true) ∧ Below w.heap.size w w' := by
  by_cases hbig : z0.length ≤ 1048576
  · have hs : szOf z0.length 1048576 = 1048576 - z0.length := by unfold szOf; rw [if_neg (by omega)]
    have hz := fun (W : World) (hb : Below w.heap.size w W) => szHeap_any u0 z0 h0 b0 n0 1048576 W (r0.below' hb) (by omega) (by omega)
    rw [hs] at hz
    have HZ := Lib.hid hz
    have hto := fun (W : World) (hb : Below w.heap.size w W) => toHeap_any u0 z0 h0 b0 n0 W (r0.below' hb) (by omega)
    have HT := Lib.hid hto
    have hok1 := fun (B : Nat) (v : Value) (W : World) (hr : Rd B .i64 W v z0) => sRoom_any v z0 h0 b0 n0 W hr i0 (by omega) ih0 ib0 in0
    have hok2 := fun (B : Nat) (v : Value) (W : World) (hr : Rd B .i64 W v z0) => iRoom_any v z0 h0 b0 n0 W hr i0 (by omega) ih0 ib0 in0
    obtain ⟨ok, hok⟩ : ∃ ok, roomOf z0 h0 b0 n0 = ok := ⟨_, rfl⟩
    rw [hok] at hok1 hok2
    have H1 := Lib.hid hok1
    have H2 := Lib.hid hok2
    obtain ⟨a0, cap0, rfl⟩ := r0.form
    clear hs hz hto hok1 hok2 hok r0 i0 ih0 ib0 in0
    go_enter Try.func4, Try.ntmps4
    go_wp2_with fail
    generalize hx : w.alloc _ = x0
    obtain ⟨b0', k0⟩ := Bx.alloc hx
    clear hx
    refine (HZ.out _ b0').mono ?_
    rintro e w1 ⟨rfl, b1⟩
    replace k0 := k0.below b1 k0.1
    replace b1 := b0'.trans (b1.mono b0'.size)
    clear b0'
    have q0 := k0.2.1
    have y0 := k0.1
    go_wp2_with fail
    refine (HT.out _ b1).mono ?_
    rintro e w2 ⟨v2, rfl, o2, b2⟩
    clear q0 y0
    replace k0 := k0.below b2 k0.1
    replace b2 := b1.trans (b2.mono b1.size)
    have r2 := Rd.of_own o2
    obtain ⟨a2, c2, rfl⟩ := r2.form
    clear o2 b1
    go_wp2_with fail
    refine (H1.out _ _ _ r2).mono ?_
    rintro e w3 ⟨rfl, b3⟩
    replace k0 := k0.below b3 k0.1
    replace b3 := b2.trans (b3.mono b2.size)
    clear r2 b2
    have q0 := k0.2.1
    have y0 := k0.1
    go_wp2_with fail
    refine (HT.out _ b3).mono ?_
    rintro e w4 ⟨v4, rfl, o4, b4⟩
    clear q0 y0
    replace k0 := k0.below b4 k0.1
    replace b4 := b3.trans (b4.mono b3.size)
    have r4 := Rd.of_own o4
    obtain ⟨a4, c4, rfl⟩ := r4.form
    clear o4 b3
    go_wp2_with fail
    generalize hx : w4.alloc _ = x4
    obtain ⟨bx, k4⟩ := Bx.alloc hx
    clear hx
    replace k0 := k0.below bx k0.1
    have r5 := r4.below bx (Nat.le_refl _)
    replace b4 := b4.trans (bx.mono b4.size)
    clear r4 bx
    refine (H2.out _ _ _ r5).mono ?_
    rintro e w6 ⟨rfl, b6⟩
    have k6 := k4.below b6 k4.1
    replace k0 := k0.below b6 k0.1
    have r6 := r5.below b6 (Nat.le_of_lt k4.1)
    replace b6 := b4.trans (b6.mono b4.size)
    have y4 := k4.1
    clear k4 r5 b4
    have q0 := k0.2.1
    have y0 := k0.1
    have q6 := k6.2.1
    have y6 := k6.1
    go_wp2_with fail
    go_region_with (first | (go_at_call 12; refine (HT.out _ (by first | exact b6 | exact b6.drew)).mono ?_; rintro e w7 ⟨v7, rfl, o7, b7⟩; have c7 : Below w6.heap.size w6 w7 := ((Below.refl w6.heap.size w6).drew).trans b7; have k7 := k6.below c7 y6; have r7 := r6.below c7 (Nat.le_of_lt y6); have p7 := Rd.of_own o7; obtain ⟨a7, d7, hv7⟩ := own_form o7; subst hv7; have q7 := k7.2.1; have b7' := b6.trans (c7.mono b6.size); clear o7 b7 c7 k7) | (go_at_call 14; refine (eqHeap_same _ _ _ _ _ _ _ (by first | exact r7 | exact r7.below ((Below.refl _ _).drew) (Nat.le_refl _)) (by first | exact p7 | exact p7.below ((Below.refl _ _).drew) (Nat.le_refl _))).mono ?_; rintro e w8 ⟨rfl, b8⟩))
    all_goals
      have bz := b7'.size
      have b9 : Below w.heap.size w w8 := by first | exact b7'.trans (b8.mono bz) | exact b7'.trans ((((Below.refl w7.heap.size w7).drew).trans b8).mono bz)
      clear b8 b7' r7 p7 q7
      go_wp2
      go_ret
      exact ⟨rfl, by first | exact b9 | exact b9.drew⟩
  · have hs : szOf z0.length 1048576 = -1 := by unfold szOf; rw [if_pos (by omega)]
    have hz := fun (W : World) (hb : Below w.heap.size w W) => szHeap_any u0 z0 h0 b0 n0 1048576 W (r0.below' hb) (by omega) (by omega)
    rw [hs] at hz
    have HZ := Lib.hid hz
    obtain ⟨a0, cap0, rfl⟩ := r0.form
    clear hs hz r0
    go_enter Try.func4, Try.ntmps4
    go_wp2_with fail
    generalize hx : w.alloc _ = x0
    obtain ⟨b0', k0⟩ := Bx.alloc hx
    clear hx
    refine (HZ.out _ b0').mono ?_
    rintro e w1 ⟨rfl, b1⟩
    go_wp2
    go_ret
    exact ⟨rfl, b0'.trans (b1.mono b0'.size)⟩

set_option maxRecDepth 100000 in
theorem lifted (os : Os) (started : os.Started) (H : Type) (enc : TypeId × Value → H) :
    ReturnsInHanded {} Try.checked os 4 .any (Rows.fnExactRoomSpec.pre6 enc Try.prog Try.f4 Rows.fnExactRoomRow.domain false) (Rows.fnExactRoomSpec.post enc Try.prog Try.f4 false true false false) := by
  refine returnsInHanded_of_change (C := Try.checked) own started (by kernel_rfl) Try.func4
    (ChangeSpec.witness6 (enc := enc) (C := Try.checked) false ⟨#[], #[.agg #[.slice none 0 0, .int .i64 0, .int .i64 0, .int .i64 0]], []⟩ 8 (by kernel_rfl) (by kernel_rfl) (by kernel_rfl) (by kernel_rfl)) ?_
  intro W base args ds gs before hval0 hW hcnd _
  have hval : ∀ (j : Nat) t v, Try.f4.params[j]? = some t → args[j]? = some v → Value.okWide Try.prog W .any base t v := hval0
  have hW' := hW
  obtain ⟨p, q, hA0, hV, rfl, hfz, hnd⟩ := hW
  have hA : DataW.TrodAll enc Try.prog W 0 (fun _ => true) true Try.f4.params.toList args.toList ds p := hA0
  rw [Try.params4] at hA hval
  obtain ⟨v0, vs0, d0, ds0, p0, q0, hargs, rfl, rfl, h0, t0⟩ := trodAll_cons hA
  obtain ⟨rfl, rfl, rfl⟩ := trodAll_nil t0
  obtain rfl : args = #[v0] := by cases args; simp_all
  obtain ⟨rfl, rfl⟩ := trodVars_none hV
  have k0 := h0
  have lt0 : ∀ x ∈ p0, x.block < W.heap.size := by obtain ⟨m, hm⟩ := k0; exact DataW.trod_lt m _ _ _ hm
  obtain ⟨u0, c10, c20, c30, y00, y10, y20, y30, g0, rfl, rfl, rfl, f00, f10, f20, f30⟩ := Joins.open_agg4 Try.underlying24 (by kernel_rfl) (by kernel_rfl) (hval 0 24 v0 rfl rfl) h0
  obtain ⟨z0, r0, i0⟩ := ints_rd Try.underlying22 Try.underlying3 (by kernel_rfl) f00
  obtain ⟨hh0, rfl, ih0⟩ := int_rd Try.underlying3 f10
  obtain ⟨hb0, rfl, ib0⟩ := int_rd Try.underlying3 f20
  obtain ⟨hn0, rfl, in0⟩ := int_rd Try.underlying3 f30
  clear hA0 hval0
  refine (walk W _ z0 _ _ _ r0 i0 ih0 ib0 in0).mono fun e W' ⟨he, bel⟩ => ?_
  subst he
  exact ⟨_, rfl, _, _, _, [], _, [], hW', trodAll_mk1 (shut_bool Try.underlying4 _), (trodAll_cons_mk (Below.trod laidOut (by kernel_rfl) (of_decide_eq_true (by kernel_rfl)) k0 bel lt0) trodAll_mk0), rfl, bel.frame _, fun h => by cases h⟩

theorem over : Rows.fnExactRoomRow.holds Try.pinned (OpenSpec.ofChange Rows.fnExactRoomSpec) :=
  OpenClaim.holds_of_wide 4 Try.f4 rfl rfl rfl rfl rfl rfl rfl ⟨rfl, rfl, rfl, rfl, rfl⟩ rfl rfl rfl rfl rfl (by kernel_rfl) Try.func4 (by kernel_rfl)
    (of_decide_eq_true (by kernel_rfl)) (by unfold Func.isWrapper; first | (rw [if_pos (by decide +kernel)]; kernel_rfl) | (rw [if_neg (by decide +kernel)]; exact ⟨rfl, rfl⟩))
    (fun os started H enc _ => lifted os started H enc)

theorem proved : Rows.FnExactRoomSaid := over
end Go.Proofs.Ytbcipfajlhiabaa.fnExactRoom
