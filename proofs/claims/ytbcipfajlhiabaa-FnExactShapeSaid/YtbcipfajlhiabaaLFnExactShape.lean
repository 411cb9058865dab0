/- The law FnExactShape returns true for every input that can be read as data, with no condition, and its arguments read as they did. -/
import Derived.Deep.RegionWith
import Derived.Test.YtbcipfajlhiabaaRows
import Derived.Test.YtbcipfajlhiabaaOpen
import Derived.Test.YtbcipfajlhiabaaShapeS
import Derived.Test.YtbcipfajlhiabaaShapeI
import Derived.Test.YtbcipfajlhiabaaHeapTo
import Derived.Test.YtbcipfajlhiabaaHeapNew
namespace Go.Proofs.Ytbcipfajlhiabaa.fnExactShape
open Go.ChangeShapes Go.WideShapes Go.ChangeAt Go.RowKit
open Go.ChangeMaps (open_string shut_string)
set_option linter.unusedVariables false

theorem own : ownKnob Try.prog.godebug = none := by kernel_rfl
theorem laidOut : laidOutB Try.prog = true := by kernel_rfl

set_option maxHeartbeats 800000 in
set_option maxRecDepth 100000 in
theorem walk (w : World) (u0 : Value) (z0 : List Int) (h0 b0 n0 : Int) (r0 : Rd w.heap.size .i64 w u0 z0) (i0 : intsIn z0) (ih0 : -9223372036854775808 ≤ h0 ∧ h0 ≤ 9223372036854775807) (ib0 : -9223372036854775808 ≤ b0 ∧ b0 ≤ 9223372036854775807) (in0 : -9223372036854775808 ≤ n0 ∧ n0 ≤ 9223372036854775807) (u1 : Value) (z1 : List Int) (r1 : Rd w.heap.size .i64 w u1 z1) (i1 : intsIn z1) :
    Calls Try.prog 8 #[.agg #[u0, .int .i64 h0, .int .i64 b0, .int .i64 n0], u1] w fun e w' => e = .returned (.bool true) ∧ Below w.heap.size w w' := by
  by_cases hb1 : z1.length ≤ 1048576
  · by_cases hbig : z0.length ≤ 1048576
    · have hs : szOf z0.length 1048576 = 1048576 - z0.length := by unfold szOf; rw [if_neg (by omega)]
      have hz := fun (W : World) (hb : Below w.heap.size w W) => szHeap_any u0 z0 h0 b0 n0 1048576 W (r0.below' hb) (by omega) (by omega)
      rw [hs] at hz
      have HZ := Lib.hid hz
      have hto := fun (W : World) (hb : Below w.heap.size w W) => toHeap_any u0 z0 h0 b0 n0 W (r0.below' hb) (by omega)
      have HT := Lib.hid hto
      have htk := fun (W : World) (hb : Below w.heap.size w W) => toIntS_any u1 z1 W (r1.below' hb) (by omega)
      have HK := Lib.hid htk
      have hP1 := fun (B : Nat) (v vk : Value) (W : World) (hr : Rd B .i64 W v z0) (hk : Rd B .i64 W vk z1) => sShape_any v vk z0 z1 h0 b0 n0 W hr i0 (by omega) hk (by omega) ih0 ib0 in0
      have hP2 := fun (B : Nat) (v vk : Value) (W : World) (hr : Rd B .i64 W v z0) (hk : Rd B .i64 W vk z1) => iShape_any v vk z0 z1 h0 b0 n0 W hr i0 (by omega) hk (by omega) ih0 ib0 in0
      obtain ⟨S, hS⟩ : ∃ S, shapeOf z0 h0 b0 n0 z1 = S := ⟨_, rfl⟩
      rw [hS] at hP1 hP2
      have H1 := Lib.hid hP1
      have H2 := Lib.hid hP2
      obtain ⟨a0, cap0, rfl⟩ := r0.form
      obtain ⟨a1, cap1, rfl⟩ := r1.form
      clear hs hz hto htk hP1 hP2 hS r0 i0 ih0 ib0 in0 r1 i1
      go_enter Try.func8, Try.ntmps8
      go_wp2_with fail
      generalize hx : w.alloc _ = xk0
      obtain ⟨bb, k0⟩ := Bx.alloc hx
      clear hx
      have zxk0 := bb.size
      have uk0 := k0.1
      refine (HZ.out _ bb).mono ?_
      rintro e w1 ⟨rfl, b1⟩
      replace k0 := k0.below b1 k0.1
      have zw1 := b1.size
      replace bb := bb.trans (b1.mono bb.size)
      clear b1
      have ck0 := k0.2.1
      have yk0 := k0.1
      go_wp2_with fail
      clear ck0 yk0
      refine (HT.out _ bb).mono ?_
      rintro e w2 ⟨v1, rfl, o1, b2⟩
      have lo1 : ∀ k, v1.ownBlock = some k → w1.heap.size ≤ k := fun k hk => (o1.lt k hk).1
      have mo1 := own_lt o1
      replace k0 := k0.below b2 k0.1
      have zw2 := b2.size
      replace bb := bb.trans (b2.mono bb.size)
      clear b2
      obtain ⟨ao1, do1, rfl⟩ := own_form o1
      go_wp2_with fail
      refine (HK.out _ bb).mono ?_
      rintro e w3 ⟨v2, rfl, o2, b3⟩
      have lo2 : ∀ k, v2.ownBlock = some k → w2.heap.size ≤ k := fun k hk => (o2.lt k hk).1
      have mo2 := own_lt o2
      replace k0 := k0.below b3 k0.1
      replace o1 := own_below o1 b3 (own_lt o1)
      have zw3 := b3.size
      replace bb := bb.trans (b3.mono bb.size)
      clear b3
      obtain ⟨ao2, do2, rfl⟩ := own_form o2
      go_wp2_with fail
      refine (H1.out _ _ _ _ (Rd.of_own o1) (Rd.of_own o2)).mono ?_
      rintro e w4 ⟨rfl, b4⟩
      replace k0 := k0.below b4 k0.1
      replace o1 := own_below o1 b4 (own_lt o1)
      replace o2 := own_below o2 b4 (own_lt o2)
      have zw4 := b4.size
      replace bb := bb.trans (b4.mono bb.size)
      clear b4
      clear lo1 mo1
      clear lo2 mo2
      clear o1 o2
      have ck0 := k0.2.1
      have yk0 := k0.1
      go_wp2_with fail
      clear ck0 yk0
      refine (HT.out _ bb).mono ?_
      rintro e w5 ⟨v4, rfl, o4, b5⟩
      have lo4 : ∀ k, v4.ownBlock = some k → w4.heap.size ≤ k := fun k hk => (o4.lt k hk).1
      have mo4 := own_lt o4
      replace k0 := k0.below b5 k0.1
      have zw5 := b5.size
      replace bb := bb.trans (b5.mono bb.size)
      clear b5
      obtain ⟨ao4, do4, rfl⟩ := own_form o4
      go_wp2_with fail
      generalize hx : w5.alloc _ = xk2
      obtain ⟨bx, k2⟩ := Bx.alloc hx
      clear hx
      replace k0 := k0.below bx k0.1
      replace o4 := own_below o4 bx (own_lt o4)
      have zxk2 := bx.size
      replace bb := bb.trans (bx.mono bb.size)
      clear bx
      have uk2 := k2.1
      refine (HK.out _ bb).mono ?_
      rintro e w6 ⟨v5, rfl, o5, b6⟩
      have lo5 : ∀ k, v5.ownBlock = some k → xk2.heap.size ≤ k := fun k hk => (o5.lt k hk).1
      have mo5 := own_lt o5
      replace k0 := k0.below b6 k0.1
      replace k2 := k2.below b6 k2.1
      replace o4 := own_below o4 b6 (own_lt o4)
      have zw6 := b6.size
      replace bb := bb.trans (b6.mono bb.size)
      clear b6
      obtain ⟨ao5, do5, rfl⟩ := own_form o5
      have ck2 := k2.2.1
      have yk2 := k2.1
      go_wp2_with fail
      clear ck2 yk2
      refine (H2.out _ _ _ _ (Rd.of_own o4) (Rd.of_own o5)).mono ?_
      rintro e w7 ⟨rfl, b7⟩
      replace k0 := k0.below b7 k0.1
      replace k2 := k2.below b7 k2.1
      replace o4 := own_below o4 b7 (own_lt o4)
      replace o5 := own_below o5 b7 (own_lt o5)
      have zw7 := b7.size
      replace bb := bb.trans (b7.mono bb.size)
      clear b7
      have ck0 := k0.2.1
      have yk0 := k0.1
      have ck2 := k2.2.1
      have yk2 := k2.1
      go_wp2_with fail
      go_region_with (first | (go_at_call 12; refine (HT.out _ (by first | exact bb | exact bb.drew)).mono ?_; rintro e w8 ⟨v8, rfl, o8, b8⟩; have c8 : Below w7.heap.size w7 w8 := ((Below.refl w7.heap.size w7).drew).trans b8; replace k0 := k0.below c8 k0.1; replace k2 := k2.below c8 k2.1; replace o4 := own_below o4 c8 (own_lt o4); replace o5 := own_below o5 c8 (own_lt o5); replace bb := bb.trans (c8.mono bb.size); have zw8 := c8.size; have p8 := Rd.of_own o8; obtain ⟨a8, d8, hv8⟩ := own_form o8; subst hv8; have q8 := k2.2.1; clear o8 b8 c8) | (go_at_call 14; refine (eqHeap_same _ _ _ _ _ _ _ (by first | exact Rd.of_own o4 | exact (Rd.of_own o4).below ((Below.refl _ _).drew) (Nat.le_refl _)) (by first | exact p8 | exact (p8).below ((Below.refl _ _).drew) (Nat.le_refl _))).mono ?_; rintro e w9 ⟨rfl, b9⟩))
      all_goals
        replace k0 := k0.below b9 k0.1
        replace k2 := k2.below b9 k2.1
        replace o4 := own_below o4 b9 (own_lt o4)
        replace o5 := own_below o5 b9 (own_lt o5)
        have zw9 := b9.size
        replace bb := bb.trans (b9.mono bb.size)
        clear b9
        clear q8 p8
        clear ck0 yk0 ck2 yk2
        go_wp2_with fail
        refine (HK.out _ bb).mono ?_
        rintro e w10 ⟨v7, rfl, o7, b10⟩
        have lo7 : ∀ k, v7.ownBlock = some k → w9.heap.size ≤ k := fun k hk => (o7.lt k hk).1
        have mo7 := own_lt o7
        replace k0 := k0.below b10 k0.1
        replace k2 := k2.below b10 k2.1
        replace o4 := own_below o4 b10 (own_lt o4)
        replace o5 := own_below o5 b10 (own_lt o5)
        have zw10 := b10.size
        replace bb := bb.trans (b10.mono bb.size)
        clear b10
        obtain ⟨ao7, do7, rfl⟩ := own_form o7
        go_wp2_with fail
        refine (eqIntS_any _ _ _ _ _ (Rd.of_own o5) (Rd.of_own o7)).mono ?_
        rintro e w11 ⟨rfl, b11⟩
        have b11x := b11.below w10.heap.size
        clear b11
        replace k0 := k0.below b11x k0.1
        replace k2 := k2.below b11x k2.1
        replace o4 := own_below o4 b11x (own_lt o4)
        replace o5 := own_below o5 b11x (own_lt o5)
        replace o7 := own_below o7 b11x (own_lt o7)
        have zw11 := b11x.size
        replace bb := bb.trans (b11x.mono bb.size)
        clear b11x
        rw [decide_eq_true rfl]
        go_wp2
        go_ret
        exact ⟨rfl, bb⟩
    · have hs : szOf z0.length 1048576 = -1 := by unfold szOf; rw [if_pos (by omega)]
      have hz := fun (W : World) (hb : Below w.heap.size w W) => szHeap_any u0 z0 h0 b0 n0 1048576 W (r0.below' hb) (by omega) (by omega)
      rw [hs] at hz
      have HZ := Lib.hid hz
      obtain ⟨a0, cap0, rfl⟩ := r0.form
      obtain ⟨a1, cap1, rfl⟩ := r1.form
      clear hs hz r0 r1
      go_enter Try.func8, Try.ntmps8
      go_wp2_with fail
      generalize hx : w.alloc _ = x0
      obtain ⟨b0', k0⟩ := Bx.alloc hx
      clear hx
      refine (HZ.out _ b0').mono ?_
      rintro e w1 ⟨rfl, b1⟩
      go_wp2
      go_ret
      exact ⟨rfl, b0'.trans (b1.mono b0'.size)⟩
  · obtain ⟨a0, cap0, rfl⟩ := r0.form
    have h1l := r1.len
    unfold maxLen at h1l
    obtain ⟨a1, cap1, rfl⟩ := r1.form
    clear r0 r1
    go_enter Try.func8, Try.ntmps8
    go_wp2
    go_ret
    exact ⟨rfl, (Below.refl _ _).alloc (Nat.le_refl _) _⟩

set_option maxRecDepth 100000 in
theorem lifted (os : Os) (started : os.Started) (H : Type) (enc : TypeId × Value → H) :
    ReturnsInHanded {} Try.checked os 8 .any (Rows.fnExactShapeSpec.pre6 enc Try.prog Try.f8 Rows.fnExactShapeRow.domain false) (Rows.fnExactShapeSpec.post enc Try.prog Try.f8 false true false false) := by
  refine returnsInHanded_of_change (C := Try.checked) own started (by kernel_rfl) Try.func8
    (ChangeSpec.witness6 (enc := enc) (C := Try.checked) false ⟨#[], #[.agg #[.slice none 0 0, .int .i64 0, .int .i64 0, .int .i64 0], .slice none 0 0], []⟩ 8 (by kernel_rfl) (by kernel_rfl) (by kernel_rfl) (by kernel_rfl)) ?_
  intro W base args ds gs before hval0 hW hcnd _
  have hval : ∀ (j : Nat) t v, Try.f8.params[j]? = some t → args[j]? = some v → Value.okWide Try.prog W .any base t v := hval0
  have hW' := hW
  obtain ⟨p, q, hA0, hV, rfl, hfz, hnd⟩ := hW
  have hA : DataW.TrodAll enc Try.prog W 0 (fun _ => true) true Try.f8.params.toList args.toList ds p := hA0
  rw [Try.params8] at hA hval
  obtain ⟨v0, vs0, d0, ds0, p0, q0, hargs, rfl, rfl, h0, t0⟩ := trodAll_cons hA
  obtain ⟨v1, vs1, d1, ds1, p1, q1, rfl, rfl, rfl, h1, t1⟩ := trodAll_cons t0
  obtain ⟨rfl, rfl, rfl⟩ := trodAll_nil t1
  obtain rfl : args = #[v0, v1] := by cases args; simp_all
  obtain ⟨rfl, rfl⟩ := trodVars_none hV
  have k0 := h0
  have lt0 : ∀ x ∈ p0, x.block < W.heap.size := by obtain ⟨m, hm⟩ := k0; exact DataW.trod_lt m _ _ _ hm
  obtain ⟨u0, c10, c20, c30, y00, y10, y20, y30, g0, rfl, rfl, rfl, f00, f10, f20, f30⟩ := Joins.open_agg4 Try.underlying24 (by kernel_rfl) (by kernel_rfl) (hval 0 24 v0 rfl rfl) h0
  obtain ⟨z0, r0, i0⟩ := ints_rd Try.underlying22 Try.underlying3 (by kernel_rfl) f00
  obtain ⟨hh0, rfl, ih0⟩ := int_rd Try.underlying3 f10
  obtain ⟨hb0, rfl, ib0⟩ := int_rd Try.underlying3 f20
  obtain ⟨hn0, rfl, in0⟩ := int_rd Try.underlying3 f30
  have k1 := h1
  have lt1 : ∀ x ∈ p1, x.block < W.heap.size := by obtain ⟨m, hm⟩ := k1; exact DataW.trod_lt m _ _ _ hm
  obtain ⟨s1, l1, c1, rfl⟩ := okWide_slice Try.underlying22 (hval 1 22 v1 rfl rfl)
  obtain ⟨g1, hf1⟩ := h1
  obtain ⟨z1, r1, i1⟩ := ints_rd Try.underlying22 Try.underlying3 (by kernel_rfl) (by simpa [Value.cells] using hf1)
  clear hA0 hval0
  refine (walk W _ z0 _ _ _ r0 i0 ih0 ib0 in0 _ z1 r1 i1).mono fun e W' ⟨he, bel⟩ => ?_
  subst he
  exact ⟨_, rfl, _, _, _, [], _, [], hW', trodAll_mk1 (shut_bool Try.underlying4 _), (trodAll_cons_mk (Below.trod laidOut (by kernel_rfl) (of_decide_eq_true (by kernel_rfl)) k0 bel lt0) (trodAll_cons_mk (Below.trod laidOut (by kernel_rfl) (of_decide_eq_true (by kernel_rfl)) k1 bel lt1) trodAll_mk0)), rfl, bel.frame _, fun h => by cases h⟩

theorem over : Rows.fnExactShapeRow.holds Try.pinned (OpenSpec.ofChange Rows.fnExactShapeSpec) :=
  OpenClaim.holds_of_wide 8 Try.f8 rfl rfl rfl rfl rfl rfl rfl ⟨rfl, rfl, rfl, rfl, rfl⟩ rfl rfl rfl rfl rfl (by kernel_rfl) Try.func8 (by kernel_rfl)
    (of_decide_eq_true (by kernel_rfl)) (by unfold Func.isWrapper; first | (rw [if_pos (by decide +kernel)]; kernel_rfl) | (rw [if_neg (by decide +kernel)]; exact ⟨rfl, rfl⟩))
    (fun os started H enc _ => lifted os started H enc)

theorem proved : Rows.FnExactShapeSaid := over
end Go.Proofs.Ytbcipfajlhiabaa.fnExactShape
