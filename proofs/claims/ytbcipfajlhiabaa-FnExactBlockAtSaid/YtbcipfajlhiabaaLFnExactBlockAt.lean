/- The law FnExactBlockAt returns true for every input that can be read as data, with no condition, and its arguments read as they did. -/
import Derived.Deep.RegionWith
import Derived.Test.YtbcipfajlhiabaaRows
import Derived.Test.YtbcipfajlhiabaaOpen
import Derived.Test.YtbcipfajlhiabaaTold
import Derived.Test.YtbcipfajlhiabaaHeapTo
import Derived.Test.YtbcipfajlhiabaaHeapNew
namespace Go.Proofs.Ytbcipfajlhiabaa.fnExactBlockAt
open Go.ChangeShapes Go.WideShapes Go.ChangeAt Go.RowKit
open Go.ChangeMaps (open_string shut_string)
set_option linter.unusedVariables false

theorem own : ownKnob Try.prog.godebug = none := by kernel_rfl
theorem laidOut : laidOutB Try.prog = true := by kernel_rfl

set_option maxHeartbeats 800000 in
set_option maxRecDepth 100000 in
theorem walk (w : World) (u0 : Value) (z0 : List Int) (h0 b0 n0 : Int) (r0 : Rd w.heap.size .i64 w u0 z0) (i0 : intsIn z0) (ih0 : -9223372036854775808 ≤ h0 ∧ h0 ≤ 9223372036854775807) (ib0 : -9223372036854775808 ≤ b0 ∧ b0 ≤ 9223372036854775807) (in0 : -9223372036854775808 ≤ n0 ∧ n0 ≤ 9223372036854775807) (a1 : Int) (i1 : -9223372036854775808 ≤ a1 ∧ a1 ≤ 9223372036854775807) :
    Calls Try.prog 5 #[.agg #[u0, .int .i64 h0, .int .i64 b0, .int .i64 n0], .int .i64 a1] w fun e w' => e = .returned (.bool true) ∧ Below w.heap.size w w' := by
  by_cases hbig : z0.length ≤ 1048576
  · have hs : szOf z0.length 1048576 = 1048576 - z0.length := by unfold szOf; rw [if_neg (by omega)]
    have hz := fun (W : World) (hb : Below w.heap.size w W) => szHeap_any u0 z0 h0 b0 n0 1048576 W (r0.below' hb) (by omega) (by omega)
    rw [hs] at hz
    have HZ := Lib.hid hz
    have hto := fun (W : World) (hb : Below w.heap.size w W) => toHeap_any u0 z0 h0 b0 n0 W (r0.below' hb) (by omega)
    have HT := Lib.hid hto
    obtain ⟨f, t, zs, ok, hzl, hform⟩ := told_form z0 (blockOf z0 h0 b0 n0 a1)
    have hok1 := fun (B : Nat) (v : Value) (W : World) (hr : Rd B .i64 W v z0) => (sBlockAt_any v z0 h0 b0 n0 a1 W hr i0 (by omega) ih0 ib0 in0).mono (fun e w' hp => And.intro (hform W e w' hp.1) hp.2)
    have hok2 := fun (B : Nat) (v : Value) (W : World) (hr : Rd B .i64 W v z0) => (iBlockAt_any v z0 h0 b0 n0 a1 W hr i0 (by omega) ih0 ib0 in0).mono (fun e w' hp => And.intro (hform W e w' hp.1) hp.2)
    have H1 := Lib.hid hok1
    have H2 := Lib.hid hok2
    have hff : (f != f) = false := by cases f <;> rfl
    have hkk : (ok != ok) = false := by cases ok <;> rfl
    obtain ⟨a0, cap0, rfl⟩ := r0.form
    clear hs hz hto hok1 hok2 hform r0 i0 ih0 ib0 in0
    go_enter Try.func5, Try.ntmps5
    go_wp2_with fail
    generalize hx : w.alloc _ = x0
    obtain ⟨bb, k0⟩ := Bx.alloc hx
    clear hx
    refine (HZ.out _ bb).mono ?_
    rintro e w1 ⟨rfl, b1⟩
    replace k0 := k0.below b1 k0.1
    replace bb := bb.trans (b1.mono bb.size)
    clear b1
    have ck0 := k0.2.1
    have yk0 := k0.1
    go_wp2_with fail
    refine (HT.out _ bb).mono ?_
    rintro e w2 ⟨v2, rfl, o2, b2⟩
    clear ck0 yk0
    replace k0 := k0.below b2 k0.1
    replace bb := bb.trans (b2.mono bb.size)
    clear b2
    have r2 := Rd.of_own o2
    obtain ⟨a2, c2, rfl⟩ := r2.form
    clear o2
    go_wp2_with fail
    refine (H1.out _ _ _ r2).mono ?_
    rintro e w3 ⟨⟨v3, rfl, o3⟩, b3⟩
    clear r2
    replace k0 := k0.below b3 k0.1
    replace bb := bb.trans (b3.mono bb.size)
    clear b3
    have m3 := own_lt o3
    obtain ⟨a3, c3, rfl⟩ := own_form o3
    have g3 := k0.1
    have ck0 := k0.2.1
    have yk0 := k0.1
    go_wp2_with fail
    refine (HT.out _ bb).mono ?_
    rintro e w4 ⟨v4, rfl, o4, b4⟩
    clear ck0 yk0
    have l4 : ∀ k, v4.ownBlock = some k → w3.heap.size ≤ k := fun k hk => (o4.lt k hk).1
    have m4 := own_lt o4
    have s4 := b4.size
    replace k0 := k0.below b4 k0.1
    replace o3 := own_below o3 b4 (own_lt o3)
    replace bb := bb.trans (b4.mono bb.size)
    clear b4
    obtain ⟨a4, c4, rfl⟩ := own_form o4
    go_wp2_with fail
    generalize hx : w4.alloc _ = x4
    obtain ⟨bx, k4⟩ := Bx.alloc hx
    clear hx
    replace k0 := k0.below bx k0.1
    replace o3 := own_below o3 bx (own_lt o3)
    replace o4 := own_below o4 bx (own_lt o4)
    replace bb := bb.trans (bx.mono bb.size)
    clear bx
    have s5 := k4.1
    refine (H2.out _ _ _ (Rd.of_own o4)).mono ?_
    rintro e w5 ⟨⟨v5, rfl, o5⟩, b5⟩
    have l5 : ∀ k, v5.ownBlock = some k → x4.heap.size ≤ k := fun k hk => (o5.lt k hk).1
    replace k0 := k0.below b5 k0.1
    replace k4 := k4.below b5 k4.1
    replace o3 := own_below o3 b5 (own_lt o3)
    replace o4 := own_below o4 b5 (own_lt o4)
    replace bb := bb.trans (b5.mono bb.size)
    clear b5
    obtain ⟨a5, c5, rfl⟩ := own_form o5
    go_wp2_with fail
    refine (eqIntS_any _ _ _ _ _ (Rd.of_own o5) (Rd.of_own o3)).mono ?_
    rintro e w6 ⟨rfl, n6⟩
    have b6 := n6.below w5.heap.size
    rw [decide_eq_true rfl]
    clear n6
    replace k0 := k0.below b6 k0.1
    replace k4 := k4.below b6 k4.1
    replace o3 := own_below o3 b6 (own_lt o3)
    replace o4 := own_below o4 b6 (own_lt o4)
    replace o5 := own_below o5 b6 (own_lt o5)
    replace bb := bb.trans (b6.mono bb.size)
    clear b6
    have ck0 := k0.2.1
    have yk0 := k0.1
    have ck4 := k4.2.1
    have yk4 := k4.1
    go_wp2_with fail
    go_region_with (first | (go_at_call 12; refine (HT.out _ (by first | exact bb | exact bb.drew)).mono ?_; rintro e w7 ⟨v7, rfl, o7, b7⟩; have c7 : Below w6.heap.size w6 w7 := ((Below.refl w6.heap.size w6).drew).trans b7; replace k0 := k0.below c7 k0.1; replace k4 := k4.below c7 k4.1; replace o3 := own_below o3 c7 (own_lt o3); replace o4 := own_below o4 c7 (own_lt o4); replace o5 := own_below o5 c7 (own_lt o5); replace bb := bb.trans (c7.mono bb.size); have p7 := Rd.of_own o7; obtain ⟨a7, d7, hv7⟩ := own_form o7; subst hv7; have q7 := k4.2.1; clear o7 b7 c7) | (go_at_call 14; refine (eqHeap_same _ _ _ _ _ _ _ (by first | exact Rd.of_own o4 | exact (Rd.of_own o4).below ((Below.refl _ _).drew) (Nat.le_refl _)) (by first | exact p7 | exact p7.below ((Below.refl _ _).drew) (Nat.le_refl _))).mono ?_; rintro e w8 ⟨rfl, b8⟩))
    all_goals
      replace k0 := k0.below b8 k0.1
      replace k4 := k4.below b8 k4.1
      replace o3 := own_below o3 b8 (own_lt o3)
      replace o4 := own_below o4 b8 (own_lt o4)
      replace o5 := own_below o5 b8 (own_lt o5)
      replace bb := bb.trans (b8.mono bb.size)
      clear b8
      clear q7 p7
      clear ck0 yk0 ck4 yk4
      have ck4 := k4.2.1
      have yk4 := k4.1
      have z8 := k4.1
      go_wp2_with fail
      refine (markHeap_any _ _ _ _ _ _ _ o4 (by omega) (by omega)).mono ?_
      rintro e w9 ⟨rfl, o9, g9⟩
      clear ck4 yk4
      have b9 : Below w3.heap.size w8 w9 := Below.of_grown g9 (by omega) l4
      replace k0 := k0.below b9 g3
      replace o3 := own_below o3 b9 m3
      replace o5 := o5.kept g9 (own_apart m4 (fun k hk => by have := l5 k hk; omega))
      replace bb := bb.trans (b9.mono (by omega))
      have z9 := b9.size
      clear o4 g9 b9 o9 k4
      go_wp2_with fail
      refine (eqIntS_any _ _ _ _ _ (Rd.of_own o5) (Rd.of_own o3)).mono ?_
      rintro e w10 ⟨rfl, n10⟩
      have b10 := n10.below w9.heap.size
      rw [decide_eq_true rfl]
      clear n10
      have z10 := b10.size
      replace k0 := k0.below b10 k0.1
      replace o3 := own_below o3 b10 (own_lt o3)
      replace o5 := own_below o5 b10 (own_lt o5)
      replace bb := bb.trans (b10.mono bb.size)
      clear b10
      go_wp2_with fail
      refine (markIntS_any _ _ _ _ o5 (by omega) (by omega)).mono ?_
      rintro e w11 ⟨rfl, o11, g11⟩
      have b11 : Below w4.heap.size w10 w11 := Below.of_grown g11 (by omega) (fun k hk => by have := l5 k hk; omega)
      replace k0 := k0.below b11 (by omega)
      replace o3 := own_below o3 b11 (fun k hk => by have := m3 k hk; omega)
      replace bb := bb.trans (b11.mono (by omega))
      clear o5 g11 b11
      go_wp2_with fail
      refine (heldIntS_any _ _ _ (Rd.of_own o11) (by omega) (by omega)).mono ?_
      rintro e w12 ⟨rfl, n12⟩
      have b12 := n12.below w11.heap.size
      clear n12
      replace k0 := k0.below b12 k0.1
      replace o3 := own_below o3 b12 (own_lt o3)
      replace o11 := own_below o11 b12 (own_lt o11)
      replace bb := bb.trans (b12.mono bb.size)
      clear b12
      have ck0 := k0.2.1
      have yk0 := k0.1
      go_wp2_with fail
      refine (HT.out _ bb).mono ?_
      rintro e w13 ⟨v13, rfl, o13, b13⟩
      clear ck0 yk0
      replace o3 := own_below o3 b13 (own_lt o3)
      replace o11 := own_below o11 b13 (own_lt o11)
      replace bb := bb.trans (b13.mono bb.size)
      clear b13
      have r13 := Rd.of_own o13
      obtain ⟨a13, c13, rfl⟩ := r13.form
      clear o13 k0
      go_wp2_with fail
      refine (H2.out _ _ _ r13).mono ?_
      rintro e w14 ⟨⟨v14, rfl, o14⟩, b14⟩
      replace o3 := own_below o3 b14 (own_lt o3)
      replace o11 := own_below o11 b14 (own_lt o11)
      replace bb := bb.trans (b14.mono bb.size)
      clear b14
      obtain ⟨a14, c14, rfl⟩ := own_form o14
      clear r13
      go_wp2_with fail
      refine (eqIntS_any _ _ _ _ _ (Rd.of_own o14) (Rd.of_own o3)).mono ?_
      rintro e w15 ⟨rfl, n15⟩
      have b15 := n15.below w14.heap.size
      rw [decide_eq_true rfl]
      clear n15 o14 o3
      replace o11 := own_below o11 b15 (own_lt o11)
      replace bb := bb.trans (b15.mono bb.size)
      clear b15
      go_wp2_with fail
      refine (heldIntS_any _ _ _ (Rd.of_own o11) (by omega) (by omega)).mono ?_
      rintro e w16 ⟨rfl, n16⟩
      have b16 := n16.below w15.heap.size
      clear n16 o11
      replace bb := bb.trans (b16.mono bb.size)
      clear b16
      go_wp2
      go_ret
      exact ⟨rfl, bb⟩
  · have hs : szOf z0.length 1048576 = -1 := by unfold szOf; rw [if_pos (by omega)]
    have hz := fun (W : World) (hb : Below w.heap.size w W) => szHeap_any u0 z0 h0 b0 n0 1048576 W (r0.below' hb) (by omega) (by omega)
    rw [hs] at hz
    have HZ := Lib.hid hz
    obtain ⟨a0, cap0, rfl⟩ := r0.form
    clear hs hz r0
    go_enter Try.func5, Try.ntmps5
    go_wp2_with fail
    generalize hx : w.alloc _ = x0
    obtain ⟨b0', k0⟩ := Bx.alloc hx
    clear hx
    refine (HZ.out _ b0').mono ?_
    rintro e w1 ⟨rfl, b1⟩
    go_wp2
    go_ret
    exact ⟨rfl, b0'.trans (b1.mono b0'.size)⟩

set_option maxRecDepth 100000 in
theorem lifted (os : Os) (started : os.Started) (H : Type) (enc : TypeId × Value → H) :
    ReturnsInHanded {} Try.checked os 5 .any (Rows.fnExactBlockAtSpec.pre6 enc Try.prog Try.f5 Rows.fnExactBlockAtRow.domain false) (Rows.fnExactBlockAtSpec.post enc Try.prog Try.f5 false true false false) := by
  refine returnsInHanded_of_change (C := Try.checked) own started (by kernel_rfl) Try.func5
    (ChangeSpec.witness6 (enc := enc) (C := Try.checked) false ⟨#[], #[.agg #[.slice none 0 0, .int .i64 0, .int .i64 0, .int .i64 0], .int .i64 0], []⟩ 8 (by kernel_rfl) (by kernel_rfl) (by kernel_rfl) (by kernel_rfl)) ?_
  intro W base args ds gs before hval0 hW hcnd _
  have hval : ∀ (j : Nat) t v, Try.f5.params[j]? = some t → args[j]? = some v → Value.okWide Try.prog W .any base t v := hval0
  have hW' := hW
  obtain ⟨p, q, hA0, hV, rfl, hfz, hnd⟩ := hW
  have hA : DataW.TrodAll enc Try.prog W 0 (fun _ => true) true Try.f5.params.toList args.toList ds p := hA0
  rw [Try.params5] at hA hval
  obtain ⟨v0, vs0, d0, ds0, p0, q0, hargs, rfl, rfl, h0, t0⟩ := trodAll_cons hA
  obtain ⟨v1, vs1, d1, ds1, p1, q1, rfl, rfl, rfl, h1, t1⟩ := trodAll_cons t0
  obtain ⟨rfl, rfl, rfl⟩ := trodAll_nil t1
  obtain rfl : args = #[v0, v1] := by cases args; simp_all
  obtain ⟨rfl, rfl⟩ := trodVars_none hV
  have k0 := h0
  have lt0 : ∀ x ∈ p0, x.block < W.heap.size := by obtain ⟨m, hm⟩ := k0; exact DataW.trod_lt m _ _ _ hm
  obtain ⟨u0, c10, c20, c30, y00, y10, y20, y30, g0, rfl, rfl, rfl, f00, f10, f20, f30⟩ := Joins.open_agg4 Try.underlying24 (by kernel_rfl) (by kernel_rfl) (hval 0 24 v0 rfl rfl) h0
  obtain ⟨z0, r0, i0⟩ := ints_rd Try.underlying22 Try.underlying3 (by kernel_rfl) f00
  obtain ⟨hh0, rfl, ih0⟩ := int_rd Try.underlying3 f10
  obtain ⟨hb0, rfl, ib0⟩ := int_rd Try.underlying3 f20
  obtain ⟨hn0, rfl, in0⟩ := int_rd Try.underlying3 f30
  have k1 := h1
  have lt1 : ∀ x ∈ p1, x.block < W.heap.size := by obtain ⟨m, hm⟩ := k1; exact DataW.trod_lt m _ _ _ hm
  obtain ⟨a1, rfl, rfl, rfl, w1⟩ := open_int Try.underlying3 (hval 1 3 v1 rfl rfl) h1
  clear hA0 hval0
  refine (walk W _ z0 _ _ _ r0 i0 ih0 ib0 in0 a1 (bounds_i64 w1)).mono fun e W' ⟨he, bel⟩ => ?_
  subst he
  exact ⟨_, rfl, _, _, _, [], _, [], hW', trodAll_mk1 (shut_bool Try.underlying4 _), (trodAll_cons_mk (Below.trod laidOut (by kernel_rfl) (of_decide_eq_true (by kernel_rfl)) k0 bel lt0) (trodAll_cons_mk (Below.trod laidOut (by kernel_rfl) (of_decide_eq_true (by kernel_rfl)) k1 bel lt1) trodAll_mk0)), rfl, bel.frame _, fun h => by cases h⟩

theorem over : Rows.fnExactBlockAtRow.holds Try.pinned (OpenSpec.ofChange Rows.fnExactBlockAtSpec) :=
  OpenClaim.holds_of_wide 5 Try.f5 rfl rfl rfl rfl rfl rfl rfl ⟨rfl, rfl, rfl, rfl, rfl⟩ rfl rfl rfl rfl rfl (by kernel_rfl) Try.func5 (by kernel_rfl)
    (of_decide_eq_true (by kernel_rfl)) (by unfold Func.isWrapper; first | (rw [if_pos (by decide +kernel)]; kernel_rfl) | (rw [if_neg (by decide +kernel)]; exact ⟨rfl, rfl⟩))
    (fun os started H enc _ => lifted os started H enc)

theorem proved : Rows.FnExactBlockAtSaid := over
end Go.Proofs.Ytbcipfajlhiabaa.fnExactBlockAt
