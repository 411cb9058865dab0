/- The law FnExactFunText returns true for every input that can be read as data, with no condition, and its arguments read as they did. -/
import Derived.Deep.RegionWith
import Derived.Test.YtkpkofddfjgmpaaRows
import Derived.Test.YtkpkofddfjgmpaaOpen
import Derived.Test.YtkpkofddfjgmpaaFunText
import Derived.Test.YtkpkofddfjgmpaaFunE
import Derived.Test.YtkpkofddfjgmpaaOpenE
namespace Go.Proofs.Ytkpkofddfjgmpaa.fnExactFunText
open Go.ChangeShapes Go.WideShapes Go.ChangeAt Go.RowKit
open Go.ChangeMaps (open_string shut_string)
set_option linter.unusedVariables false

theorem own : ownKnob Try.prog.godebug = none := by kernel_rfl
theorem laidOut : laidOutB Try.prog = true := by kernel_rfl

set_option maxHeartbeats 800000 in
set_option maxRecDepth 100000 in
theorem walk (w : World) (f0 : Int) (u0 : Value) (z0 : List O3) (r0 : RdO w.heap.size w u0 z0) (i0 : opsIn z0) (if0 : -9223372036854775808 ≤ f0 ∧ f0 ≤ 9223372036854775807) :
    Calls Try.prog 4 #[.agg #[.int .i64 f0, u0]] w fun e w' => e = .returned (.bool true) ∧ Below w.heap.size w w' := by
  by_cases hbig : z0.length ≤ 1048576
  · have hs : szOf z0.length 1048576 = 1048576 - z0.length := by unfold szOf; rw [if_neg (by omega)]
    have hz := fun (W : World) (hb : Below w.heap.size w W) => szFun_any f0 u0 z0 1048576 W (r0.below' hb) (by omega) (by omega)
    rw [hs] at hz
    have HZ := Lib.hid hz
    have hto := fun (W : World) (hb : Below w.heap.size w W) => toFun_any f0 u0 z0 W (r0.below' hb) (by omega)
    have HT := Lib.hid hto
    have hP1 := fun (B : Nat) (v : Value) (W : World) (hr : RdO B W v z0) => sFunText_any f0 v z0 W hr if0.1 if0.2 i0 (by omega)
    have hP2 := fun (B : Nat) (v : Value) (W : World) (hr : RdO B W v z0) => iFunText_any f0 v z0 W hr if0.1 if0.2 i0 (by omega)
    obtain ⟨S, hS⟩ : ∃ S, st (funTxt f0 z0) = S := ⟨_, rfl⟩
    rw [hS] at hP1 hP2
    have H1 := Lib.hid hP1
    have H2 := Lib.hid hP2
    obtain ⟨a0, cap0, rfl⟩ := r0.form
    clear hs hz hto hP1 hP2 hS r0 i0 if0
    go_enter Try.func4, Try.ntmps4
    go_wp2_with fail
    generalize hx : w.alloc _ = xk0
    obtain ⟨bb, k0⟩ := Bx.alloc hx
    clear hx
    have zxk0 := bb.size
    have uk0 := k0.1
    refine (HZ.out _ bb).mono ?_
    rintro e w1 ⟨rfl, b1⟩
    replace k0 := k0.below b1 k0.1
    have zw1 := b1.size
    replace bb := bb.trans (b1.mono bb.size)
    clear b1
    have ck0 := k0.2.1
    have yk0 := k0.1
    go_wp2_with fail
    clear ck0 yk0
    refine (HT.out _ bb).mono ?_
    rintro e w2 ⟨v1, rfl, o1, b2⟩
    have lo1 : ∀ k, v1.ownBlock = some k → w1.heap.size ≤ k := fun k hk => (o1.lt k hk).1
    have mo1 := own_lt o1
    replace k0 := k0.below b2 k0.1
    have zw2 := b2.size
    replace bb := bb.trans (b2.mono bb.size)
    clear b2
    obtain ⟨ao1, do1, rfl⟩ := own_form o1
    go_wp2_with fail
    refine (H1.out _ _ _ (RdE.of_own O3.enc_len o1)).mono ?_
    rintro e w3 ⟨rfl, b3⟩
    replace k0 := k0.below b3 k0.1
    replace o1 := own_below o1 b3 (own_lt o1)
    have zw3 := b3.size
    replace bb := bb.trans (b3.mono bb.size)
    clear b3
    clear lo1 mo1
    clear o1
    have ck0 := k0.2.1
    have yk0 := k0.1
    go_wp2_with fail
    clear ck0 yk0
    refine (HT.out _ bb).mono ?_
    rintro e w4 ⟨v2, rfl, o2, b4⟩
    have lo2 : ∀ k, v2.ownBlock = some k → w3.heap.size ≤ k := fun k hk => (o2.lt k hk).1
    have mo2 := own_lt o2
    replace k0 := k0.below b4 k0.1
    have zw4 := b4.size
    replace bb := bb.trans (b4.mono bb.size)
    clear b4
    obtain ⟨ao2, do2, rfl⟩ := own_form o2
    go_wp2_with fail
    generalize hx : w4.alloc _ = xk2
    obtain ⟨bx, k2⟩ := Bx.alloc hx
    clear hx
    replace k0 := k0.below bx k0.1
    replace o2 := own_below o2 bx (own_lt o2)
    have zxk2 := bx.size
    replace bb := bb.trans (bx.mono bb.size)
    clear bx
    have uk2 := k2.1
    have ck2 := k2.2.1
    have yk2 := k2.1
    go_wp2_with fail
    clear ck2 yk2
    refine (H2.out _ _ _ (RdE.of_own O3.enc_len o2)).mono ?_
    rintro e w5 ⟨rfl, b5⟩
    replace k0 := k0.below b5 k0.1
    replace k2 := k2.below b5 k2.1
    replace o2 := own_below o2 b5 (own_lt o2)
    have zw5 := b5.size
    replace bb := bb.trans (b5.mono bb.size)
    clear b5
    have ck0 := k0.2.1
    have yk0 := k0.1
    have ck2 := k2.2.1
    have yk2 := k2.1
    go_wp2_with fail
    go_region_with (first | (go_at_call 30; refine (HT.out _ (by first | exact bb | exact bb.drew)).mono ?_; rintro e w6 ⟨v6, rfl, o6, b6⟩; have c6 : Below w5.heap.size w5 w6 := ((Below.refl w5.heap.size w5).drew).trans b6; replace k0 := k0.below c6 k0.1; replace k2 := k2.below c6 k2.1; replace o2 := own_below o2 c6 (own_lt o2); replace bb := bb.trans (c6.mono bb.size); have zw6 := c6.size; have p6 := RdE.of_own O3.enc_len o6; obtain ⟨a6, d6, hv6⟩ := own_form o6; subst hv6; have q6 := k2.2.1; clear o6 b6 c6) | (go_at_call 32; refine (eqFun_same _ _ _ _ _ (by first | exact RdE.of_own O3.enc_len o2 | exact (RdE.of_own O3.enc_len o2).below ((Below.refl _ _).drew) (Nat.le_refl _)) (by first | exact p6 | exact (p6).below ((Below.refl _ _).drew) (Nat.le_refl _))).mono ?_; rintro e w7 ⟨rfl, b7⟩))
    all_goals
      replace k0 := k0.below b7 k0.1
      replace k2 := k2.below b7 k2.1
      replace o2 := own_below o2 b7 (own_lt o2)
      have zw7 := b7.size
      replace bb := bb.trans (b7.mono bb.size)
      clear b7
      clear q6 p6
      clear ck0 yk0 ck2 yk2
      go_wp2
      go_ret
      exact ⟨rfl, bb⟩
  · have hs : szOf z0.length 1048576 = -1 := by unfold szOf; rw [if_pos (by omega)]
    have hz := fun (W : World) (hb : Below w.heap.size w W) => szFun_any f0 u0 z0 1048576 W (r0.below' hb) (by omega) (by omega)
    rw [hs] at hz
    have HZ := Lib.hid hz
    obtain ⟨a0, cap0, rfl⟩ := r0.form
    clear hs hz r0
    go_enter Try.func4, Try.ntmps4
    go_wp2_with fail
    generalize hx : w.alloc _ = x0
    obtain ⟨b0', k0⟩ := Bx.alloc hx
    clear hx
    refine (HZ.out _ b0').mono ?_
    rintro e w1 ⟨rfl, b1⟩
    go_wp2
    go_ret
    exact ⟨rfl, b0'.trans (b1.mono b0'.size)⟩

set_option maxRecDepth 100000 in
theorem lifted (os : Os) (started : os.Started) (H : Type) (enc : TypeId × Value → H) :
    ReturnsInHanded {} Try.checked os 4 .any (Rows.fnExactFunTextSpec.pre6 enc Try.prog Try.f4 Rows.fnExactFunTextRow.domain false) (Rows.fnExactFunTextSpec.post enc Try.prog Try.f4 false true false false) := by
  refine returnsInHanded_of_change (C := Try.checked) own started (by kernel_rfl) Try.func4
    (ChangeSpec.witness6 (enc := enc) (C := Try.checked) false ⟨#[], #[.agg #[.int .i64 0, .slice none 0 0]], []⟩ 8 (by kernel_rfl) (by kernel_rfl) (by kernel_rfl) (by kernel_rfl)) ?_
  intro W base args ds gs before hval0 hW hcnd _
  have hval : ∀ (j : Nat) t v, Try.f4.params[j]? = some t → args[j]? = some v → Value.okWide Try.prog W .any base t v := hval0
  have hW' := hW
  obtain ⟨p, q, hA0, hV, rfl, hfz, hnd⟩ := hW
  have hA : DataW.TrodAll enc Try.prog W 0 (fun _ => true) true Try.f4.params.toList args.toList ds p := hA0
  rw [Try.params4] at hA hval
  obtain ⟨v0, vs0, d0, ds0, p0, q0, hargs, rfl, rfl, h0, t0⟩ := trodAll_cons hA
  obtain ⟨rfl, rfl, rfl⟩ := trodAll_nil t0
  obtain rfl : args = #[v0] := by cases args; simp_all
  obtain ⟨rfl, rfl⟩ := trodVars_none hV
  have k0 := h0
  have lt0 : ∀ x ∈ p0, x.block < W.heap.size := by obtain ⟨m, hm⟩ := k0; exact DataW.trod_lt m _ _ _ hm
  obtain ⟨c10, u0, y00, y10, g0, rfl, rfl, rfl, f00, f10⟩ := Joins.open_agg2 Try.underlying29 (by kernel_rfl) (by kernel_rfl) (hval 0 29 v0 rfl rfl) h0
  obtain ⟨hf0, rfl, ih0⟩ := int_rd Try.underlying3 f00
  obtain ⟨z0, r0, i0⟩ := ops_rd Try.underlying27 Try.underlying125 Try.underlying3 ⟨rfl, rfl⟩ ⟨rfl, rfl⟩ ⟨rfl, rfl⟩ (by kernel_rfl) (by kernel_rfl) f10
  clear hA0 hval0
  refine (walk W _ _ z0 r0 i0 ih0).mono fun e W' ⟨he, bel⟩ => ?_
  subst he
  exact ⟨_, rfl, _, _, _, [], _, [], hW', trodAll_mk1 (shut_bool Try.underlying4 _), (trodAll_cons_mk (Below.trod laidOut (by kernel_rfl) (of_decide_eq_true (by kernel_rfl)) k0 bel lt0) trodAll_mk0), rfl, bel.frame _, fun h => by cases h⟩

theorem over : Rows.fnExactFunTextRow.holds Try.pinned (OpenSpec.ofChange Rows.fnExactFunTextSpec) :=
  OpenClaim.holds_of_wide 4 Try.f4 rfl rfl rfl rfl rfl rfl rfl ⟨rfl, rfl, rfl, rfl, rfl⟩ rfl rfl rfl rfl rfl (by kernel_rfl) Try.func4 (by kernel_rfl)
    (of_decide_eq_true (by kernel_rfl)) (by unfold Func.isWrapper; first | (rw [if_pos (by decide +kernel)]; kernel_rfl) | (rw [if_neg (by decide +kernel)]; exact ⟨rfl, rfl⟩))
    (fun os started H enc _ => lifted os started H enc)

theorem proved : Rows.FnExactFunTextSaid := over
end Go.Proofs.Ytkpkofddfjgmpaa.fnExactFunText
