/- The law FnExactVmOk returns true for every input that can be read as data, with no condition, and its arguments read as they did. -/
import Derived.Deep.RegionWith
import Derived.Test.YtkpkofddfjgmpaaRows
import Derived.Test.YtkpkofddfjgmpaaOpen
import Derived.Test.YtkpkofddfjgmpaaVmOkS
import Derived.Test.YtkpkofddfjgmpaaVmT
import Derived.Test.YtkpkofddfjgmpaaOpenV
namespace Go.Proofs.Ytkpkofddfjgmpaa.fnExactVmOk
open Go.ChangeShapes Go.WideShapes Go.ChangeAt Go.RowKit
open Go.ChangeMaps (open_string shut_string)
set_option linter.unusedVariables false

theorem own : ownKnob Try.prog.godebug = none := by kernel_rfl
theorem laidOut : laidOutB Try.prog = true := by kernel_rfl

set_option maxHeartbeats 800000 in
set_option maxRecDepth 100000 in
theorem walk (w : World) (fv0 hv0 sv0 cv0 ov0 : Value) (L0 : VmL) (r0 : RdV w.heap.size w fv0 hv0 sv0 cv0 ov0 L0) (i0 : vmIn L0) :
    Calls Try.prog 9 #[vmV fv0 hv0 sv0 cv0 ov0 L0] w fun e w' => e = .returned (.bool true) ∧ Below w.heap.size w w' := by
  by_cases hbig : vmSz L0 ≤ 1048576
  · have hs : szOf (vmSz L0) 1048576 = 1048576 - (vmSz L0 : Int) := by unfold szOf; rw [if_neg (by omega)]
    have hz := fun (W : World) (hb : Below w.heap.size w W) => szVm_any fv0 hv0 sv0 cv0 ov0 L0 1048576 W (r0.below' hb) (by omega) (by omega)
    rw [hs] at hz
    have hto := fun (W : World) (hb : Below w.heap.size w W) => toVm_any fv0 hv0 sv0 cv0 ov0 L0 W (r0.below' hb) (by omega)
    have hP1 := fun (B : Nat) (f h s c o : Value) (W : World) (hr : RdV B W f h s c o L0) => sVmOk_any f h s c o L0 W hr i0 hbig
    have hP2 := fun (B : Nat) (f h s c o : Value) (W : World) (hr : RdV B W f h s c o L0) => iVmOk_any f h s c o L0 W hr i0 hbig
    have hP3 := fun (B B' : Nat) (f h s c o f' h' s' c' o' : Value) (W : World) (hr : RdV B W f h s c o L0) (hr' : RdV B' W f' h' s' c' o' L0) => eqVm_same f h s c o f' h' s' c' o' L0 W hr hr'
    obtain ⟨q, hq⟩ : ∃ q, vmOk L0 = q := ⟨_, rfl⟩
    rw [hq] at hP1 hP2
    obtain ⟨m, hm⟩ : ∃ m, vmSz L0 = m := ⟨_, rfl⟩
    rw [hm] at hz hbig
    obtain ⟨f0a, f0c, h0a, h0c, s0a, s0c, c0a, c0c, o0a, o0c, rfl, rfl, rfl, rfl, rfl⟩ := r0.forms
    obtain ⟨fs, zs, h, b, n, ss, cs, os, code, each⟩ := L0
    unfold vmV at hz hto hP1 hP2 hP3 ⊢
    dsimp only at hz hto hP1 hP2 hP3 ⊢
    have HZ := Lib.hid hz
    have HT := Lib.hid hto
    have H1 := Lib.hid hP1
    have H2 := Lib.hid hP2
    have H3 := Lib.hid hP3
    have hkk : (q != q) = false := by simp
    clear hs hz hto hP1 hP2 hP3 hq hm r0 i0
    go_enter Try.func9, Try.ntmps9
    go_wp2_with fail
    generalize hx : w.alloc _ = xk0
    obtain ⟨bb, k0⟩ := Bx.alloc hx
    clear hx
    have zxk0 := bb.size
    have uk0 := k0.1
    refine (HZ.out _ bb).mono ?_
    rintro e w1 ⟨rfl, b1⟩
    replace k0 := k0.below b1 k0.1
    have zw1 := b1.size
    replace bb := bb.trans (b1.mono bb.size)
    clear b1
    have ck0 := k0.2.1
    have yk0 := k0.1
    go_wp2_with fail
    clear ck0 yk0
    refine (HT.out _ bb).mono ?_
    rintro e w2 ⟨f1, h1, s1, c1, o1, rfl, p1, b2⟩
    replace k0 := k0.below b2 k0.1
    have zw2 := b2.size
    replace bb := bb.trans (b2.mono bb.size)
    clear b2
    have r1 := RdV.of_own p1
    clear p1
    obtain ⟨f1a, f1c, h1a, h1c, s1a, s1c, c1a, c1c, o1a, o1c, rfl, rfl, rfl, rfl, rfl⟩ := r1.forms
    dsimp only at r1
    go_wp2_with fail
    refine (H1.out _ _ _ _ _ _ _ r1).mono ?_
    rintro e w3 ⟨rfl, b3⟩
    replace k0 := k0.below b3 k0.1
    replace r1 := RdV.below' r1 b3
    have zw3 := b3.size
    replace bb := bb.trans (b3.mono bb.size)
    clear b3
    clear r1
    have ck0 := k0.2.1
    have yk0 := k0.1
    go_wp2_with fail
    clear ck0 yk0
    refine (HT.out _ bb).mono ?_
    rintro e w4 ⟨f2, h2, s2, c2, o2, rfl, p2, b4⟩
    replace k0 := k0.below b4 k0.1
    have zw4 := b4.size
    replace bb := bb.trans (b4.mono bb.size)
    clear b4
    have r2 := RdV.of_own p2
    clear p2
    obtain ⟨f2a, f2c, h2a, h2c, s2a, s2c, c2a, c2c, o2a, o2c, rfl, rfl, rfl, rfl, rfl⟩ := r2.forms
    dsimp only at r2
    go_wp2_with fail
    generalize hx : w4.alloc _ = xk2
    obtain ⟨bx, k2⟩ := Bx.alloc hx
    clear hx
    replace k0 := k0.below bx k0.1
    replace r2 := RdV.below' r2 bx
    have zxk2 := bx.size
    replace bb := bb.trans (bx.mono bb.size)
    clear bx
    have uk2 := k2.1
    have ck2 := k2.2.1
    have yk2 := k2.1
    go_wp2_with fail
    clear ck2 yk2
    refine (H2.out _ _ _ _ _ _ _ r2).mono ?_
    rintro e w5 ⟨rfl, b5⟩
    replace k0 := k0.below b5 k0.1
    replace k2 := k2.below b5 k2.1
    replace r2 := RdV.below' r2 b5
    have zw5 := b5.size
    replace bb := bb.trans (b5.mono bb.size)
    clear b5
    have ck0 := k0.2.1
    have yk0 := k0.1
    have ck2 := k2.2.1
    have yk2 := k2.1
    go_wp2_with fail
    go_region_with (first | (go_at_call 35; refine (HT.out _ (by first | exact bb | exact bb.drew)).mono ?_; rintro e w6 ⟨f9, h9, s9, cc9, o9, rfl, p9, b6⟩; have c6 : Below w5.heap.size w5 w6 := ((Below.refl w5.heap.size w5).drew).trans b6; replace k0 := k0.below c6 k0.1; replace k2 := k2.below c6 k2.1; replace r2 := RdV.below' r2 c6; replace bb := bb.trans (c6.mono bb.size); have zw6 := c6.size; have r9 := RdV.of_own p9; obtain ⟨f9a, f9c, h9a, h9c, s9a, s9c, c9a, c9c, o9a, o9c, hv1, hv2, hv3, hv4, hv5⟩ := r9.forms; subst hv1; subst hv2; subst hv3; subst hv4; subst hv5; have q6 := k2.2.1; clear p9 b6 c6) | (go_at_call 37; refine (H3.out _ _ _ _ _ _ _ _ _ _ _ _ _ (by first | exact r2 | exact RdV.below r2 ((Below.refl _ _).drew) (Nat.le_refl _)) (by first | exact r9 | exact RdV.below r9 ((Below.refl _ _).drew) (Nat.le_refl _))).mono ?_; rintro e w7 ⟨rfl, b7⟩))
    all_goals
      replace k0 := k0.below b7 k0.1
      replace k2 := k2.below b7 k2.1
      replace r2 := RdV.below' r2 b7
      have zw7 := b7.size
      replace bb := bb.trans (b7.mono bb.size)
      clear b7
      clear q6 r9
      clear ck0 yk0 ck2 yk2
      go_wp2
      go_ret
      exact ⟨rfl, bb⟩
  · have hs : szOf (vmSz L0) 1048576 = -1 := by unfold szOf; rw [if_pos (by omega)]
    have hz := fun (W : World) (hb : Below w.heap.size w W) => szVm_any fv0 hv0 sv0 cv0 ov0 L0 1048576 W (r0.below' hb) (by omega) (by omega)
    rw [hs] at hz
    obtain ⟨f0a, f0c, h0a, h0c, s0a, s0c, c0a, c0c, o0a, o0c, rfl, rfl, rfl, rfl, rfl⟩ := r0.forms
    obtain ⟨fs, zs, h, b, n, ss, cs, os, code, each⟩ := L0
    unfold vmV at hz ⊢
    dsimp only at hz ⊢
    have HZ := Lib.hid hz
    clear hs hz r0
    go_enter Try.func9, Try.ntmps9
    go_wp2_with fail
    generalize hx : w.alloc _ = x0
    obtain ⟨b0', k0⟩ := Bx.alloc hx
    clear hx
    refine (HZ.out _ b0').mono ?_
    rintro e w1 ⟨rfl, b1⟩
    go_wp2
    go_ret
    exact ⟨rfl, b0'.trans (b1.mono b0'.size)⟩

set_option maxRecDepth 100000 in
theorem lifted (os : Os) (started : os.Started) (H : Type) (enc : TypeId × Value → H) :
    ReturnsInHanded {} Try.checked os 9 .any (Rows.fnExactVmOkSpec.pre6 enc Try.prog Try.f9 Rows.fnExactVmOkRow.domain false) (Rows.fnExactVmOkSpec.post enc Try.prog Try.f9 false true false false) := by
  refine returnsInHanded_of_change (C := Try.checked) own started (by kernel_rfl) Try.func9
    (ChangeSpec.witness6 (enc := enc) (C := Try.checked) false ⟨#[], #[.agg #[.slice none 0 0, .slice none 0 0, .int .i64 0, .int .i64 0, .int .i64 0, .slice none 0 0, .slice none 0 0, .slice none 0 0, .int .i64 0, .bool false]], []⟩ 8 (by kernel_rfl) (by kernel_rfl) (by kernel_rfl) (by kernel_rfl)) ?_
  intro W base args ds gs before hval0 hW hcnd _
  have hval : ∀ (j : Nat) t v, Try.f9.params[j]? = some t → args[j]? = some v → Value.okWide Try.prog W .any base t v := hval0
  have hW' := hW
  obtain ⟨p, q, hA0, hV, rfl, hfz, hnd⟩ := hW
  have hA : DataW.TrodAll enc Try.prog W 0 (fun _ => true) true Try.f9.params.toList args.toList ds p := hA0
  rw [Try.params9] at hA hval
  obtain ⟨v0, vs0, d0, ds0, p0, q0, hargs, rfl, rfl, h0, t0⟩ := trodAll_cons hA
  obtain ⟨rfl, rfl, rfl⟩ := trodAll_nil t0
  obtain rfl : args = #[v0] := by cases args; simp_all
  obtain ⟨rfl, rfl⟩ := trodVars_none hV
  have k0 := h0
  have lt0 : ∀ x ∈ p0, x.block < W.heap.size := by obtain ⟨m, hm⟩ := k0; exact DataW.trod_lt m _ _ _ hm
  obtain ⟨fv0, hv0, sv0, cv0, ov0, L0, rfl, r0, i0⟩ := vm_rd (hval 0 44 v0 rfl rfl) h0
  clear hA0 hval0
  refine (walk W _ _ _ _ _ L0 r0 i0).mono fun e W' ⟨he, bel⟩ => ?_
  subst he
  exact ⟨_, rfl, _, _, _, [], _, [], hW', trodAll_mk1 (shut_bool Try.underlying4 _), (trodAll_cons_mk (Below.trod laidOut (by kernel_rfl) (of_decide_eq_true (by kernel_rfl)) k0 bel lt0) trodAll_mk0), rfl, bel.frame _, fun h => by cases h⟩

theorem over : Rows.fnExactVmOkRow.holds Try.pinned (OpenSpec.ofChange Rows.fnExactVmOkSpec) :=
  OpenClaim.holds_of_wide 9 Try.f9 rfl rfl rfl rfl rfl rfl rfl ⟨rfl, rfl, rfl, rfl, rfl⟩ rfl rfl rfl rfl rfl (by kernel_rfl) Try.func9 (by kernel_rfl)
    (of_decide_eq_true (by kernel_rfl)) (by unfold Func.isWrapper; first | (rw [if_pos (by decide +kernel)]; kernel_rfl) | (rw [if_neg (by decide +kernel)]; exact ⟨rfl, rfl⟩))
    (fun os started H enc _ => lifted os started H enc)

theorem proved : Rows.FnExactVmOkSaid := over
end Go.Proofs.Ytkpkofddfjgmpaa.fnExactVmOk
