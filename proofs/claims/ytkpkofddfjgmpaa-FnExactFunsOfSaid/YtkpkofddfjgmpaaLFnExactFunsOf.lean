/- The law FnExactFunsOf returns true for every input that can be read as data, with no condition, and its arguments read as they did. -/
import Derived.Deep.RegionWith
import Derived.Test.YtkpkofddfjgmpaaRows
import Derived.Test.YtkpkofddfjgmpaaOpen
import Derived.Test.YtkpkofddfjgmpaaOut
import Derived.Test.YtkpkofddfjgmpaaFunsOfI
import Derived.Test.YtkpkofddfjgmpaaFunsOfS
import Derived.Test.YtkpkofddfjgmpaaFunsE
import Derived.Test.YtkpkofddfjgmpaaMarkB
import Derived.Test.YtkpkofddfjgmpaaEqB
import Derived.Test.YtkpkofddfjgmpaaToB
namespace Go.Proofs.Ytkpkofddfjgmpaa.fnExactFunsOf
open Go.ChangeShapes Go.WideShapes Go.ChangeAt Go.RowKit
open Go.ChangeMaps (open_string shut_string)
set_option linter.unusedVariables false

theorem own : ownKnob Try.prog.godebug = none := by kernel_rfl
theorem laidOut : laidOutB Try.prog = true := by kernel_rfl

set_option maxHeartbeats 800000 in
set_option maxRecDepth 100000 in
theorem walk (w : World) (u0 : Value) (z0 : List Int) (r0 : Rd w.heap.size .u8 w u0 z0) (i0 : bytesIn' z0) :
    Calls Try.prog 7 #[u0] w fun e w' => e = .returned (.bool true) ∧ Below w.heap.size w w' := by
  have hx := r0.len
  unfold maxLen at hx
  by_cases hbig : z0.length ≤ 1048576
  · have hto := fun (W : World) (hb : Below w.heap.size w W) => toByteS_any u0 z0 W (r0.below' hb) (by omega)
    have hP1 := fun (B : Nat) (v : Value) (W : World) (hr : Rd B .u8 W v z0) => sFunsOf_any v z0 W hr i0 hbig
    have hP2 := fun (B : Nat) (v : Value) (W : World) (hr : Rd B .u8 W v z0) => iFunsOf_any v z0 W hr i0 hbig
    unfold FunsOfPost at hP1 hP2
    obtain ⟨R, hR⟩ : ∃ R, (funsOf z0).getD [] = R := ⟨_, rfl⟩
    obtain ⟨ok, hok⟩ : ∃ ok, (funsOf z0).isSome = ok := ⟨_, rfl⟩
    have hsz : (R.length : Int) + 3 * (tot R : Int) ≤ 8388608 := by rw [← hR]; exact funsOf_size z0
    rw [hR, hok] at hP1 hP2
    have hkk : (ok != ok) = false := by cases ok <;> rfl
    have hoff := offF_nonneg R R.length
    have hoff2 : offF R R.length ≤ 8388608 := by rw [offF_all]; omega
    obtain ⟨O, hO⟩ : ∃ O, offF R R.length = O := ⟨_, rfl⟩
    have HM := Lib.hid (fun (base hi : Nat) (v : Value) (W : World) (ho : OwnH base hi W v R) (hh : hi ≤ W.heap.size) => (by have := markFunS_any v R 1 W ho hh (by omega) (by omega); rw [hO] at this; exact this : Calls Try.prog 44 #[v, .int .i64 1] W fun e w' => e = .returned (.int .i64 (1 + O)) ∧ OwnH base hi w' v (mFuns 1 R) ∧ Out base hi W w'))
    have HH := Lib.hid (fun (base hi : Nat) (v : Value) (W : World) (ho : OwnH base hi W v (mFuns 1 R)) => (by have := heldFunS_any v R 1 W ho.rd (by omega) (by omega); rw [hO] at this; exact this : Calls Try.prog 50 #[v, .int .i64 1] W fun e w' => e = .returned (.int .i64 (1 + O)) ∧ W = w'))
    rw [hO] at hoff hoff2
    have HT := Lib.hid hto
    have H1 := Lib.hid hP1
    have H2 := Lib.hid hP2
    have hlm : (mFuns 1 R).length = R.length := mixF_len 1 R _
    have HL := Lib.hid hlm
    obtain ⟨a0, cap0, rfl⟩ := r0.form
    clear hto hP1 hP2 hR hok r0 i0 hO hsz hlm
    have bb : Below w.heap.size w w := Below.refl _ _
    have zw := bb.size
    go_enter Try.func7, Try.ntmps7
    go_wp2_with fail
    refine (HT.out _ bb).mono ?_
    rintro e w1 ⟨v1, rfl, o1, b1⟩
    have lo1 : ∀ k, v1.ownBlock = some k → w.heap.size ≤ k := fun k hk => (o1.lt k hk).1
    have mo1 := own_lt o1
    have zw1 := b1.size
    replace bb := bb.trans (b1.mono bb.size)
    clear b1
    obtain ⟨ao1, do1, rfl⟩ := own_form o1
    go_wp2_with fail
    refine (H1.out _ _ _ (Rd.of_own o1)).mono ?_
    rintro e w2 ⟨v2, rfl, po2, b2⟩
    have o2 := po2.to_h
    clear po2
    replace o1 := own_below o1 b2 (own_lt o1)
    have zw2 := b2.size
    replace bb := bb.trans (b2.mono bb.size)
    clear b2
    obtain ⟨ao2, do2, rfl⟩ := o2.form
    clear lo1 mo1
    clear o1
    go_wp2_with fail
    refine (HT.out _ bb).mono ?_
    rintro e w3 ⟨v3, rfl, o3, b3⟩
    have lo3 : ∀ k, v3.ownBlock = some k → w2.heap.size ≤ k := fun k hk => (o3.lt k hk).1
    have mo3 := own_lt o3
    replace o2 := o2.below b3 (by omega)
    have zw3 := b3.size
    replace bb := bb.trans (b3.mono bb.size)
    clear b3
    obtain ⟨ao3, do3, rfl⟩ := own_form o3
    go_wp2_with fail
    refine (H2.out _ _ _ (Rd.of_own o3)).mono ?_
    rintro e w4 ⟨v4, rfl, po4, b4⟩
    have o4 := po4.to_h
    clear po4
    replace o3 := own_below o3 b4 (own_lt o3)
    replace o2 := o2.below b4 (by omega)
    have zw4 := b4.size
    replace bb := bb.trans (b4.mono bb.size)
    clear b4
    obtain ⟨ao4, do4, rfl⟩ := o4.form
    go_wp2_with fail
    refine (eqFunS_same _ _ _ _ o4.rd o2.rd).mono ?_
    rintro e w5 ⟨rfl, b5⟩
    replace o3 := own_below o3 b5 (own_lt o3)
    replace o2 := o2.below b5 (by omega)
    replace o4 := o4.below b5 (by omega)
    have zw5 := b5.size
    replace bb := bb.trans (b5.mono bb.size)
    clear b5
    go_wp2_with fail
    refine (HT.out _ bb).mono ?_
    rintro e w6 ⟨v5, rfl, o5, b6⟩
    have lo5 : ∀ k, v5.ownBlock = some k → w5.heap.size ≤ k := fun k hk => (o5.lt k hk).1
    have mo5 := own_lt o5
    replace o3 := own_below o3 b6 (own_lt o3)
    replace o2 := o2.below b6 (by omega)
    replace o4 := o4.below b6 (by omega)
    have zw6 := b6.size
    replace bb := bb.trans (b6.mono bb.size)
    clear b6
    obtain ⟨ao5, do5, rfl⟩ := own_form o5
    go_wp2_with fail
    refine (eqByteS_any _ _ _ _ _ (Rd.of_own o3) (Rd.of_own o5)).mono ?_
    rintro e w7 ⟨rfl, b7⟩
    have b7x := b7.below w6.heap.size
    clear b7
    replace o3 := own_below o3 b7x (own_lt o3)
    replace o5 := own_below o5 b7x (own_lt o5)
    replace o2 := o2.below b7x (by omega)
    replace o4 := o4.below b7x (by omega)
    have zw7 := b7x.size
    replace bb := bb.trans (b7x.mono bb.size)
    clear b7x
    rw [decide_eq_true rfl]
    clear lo5 mo5
    clear o5
    go_wp2_with fail
    refine (markByteS_any _ _ _ _ o3 (by omega) (by omega)).mono ?_
    rintro e w8 ⟨rfl, o3', g8⟩
    have zw8 := g8.size
    replace bb := bb.trans (Below.of_grown (B := w.heap.size) g8 (by omega) (fun k hk => by have := lo3 k hk; omega))
    replace o2 := o2.grown g8 (by omega) (fun r hr => by have := lo3 r hr; have := mo3 r hr; omega)
    replace o4 := o4.grown g8 (by omega) (fun r hr => by have := lo3 r hr; have := mo3 r hr; omega)
    clear g8 o3
    have lo3' := lo3
    have mo3' := mo3
    clear lo3 mo3
    clear lo3' mo3'
    clear o3'
    go_wp2_with fail
    refine (eqFunS_same _ _ _ _ o4.rd o2.rd).mono ?_
    rintro e w9 ⟨rfl, b9⟩
    replace o2 := o2.below b9 (by omega)
    replace o4 := o4.below b9 (by omega)
    have zw9 := b9.size
    replace bb := bb.trans (b9.mono bb.size)
    clear b9
    go_wp2_with fail
    refine (HM.out _ _ _ _ o4 (by omega)).mono ?_
    rintro e w10 ⟨rfl, o6, g10⟩
    have zw10 := g10.size
    replace o2 := o2.out g10 (by omega) (by omega)
    replace bb := bb.trans (g10.below (B := w.heap.size) (by omega) (by omega))
    clear g10 o4
    go_wp2_with fail
    refine (HH.out _ _ _ _ o6).mono ?_
    rintro e wq ⟨rfl, hq⟩
    subst hq
    go_wp2_with fail
    refine (HT.out _ bb).mono ?_
    rintro e w11 ⟨v7, rfl, o7, b11⟩
    have lo7 : ∀ k, v7.ownBlock = some k → w10.heap.size ≤ k := fun k hk => (o7.lt k hk).1
    have mo7 := own_lt o7
    replace o2 := o2.below b11 (by omega)
    replace o6 := o6.below b11 (by omega)
    have zw11 := b11.size
    replace bb := bb.trans (b11.mono bb.size)
    clear b11
    obtain ⟨ao7, do7, rfl⟩ := own_form o7
    go_wp2_with fail
    refine (H2.out _ _ _ (Rd.of_own o7)).mono ?_
    rintro e w12 ⟨v8, rfl, po8, b12⟩
    have o8 := po8.to_h
    clear po8
    replace o7 := own_below o7 b12 (own_lt o7)
    replace o2 := o2.below b12 (by omega)
    replace o6 := o6.below b12 (by omega)
    have zw12 := b12.size
    replace bb := bb.trans (b12.mono bb.size)
    clear b12
    obtain ⟨ao8, do8, rfl⟩ := o8.form
    clear lo7 mo7
    clear o7
    go_wp2_with fail
    refine (eqFunS_same _ _ _ _ o8.rd o2.rd).mono ?_
    rintro e w13 ⟨rfl, b13⟩
    replace o2 := o2.below b13 (by omega)
    replace o6 := o6.below b13 (by omega)
    replace o8 := o8.below b13 (by omega)
    have zw13 := b13.size
    replace bb := bb.trans (b13.mono bb.size)
    clear b13
    clear o8
    clear o2
    go_wp2_with fail
    refine (HH.out _ _ _ _ o6).mono ?_
    rintro e wq ⟨rfl, hq⟩
    subst hq
    go_wp2
    go_ret
    exact ⟨rfl, bb⟩
  · obtain ⟨a0, cap0, rfl⟩ := r0.form
    clear r0
    go_enter Try.func7, Try.ntmps7
    go_wp2
    go_ret
    exact ⟨rfl, Below.refl _ _⟩

set_option maxRecDepth 100000 in
theorem lifted (os : Os) (started : os.Started) (H : Type) (enc : TypeId × Value → H) :
    ReturnsInHanded {} Try.checked os 7 .any (Rows.fnExactFunsOfSpec.pre6 enc Try.prog Try.f7 Rows.fnExactFunsOfRow.domain false) (Rows.fnExactFunsOfSpec.post enc Try.prog Try.f7 false true false false) := by
  refine returnsInHanded_of_change (C := Try.checked) own started (by kernel_rfl) Try.func7
    (ChangeSpec.witness6 (enc := enc) (C := Try.checked) false ⟨#[], #[.slice none 0 0], []⟩ 8 (by kernel_rfl) (by kernel_rfl) (by kernel_rfl) (by kernel_rfl)) ?_
  intro W base args ds gs before hval0 hW hcnd _
  have hval : ∀ (j : Nat) t v, Try.f7.params[j]? = some t → args[j]? = some v → Value.okWide Try.prog W .any base t v := hval0
  have hW' := hW
  obtain ⟨p, q, hA0, hV, rfl, hfz, hnd⟩ := hW
  have hA : DataW.TrodAll enc Try.prog W 0 (fun _ => true) true Try.f7.params.toList args.toList ds p := hA0
  rw [Try.params7] at hA hval
  obtain ⟨v0, vs0, d0, ds0, p0, q0, hargs, rfl, rfl, h0, t0⟩ := trodAll_cons hA
  obtain ⟨rfl, rfl, rfl⟩ := trodAll_nil t0
  obtain rfl : args = #[v0] := by cases args; simp_all
  obtain ⟨rfl, rfl⟩ := trodVars_none hV
  have k0 := h0
  have lt0 : ∀ x ∈ p0, x.block < W.heap.size := by obtain ⟨m, hm⟩ := k0; exact DataW.trod_lt m _ _ _ hm
  obtain ⟨s0, l0, c0, rfl⟩ := okWide_slice Try.underlying22 (hval 0 22 v0 rfl rfl)
  obtain ⟨g0, hf0⟩ := h0
  obtain ⟨z0, r0, i0⟩ := bytes_rd Try.underlying22 Try.underlying5 (by kernel_rfl) (by simpa [Value.cells] using hf0)
  clear hA0 hval0
  refine (walk W _ z0 r0 i0).mono fun e W' ⟨he, bel⟩ => ?_
  subst he
  exact ⟨_, rfl, _, _, _, [], _, [], hW', trodAll_mk1 (shut_bool Try.underlying4 _), (trodAll_cons_mk (Below.trod laidOut (by kernel_rfl) (of_decide_eq_true (by kernel_rfl)) k0 bel lt0) trodAll_mk0), rfl, bel.frame _, fun h => by cases h⟩

theorem over : Rows.fnExactFunsOfRow.holds Try.pinned (OpenSpec.ofChange Rows.fnExactFunsOfSpec) :=
  OpenClaim.holds_of_wide 7 Try.f7 rfl rfl rfl rfl rfl rfl rfl ⟨rfl, rfl, rfl, rfl, rfl⟩ rfl rfl rfl rfl rfl (by kernel_rfl) Try.func7 (by kernel_rfl)
    (of_decide_eq_true (by kernel_rfl)) (by unfold Func.isWrapper; first | (rw [if_pos (by decide +kernel)]; kernel_rfl) | (rw [if_neg (by decide +kernel)]; exact ⟨rfl, rfl⟩))
    (fun os started H enc _ => lifted os started H enc)

theorem proved : Rows.FnExactFunsOfSaid := over
end Go.Proofs.Ytkpkofddfjgmpaa.fnExactFunsOf
