/- The law FnExactFunsBytes returns true for every input that can be read as data, with no condition, and its arguments read as they did. -/
import Derived.Deep.RegionWith
import Derived.Test.YtkpkofddfjgmpaaRows
import Derived.Test.YtkpkofddfjgmpaaOpen
import Derived.Test.YtkpkofddfjgmpaaOut
import Derived.Test.YtkpkofddfjgmpaaBytesI
import Derived.Test.YtkpkofddfjgmpaaBytesS
import Derived.Test.YtkpkofddfjgmpaaFunsE
import Derived.Test.YtkpkofddfjgmpaaFunsZ
import Derived.Test.YtkpkofddfjgmpaaMarkB
import Derived.Test.YtkpkofddfjgmpaaEqB
import Derived.Test.YtkpkofddfjgmpaaOpenV
namespace Go.Proofs.Ytkpkofddfjgmpaa.fnExactFunsBytes
open Go.ChangeShapes Go.WideShapes Go.ChangeAt Go.RowKit
open Go.ChangeMaps (open_string shut_string)
set_option linter.unusedVariables false

theorem own : ownKnob Try.prog.godebug = none := by kernel_rfl
theorem laidOut : laidOutB Try.prog = true := by kernel_rfl

set_option maxHeartbeats 800000 in
set_option maxRecDepth 100000 in
theorem walk (w : World) (u0 : Value) (z0 : List F2) (r0 : RdF w.heap.size w u0 z0) (i0 : ∀ x ∈ z0, fnIn x) :
    Calls Try.prog 6 #[u0] w fun e w' => e = .returned (.bool true) ∧ Below w.heap.size w w' := by
  by_cases hbig : z0.length + tot z0 ≤ 1048576
  · have hs : szOf (z0.length + tot z0) 1048576 = 1048576 - ((z0.length + tot z0 : Nat) : Int) := by unfold szOf; rw [if_neg (by omega)]
    have hz := fun (W : World) (hb : Below w.heap.size w W) => szFunS_any u0 z0 1048576 W (r0.below' hb) (by omega) (by omega)
    rw [hs] at hz
    have hto := fun (W : World) (hb : Below w.heap.size w W) => toFunS_any u0 z0 W (r0.below' hb) (by omega) (by omega)
    have hP1 := fun (B : Nat) (v : Value) (W : World) (hr : RdF B W v z0) => sFunsBytes_any v z0 W hr i0 (by omega)
    have hP2 := fun (B : Nat) (v : Value) (W : World) (hr : RdF B W v z0) => iFunsBytes_any v z0 W hr i0 (by omega)
    have hlen : (funsBytes z0).length ≤ 2700605 := by
      unfold funsBytes
      split
      · rename_i hok; exact funsRaw_len hok
      · simp
    have hoff := offF_nonneg z0 z0.length
    have hoff2 : offF z0 z0.length ≤ 4194304 := by rw [offF_all]; omega
    obtain ⟨S, hS⟩ : ∃ S, funsBytes z0 = S := ⟨_, rfl⟩
    rw [hS] at hP1 hP2 hlen
    obtain ⟨O, hO⟩ : ∃ O, offF z0 z0.length = O := ⟨_, rfl⟩
    have HM := Lib.hid (fun (base hi : Nat) (v : Value) (W : World) (ho : OwnH base hi W v z0) (hh : hi ≤ W.heap.size) => (by have := markFunS_any v z0 1 W ho hh (by omega) (by omega); rw [hO] at this; exact this : Calls Try.prog 44 #[v, .int .i64 1] W fun e w' => e = .returned (.int .i64 (1 + O)) ∧ OwnH base hi w' v (mFuns 1 z0) ∧ Out base hi W w'))
    rw [hO] at hoff hoff2
    have HZ := Lib.hid hz
    have HT := Lib.hid hto
    have H1 := Lib.hid hP1
    have H2 := Lib.hid hP2
    obtain ⟨a0, cap0, rfl⟩ := r0.form
    clear hs hz hto hP1 hP2 hS r0 i0 hO
    have bb : Below w.heap.size w w := Below.refl _ _
    have zw := bb.size
    go_enter Try.func6, Try.ntmps6
    go_wp2_with fail
    refine (HZ.out _ bb).mono ?_
    rintro e w1 ⟨rfl, b1⟩
    have zw1 := b1.size
    replace bb := bb.trans (b1.mono bb.size)
    clear b1
    go_wp2_with fail
    refine (HT.out _ bb).mono ?_
    rintro e w2 ⟨v1, rfl, po1, b2⟩
    have o1 := po1.to_h
    clear po1
    have zw2 := b2.size
    replace bb := bb.trans (b2.mono bb.size)
    clear b2
    obtain ⟨ao1, do1, rfl⟩ := o1.form
    go_wp2_with fail
    refine (H1.out _ _ _ o1.rd).mono ?_
    rintro e w3 ⟨v2, rfl, o2, b3⟩
    have lo2 : ∀ k, v2.ownBlock = some k → w2.heap.size ≤ k := fun k hk => (o2.lt k hk).1
    have mo2 := own_lt o2
    replace o1 := o1.below b3 (by omega)
    have zw3 := b3.size
    replace bb := bb.trans (b3.mono bb.size)
    clear b3
    obtain ⟨ao2, do2, rfl⟩ := own_form o2
    clear o1
    go_wp2_with fail
    refine (HT.out _ bb).mono ?_
    rintro e w4 ⟨v3, rfl, po3, b4⟩
    have o3 := po3.to_h
    clear po3
    replace o2 := own_below o2 b4 (own_lt o2)
    have zw4 := b4.size
    replace bb := bb.trans (b4.mono bb.size)
    clear b4
    obtain ⟨ao3, do3, rfl⟩ := o3.form
    go_wp2_with fail
    refine (H2.out _ _ _ o3.rd).mono ?_
    rintro e w5 ⟨v4, rfl, o4, b5⟩
    have lo4 : ∀ k, v4.ownBlock = some k → w4.heap.size ≤ k := fun k hk => (o4.lt k hk).1
    have mo4 := own_lt o4
    replace o2 := own_below o2 b5 (own_lt o2)
    replace o3 := o3.below b5 (by omega)
    have zw5 := b5.size
    replace bb := bb.trans (b5.mono bb.size)
    clear b5
    obtain ⟨ao4, do4, rfl⟩ := own_form o4
    go_wp2_with fail
    refine (eqByteS_any _ _ _ _ _ (Rd.of_own o4) (Rd.of_own o2)).mono ?_
    rintro e w6 ⟨rfl, b6⟩
    have b6x := b6.below w5.heap.size
    clear b6
    replace o2 := own_below o2 b6x (own_lt o2)
    replace o4 := own_below o4 b6x (own_lt o4)
    replace o3 := o3.below b6x (by omega)
    have zw6 := b6x.size
    replace bb := bb.trans (b6x.mono bb.size)
    clear b6x
    rw [decide_eq_true rfl]
    go_wp2_with fail
    refine (HT.out _ bb).mono ?_
    rintro e w7 ⟨v5, rfl, po5, b7⟩
    have o5 := po5.to_h
    clear po5
    replace o2 := own_below o2 b7 (own_lt o2)
    replace o4 := own_below o4 b7 (own_lt o4)
    replace o3 := o3.below b7 (by omega)
    have zw7 := b7.size
    replace bb := bb.trans (b7.mono bb.size)
    clear b7
    obtain ⟨ao5, do5, rfl⟩ := o5.form
    go_wp2_with fail
    refine (eqFunS_same _ _ _ _ o3.rd o5.rd).mono ?_
    rintro e w8 ⟨rfl, b8⟩
    replace o2 := own_below o2 b8 (own_lt o2)
    replace o4 := own_below o4 b8 (own_lt o4)
    replace o3 := o3.below b8 (by omega)
    replace o5 := o5.below b8 (by omega)
    have zw8 := b8.size
    replace bb := bb.trans (b8.mono bb.size)
    clear b8
    clear o5
    go_wp2_with fail
    refine (HM.out _ _ _ _ o3 (by omega)).mono ?_
    rintro e w9 ⟨rfl, o3', g9⟩
    have zw9 := g9.size
    replace o2 := own_out o2 g9 (fun k hk => by have := lo2 k hk; have := mo2 k hk; omega)
    replace o4 := own_out o4 g9 (fun k hk => by have := lo4 k hk; have := mo4 k hk; omega)
    replace bb := bb.trans (g9.below (B := w.heap.size) (by omega) (by omega))
    clear g9 o3
    clear o3'
    go_wp2_with fail
    refine (eqByteS_any _ _ _ _ _ (Rd.of_own o4) (Rd.of_own o2)).mono ?_
    rintro e w10 ⟨rfl, b10⟩
    have b10x := b10.below w9.heap.size
    clear b10
    replace o2 := own_below o2 b10x (own_lt o2)
    replace o4 := own_below o4 b10x (own_lt o4)
    have zw10 := b10x.size
    replace bb := bb.trans (b10x.mono bb.size)
    clear b10x
    rw [decide_eq_true rfl]
    go_wp2_with fail
    refine (markByteS_any _ _ _ _ o4 (by omega) (by omega)).mono ?_
    rintro e w11 ⟨rfl, o6, g11⟩
    have zw11 := g11.size
    replace o2 := o2.kept g11 (own_apart' (N := w4.heap.size) lo4 (fun k hk => by have := mo2 k hk; omega))
    replace bb := bb.trans (Below.of_grown (B := w.heap.size) g11 (by omega) (fun k hk => by have := lo4 k hk; omega))
    clear g11 o4
    have lo6 := lo4
    have mo6 := mo4
    clear lo4 mo4
    go_wp2_with fail
    refine (heldByteS_any _ _ _ (Rd.of_own o6) (by omega) (by omega)).mono ?_
    rintro e w12 ⟨rfl, b12⟩
    have b12x := b12.below w11.heap.size
    clear b12
    replace o2 := own_below o2 b12x (own_lt o2)
    replace o6 := own_below o6 b12x (own_lt o6)
    have zw12 := b12x.size
    replace bb := bb.trans (b12x.mono bb.size)
    clear b12x
    go_wp2_with fail
    refine (HT.out _ bb).mono ?_
    rintro e w13 ⟨v7, rfl, po7, b13⟩
    have o7 := po7.to_h
    clear po7
    replace o2 := own_below o2 b13 (own_lt o2)
    replace o6 := own_below o6 b13 (own_lt o6)
    have zw13 := b13.size
    replace bb := bb.trans (b13.mono bb.size)
    clear b13
    obtain ⟨ao7, do7, rfl⟩ := o7.form
    go_wp2_with fail
    refine (H2.out _ _ _ o7.rd).mono ?_
    rintro e w14 ⟨v8, rfl, o8, b14⟩
    have lo8 : ∀ k, v8.ownBlock = some k → w13.heap.size ≤ k := fun k hk => (o8.lt k hk).1
    have mo8 := own_lt o8
    replace o2 := own_below o2 b14 (own_lt o2)
    replace o6 := own_below o6 b14 (own_lt o6)
    replace o7 := o7.below b14 (by omega)
    have zw14 := b14.size
    replace bb := bb.trans (b14.mono bb.size)
    clear b14
    obtain ⟨ao8, do8, rfl⟩ := own_form o8
    clear o7
    go_wp2_with fail
    refine (eqByteS_any _ _ _ _ _ (Rd.of_own o8) (Rd.of_own o2)).mono ?_
    rintro e w15 ⟨rfl, b15⟩
    have b15x := b15.below w14.heap.size
    clear b15
    replace o2 := own_below o2 b15x (own_lt o2)
    replace o6 := own_below o6 b15x (own_lt o6)
    replace o8 := own_below o8 b15x (own_lt o8)
    have zw15 := b15x.size
    replace bb := bb.trans (b15x.mono bb.size)
    clear b15x
    rw [decide_eq_true rfl]
    clear lo8 mo8
    clear lo2 mo2
    clear o8 o2
    go_wp2_with fail
    refine (heldByteS_any _ _ _ (Rd.of_own o6) (by omega) (by omega)).mono ?_
    rintro e w16 ⟨rfl, b16⟩
    have b16x := b16.below w15.heap.size
    clear b16
    replace o6 := own_below o6 b16x (own_lt o6)
    have zw16 := b16x.size
    replace bb := bb.trans (b16x.mono bb.size)
    clear b16x
    go_wp2
    go_ret
    exact ⟨rfl, bb⟩
  · have hs : szOf (z0.length + tot z0) 1048576 = -1 := by unfold szOf; rw [if_pos (by omega)]
    have hz := fun (W : World) (hb : Below w.heap.size w W) => szFunS_any u0 z0 1048576 W (r0.below' hb) (by omega) (by omega)
    rw [hs] at hz
    have HZ := Lib.hid hz
    obtain ⟨a0, cap0, rfl⟩ := r0.form
    clear hs hz r0
    go_enter Try.func6, Try.ntmps6
    go_wp2_with fail
    refine (HZ.out _ (Below.refl _ _)).mono ?_
    rintro e w1 ⟨rfl, b1⟩
    go_wp2
    go_ret
    exact ⟨rfl, b1⟩

set_option maxRecDepth 100000 in
theorem lifted (os : Os) (started : os.Started) (H : Type) (enc : TypeId × Value → H) :
    ReturnsInHanded {} Try.checked os 6 .any (Rows.fnExactFunsBytesSpec.pre6 enc Try.prog Try.f6 Rows.fnExactFunsBytesRow.domain false) (Rows.fnExactFunsBytesSpec.post enc Try.prog Try.f6 false true false false) := by
  refine returnsInHanded_of_change (C := Try.checked) own started (by kernel_rfl) Try.func6
    (ChangeSpec.witness6 (enc := enc) (C := Try.checked) false ⟨#[], #[.slice none 0 0], []⟩ 8 (by kernel_rfl) (by kernel_rfl) (by kernel_rfl) (by kernel_rfl)) ?_
  intro W base args ds gs before hval0 hW hcnd _
  have hval : ∀ (j : Nat) t v, Try.f6.params[j]? = some t → args[j]? = some v → Value.okWide Try.prog W .any base t v := hval0
  have hW' := hW
  obtain ⟨p, q, hA0, hV, rfl, hfz, hnd⟩ := hW
  have hA : DataW.TrodAll enc Try.prog W 0 (fun _ => true) true Try.f6.params.toList args.toList ds p := hA0
  rw [Try.params6] at hA hval
  obtain ⟨v0, vs0, d0, ds0, p0, q0, hargs, rfl, rfl, h0, t0⟩ := trodAll_cons hA
  obtain ⟨rfl, rfl, rfl⟩ := trodAll_nil t0
  obtain rfl : args = #[v0] := by cases args; simp_all
  obtain ⟨rfl, rfl⟩ := trodVars_none hV
  have k0 := h0
  have lt0 : ∀ x ∈ p0, x.block < W.heap.size := by obtain ⟨m, hm⟩ := k0; exact DataW.trod_lt m _ _ _ hm
  obtain ⟨s0, l0, c0, rfl⟩ := okWide_slice Try.underlying38 (hval 0 38 v0 rfl rfl)
  obtain ⟨g0, hf0⟩ := h0
  obtain ⟨z0, r0, i0⟩ := funs_rd (by simpa [Value.cells] using hf0)
  clear hA0 hval0
  refine (walk W _ z0 r0 i0).mono fun e W' ⟨he, bel⟩ => ?_
  subst he
  exact ⟨_, rfl, _, _, _, [], _, [], hW', trodAll_mk1 (shut_bool Try.underlying4 _), (trodAll_cons_mk (Below.trod laidOut (by kernel_rfl) (of_decide_eq_true (by kernel_rfl)) k0 bel lt0) trodAll_mk0), rfl, bel.frame _, fun h => by cases h⟩

theorem over : Rows.fnExactFunsBytesRow.holds Try.pinned (OpenSpec.ofChange Rows.fnExactFunsBytesSpec) :=
  OpenClaim.holds_of_wide 6 Try.f6 rfl rfl rfl rfl rfl rfl rfl ⟨rfl, rfl, rfl, rfl, rfl⟩ rfl rfl rfl rfl rfl (by kernel_rfl) Try.func6 (by kernel_rfl)
    (of_decide_eq_true (by kernel_rfl)) (by unfold Func.isWrapper; first | (rw [if_pos (by decide +kernel)]; kernel_rfl) | (rw [if_neg (by decide +kernel)]; exact ⟨rfl, rfl⟩))
    (fun os started H enc _ => lifted os started H enc)

theorem proved : Rows.FnExactFunsBytesSaid := over
end Go.Proofs.Ytkpkofddfjgmpaa.fnExactFunsBytes
