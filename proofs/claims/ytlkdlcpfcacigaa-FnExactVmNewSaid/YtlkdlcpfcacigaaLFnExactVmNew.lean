/- The law FnExactVmNew returns true for every input that can be read as data, with no condition, and its arguments read as they did. -/
import Derived.Deep.RegionWith
import Derived.Test.YtlkdlcpfcacigaaRows
import Derived.Test.YtlkdlcpfcacigaaOpen
import Derived.Test.YtlkdlcpfcacigaaVmLaw
import Derived.Test.YtlkdlcpfcacigaaMgFunE
import Derived.Test.YtlkdlcpfcacigaaMgOpenE
import Derived.Test.YtlkdlcpfcacigaaVm
namespace Go.Proofs.Ytlkdlcpfcacigaa.fnExactVmNew
open Go.ChangeShapes Go.WideShapes Go.ChangeAt Go.RowKit
open Go.ChangeMaps (open_string shut_string)
set_option linter.unusedVariables false

theorem own : ownKnob Try.prog.godebug = none := by kernel_rfl
theorem laidOut : laidOutB Try.prog = true := by kernel_rfl

set_option maxHeartbeats 8000000 in
set_option maxRecDepth 100000 in
theorem walk (w : World) (u0 : Value) (z0 : List F2) (r0 : RdF w.heap.size w u0 z0) (i0 : ∀ x ∈ z0, fnIn x) (a1 : Int) (i1 : -9223372036854775808 ≤ a1 ∧ a1 ≤ 9223372036854775807) (a2 : Bool) :
    Calls Try.prog 3 #[u0, .int .i64 a1, .bool a2] w fun e w' => e = .returned (.bool true) ∧ Below w.heap.size w w' := by
  by_cases hbig : z0.length + tot z0 ≤ 1048576
  · have hs : szOf (z0.length + tot z0) 1048576 = 1048576 - ((z0.length + tot z0 : Nat) : Int) := by unfold szOf; rw [if_neg (by omega)]
    have hz := fun (W : World) (hb : Below w.heap.size w W) => szFunS_any u0 z0 1048576 W (r0.below' hb) (by omega) (by omega)
    rw [hs] at hz
    have hto := fun (W : World) (hb : Below w.heap.size w W) => toFunS_any u0 z0 W (r0.below' hb) (by omega) (by omega)
    obtain ⟨R, ok, hK, hP1, hP2⟩ := vmNew_kit z0 a1 a2 i0 (by omega)
    have hoff := offF_nonneg z0 z0.length
    have hoff2 : offF z0 z0.length ≤ 4194304 := by rw [offF_all]; omega
    obtain ⟨O, hO⟩ : ∃ O, offF z0 z0.length = O := ⟨_, rfl⟩
    have HM := Lib.hid (fun (base hi : Nat) (v : Value) (W : World) (ho : OwnH base hi W v z0) (hh : hi ≤ W.heap.size) => (by have := markFunS_any v z0 1 W ho hh (by omega) (by omega); rw [hO] at this; exact this : Calls Try.prog 10 #[v, .int .i64 1] W fun e w' => e = .returned (.int .i64 (1 + O)) ∧ OwnH base hi w' v (mFuns 1 z0) ∧ Out base hi W w'))
    rw [hO] at hoff hoff2
    have hk0 := mk_nonneg R
    have hk1 : 0 ≤ mk5 R := by omega
    have hV := fun (b hi : Nat) (f h s c o : Value) (W : World) (M : OwnM b hi W f h s c o R) => markVm_any f h s c o R W M hK
    have hH := fun (b : Nat) (f h s c o : Value) (W : World) (M : MarM b W f h s c o R) => heldVm_any f h s c o R W M hK
    have hE := fun (B B' : Nat) (f h s c o f' h' s' c' o' : Value) (W : World) (hr : RdV B W f h s c o R) (hr' : RdV B' W f' h' s' c' o' R) => eqVm_same f h s c o f' h' s' c' o' R W hr hr'
    have hkk : (ok != ok) = false := by cases ok <;> rfl
    obtain ⟨K, hKK⟩ : ∃ K, mk5 R = K := ⟨_, rfl⟩
    rw [hKK] at hk1 hV hH
    obtain ⟨a0, cap0, rfl⟩ := r0.form
    clear hs r0 i0 hO hK hk0 hKK
    obtain ⟨rf, rz, rh, rb, rn, rs, rc, ro, rk, re⟩ := R
    unfold vmV at hP1 hP2 hV hH hE
    dsimp only at hP1 hP2 hV hH hE
    have HZ := Lib.hid hz
    have HT := Lib.hid hto
    have H1 := Lib.hid hP1
    have H2 := Lib.hid hP2
    have HV := Lib.hid hV
    have HH := Lib.hid hH
    have HE := Lib.hid hE
    clear hz hto hP1 hP2 hV hH hE
    have bb : Below w.heap.size w w := Below.refl _ _
    have zw := bb.size
    go_enter Try.func3, Try.ntmps3
    go_wp2_with fail
    refine (HZ.out _ bb).mono ?_
    rintro e w1 ⟨rfl, b1⟩
    have zw1 := b1.size
    replace bb := bb.trans (b1.mono bb.size)
    clear b1
    go_wp2_with fail
    refine (HT.out _ bb).mono ?_
    rintro e w2 ⟨v1, rfl, po1, b2⟩
    have zw2 := b2.size
    replace bb := bb.trans (b2.mono bb.size)
    clear b2
    obtain ⟨ao1, do1, rfl⟩ := po1.form
    go_wp2_with fail
    refine (H1.out _ _ _ (RdF.of_own po1)).mono ?_
    rintro e w3 ⟨f1, h1, s1, c1, o1, rfl, r1, b3⟩
    have zw3 := b3.size
    replace bb := bb.trans (b3.mono bb.size)
    clear b3 po1
    obtain ⟨f1a, f1c, h1a, h1c, s1a, s1c, c1a, c1c, o1a, o1c, rfl, rfl, rfl, rfl, rfl⟩ := r1.forms
    dsimp only at r1
    go_wp2_with fail
    generalize hx : w3.alloc _ = x1
    obtain ⟨bx, k1⟩ := Bx.alloc hx
    clear hx
    have zx1 := bx.size
    replace r1 := RdV.below r1 bx (Nat.le_refl _)
    replace bb := bb.trans (bx.mono bb.size)
    clear bx
    go_wp2_with fail
    refine (HT.out _ bb).mono ?_
    rintro e w4 ⟨v3, rfl, po3, b4⟩
    have o3 := po3.to_h
    clear po3
    have zw4 := b4.size
    have uk1 := k1.1
    replace k1 := k1.below b4 k1.1
    replace r1 := RdV.below r1 b4 (by omega)
    replace bb := bb.trans (b4.mono bb.size)
    clear b4
    obtain ⟨ao3, do3, rfl⟩ := o3.form
    go_wp2_with fail
    refine (H2.out _ _ _ o3.rd).mono ?_
    rintro e w5 ⟨f2, h2, s2, c2, o2, rfl, M, b5⟩
    have zw5 := b5.size
    replace k1 := k1.below b5 k1.1
    replace r1 := RdV.below r1 b5 (by omega)
    replace o3 := o3.below b5 (by omega)
    replace bb := bb.trans (b5.mono bb.size)
    clear b5
    obtain ⟨f2a, f2c, h2a, h2c, s2a, s2c, c2a, c2c, o2a, o2c, rfl, rfl, rfl, rfl, rfl⟩ := M.rd.forms
    dsimp only at M
    have ck1 := k1.2.1
    have yk1 := k1.1
    go_wp2_with fail
    clear ck1 yk1
    generalize hx : w5.alloc _ = x2
    obtain ⟨bx, k2⟩ := Bx.alloc hx
    clear hx
    have zx2 := bx.size
    replace k1 := k1.below bx k1.1
    replace r1 := RdV.below r1 bx (by omega)
    replace o3 := o3.below bx (by omega)
    replace M := M.below bx
    replace bb := bb.trans (bx.mono bb.size)
    clear bx
    refine (HE.out _ _ _ _ _ _ _ _ _ _ _ _ _ M.rd r1).mono ?_
    rintro e w6 ⟨rfl, b6⟩
    have zw6 := b6.size
    replace k1 := k1.below b6 k1.1
    replace k2 := k2.below b6 k2.1
    replace r1 := RdV.below r1 b6 (by omega)
    replace o3 := o3.below b6 (by omega)
    replace M := M.below b6
    replace bb := bb.trans (b6.mono bb.size)
    clear b6
    go_wp2_with fail
    refine (HT.out _ bb).mono ?_
    rintro e w7 ⟨v5, rfl, po5, b7⟩
    have zw7 := b7.size
    replace k1 := k1.below b7 k1.1
    replace k2 := k2.below b7 k2.1
    replace r1 := RdV.below r1 b7 (by omega)
    replace o3 := o3.below b7 (by omega)
    replace M := M.below b7
    replace bb := bb.trans (b7.mono bb.size)
    clear b7
    obtain ⟨ao5, do5, rfl⟩ := po5.form
    go_wp2_with fail
    refine (eqFunS_same _ _ _ _ o3.rd (RdF.of_own po5)).mono ?_
    rintro e w8 ⟨rfl, b8⟩
    clear po5
    have zw8 := b8.size
    replace k1 := k1.below b8 k1.1
    replace k2 := k2.below b8 k2.1
    replace r1 := RdV.below r1 b8 (by omega)
    replace o3 := o3.below b8 (by omega)
    replace M := M.below b8
    replace bb := bb.trans (b8.mono bb.size)
    clear b8
    go_wp2_with fail
    refine (HM.out _ _ _ _ o3 (by omega)).mono ?_
    rintro e w9 ⟨rfl, o9, g9⟩
    have zw9 := g9.size
    have uk2 := k2.1
    replace k1 := k1.out g9 (by omega)
    replace k2 := k2.out g9 (by omega)
    replace r1 := RdV.below r1 (g9.below (B := w3.heap.size) (by omega) (by omega)) (Nat.le_refl _)
    replace M := M.out g9 (Nat.le_refl _)
    replace bb := bb.trans (g9.below (B := w.heap.size) (by omega) (by omega))
    clear g9 o3 o9
    have ck1 := k1.2.1
    have yk1 := k1.1
    have ck2 := k2.2.1
    have yk2 := k2.1
    go_wp2_with fail
    clear ck1 yk1 ck2 yk2
    refine (HE.out _ _ _ _ _ _ _ _ _ _ _ _ _ M.rd r1).mono ?_
    rintro e w10 ⟨rfl, b10⟩
    have zw10 := b10.size
    replace k1 := k1.below b10 k1.1
    replace k2 := k2.below b10 k2.1
    replace r1 := RdV.below r1 b10 (by omega)
    replace M := M.below b10
    replace bb := bb.trans (b10.mono bb.size)
    clear b10
    have ck2 := k2.2.1
    have yk2 := k2.1
    go_wp2_with fail
    clear ck2 yk2
    refine (HV.out _ _ _ _ _ _ _ _ M).mono ?_
    rintro e w11 ⟨rfl, N, g11⟩
    have zw11 := g11.size
    replace k1 := k1.out g11 (by omega)
    replace k2 := k2.out g11 (by omega)
    replace r1 := RdV.below r1 (g11.below (B := w3.heap.size) (by omega) (by omega)) (Nat.le_refl _)
    replace bb := bb.trans (g11.below (B := w.heap.size) (by omega) (by omega))
    clear g11 M
    have ck2 := k2.2.1
    have yk2 := k2.1
    go_wp2_with fail
    clear ck2 yk2
    refine (HH.out _ _ _ _ _ _ _ N).mono ?_
    rintro e w12 ⟨rfl, b12⟩
    have zw12 := b12.size
    replace k1 := k1.below b12 k1.1
    replace k2 := k2.below b12 k2.1
    replace r1 := RdV.below r1 b12 (by omega)
    replace N := N.below b12
    replace bb := bb.trans (b12.mono bb.size)
    clear b12
    go_wp2_with fail
    refine (HT.out _ bb).mono ?_
    rintro e w13 ⟨v7, rfl, po7, b13⟩
    have zw13 := b13.size
    replace k1 := k1.below b13 k1.1
    replace k2 := k2.below b13 k2.1
    replace r1 := RdV.below r1 b13 (by omega)
    replace N := N.below b13
    replace bb := bb.trans (b13.mono bb.size)
    clear b13
    obtain ⟨ao7, do7, rfl⟩ := po7.form
    go_wp2_with fail
    refine (H2.out _ _ _ (RdF.of_own po7)).mono ?_
    rintro e w14 ⟨f3, h3, s3, c3, o3, rfl, M, b14⟩
    clear po7
    have zw14 := b14.size
    replace k1 := k1.below b14 k1.1
    replace k2 := k2.below b14 k2.1
    replace r1 := RdV.below r1 b14 (by omega)
    replace N := N.below b14
    replace bb := bb.trans (b14.mono bb.size)
    clear b14
    obtain ⟨f3a, f3c, h3a, h3c, s3a, s3c, c3a, c3c, o3a, o3c, rfl, rfl, rfl, rfl, rfl⟩ := M.rd.forms
    dsimp only at M
    have ck1 := k1.2.1
    have yk1 := k1.1
    go_wp2_with fail
    clear ck1 yk1
    generalize hx : w14.alloc _ = x3
    obtain ⟨bx, k3⟩ := Bx.alloc hx
    clear hx
    have zx3 := bx.size
    replace k1 := k1.below bx k1.1
    replace k2 := k2.below bx k2.1
    replace r1 := RdV.below r1 bx (by omega)
    replace M := M.below bx
    replace N := N.below bx
    replace bb := bb.trans (bx.mono bb.size)
    clear bx
    refine (HE.out _ _ _ _ _ _ _ _ _ _ _ _ _ M.rd r1).mono ?_
    rintro e w15 ⟨rfl, b15⟩
    have zw15 := b15.size
    replace k2 := k2.below b15 k2.1
    replace N := N.below b15
    replace bb := bb.trans (b15.mono bb.size)
    clear b15 M r1 k1 k3
    have ck2 := k2.2.1
    have yk2 := k2.1
    go_wp2_with fail
    clear ck2 yk2
    refine (HH.out _ _ _ _ _ _ _ N).mono ?_
    rintro e w16 ⟨rfl, b16⟩
    replace bb := bb.trans (b16.mono bb.size)
    clear b16 N k2
    go_wp2
    go_ret
    exact ⟨rfl, bb⟩
  · have hs : szOf (z0.length + tot z0) 1048576 = -1 := by unfold szOf; rw [if_pos (by omega)]
    have hz := fun (W : World) (hb : Below w.heap.size w W) => szFunS_any u0 z0 1048576 W (r0.below' hb) (by omega) (by omega)
    rw [hs] at hz
    have HZ := Lib.hid hz
    obtain ⟨a0, cap0, rfl⟩ := r0.form
    clear hs hz r0
    go_enter Try.func3, Try.ntmps3
    go_wp2_with fail
    refine (HZ.out _ (Below.refl _ _)).mono ?_
    rintro e w1 ⟨rfl, b1⟩
    go_wp2
    go_ret
    exact ⟨rfl, b1⟩

set_option maxRecDepth 100000 in
theorem lifted (os : Os) (started : os.Started) (H : Type) (enc : TypeId × Value → H) :
    ReturnsInHanded {} Try.checked os 3 .any (Rows.fnExactVmNewSpec.pre6 enc Try.prog Try.f3 Rows.fnExactVmNewRow.domain false) (Rows.fnExactVmNewSpec.post enc Try.prog Try.f3 false true false false) := by
  refine returnsInHanded_of_change (C := Try.checked) own started (by kernel_rfl) Try.func3
    (ChangeSpec.witness6 (enc := enc) (C := Try.checked) false ⟨#[], #[.slice none 0 0, .int .i64 0, .bool false], []⟩ 8 (by kernel_rfl) (by kernel_rfl) (by kernel_rfl) (by kernel_rfl)) ?_
  intro W base args ds gs before hval0 hW hcnd _
  have hval : ∀ (j : Nat) t v, Try.f3.params[j]? = some t → args[j]? = some v → Value.okWide Try.prog W .any base t v := hval0
  have hW' := hW
  obtain ⟨p, q, hA0, hV, rfl, hfz, hnd⟩ := hW
  have hA : DataW.TrodAll enc Try.prog W 0 (fun _ => true) true Try.f3.params.toList args.toList ds p := hA0
  rw [Try.params3] at hA hval
  obtain ⟨v0, vs0, d0, ds0, p0, q0, hargs, rfl, rfl, h0, t0⟩ := trodAll_cons hA
  obtain ⟨v1, vs1, d1, ds1, p1, q1, rfl, rfl, rfl, h1, t1⟩ := trodAll_cons t0
  obtain ⟨v2, vs2, d2, ds2, p2, q2, rfl, rfl, rfl, h2, t2⟩ := trodAll_cons t1
  obtain ⟨rfl, rfl, rfl⟩ := trodAll_nil t2
  obtain rfl : args = #[v0, v1, v2] := by cases args; simp_all
  obtain ⟨rfl, rfl⟩ := trodVars_none hV
  have k0 := h0
  have lt0 : ∀ x ∈ p0, x.block < W.heap.size := by obtain ⟨m, hm⟩ := k0; exact DataW.trod_lt m _ _ _ hm
  obtain ⟨s0, l0, c0, rfl⟩ := okWide_slice Try.underlying22 (hval 0 22 v0 rfl rfl)
  obtain ⟨g0, hf0⟩ := h0
  obtain ⟨z0, r0, i0⟩ := funs_rd (by simpa [Value.cells] using hf0)
  have k1 := h1
  have lt1 : ∀ x ∈ p1, x.block < W.heap.size := by obtain ⟨m, hm⟩ := k1; exact DataW.trod_lt m _ _ _ hm
  obtain ⟨a1, rfl, rfl, rfl, w1⟩ := open_int Try.underlying3 (hval 1 3 v1 rfl rfl) h1
  have k2 := h2
  have lt2 : ∀ x ∈ p2, x.block < W.heap.size := by obtain ⟨m, hm⟩ := k2; exact DataW.trod_lt m _ _ _ hm
  obtain ⟨a2, rfl, rfl, rfl⟩ := open_bool Try.underlying4 (hval 2 4 v2 rfl rfl) h2
  clear hA0 hval0
  refine (walk W _ z0 r0 i0 a1 (bounds_i64 w1) a2).mono fun e W' ⟨he, bel⟩ => ?_
  subst he
  exact ⟨_, rfl, _, _, _, [], _, [], hW', trodAll_mk1 (shut_bool Try.underlying4 _), (trodAll_cons_mk (Below.trod laidOut (by kernel_rfl) (of_decide_eq_true (by kernel_rfl)) k0 bel lt0) (trodAll_cons_mk (Below.trod laidOut (by kernel_rfl) (of_decide_eq_true (by kernel_rfl)) k1 bel lt1) (trodAll_cons_mk (Below.trod laidOut (by kernel_rfl) (of_decide_eq_true (by kernel_rfl)) k2 bel lt2) trodAll_mk0))), rfl, bel.frame _, fun h => by cases h⟩

theorem over : Rows.fnExactVmNewRow.holds Try.pinned (OpenSpec.ofChange Rows.fnExactVmNewSpec) :=
  OpenClaim.holds_of_wide 3 Try.f3 rfl rfl rfl rfl rfl rfl rfl ⟨rfl, rfl, rfl, rfl, rfl⟩ rfl rfl rfl rfl rfl (by kernel_rfl) Try.func3 (by kernel_rfl)
    (of_decide_eq_true (by kernel_rfl)) (by unfold Func.isWrapper; first | (rw [if_pos (by decide +kernel)]; kernel_rfl) | (rw [if_neg (by decide +kernel)]; exact ⟨rfl, rfl⟩))
    (fun os started H enc _ => lifted os started H enc)

theorem proved : Rows.FnExactVmNewSaid := over
end Go.Proofs.Ytlkdlcpfcacigaa.fnExactVmNew
