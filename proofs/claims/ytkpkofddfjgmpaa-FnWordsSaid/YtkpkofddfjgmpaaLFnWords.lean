/- The law FnWords returns true for every input that can be read as data, with no condition, and its arguments read as they did. -/
import Derived.Test.YtkpkofddfjgmpaaRows
import Derived.Test.YtkpkofddfjgmpaaOpen
import Derived.Test.YtkpkofddfjgmpaaDrawW
import Derived.Test.YtkpkofddfjgmpaaScalar
namespace Go.Proofs.Ytkpkofddfjgmpaa.fnWords
open Go.ChangeShapes Go.WideShapes Go.ChangeAt Go.RowKit
open Go.ChangeMaps (open_string shut_string)
set_option linter.unusedVariables false

theorem own : ownKnob Try.prog.godebug = none := by kernel_rfl
theorem laidOut : laidOutB Try.prog = true := by kernel_rfl

set_option maxHeartbeats 800000 in
set_option maxRecDepth 100000 in
theorem walk (w : World) (u0 : Value) (z0 : List Int) (r0 : Rd w.heap.size .u8 w u0 z0) (i0 : bytesIn' z0) :
    Calls Try.prog 3 #[u0] w fun e w' => e = .returned (.bool true) ∧ Below w.heap.size w w' := by
  by_cases hbig : 1048576 < z0.length
  · have HB := Lib.hid (big_any u0 z0 w r0)
    rw [decide_eq_true hbig] at HB
    obtain ⟨a0, c0, rfl⟩ := r0.form
    clear r0 i0
    go_enter Try.func3, Try.ntmps3
    go_wp2_with fail
    refine HB.out.mono ?_
    rintro e w1 ⟨rfl, rfl⟩
    go_wp2
    go_ret
    exact ⟨rfl, Below.refl _ _⟩
  · have HB := Lib.hid (big_any u0 z0 w r0)
    rw [decide_eq_false hbig] at HB
    have HR := Lib.hid (fun (W : World) (hb : Below w.heap.size w W) => r0.below' hb)
    have H1 := Lib.hid (fun (W : World) (hb : Below w.heap.size w W) => DrawIntWord_any u0 z0 W (HR.out _ hb) i0 (by omega))
    have H2 := Lib.hid (fun (W : World) (hb : Below w.heap.size w W) => DrawRefWord_any u0 z0 W (HR.out _ hb) i0 (by omega))
    have H3 := Lib.hid (fun (W : World) (hb : Below w.heap.size w W) => DrawWordInt_any u0 z0 W (HR.out _ hb) i0 (by omega))
    have H4 := Lib.hid (fun (W : World) (hb : Below w.heap.size w W) => DrawWordRef_any u0 z0 W (HR.out _ hb) i0 (by omega))
    have H5 := Lib.hid (fun (W : World) (hb : Below w.heap.size w W) => DrawIsRef_any u0 z0 W (HR.out _ hb) i0 (by omega))
    obtain ⟨a0, c0, rfl⟩ := r0.form
    clear r0 i0
    go_enter Try.func3, Try.ntmps3
    go_wp2_with fail
    refine HB.out.mono ?_
    rintro e w1 ⟨rfl, rfl⟩
    go_wp2_with fail
    refine (H1.out _ (Below.refl _ _)).mono ?_
    rintro e w2 ⟨⟨n, rfl, hn⟩, b2⟩
    have B2 := Lib.hid b2
    clear b2
    go_wp2_with fail
    refine (H2.out _ B2.out).mono ?_
    rintro e w3 ⟨⟨p, rfl, hp⟩, b3⟩
    have B3 := Lib.hid (B2.out.trans (b3.mono B2.out.size))
    clear b3
    have HI := Lib.hid (fun (W : World) => iIntWord_any n W)
    have HIs := Lib.hid (fun (W : World) => sIntWord_any n W)
    have HP := Lib.hid (fun (W : World) => iRefWord_any p W)
    have HPs := Lib.hid (fun (W : World) => sRefWord_any p W)
    have HW := Lib.hid (fun (W : World) => iWordOk_any n W)
    have hA : (intW n % 2 == 0) = false := by
      unfold intW
      split
      · first | (simp; done) | (simp; omega)
      · rfl
    have hB : (refW p % 2 == 0) = true := by
      unfold refW
      split
      · simp
      · rfl
    have hA2 : wordB n = true → (intW n / 2 == n) = true := by
      intro h
      unfold intW
      rw [if_pos h]
      first | (simp; done) | (simp; omega)
    have hB2 : (decide (p < 0) = true) ∨ (decide (p < 0) = false ∧ decide (6000 < p) = true) ∨ (decide (p < 0) = false ∧ decide (6000 < p) = false ∧ (refW p / 2 == p) = true) := by
      by_cases h1 : p < 0
      · left; simpa using h1
      · by_cases h2 : 6000 < p
        · right; left; exact ⟨by simpa using h1, by simpa using h2⟩
        · right; right
          refine ⟨by simpa using h1, by simpa using h2, ?_⟩
          unfold refW
          rw [if_pos (inB_true.2 ⟨by omega, by omega⟩)]
          simp
    obtain ⟨A, hAe⟩ : ∃ A, intW n = A := ⟨_, rfl⟩
    obtain ⟨R, hRe⟩ : ∃ R, refW p = R := ⟨_, rfl⟩
    rw [hAe] at HI HIs hA hA2
    rw [hRe] at HP HPs hB hB2
    cases hwb : wordB n
    all_goals
      rw [hwb] at HW
      have hA3 : (false = true) ∨ wordB n = false ∨ (A / 2 == n) = true := by
        cases h : wordB n
        · exact .inr (.inl rfl)
        · exact .inr (.inr (hA2 h))
      rw [hwb] at hA3
      simp only [Bool.false_eq_true, false_or, Bool.true_eq_false, true_or] at hA3
      clear hAe hRe hA2 hwb hn hp
      rcases hB2 with h1 | ⟨h1, h2⟩ | ⟨h1, h2, h3⟩
      all_goals
        go_wp2_with (first | (go_at_call 14; refine (HI.out _).mono ?_; rintro e w' ⟨rfl, rfl⟩) | (go_at_call 15; refine (HP.out _).mono ?_; rintro e w' ⟨rfl, rfl⟩))
        refine (H3.out _ B3.out).mono ?_
        rintro e w4 ⟨⟨x, rfl, hx⟩, b4⟩
        have B4 := Lib.hid (B3.out.trans (b4.mono B3.out.size))
        clear b4 hx
        go_wp2_with fail
        refine (H4.out _ B4.out).mono ?_
        rintro e w5 ⟨⟨y, rfl, hy⟩, b5⟩
        have B5 := Lib.hid (B4.out.trans (b5.mono B4.out.size))
        clear b5 hy
        go_wp2_with fail
        refine (H5.out _ B5.out).mono ?_
        rintro e w6 ⟨⟨z, rfl, hz⟩, b6⟩
        have B6 := Lib.hid (B5.out.trans (b6.mono B5.out.size))
        clear b6 hz
        go_wp2_with (first | (go_at_call 19; refine (HIs.out _).mono ?_; rintro e w' ⟨rfl, rfl⟩) | (go_at_call 20; refine (HPs.out _).mono ?_; rintro e w' ⟨rfl, rfl⟩) | (go_at_call 21; refine (iWordInt_any _ _).mono ?_; rintro e w' ⟨rfl, rfl⟩) | (go_at_call 22; refine (sWordInt_any _ _).mono ?_; rintro e w' ⟨rfl, rfl⟩) | (go_at_call 23; refine (iWordRef_any _ _).mono ?_; rintro e w' ⟨rfl, rfl⟩) | (go_at_call 24; refine (sWordRef_any _ _).mono ?_; rintro e w' ⟨rfl, rfl⟩) | (go_at_call 25; refine (iIsRef_any _ _).mono ?_; rintro e w' ⟨rfl, rfl⟩) | (go_at_call 26; refine (sIsRef_any _ _).mono ?_; rintro e w' ⟨rfl, rfl⟩) | (go_at_call 27; refine (HW.out _).mono ?_; rintro e w' ⟨rfl, rfl⟩))
        go_ret
        exact ⟨rfl, B6.out⟩

set_option maxRecDepth 100000 in
theorem lifted (os : Os) (started : os.Started) (H : Type) (enc : TypeId × Value → H) :
    ReturnsInHanded {} Try.checked os 3 .any (Rows.fnWordsSpec.pre6 enc Try.prog Try.f3 Rows.fnWordsRow.domain false) (Rows.fnWordsSpec.post enc Try.prog Try.f3 false true false false) := by
  refine returnsInHanded_of_change (C := Try.checked) own started (by kernel_rfl) Try.func3
    (ChangeSpec.witness6 (enc := enc) (C := Try.checked) false ⟨#[], #[.slice none 0 0], []⟩ 8 (by kernel_rfl) (by kernel_rfl) (by kernel_rfl) (by kernel_rfl)) ?_
  intro W base args ds gs before hval0 hW hcnd _
  have hval : ∀ (j : Nat) t v, Try.f3.params[j]? = some t → args[j]? = some v → Value.okWide Try.prog W .any base t v := hval0
  have hW' := hW
  obtain ⟨p, q, hA0, hV, rfl, hfz, hnd⟩ := hW
  have hA : DataW.TrodAll enc Try.prog W 0 (fun _ => true) true Try.f3.params.toList args.toList ds p := hA0
  rw [Try.params3] at hA hval
  obtain ⟨v0, vs0, d0, ds0, p0, q0, hargs, rfl, rfl, h0, t0⟩ := trodAll_cons hA
  obtain ⟨rfl, rfl, rfl⟩ := trodAll_nil t0
  obtain rfl : args = #[v0] := by cases args; simp_all
  obtain ⟨rfl, rfl⟩ := trodVars_none hV
  have k0 := h0
  have lt0 : ∀ x ∈ p0, x.block < W.heap.size := by obtain ⟨m, hm⟩ := k0; exact DataW.trod_lt m _ _ _ hm
  obtain ⟨s0, l0, c0, rfl⟩ := okWide_slice Try.underlying22 (hval 0 22 v0 rfl rfl)
  obtain ⟨g0, hf0⟩ := h0
  obtain ⟨z0, r0, i0⟩ := bytes_rd Try.underlying22 Try.underlying5 (by kernel_rfl) (by simpa [Value.cells] using hf0)
  clear hA0 hval0
  refine (walk W _ z0 r0 i0).mono fun e W' ⟨he, bel⟩ => ?_
  subst he
  exact ⟨_, rfl, _, _, _, [], _, [], hW', trodAll_mk1 (shut_bool Try.underlying4 _), (trodAll_cons_mk (Below.trod laidOut (by kernel_rfl) (of_decide_eq_true (by kernel_rfl)) k0 bel lt0) trodAll_mk0), rfl, bel.frame _, fun h => by cases h⟩

theorem over : Rows.fnWordsRow.holds Try.pinned (OpenSpec.ofChange Rows.fnWordsSpec) :=
  OpenClaim.holds_of_wide 3 Try.f3 rfl rfl rfl rfl rfl rfl rfl ⟨rfl, rfl, rfl, rfl, rfl⟩ rfl rfl rfl rfl rfl (by kernel_rfl) Try.func3 (by kernel_rfl)
    (of_decide_eq_true (by kernel_rfl)) (by unfold Func.isWrapper; first | (rw [if_pos (by decide +kernel)]; kernel_rfl) | (rw [if_neg (by decide +kernel)]; exact ⟨rfl, rfl⟩))
    (fun os started H enc _ => lifted os started H enc)

theorem proved : Rows.FnWordsSaid := over
end Go.Proofs.Ytkpkofddfjgmpaa.fnWords
