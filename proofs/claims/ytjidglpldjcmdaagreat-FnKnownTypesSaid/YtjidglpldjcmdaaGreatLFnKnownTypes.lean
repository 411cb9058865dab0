/- The law FnKnownTypes returns true for every input that can be read as data, with no condition, and its arguments read as they did. -/
import Derived.Test.YtjidglpldjcmdaaGreatRows
import Derived.Test.YtjidglpldjcmdaaGreatOpen
import Derived.Test.YtjidglpldjcmdaaGreatBig
import Derived.Test.YtjidglpldjcmdaaGreatOpen
import Derived.Test.YtjidglpldjcmdaaGreatEvKr
namespace Go.Proofs.YtjidglpldjcmdaaGreat.fnKnownTypes
open Go.ChangeShapes Go.WideShapes Go.ChangeAt Go.RowKit
open Go.ChangeMaps (open_string shut_string)
set_option linter.unusedVariables false

theorem own : ownKnob Tryz.prog.godebug = none := by kernel_rfl
theorem laidOut : laidOutB Tryz.prog = true := by kernel_rfl

set_option maxHeartbeats 8000000 in
set_option maxRecDepth 100000 in
theorem walk (w : World) (u0 : Value) (z0 : List Int) (r0 : Rd w.heap.size .u8 w u0 z0) (i0 : bytesIn' z0) :
    Calls Tryz.prog 3 #[u0] w fun e w' => e = .returned (.bool true) ∧ Below w.heap.size w w' := by
  by_cases hbig : 1048576 < z0.length
  · have HB := Lib.hid (big_any u0 z0 w r0)
    rw [decide_eq_true hbig] at HB
    obtain ⟨a0, c0, rfl⟩ := r0.form
    clear r0 i0
    go_enter Tryz.func3, Tryz.ntmps3
    go_wp2_with fail
    refine HB.out.mono ?_
    rintro e w1 ⟨rfl, rfl⟩
    go_wp2
    go_ret
    exact ⟨rfl, Below.refl _ _⟩
  · have HB := Lib.hid (big_any u0 z0 w r0)
    rw [decide_eq_false hbig] at HB
    have HR := Lib.hid (fun (W : World) (hb : Below w.heap.size w W) => r0.below' hb)
    have H1 := Lib.hid (fun (W : World) (hb : Below w.heap.size w W) => at_any u0 z0 W (HR.out _ hb) i0 (by omega) 0 (by omega))
    obtain ⟨a0, c0, rfl⟩ := r0.form
    clear r0 i0
    go_enter Tryz.func3, Tryz.ntmps3
    obtain ⟨T, hT⟩ : ∃ T, T = Go.Ev.rest := ⟨_, rfl⟩
    show Code.wp _ (Code.seq _ (Code.seq _ (Code.seq _ (Code.seq _ (Code.seq _ Go.Ev.rest))))) _ _ _
    rw [← hT]
    go_wp2_with fail
    refine HB.out.mono ?_
    rintro e w1 ⟨rfl, rfl⟩
    go_wp2_with fail
    generalize hx : World.alloc (World.alloc w _) _ = W2
    have hx' : (w.alloc (.cells Go.Ev.textsA 9)).alloc (.cells Go.Ev.wantsA 9) = W2 := hx
    clear hx
    have bb : Below w.heap.size w W2 := by
      rw [← hx']
      exact ((Below.refl _ w).alloc (Nat.le_refl _) _).alloc (by simp) _
    refine (H1.out _ bb).mono ?_
    rintro e w1 ⟨x, rfl, hlt, rfl⟩
    go_wp2_with fail
    subst hT
    rw [← hx']
    refine Go.Ev.kn_rest (x % 9) (Nat.mod_lt _ (by omega)) w _ rfl rfl rfl ⟨by simp, rfl⟩ ?_
    intro a' w' h2 hb hd
    exact ⟨hd, .bool true, by rw [results_tmp rfl, h2], rfl, hb⟩

set_option maxRecDepth 100000 in
theorem lifted (os : Os) (started : os.Started) (H : Type) (enc : TypeId × Value → H) :
    ReturnsInHanded {} Tryz.checked os 3 .any (Rows.fnKnownTypesSpec.pre6 enc Tryz.prog Tryz.f3 Rows.fnKnownTypesRow.domain false) (Rows.fnKnownTypesSpec.post enc Tryz.prog Tryz.f3 false true false false) := by
  refine returnsInHanded_of_change (C := Tryz.checked) own started (by kernel_rfl) Tryz.func3
    (ChangeSpec.witness6 (enc := enc) (C := Tryz.checked) false ⟨#[], #[.slice none 0 0], []⟩ 8 (by kernel_rfl) (by kernel_rfl) (by kernel_rfl) (by kernel_rfl)) ?_
  intro W base args ds gs before hval0 hW hcnd _
  have hval : ∀ (j : Nat) t v, Tryz.f3.params[j]? = some t → args[j]? = some v → Value.okWide Tryz.prog W .any base t v := hval0
  have hW' := hW
  obtain ⟨p, q, hA0, hV, rfl, hfz, hnd⟩ := hW
  have hA : DataW.TrodAll enc Tryz.prog W 0 (fun _ => true) true Tryz.f3.params.toList args.toList ds p := hA0
  rw [Tryz.params3] at hA hval
  obtain ⟨v0, vs0, d0, ds0, p0, q0, hargs, rfl, rfl, h0, t0⟩ := trodAll_cons hA
  obtain ⟨rfl, rfl, rfl⟩ := trodAll_nil t0
  obtain rfl : args = #[v0] := by cases args; simp_all
  obtain ⟨rfl, rfl⟩ := trodVars_none hV
  have k0 := h0
  have lt0 : ∀ x ∈ p0, x.block < W.heap.size := by obtain ⟨m, hm⟩ := k0; exact DataW.trod_lt m _ _ _ hm
  obtain ⟨s0, l0, c0, rfl⟩ := okWide_slice Tryz.underlying22 (hval 0 22 v0 rfl rfl)
  obtain ⟨g0, hf0⟩ := h0
  obtain ⟨z0, r0, i0⟩ := bytes_rd Tryz.underlying22 Tryz.underlying5 (by kernel_rfl) (by simpa [Value.cells] using hf0)
  clear hA0 hval0
  refine (walk W _ z0 r0 i0).mono fun e W' ⟨he, bel⟩ => ?_
  subst he
  exact ⟨_, rfl, _, _, _, [], _, [], hW', trodAll_mk1 (shut_bool Tryz.underlying4 _), (trodAll_cons_mk (Below.trod laidOut (by kernel_rfl) (of_decide_eq_true (by kernel_rfl)) k0 bel lt0) trodAll_mk0), rfl, bel.frame _, fun h => by cases h⟩

theorem over : Rows.fnKnownTypesRow.holds Tryz.pinned (OpenSpec.ofChange Rows.fnKnownTypesSpec) :=
  OpenClaim.holds_of_wide 3 Tryz.f3 rfl rfl rfl rfl rfl rfl rfl ⟨rfl, rfl, rfl, rfl, rfl⟩ rfl rfl rfl rfl rfl (by kernel_rfl) Tryz.func3 (by kernel_rfl)
    (of_decide_eq_true (by kernel_rfl)) (by unfold Func.isWrapper; first | (rw [if_pos (by decide +kernel)]; kernel_rfl) | (rw [if_neg (by decide +kernel)]; exact ⟨rfl, rfl⟩))
    (fun os started H enc _ => lifted os started H enc)

theorem proved : Rows.FnKnownTypesSaid := over
end Go.Proofs.YtjidglpldjcmdaaGreat.fnKnownTypes
