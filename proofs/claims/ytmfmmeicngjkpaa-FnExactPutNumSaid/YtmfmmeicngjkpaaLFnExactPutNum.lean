/- The law FnExactPutNum returns true for every input that can be read as data, with no condition, and its arguments read as they did. (The frame of this text was written by the kit's proof-skeleton.mjs.) -/
import Derived.Test.YtmfmmeicngjkpaaRows
import Derived.Test.YtmfmmeicngjkpaaPutNum
import Derived.Test.YtmfmmeicngjkpaaEqB
import Derived.Test.YtmfmmeicngjkpaaMarkB
import Derived.WalkKit
import Derived.ProofKit
import Derived.OpenShut
import Derived.ShutString
namespace Go.Proofs.Ytmfmmeicngjkpaa.fnExactPutNum
open Go.ChangeShapes Go.WideShapes Go.ChangeAt Go.RowKit
open Go.ChangeMaps (open_string shut_string)
set_option linter.unusedVariables false      -- a walk need not use every 'w<i>' (that an integer argument fits its kind)

theorem own : ownKnob Try.prog.godebug = none := by kernel_rfl

theorem walk (a0 : Int) (w0 : (Lit.int .i64 a0).wf = true) (w : World) :
    Calls Try.prog 8 #[.int .i64 a0] w fun e w' => e = .returned (.bool true) ∧ Below w.heap.size w w' := by
  have hlen : (putNum a0).length ≤ 4294967296 := putNum_len a0
  go_enter Try.func8, Try.ntmps8
  go_wp2_with fail
  refine (sPutNum_any _ _).mono ?_
  rintro e w1 ⟨v1, rfl, o1, b1⟩
  go_wp2_with fail
  refine (iPutNum_any _ _).mono ?_
  rintro e w2 ⟨v2, rfl, o2, b2⟩
  have l2 : ∀ k, v2.ownBlock = some k → w1.heap.size ≤ k := fun k hk => (o2.lt k hk).1
  have r1 : Rd w1.heap.size .u8 w2 v1 (putNum a0) := (Rd.of_own o1).below b2 (Nat.le_refl _)
  have z1 := b1.size
  have z2 := b2.size
  have b12 := b1.trans (b2.mono z1)
  go_wp2_with fail
  refine (eqByteS_any _ _ _ _ _ (Rd.of_own o2) r1).mono ?_
  rintro e w3 ⟨rfl, s3⟩
  rw [decide_eq_true rfl]
  have b3 := s3.below w2.heap.size
  have z3 := b3.size
  have o3 := own_below o2 b3 (own_lt o2)
  have r3 := r1.below b3 z2
  have b13 := b12.trans (b3.mono (by omega))
  clear o1 o2 r1 s3 b12
  go_wp2_with fail
  refine (markByteS_any _ _ _ _ o3 (by omega) (by omega)).mono ?_
  rintro e w4 ⟨rfl, o4, g4⟩
  have b4 : Below w1.heap.size w3 w4 := Below.of_grown g4 (by omega) l2
  have z4 := b4.size
  have r4 := r3.below b4 (Nat.le_refl _)
  have b14 := b13.trans (b4.mono (by omega))
  clear o3 r3 g4 b13
  go_wp2_with fail
  refine (heldByteS_any _ _ _ (Rd.of_own o4) (by omega) (by omega)).mono ?_
  rintro e w5 ⟨rfl, s5⟩
  have b5 := s5.below w4.heap.size
  have z5 := b5.size
  have o5 := own_below o4 b5 (own_lt o4)
  have r5 := r4.below b5 (by omega)
  have b15 := b14.trans (b5.mono (by omega))
  clear o4 r4 s5 b14
  go_wp2_with fail
  refine (iPutNum_any _ _).mono ?_
  rintro e w6 ⟨v6, rfl, o6, b6⟩
  have z6 := b6.size
  have r6 := r5.below b6 (by omega)
  have q6 := own_below o5 b6 (own_lt o5)
  have b16 := b15.trans (b6.mono (by omega))
  clear o5 r5 b15
  go_wp2_with fail
  refine (eqByteS_any _ _ _ _ _ (Rd.of_own o6) r6).mono ?_
  rintro e w7 ⟨rfl, s7⟩
  rw [decide_eq_true rfl]
  have b7 := s7.below w6.heap.size
  have z7 := b7.size
  have q7 := own_below q6 b7 (own_lt q6)
  have b17 := b16.trans (b7.mono (by omega))
  clear o6 q6 r6 s7 b16
  go_wp2_with fail
  refine (heldByteS_any _ _ _ (Rd.of_own q7) (by omega) (by omega)).mono ?_
  rintro e w8 ⟨rfl, s8⟩
  have b18 := b17.trans (s8.below w.heap.size)
  clear q7 s8 b17
  go_wp2
  go_ret
  exact ⟨rfl, b18⟩

set_option maxRecDepth 100000 in
theorem lifted (os : Os) (started : os.Started) (H : Type) (enc : TypeId × Value → H) :
    ReturnsInHanded {} Try.checked os 8 .any (Rows.fnExactPutNumSpec.pre6 enc Try.prog Try.f8 Rows.fnExactPutNumRow.domain false) (Rows.fnExactPutNumSpec.post enc Try.prog Try.f8 false true false false) := by
  refine returnsInHanded_of_change (C := Try.checked) own started (by kernel_rfl) Try.func8
    (ChangeSpec.witness6 (enc := enc) (C := Try.checked) false ⟨#[], #[.int .i64 0], []⟩ 8 (by kernel_rfl) (by kernel_rfl) (by kernel_rfl) (by kernel_rfl)) ?_
  intro W base args ds gs before hval0 hW hcnd _
  have hval : ∀ (j : Nat) t v, Try.f8.params[j]? = some t → args[j]? = some v → Value.okWide Try.prog W .any base t v := hval0
  have hW' := hW
  obtain ⟨p, q, hA0, hV, rfl, hfz, hnd⟩ := hW
  have hA : DataW.TrodAll enc Try.prog W 0 (fun _ => true) true Try.f8.params.toList args.toList ds p := hA0
  rw [Try.params8] at hA hval
  obtain ⟨v0, vs0, d0, ds0, p0, q0, hargs, rfl, rfl, h0, r0⟩ := trodAll_cons hA
  obtain ⟨rfl, rfl, rfl⟩ := trodAll_nil r0
  obtain rfl : args = #[v0] := by cases args; simp_all
  obtain ⟨rfl, rfl⟩ := trodVars_none hV
  obtain ⟨a0, rfl, rfl, rfl, w0⟩ := open_int Try.underlying3 (hval 0 3 v0 rfl rfl) h0
  clear hA0 hval0
  refine (walk a0 w0 W).mono fun e W' ⟨he, bel⟩ => ?_
  subst he
  exact ⟨_, rfl, _, _, _, [], _, [], hW', trodAll_mk1 (shut_bool Try.underlying4 _), (trodAll_cons_mk (shut_int Try.underlying3 w0) trodAll_mk0), rfl, bel.frame _, fun h => by cases h⟩

theorem over : Rows.fnExactPutNumRow.holds Try.pinned (OpenSpec.ofChange Rows.fnExactPutNumSpec) :=
  OpenClaim.holds_of_wide 8 Try.f8 rfl rfl rfl rfl rfl rfl rfl ⟨rfl, rfl, rfl, rfl, rfl⟩ rfl rfl rfl rfl rfl (by kernel_rfl) Try.func8 (by kernel_rfl)
    (of_decide_eq_true (by kernel_rfl)) (by unfold Func.isWrapper; first | (rw [if_pos (by decide +kernel)]; kernel_rfl) | (rw [if_neg (by decide +kernel)]; exact ⟨rfl, rfl⟩))
    (fun os started H enc _ => lifted os started H enc)

theorem proved : Rows.FnExactPutNumSaid :=
  over
end Go.Proofs.Ytmfmmeicngjkpaa.fnExactPutNum
