/- The law FnExactHeapNew returns true for every input that can be read as data, with no condition, and its arguments read as they did. (The frame of this text was written by the kit's proof-skeleton.mjs.) -/
import Derived.Test.YtmfmmeicngjkpaaRows
import Derived.Test.YtmfmmeicngjkpaaHeapNew
import Derived.WalkKit
import Derived.ProofKit
import Derived.OpenShut
import Derived.ShutString
namespace Go.Proofs.Ytmfmmeicngjkpaa.fnExactHeapNew
open Go.ChangeShapes Go.WideShapes Go.ChangeAt Go.RowKit
open Go.ChangeMaps (open_string shut_string)
set_option linter.unusedVariables false      -- a walk need not use every 'w<i>' (that an integer argument fits its kind)

theorem own : ownKnob Try.prog.godebug = none := by kernel_rfl

theorem walk (a0 : Int) (w0 : (Lit.int .i64 a0).wf = true) (w : World) :
    Calls Try.prog 10 #[.int .i64 a0] w fun e w' => e = .returned (.bool true) ∧ Below w.heap.size w w' := by
  have hlen : (newWords a0).length ≤ 6000 := newWords_len a0
  obtain ⟨H, hH⟩ : ∃ H, (if inB a0 1 3000 then a0 else 0) = H := ⟨_, rfl⟩
  obtain ⟨K, hK⟩ : ∃ K, inB a0 1 3000 = K := ⟨_, rfl⟩
  have cs := sHeapNew_any a0
  have ci := iHeapNew_any a0
  rw [hH, hK] at cs ci
  have CS := Lib.hid cs
  have CI := Lib.hid ci
  clear hH hK cs ci
  go_enter Try.func10, Try.ntmps10
  go_wp2_with fail
  refine (CS.out _).mono ?_
  rintro e w1 ⟨v1, rfl, o1, b1⟩
  have r1 := Rd.of_own o1
  obtain ⟨a1, c1, rfl⟩ := own_form o1
  clear o1
  go_wp2_with fail
  generalize hx : w1.alloc _ = x1
  obtain ⟨bx1, k1⟩ := Bx.alloc hx
  clear hx
  have z1 := k1.1
  have z0 := b1.size
  have r1 := r1.below bx1 (Nat.le_refl _)
  have b1 := b1.trans (bx1.mono b1.size)
  refine (CI.out _).mono ?_
  rintro e w2 ⟨v2, rfl, o2, b2⟩
  obtain ⟨a2, c2, rfl⟩ := own_form o2
  have l2 : ∀ k, (Value.slice a2 (newWords a0).length c2).ownBlock = some k → x1.heap.size ≤ k := fun k hk => (o2.lt k hk).1
  have m2 := own_lt o2
  have k1 := k1.below b2 k1.1
  have z2 := b2.size
  have r2 := r1.below b2 (by omega)
  have b2 := b1.trans (b2.mono b1.size)
  clear r1 b1 bx1
  have q1 := k1.2.1
  have y1 := k1.1
  go_wp2_with fail
  generalize hx : w2.alloc _ = x2
  obtain ⟨bx2, k2⟩ := Bx.alloc hx
  clear hx q1 y1
  have z3 := k2.1
  have k1 := k1.below bx2 k1.1
  have r3 := r2.below bx2 (by omega)
  have o3 := own_below o2 bx2 m2
  have b3 := b2.trans (bx2.mono b2.size)
  clear r2 o2 b2 bx2
  refine (eqHeap_same _ _ _ _ _ _ _ (Rd.of_own o3) r3).mono ?_
  rintro e w4 ⟨rfl, b4⟩
  have z4 := b4.size
  have k1 := k1.below b4 k1.1
  have k2 := k2.below b4 k2.1
  have o4 := own_below o3 b4 (own_lt o3)
  have r4 := r3.below b4 (by omega)
  have b4 := b3.trans (b4.mono b3.size)
  clear o3 r3 b3
  have q2 := k2.2.1
  have y2 := k2.1
  go_wp2_with fail
  refine (markHeap_any _ _ _ _ _ _ _ o4 (by omega) (by omega)).mono ?_
  rintro e w5 ⟨rfl, o5, g5⟩
  clear q2 y2
  have b5 : Below x1.heap.size w4 w5 := Below.of_grown g5 (by omega) l2
  have k1 := k1.below b5 z1
  have k2 := k2.grown g5 (fun h => by have := m2 _ h.symm; omega)
  have z5 := b5.size
  have r5 := r4.below b5 (by omega)
  have b5 := b4.trans (b5.mono (by omega))
  clear o4 r4 b4 g5
  have q2 := k2.2.1
  have y2 := k2.1
  go_wp2_with fail
  refine (heldHeap_any _ _ _ _ _ _ (Rd.of_own o5) (by omega) (by omega)).mono ?_
  rintro e w6 ⟨rfl, b6⟩
  clear q2 y2
  have z6 := b6.size
  have k1 := k1.below b6 k1.1
  have k2 := k2.below b6 k2.1
  have o6 := own_below o5 b6 (own_lt o5)
  have r6 := r5.below b6 (by omega)
  have b6 := b5.trans (b6.mono b5.size)
  clear o5 r5 b5
  go_wp2_with fail
  refine (CI.out _).mono ?_
  rintro e w7 ⟨v7, rfl, o7, b7⟩
  obtain ⟨a7, c7, rfl⟩ := own_form o7
  have z7 := b7.size
  have k1 := k1.below b7 k1.1
  have k2 := k2.below b7 k2.1
  have p7 := own_below o6 b7 (own_lt o6)
  have r7 := r6.below b7 (by omega)
  have b7 := b6.trans (b7.mono b6.size)
  clear o6 r6 b6
  have q1 := k1.2.1
  have y1 := k1.1
  go_wp2_with fail
  generalize hx : w7.alloc _ = x7
  obtain ⟨bx7, k7⟩ := Bx.alloc hx
  clear hx q1 y1
  have z8 := k7.1
  have k1 := k1.below bx7 k1.1
  have k2 := k2.below bx7 k2.1
  have r8 := r7.below bx7 (by omega)
  have o8 := own_below o7 bx7 (own_lt o7)
  have p8 := own_below p7 bx7 (own_lt p7)
  have b8 := b7.trans (bx7.mono b7.size)
  clear r7 o7 p7 b7 bx7
  refine (eqHeap_same _ _ _ _ _ _ _ (Rd.of_own o8) r8).mono ?_
  rintro e w9 ⟨rfl, b9⟩
  have z9 := b9.size
  have k2 := k2.below b9 k2.1
  have p9 := own_below p8 b9 (own_lt p8)
  have b9 := b8.trans (b9.mono b8.size)
  clear o8 p8 r8 b8 k1 k7
  have q2 := k2.2.1
  have y2 := k2.1
  go_wp2_with fail
  refine (heldHeap_any _ _ _ _ _ _ (Rd.of_own p9) (by omega) (by omega)).mono ?_
  rintro e w10 ⟨rfl, b10⟩
  have b11 := b9.trans (b10.mono b9.size)
  clear p9 b10 b9 q2 y2 k2
  go_wp2
  go_ret
  exact ⟨rfl, b11⟩

set_option maxRecDepth 100000 in
theorem lifted (os : Os) (started : os.Started) (H : Type) (enc : TypeId × Value → H) :
    ReturnsInHanded {} Try.checked os 10 .any (Rows.fnExactHeapNewSpec.pre6 enc Try.prog Try.f10 Rows.fnExactHeapNewRow.domain false) (Rows.fnExactHeapNewSpec.post enc Try.prog Try.f10 false true false false) := by
  refine returnsInHanded_of_change (C := Try.checked) own started (by kernel_rfl) Try.func10
    (ChangeSpec.witness6 (enc := enc) (C := Try.checked) false ⟨#[], #[.int .i64 0], []⟩ 8 (by kernel_rfl) (by kernel_rfl) (by kernel_rfl) (by kernel_rfl)) ?_
  intro W base args ds gs before hval0 hW hcnd _
  have hval : ∀ (j : Nat) t v, Try.f10.params[j]? = some t → args[j]? = some v → Value.okWide Try.prog W .any base t v := hval0
  have hW' := hW
  obtain ⟨p, q, hA0, hV, rfl, hfz, hnd⟩ := hW
  have hA : DataW.TrodAll enc Try.prog W 0 (fun _ => true) true Try.f10.params.toList args.toList ds p := hA0
  rw [Try.params10] at hA hval
  obtain ⟨v0, vs0, d0, ds0, p0, q0, hargs, rfl, rfl, h0, r0⟩ := trodAll_cons hA
  obtain ⟨rfl, rfl, rfl⟩ := trodAll_nil r0
  obtain rfl : args = #[v0] := by cases args; simp_all
  obtain ⟨rfl, rfl⟩ := trodVars_none hV
  obtain ⟨a0, rfl, rfl, rfl, w0⟩ := open_int Try.underlying3 (hval 0 3 v0 rfl rfl) h0
  clear hA0 hval0
  refine (walk a0 w0 W).mono fun e W' ⟨he, bel⟩ => ?_
  subst he
  exact ⟨_, rfl, _, _, _, [], _, [], hW', trodAll_mk1 (shut_bool Try.underlying4 _), (trodAll_cons_mk (shut_int Try.underlying3 w0) trodAll_mk0), rfl, bel.frame _, fun h => by cases h⟩

theorem over : Rows.fnExactHeapNewRow.holds Try.pinned (OpenSpec.ofChange Rows.fnExactHeapNewSpec) :=
  OpenClaim.holds_of_wide 10 Try.f10 rfl rfl rfl rfl rfl rfl rfl ⟨rfl, rfl, rfl, rfl, rfl⟩ rfl rfl rfl rfl rfl (by kernel_rfl) Try.func10 (by kernel_rfl)
    (of_decide_eq_true (by kernel_rfl)) (by unfold Func.isWrapper; first | (rw [if_pos (by decide +kernel)]; kernel_rfl) | (rw [if_neg (by decide +kernel)]; exact ⟨rfl, rfl⟩))
    (fun os started H enc _ => lifted os started H enc)

theorem proved : Rows.FnExactHeapNewSaid :=
  over
end Go.Proofs.Ytmfmmeicngjkpaa.fnExactHeapNew
