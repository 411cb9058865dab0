/- The law FnExactGetNum returns true for every input that can be read as data, with no condition, and its arguments read as they did. (The frame of this text was written by the kit's proof-skeleton.mjs.) -/
import Derived.Test.YtmfmmeicngjkpaaRows
import Derived.Test.YtmfmmeicngjkpaaGetNum
import Derived.Test.YtmfmmeicngjkpaaEqB
import Derived.Test.YtmfmmeicngjkpaaToB
import Derived.WalkKit
import Derived.ProofKit
import Derived.OpenShut
import Derived.ShutString
import Derived.ChangeOld
import Derived.Below
namespace Go.Proofs.Ytmfmmeicngjkpaa.fnExactGetNum
open Go.ChangeShapes Go.WideShapes Go.ChangeAt Go.RowKit
open Go.ChangeMaps (open_string shut_string)
set_option linter.unusedVariables false

theorem own : ownKnob Try.prog.godebug = none := by kernel_rfl
theorem laidOut : laidOutB Try.prog = true := by kernel_rfl

/-- WHAT THE WALK IS TOLD OF A SLICE OF INTEGERS THAT CAME IN: it is nil; or it leads to a row of 'cap' cells, the numbers 'zs' (the first 'len' are its elements, the rest its spare room), each fitting its kind. -/
def IsRow (k : IntKind) (w : World) (a : Option Addr) (len cap : Nat) (zs : List Int) : Prop :=
  (a = none ∧ len = 0 ∧ cap = 0 ∧ zs = []) ∨
  ∃ x, a = some x ∧ len ≤ cap ∧ cap ≤ maxLen ∧ zs.length = cap ∧ (∀ i, i < zs.length → w.cell? (x.add i) = some (.int k (zs.getD i 0))) ∧ ∀ n ∈ zs, (Lit.int k n).wf = true

theorem walk (a0 : Option Addr) (len0 cap0 : Nat) (z0 : List Int) (a1 : Int) (w : World) (w0 : IsRow .u8 w a0 len0 cap0 z0) (w1 : (Lit.int .i64 a1).wf = true) :
    Calls Try.prog 9 #[.slice a0 len0 cap0, .int .i64 a1] w fun e w' => e = .returned (.bool true) ∧ Below w.heap.size w w' := by
  obtain ⟨hl, hwf⟩ := wf_all w0
  have r0 := Rd.of_row w0
  obtain ⟨i0, i1⟩ := bounds_i64 w1
  have hb := bytesOk_wf hwf
  generalize z0.take len0 = b at hl hwf r0 hb
  subst hl
  by_cases hbig : b.length ≤ 1048576
  · go_enter Try.func9, Try.ntmps9
    go_wp2_with fail
    refine (toByteS_any _ _ _ r0 (by omega)).mono ?_
    rintro e w2 ⟨v2, rfl, o2, b2⟩
    go_wp2_with fail
    refine (sGetNum_any _ _ _ _ (Rd.of_own o2) hb i0 i1 (by omega)).mono ?_
    obtain ⟨⟨x, y, z⟩, hg⟩ : ∃ r, getNum b a1 = r := ⟨_, rfl⟩
    rw [hg]
    rintro e w3 ⟨rfl, s3⟩
    rw [show trip (x, y, z) = .tuple #[.int .i64 x, .int .i64 y, .bool z] from rfl]
    have HG := Lib.hid hg
    have b3 := b2.trans (s3.below _)
    have z3 := b3.size
    clear o2 b2 s3 hg
    go_wp2_with fail
    refine (toByteS_any _ _ _ (r0.below b3 (Nat.le_refl _)) (by omega)).mono ?_
    rintro e w4 ⟨v4, rfl, o4, b4⟩
    have b14 := b3.trans (b4.mono z3)
    go_wp2_with fail
    refine (iGetNum_any _ _ _ _ (Rd.of_own o4) hb i0 i1 (by omega)).mono ?_
    rw [HG.out]
    rintro e w5 ⟨rfl, s5⟩
    rw [show trip (x, y, z) = .tuple #[.int .i64 x, .int .i64 y, .bool z] from rfl]
    have b5 := s5.below w4.heap.size
    have o5 := own_below o4 b5 (own_lt o4)
    have b15 := b14.trans (s5.below _)
    have z5 := b15.size
    clear o4 b4 s5 b14 b3 b5
    go_wp2_with fail
    refine (toByteS_any _ _ _ (r0.below b15 (Nat.le_refl _)) (by omega)).mono ?_
    rintro e w6 ⟨v6, rfl, o6, b6⟩
    have r5 := (Rd.of_own o5).below b6 (Nat.le_refl _)
    have b16 := b15.trans (b6.mono z5)
    clear b6 b15 o5
    go_wp2_with fail
    refine (eqByteS_any _ _ _ _ _ r5 (Rd.of_own o6)).mono ?_
    rintro e w7 ⟨rfl, s7⟩
    rw [decide_eq_true rfl]
    have b17 := b16.trans (s7.below _)
    clear r5 o6 b16 s7
    go_wp2
    go_ret
    exact ⟨rfl, b17⟩
  · go_enter Try.func9, Try.ntmps9
    go_wp2
    go_ret
    exact ⟨rfl, Below.refl _ _⟩

set_option maxRecDepth 100000 in
theorem lifted (os : Os) (started : os.Started) (H : Type) (enc : TypeId × Value → H) :
    ReturnsInHanded {} Try.checked os 9 .any (Rows.fnExactGetNumSpec.pre6 enc Try.prog Try.f9 Rows.fnExactGetNumRow.domain false) (Rows.fnExactGetNumSpec.post enc Try.prog Try.f9 false true false false) := by
  refine returnsInHanded_of_change (C := Try.checked) own started (by kernel_rfl) Try.func9
    (ChangeSpec.witness6 (enc := enc) (C := Try.checked) false ⟨#[], #[.slice none 0 0, .int .i64 0], []⟩ 8 (by kernel_rfl) (by kernel_rfl) (by kernel_rfl) (by kernel_rfl)) ?_
  intro W base args ds gs before hval0 hW hcnd _
  have hval : ∀ (j : Nat) t v, Try.f9.params[j]? = some t → args[j]? = some v → Value.okWide Try.prog W .any base t v := hval0
  have hW' := hW
  obtain ⟨p, q, hA0, hV, rfl, hfz, hnd⟩ := hW
  have hA : DataW.TrodAll enc Try.prog W 0 (fun _ => true) true Try.f9.params.toList args.toList ds p := hA0
  rw [Try.params9] at hA hval
  obtain ⟨v0, vs0, d0, ds0, p0, q0, hargs, rfl, rfl, h0, r0⟩ := trodAll_cons hA
  obtain ⟨v1, vs1, d1, ds1, p1, q1, rfl, rfl, rfl, h1, r1⟩ := trodAll_cons r0
  obtain ⟨rfl, rfl, rfl⟩ := trodAll_nil r1
  obtain rfl : args = #[v0, v1] := by cases args; simp_all
  obtain ⟨rfl, rfl⟩ := trodVars_none hV
  obtain ⟨a0, len0, cap0, rfl⟩ := okWide_slice Try.underlying24 (hval 0 24 v0 rfl rfl)
  have k0 := h0
  have lt0 : ∀ x ∈ p0, x.block < W.heap.size := by obtain ⟨m, hm⟩ := k0; exact DataW.trod_lt m _ _ _ hm
  obtain ⟨z0, w0⟩ : ∃ zs, IsRow .u8 W a0 len0 cap0 zs := by
    obtain ⟨fuel, hf⟩ := h0
    rcases open_ints Try.underlying24 Try.underlying5 (by kernel_rfl) hf with ⟨hcs, _⟩ | ⟨x, l, c, zs, hcs, _, hl, hm, hz, _, hcell, hwz⟩
    · simp [Value.cells] at hcs
      obtain ⟨rfl, rfl, rfl⟩ := hcs
      exact ⟨[], .inl ⟨rfl, rfl, rfl, rfl⟩⟩
    · simp [Value.cells] at hcs
      obtain ⟨rfl, rfl, rfl⟩ := hcs
      exact ⟨zs, .inr ⟨_, rfl, hl, hm, by simpa using hz, hcell, hwz⟩⟩
  obtain ⟨a1, rfl, rfl, rfl, w1⟩ := open_int Try.underlying3 (hval 1 3 v1 rfl rfl) h1
  clear hA0 hval0
  refine (walk a0 len0 cap0 z0 a1 W w0 w1).mono fun e W' ⟨he, bel⟩ => ?_
  subst he
  exact ⟨_, rfl, _, _, _, [], _, [], hW', trodAll_mk1 (shut_bool Try.underlying4 _), (trodAll_cons_mk (Below.trod laidOut (by kernel_rfl) (of_decide_eq_true (by kernel_rfl)) k0 bel lt0) (trodAll_cons_mk (shut_int Try.underlying3 w1) trodAll_mk0)), rfl, bel.frame _, fun h => by cases h⟩

theorem over : Rows.fnExactGetNumRow.holds Try.pinned (OpenSpec.ofChange Rows.fnExactGetNumSpec) :=
  OpenClaim.holds_of_wide 9 Try.f9 rfl rfl rfl rfl rfl rfl rfl ⟨rfl, rfl, rfl, rfl, rfl⟩ rfl rfl rfl rfl rfl (by kernel_rfl) Try.func9 (by kernel_rfl)
    (of_decide_eq_true (by kernel_rfl)) (by unfold Func.isWrapper; first | (rw [if_pos (by decide +kernel)]; kernel_rfl) | (rw [if_neg (by decide +kernel)]; exact ⟨rfl, rfl⟩))
    (fun os started H enc _ => lifted os started H enc)

theorem proved : Rows.FnExactGetNumSaid := over
end Go.Proofs.Ytmfmmeicngjkpaa.fnExactGetNum
