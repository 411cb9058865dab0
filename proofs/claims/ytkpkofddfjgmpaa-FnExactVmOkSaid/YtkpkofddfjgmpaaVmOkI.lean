/- VmOk (impl). -/
import Derived.Test.YtkpkofddfjgmpaaCallsOk
import Derived.Test.YtkpkofddfjgmpaaFunsOkI
import Derived.Test.YtkpkofddfjgmpaaRoots
namespace Go.Proofs.Ytkpkofddfjgmpaa
open Go.RowKit
set_option linter.unusedVariables false
set_option linter.unusedSimpArgs false

/-- an index, not below 0 just where some number is no word. -/
def FoundNo (xs : List Int) (e : Ending) : Prop := ∃ r : Int, e = .returned (.int .i64 r) ∧ (0 ≤ r ↔ xs.all wordB = false)
theorem no_here {xs : List Int} {x : Int} {k : Nat} (hk : k < xs.length) (hx : xs.getD k 0 = x) (h : wordB x = false) : xs.all wordB = false := by
  rw [List.all_eq_false]
  exact ⟨x, mem_of_get hk hx, by rw [h]; simp⟩
theorem no_none {xs : List Int} (h : ∀ j, j < xs.length → wordB (xs.getD j 0) = true) : xs.all wordB = true := by
  rw [List.all_eq_true]
  intro x hx
  obtain ⟨i, hi, he⟩ := List.getElem_of_mem hx
  have := h i hi
  simpa [List.getD, List.getElem?_eq_getElem hi, he] using this
theorem no_step {xs : List Int} {k : Nat} (h : ∀ j, j < k → wordB (xs.getD j 0) = true) (he : wordB (xs.getD k 0) = true) : ∀ j, j < k + 1 → wordB (xs.getD j 0) = true := by
  intro j hj
  by_cases e : j = k
  · subst e; exact he
  · exact h j (by omega)

set_option maxHeartbeats 400000 in
theorem vmOk1_fun (x : Int) (w : World) :
    Calls Try.prog 99 #[.int .i64 x] w fun e w' => e = .returned (.bool (!wordB x)) ∧ w = w' := by
  go_enter Try.func99, Try.ntmps99
  go_wp2_with (go_at_call 27; refine (iWordOk_any _ _).mono ?_; rintro e w' ⟨rfl, rfl⟩)
  go_ret
  exact ⟨rfl, rfl⟩

set_option maxHeartbeats 400000 in
theorem vmOk1_index {B : Nat} (u : Value) (xs : List Int) (w : World) (hu : Rd B .i64 w u xs) :
    Calls Try.prog 128 #[u, .func (.func 99) #[] #[]] w fun e w' => FoundNo xs e ∧ w = w' := by
  have hx := hu.len
  unfold maxLen at hx
  have HF := Lib.hid (fun x => vmOk1_fun x w)
  rcases hu with ⟨rfl, a, cap, rfl⟩ | ⟨b, off, cap, rfl, hB, hbs, hm, hc⟩
  · go_enter Try.func128, Try.ntmps128
    go_wp2
    refine wp_loop_rounds 1 ?_
    rw [rounds_succ]
    go_wp2
    go_ret
    exact ⟨⟨-1, rfl, by simp⟩, rfl⟩
  · go_enter Try.func128, Try.ntmps128
    go_wp2
    go_loop [5, 8] (fun _ i => ∃ k : Nat, k ≤ xs.length ∧ i = .int .i64 k ∧ Hid (∀ j, j < k → wordB (xs.getD j 0) = true)) (fun _ i => xs.length - (intOf i).toNat)
    case atStart => exact ⟨0, Nat.zero_le _, rfl, fun j hj => by omega⟩
    case round =>
      obtain ⟨k, hk, rfl, hd⟩ := hrel
      by_cases hlt : k < xs.length
      · have c1 := hc k hlt
        obtain ⟨x, hx⟩ : ∃ x, xs.getD k 0 = x := ⟨_, rfl⟩
        rw [hx] at c1
        have HX := Lib.hid hx
        clear hc hx
        cases he : wordB x
        · go_wp2_with fail
          refine (HF.out x).mono ?_
          rintro e w' ⟨rfl, rfl⟩
          rw [he]
          go_wp2
          go_ret
          exact ⟨⟨k, rfl, by simp only [Int.natCast_nonneg, true_iff]; exact no_here hlt HX.out he⟩, rfl⟩
        · go_wp2_with fail
          refine (HF.out x).mono ?_
          rintro e w' ⟨rfl, rfl⟩
          rw [he]
          go_wp2
          go_round
          case rel => exact ⟨k + 1, hlt, by go_num, no_step hd.out (by rw [HX.out]; exact he)⟩
          case measure => simp [intOf]; omega
      · go_wp2
        go_ret
        exact ⟨⟨-1, rfl, ⟨fun h => by omega, fun h => by rw [no_none (fun j hj => hd.out j (by omega))] at h; cases h⟩⟩, rfl⟩

set_option maxHeartbeats 400000 in
theorem vmOk1_contains {B : Nat} (u : Value) (xs : List Int) (w : World) (hu : Rd B .i64 w u xs) :
    Calls Try.prog 98 #[u, .func (.func 99) #[] #[]] w fun e w' => e = .returned (.bool (!xs.all wordB)) ∧ w = w' := by
  have HI := Lib.hid (vmOk1_index u xs w hu)
  clear hu
  go_enter Try.func98, Try.ntmps98
  go_wp2_with fail
  refine HI.out.mono ?_
  rintro e w' ⟨⟨r, rfl, hr⟩, rfl⟩
  have HR := Lib.hid hr
  clear hr
  go_wp2
  all_goals go_ret
  all_goals exact ⟨ret_bool (by have := HR.out; rw [Bool.eq_iff_iff]; simp only [decide_eq_true_iff, Bool.not_eq_true']; exact this), rfl⟩

def vmOk (L : VmL) : Bool := funsOk L.fs && (rightOf L.zs L.h L.b L.n L.ss && (decide (L.ss.length ≤ 600) && (inB L.code 0 5 && (callsOk L.fs L.ss.length L.cs L.code && L.os.all wordB))))

set_option maxHeartbeats 1600000 in
set_option maxRecDepth 100000 in
theorem iVmOk_any {B : Nat} (fv hv sv cv ov : Value) (L : VmL) (w : World) (hr : RdV B w fv hv sv cv ov L) (hi : vmIn L) (hl : vmSz L ≤ 1048576) :
    Calls Try.prog 54 #[vmV fv hv sv cv ov L] w fun e w' => e = .returned (.bool (vmOk L)) ∧ Below w.heap.size w w' := by
  have hcl := fun (W : World) (hb : Below w.heap.size w W) => iCallsOk_any fv hv sv cv ov L W (hr.below' hb) hl
  obtain ⟨fs, zs, h, b, n, ss, cs, os, code, each⟩ := L
  obtain ⟨if_, iz, ih, ib, in_, is, _, hio, hcd⟩ := hi
  dsimp only at if_ iz ih ib in_ is hio hcd hcl
  unfold vmSz at hl
  dsimp only at hl
  have hfn := fun (W : World) (hb : Below w.heap.size w W) => iFunsOk_any fv fs W (hr.f.below' hb) if_ (by omega)
  have hro := fun (W : World) (hb : Below w.heap.size w W) => iRootsOk_any hv sv zs ss h b n W (hr.z.below' hb) iz (by omega) (hr.s.below' hb) ih ib in_
  have hco := fun (W : World) (hb : Below w.heap.size w W) => vmOk1_contains ov os W (hr.o.below' hb)
  obtain ⟨fa, fc, rfl⟩ := hr.f.form
  obtain ⟨ha, hc, rfl⟩ := hr.z.form
  obtain ⟨sa, sc, rfl⟩ := hr.s.form
  obtain ⟨ca, cc, rfl⟩ := hr.c.form
  obtain ⟨oa, oc, rfl⟩ := hr.o.form
  clear hr if_ iz ih ib in_ is hio hcd
  unfold vmV at hcl ⊢
  unfold vmOk
  dsimp only at hcl ⊢
  obtain ⟨q1, hq1⟩ : ∃ q, funsOk fs = q := ⟨_, rfl⟩
  obtain ⟨q2, hq2⟩ : ∃ q, rightOf zs h b n ss = q := ⟨_, rfl⟩
  obtain ⟨q3, hq3⟩ : ∃ q, decide (ss.length ≤ 600) = q := ⟨_, rfl⟩
  obtain ⟨q4, hq4⟩ : ∃ q, inB code 0 5 = q := ⟨_, rfl⟩
  obtain ⟨q5, hq5⟩ : ∃ q, callsOk fs ss.length cs code = q := ⟨_, rfl⟩
  obtain ⟨q6, hq6⟩ : ∃ q, os.all wordB = q := ⟨_, rfl⟩
  rw [hq1] at hfn
  rw [hq2] at hro
  rw [hq5] at hcl
  rw [hq6] at hco
  rw [hq1, hq2, hq3, hq4, hq5, hq6]
  have HQ3 := Lib.hid hq3
  have HF := Lib.hid hfn
  have HRO := Lib.hid hro
  have HW := Lib.hid (fun (W : World) => (by have := within_any code 0 5 W; rw [hq4] at this; exact this : Calls Try.prog 62 #[.int .i64 code, .int .i64 0, .int .i64 5] W _))
  have HC := Lib.hid hcl
  have HO := Lib.hid hco
  clear hq1 hq2 hq3 hq4 hq5 hq6 hfn hro hcl hco
  go_enter Try.func54, Try.ntmps54
  go_wp2_with fail
  generalize hx : w.alloc _ = x
  obtain ⟨bb, k1⟩ := Bx.alloc hx
  clear hx
  have ck1 := k1.2.1
  have yk1 := k1.1
  go_wp2_with fail
  refine (HF.out _ bb).mono ?_
  rintro e w1 ⟨rfl, b1⟩
  clear ck1 yk1
  replace k1 := k1.below b1 k1.1
  replace bb := bb.trans (b1.mono bb.size)
  clear b1
  cases q1
  · go_wp2
    go_ret
    exact ⟨rfl, bb⟩
  have ck1 := k1.2.1
  have yk1 := k1.1
  go_wp2_with fail
  refine (HRO.out _ bb).mono ?_
  rintro e w2 ⟨rfl, b2⟩
  clear ck1 yk1
  replace k1 := k1.below b2 k1.1
  replace bb := bb.trans (b2.mono bb.size)
  clear b2
  have ck1 := k1.2.1
  have yk1 := k1.1
  cases q2
  · go_wp2
    go_ret
    exact ⟨rfl, bb⟩
  cases q3
  case true =>
    have h3i : (ss.length : Int) ≤ 600 := by have := of_decide_eq_true HQ3.out; omega
    go_wp2_with fail
    refine (HW.out _).mono ?_
    rintro e w3 ⟨rfl, rfl⟩
    cases q4
    · go_wp2
      go_ret
      exact ⟨rfl, bb⟩
    go_wp2_with fail
    refine (HC.out _ bb).mono ?_
    rintro e w4 ⟨rfl, b4⟩
    clear ck1 yk1
    replace k1 := k1.below b4 k1.1
    replace bb := bb.trans (b4.mono bb.size)
    clear b4
    have ck1 := k1.2.1
    have yk1 := k1.1
    cases q5
    · go_wp2
      go_ret
      exact ⟨rfl, bb⟩
    go_wp2_with fail
    refine (HO.out _ bb).mono ?_
    rintro e w5 ⟨rfl, rfl⟩
    cases q6
    · go_wp2
      go_ret
      exact ⟨rfl, bb⟩
    · go_wp2
      go_ret
      exact ⟨rfl, bb⟩
  case false =>
    have h3i : ¬ ((ss.length : Int) ≤ 600) := by have := of_decide_eq_false HQ3.out; omega
    go_wp2
    go_ret
    exact ⟨rfl, bb⟩

end Go.Proofs.Ytkpkofddfjgmpaa
