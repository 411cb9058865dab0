import Derived.Test.YtmcoidnonmmpjaaMem
import Derived.ProofKit
import Derived.ShutString
import Derived.ChangeOld
import Derived.Below
import Derived.Lib.SmallJoins
import Derived.Test.YtmcoidnonmmpjaaRows
import Derived.Test.YtmcoidnonmmpjaaHeapNew
import Derived.Deep.QuietTactic
import Derived.BigQuiet
/- Arguments opened: what a reading says of ints, of slices of ints. Nothing of the program is named here. -/
namespace Go.Proofs.Ytmcoidnonmmpjaa
open Go.ChangeShapes Go.WideShapes Go.ChangeAt Go.RowKit
set_option linter.unusedVariables false

def intsIn (ws : List Int) : Prop := ∀ j, -9223372036854775808 ≤ ws.getD j 0 ∧ ws.getD j 0 ≤ 9223372036854775807

theorem ints_rd {H : Type} {enc : TypeId × Value → H} {P : Program} {w : World} {base fuel : Nat} {held : Bool} {t e : TypeId} {c : Value} {x : DataW H × List MemPlace} (ht : P.underlying t = some (.slice e)) (he : P.underlying e = some (.int .i64)) (hc : P.cellsOf e = 1)
    (h : DataW.trod enc P w base (fun _ => true) held fuel t [c] = some x) : ∃ zs, Rd w.heap.size .i64 w c zs ∧ intsIn zs := by
  rcases open_ints ht he hc h with ⟨hcs, _⟩ | ⟨a, len, cap, zs, hcs, _, hl, hm, hz, _, hcell, hwz⟩
  · simp only [List.cons.injEq, and_true] at hcs
    subst hcs
    exact ⟨[], .inl ⟨rfl, _, _, rfl⟩, fun j => by simp [List.getD]⟩
  · simp only [List.cons.injEq, and_true] at hcs
    subst hcs
    have hrow : (some a = none ∧ len = 0 ∧ cap = 0 ∧ zs = []) ∨ ∃ x, some a = some x ∧ len ≤ cap ∧ cap ≤ maxLen ∧ zs.length = cap ∧ (∀ i, i < zs.length → w.cell? (x.add i) = some (.int .i64 (zs.getD i 0))) ∧ ∀ n ∈ zs, (Lit.int .i64 n).wf = true :=
      .inr ⟨a, rfl, hl, hm, by simpa using hz, hcell, hwz⟩
    refine ⟨zs.take len, Rd.of_row hrow, fun j => ?_⟩
    have := range_i64 (wf_all hrow).2 j
    simpa [List.getD] using this

def bytesIn' (b : List Int) : Prop := ∀ j, 0 ≤ b.getD j 0 ∧ b.getD j 0 ≤ 255
theorem bytes_rd {H : Type} {enc : TypeId × Value → H} {P : Program} {w : World} {base fuel : Nat} {held : Bool} {t e : TypeId} {c : Value} {x : DataW H × List MemPlace} (ht : P.underlying t = some (.slice e)) (he : P.underlying e = some (.int .u8)) (hc : P.cellsOf e = 1)
    (h : DataW.trod enc P w base (fun _ => true) held fuel t [c] = some x) : ∃ zs, Rd w.heap.size .u8 w c zs ∧ bytesIn' zs := by
  rcases open_ints ht he hc h with ⟨hcs, _⟩ | ⟨a, len, cap, zs, hcs, _, hl, hm, hz, _, hcell, hwz⟩
  · simp only [List.cons.injEq, and_true] at hcs
    subst hcs
    exact ⟨[], .inl ⟨rfl, _, _, rfl⟩, fun j => by simp [List.getD]⟩
  · simp only [List.cons.injEq, and_true] at hcs
    subst hcs
    have hrow : (some a = none ∧ len = 0 ∧ cap = 0 ∧ zs = []) ∨ ∃ x, some a = some x ∧ len ≤ cap ∧ cap ≤ maxLen ∧ zs.length = cap ∧ (∀ i, i < zs.length → w.cell? (x.add i) = some (.int .u8 (zs.getD i 0))) ∧ ∀ n ∈ zs, (Lit.int .u8 n).wf = true :=
      .inr ⟨a, rfl, hl, hm, by simpa using hz, hcell, hwz⟩
    refine ⟨zs.take len, Rd.of_row hrow, fun j => ?_⟩
    have := range_u8 (wf_all hrow).2 j
    simpa [List.getD] using this

theorem int_rd {H : Type} {enc : TypeId × Value → H} {P : Program} {w : World} {base fuel : Nat} {spare : Nat → Bool} {held : Bool} {t : TypeId} {c : Value} {x : DataW H × List MemPlace} (ht : P.underlying t = some (.int .i64))
    (h : DataW.trod enc P w base spare held fuel t [c] = some x) : ∃ n, c = .int .i64 n ∧ -9223372036854775808 ≤ n ∧ n ≤ 9223372036854775807 := by
  obtain ⟨n, hcs, _, hw⟩ := DataW.trod_int ht h
  simp only [List.cons.injEq, and_true] at hcs
  exact ⟨n, hcs, bounds_i64 hw⟩

end Go.Proofs.Ytmcoidnonmmpjaa

/- sameInts, sameHeap: what a law holds against each other. -/
namespace Go.Proofs.Ytmcoidnonmmpjaa
open Go.RowKit
set_option linter.unusedVariables false

set_option maxHeartbeats 400000 in
theorem sameInts_any {B1 B2 : Nat} (va vb : Value) (xs ys : List Int) (w : World) (ha : Rd B1 .i64 w va xs) (hb : Rd B2 .i64 w vb ys) :
    Calls Try.prog 19 #[va, vb] w fun e w' => e = .returned (.bool (decide (xs = ys))) ∧ Still w w' := by
  have hx := ha.len
  have hy := hb.len
  unfold maxLen at hx hy
  by_cases hl : xs.length = ys.length
  · rcases ha with ⟨rfl, a, cap, rfl⟩ | ⟨b, off, cap, rfl, hB, hbs, hm, hc⟩
    · have hy0 : ys = [] := List.eq_nil_of_length_eq_zero (by simpa using hl.symm)
      subst hy0
      rcases hb with ⟨_, a', cap', rfl⟩ | ⟨b', off', cap', rfl, hB', hbs', hm', hc'⟩
      all_goals
        go_enter Try.func19, Try.ntmps19
        go_wp2
        refine wp_loop_rounds 1 ?_
        rw [rounds_succ]
        go_wp2
        go_ret
        exact ⟨ret_bool (by simp), Still.refl _⟩
    · rcases hb with ⟨rfl, a', cap', rfl⟩ | ⟨b', off', cap', rfl, hB', hbs', hm', hc'⟩
      · have hx0 : xs = [] := List.eq_nil_of_length_eq_zero (by simpa using hl)
        subst hx0
        go_enter Try.func19, Try.ntmps19
        go_wp2
        refine wp_loop_rounds 1 ?_
        rw [rounds_succ]
        go_wp2
        go_ret
        exact ⟨ret_bool (by simp), Still.refl _⟩
      · have hne : ((xs.length : Int) != (ys.length : Int)) = false := by simp [hl]
        have HL := Lib.hid hl
        clear hl
        go_enter Try.func19, Try.ntmps19
        go_wp2
        go_loopw [5] (fun i wr => ∃ k n : Nat, k ≤ xs.length ∧ i = .int .i64 k ∧ wr = w.drewN n ∧ Hid (∀ j, j < k → xs.getD j 0 = ys.getD j 0)) (fun i _ => xs.length - (intOf i).toNat)
        case atStart => exact ⟨0, 0, Nat.zero_le _, rfl, rfl, fun j hj => by omega⟩
        case round =>
          obtain ⟨k, n, hk, rfl, rfl, hd⟩ := hrel
          by_cases hlt : k < xs.length
          · have c1 := hc k hlt
            have c2 := hc' k (by rw [← HL.out]; exact hlt)
            have hlt2 : k < ys.length := by rw [← HL.out]; exact hlt
            clear hc hc'
            go_wp2
            go_quiet (fail)
            go_wp2
            · have h : (xs[k] != ys[k]) = true := by assumption
              go_ret
              exact ⟨ret_bool (by simp only [bne_iff_ne] at h; symm; rw [decide_eq_false_iff_not]; rintro rfl; exact h rfl), ⟨n + nq, by simp⟩⟩
            · have h : (xs[k] != ys[k]) = false := by assumption
              go_roundw
              case rel => exact ⟨k + 1, n + nq, hlt, by go_num, rfl, eq_step HL.out hlt hd (by simp only [bne_eq_false_iff_eq] at h; simpa [List.getD, List.getElem?_eq_getElem hlt, List.getElem?_eq_getElem hlt2] using h)⟩
              case measure => simp [intOf]; omega
          · go_wp2
            go_ret
            exact ⟨ret_bool (by rw [eq_all HL.out (fun j hj => hd j (by omega))]; simp), ⟨_, rfl⟩⟩
  · have hne : ((xs.length : Int) != (ys.length : Int)) = true := by simp; omega
    have hv : (∃ a n cap, va = .slice a n cap ∧ n = xs.length) ∧ (∃ a n cap, vb = .slice a n cap ∧ n = ys.length) := by
      constructor
      · rcases ha with ⟨rfl, a, cap, rfl⟩ | ⟨b, off, cap, rfl, _⟩
        · exact ⟨_, _, _, rfl, rfl⟩
        · exact ⟨_, _, _, rfl, rfl⟩
      · rcases hb with ⟨rfl, a, cap, rfl⟩ | ⟨b, off, cap, rfl, _⟩
        · exact ⟨_, _, _, rfl, rfl⟩
        · exact ⟨_, _, _, rfl, rfl⟩
    obtain ⟨⟨a1, n1, c1, rfl, rfl⟩, ⟨a2, n2, c2, rfl, rfl⟩⟩ := hv
    have hf : decide (xs = ys) = false := by simp; intro h; exact hl (by rw [h])
    have HF := Lib.hid hf
    clear hf ha hb hl
    go_enter Try.func19, Try.ntmps19
    go_wp2
    go_ret
    exact ⟨ret_bool HF.out.symm, Still.refl _⟩

set_option maxHeartbeats 400000 in
set_option maxRecDepth 100000 in
theorem sameHeap_same {B1 B2 : Nat} (va vb : Value) (xs : List Int) (h b n : Int) (w : World) (ra : Rd B1 .i64 w va xs) (rb : Rd B2 .i64 w vb xs) :
    Calls Try.prog 9 #[.agg #[va, .int .i64 h, .int .i64 b, .int .i64 n], .agg #[vb, .int .i64 h, .int .i64 b, .int .i64 n]] w fun e w' => e = .returned (.bool true) ∧ Below w.heap.size w w' := by
  have ra' := fun (w' : World) (hb : Below w.heap.size w w') => ra.below' hb
  have rb' := fun (w' : World) (hb : Below w.heap.size w w') => rb.below' hb
  obtain ⟨a1, c1, rfl⟩ := ra.form
  obtain ⟨a2, c2, rfl⟩ := rb.form
  clear ra rb
  have e1 : (h == h) = true := by simp
  have e2 : (b == b) = true := by simp
  have e3 : (n == n) = true := by simp
  go_enter Try.func9, Try.ntmps9
  go_wp2_with fail
  refine (sameInts_any _ _ _ _ _ (ra' _ ?_) (rb' _ ?_)).mono ?_
  · exact ((Below.refl _ _).alloc (Nat.le_refl _) _).alloc (by simp) _
  · exact ((Below.refl _ _).alloc (Nat.le_refl _) _).alloc (by simp) _
  rintro e w1 ⟨rfl, n1, rfl⟩
  rw [decide_eq_true rfl]
  go_wp2
  go_ret
  refine ⟨rfl, ?_⟩
  exact below_drewN (((Below.refl _ _).alloc (Nat.le_refl _) _).alloc (by simp) _) _
theorem sameInts_same {B1 B2 : Nat} (va vb : Value) (xs : List Int) (w : World) (ra : Rd B1 .i64 w va xs) (rb : Rd B2 .i64 w vb xs) :
    Calls Try.prog 19 #[va, vb] w fun e w' => e = .returned (.bool true) ∧ Below w.heap.size w w' :=
  (sameInts_any va vb xs xs w ra rb).mono fun e w' h => ⟨by have q := h.1; rw [decide_eq_true rfl] at q; exact q, h.2.below _⟩

end Go.Proofs.Ytmcoidnonmmpjaa
