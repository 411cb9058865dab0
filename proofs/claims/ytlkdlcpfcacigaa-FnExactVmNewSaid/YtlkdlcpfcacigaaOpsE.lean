/- eqOp, eqOpS: places are held against each other. -/
import Derived.Test.YtlkdlcpfcacigaaMgElem
import Derived.Test.YtlkdlcpfcacigaaEqI
import Derived.Deep.RegionHeld3
namespace Go.Proofs.Ytlkdlcpfcacigaa
open Go.RowKit
set_option linter.unusedVariables false

theorem o3_c {o p : O3} (h : (o.c != p.c) = true) : false = decide (o = p) := by symm; rw [decide_eq_false_iff_not]; rintro rfl; simp at h
theorem o3_n {o p : O3} (h : (o.n != p.n) = true) : false = decide (o = p) := by symm; rw [decide_eq_false_iff_not]; rintro rfl; simp at h
theorem o3_m {o p : O3} (h : (o.m != p.m) = true) : false = decide (o = p) := by symm; rw [decide_eq_false_iff_not]; rintro rfl; simp at h
theorem o3_all {o p : O3} (h : (o.c != p.c) = false) (k : (o.n != p.n) = false) (l : (o.m != p.m) = false) : true = decide (o = p) := by
  cases o; cases p; simp_all

set_option maxHeartbeats 400000 in
theorem eqOp_any (o p : O3) (w : World) :
    Calls Try.prog 64 #[.agg #[.int .i64 o.c, .int .i64 o.n, .int .i64 o.m], .agg #[.int .i64 p.c, .int .i64 p.n, .int .i64 p.m]] w fun e w' => e = .returned (.bool (decide (o = p))) ∧ Below w.heap.size w w' := by
  go_enter Try.func64, Try.ntmps64
  go_wp2
  all_goals go_ret
  all_goals refine ⟨ret_bool ?_, ((Below.refl _ _).alloc (Nat.le_refl _) _).alloc (by simp) _⟩
  · exact o3_c (by assumption)
  · exact o3_n (by assumption)
  · exact o3_m (by assumption)
  · exact o3_all (by assumption) (by assumption) (by assumption)

theorem eqE_step {α : Type} {xs ys : List α} {k : Nat} (hl : xs.length = ys.length) (hk : k < xs.length) (hk2 : k < ys.length) (h : ∀ j, j < k → xs[j]? = ys[j]?) (he : xs[k] = ys[k]) : ∀ j, j < k + 1 → xs[j]? = ys[j]? := by
  intro j hj
  by_cases e : j = k
  · subst e; rw [List.getElem?_eq_getElem hk, List.getElem?_eq_getElem hk2, he]
  · exact h j (by omega)
theorem eqE_all {α : Type} {xs ys : List α} (hl : xs.length = ys.length) (h : ∀ j, j < xs.length → xs[j]? = ys[j]?) : xs = ys := by
  refine List.ext_getElem? fun i => ?_
  by_cases hi : i < xs.length
  · exact h i hi
  · rw [List.getElem?_eq_none (by omega), List.getElem?_eq_none (by omega)]

set_option maxHeartbeats 800000 in
theorem eqOpS_any {B1 B2 : Nat} (va vb : Value) (xs ys : List O3) (w : World) (ha : RdO B1 w va xs) (hb : RdO B2 w vb ys) :
    Calls Try.prog 50 #[va, vb] w fun e w' => e = .returned (.bool (decide (xs = ys))) ∧ Below w.heap.size w w' := by
  have hx := ha.len
  have hy := hb.len
  unfold maxLen at hx hy
  have HA := Lib.hid ha
  have HB := Lib.hid hb
  obtain ⟨a1, cap1, rfl⟩ := ha.form
  obtain ⟨a2, cap2, rfl⟩ := hb.form
  clear ha hb
  by_cases hl : xs.length = ys.length
  · have hne : ((xs.length : Int) != (ys.length : Int)) = false := by simp [hl]
    have HL := Lib.hid hl
    clear hl
    go_enter Try.func50, Try.ntmps50
    go_wp2
    go_loopw [5] (fun i wr => ∃ k : Nat, k ≤ xs.length ∧ i = .int .i64 k ∧ Below w.heap.size w wr ∧ Hid (∀ j, j < k → xs[j]? = ys[j]?)) (fun i _ => xs.length - (intOf i).toNat)
    case atStart => exact ⟨0, Nat.zero_le _, rfl, Below.refl _ _, fun j hj => by omega⟩
    case round =>
      obtain ⟨k, hk, rfl, hb, hd⟩ := hrel
      by_cases hlt : k < xs.length
      · have hlt2 : k < ys.length := by rw [← HL.out]; exact hlt
        obtain ⟨b, off, cap', hs, hB, hbs, hcap, c0, c1, c2⟩ := RdO.at_ HA.out hlt
        cases hs
        obtain ⟨b', off', cap'', hs', hB', hbs', hcap', d0, d1, d2⟩ := RdO.at_ HB.out hlt2
        cases hs'
        replace c0 := (hb.cell (p := ⟨b, off + k * 3, none⟩) hbs).trans c0
        replace c1 := (hb.cell (p := ⟨b, off + k * 3 + 1, none⟩) hbs).trans c1
        replace c2 := (hb.cell (p := ⟨b, off + k * 3 + 2, none⟩) hbs).trans c2
        replace d0 := (hb.cell (p := ⟨b', off' + k * 3, none⟩) hbs').trans d0
        replace d1 := (hb.cell (p := ⟨b', off' + k * 3 + 1, none⟩) hbs').trans d1
        replace d2 := (hb.cell (p := ⟨b', off' + k * 3 + 2, none⟩) hbs').trans d2
        have hbz := hb.size
        have hz1 : b < wr.heap.size := by omega
        have hz2 : b' < wr.heap.size := by omega
        have BB := Lib.hid hb
        clear hb
        obtain ⟨q, hq⟩ : ∃ q, decide (xs[k] = ys[k]) = q := ⟨_, rfl⟩
        have hc := fun (W : World) => eqOp_any xs[k] ys[k] W
        rw [hq] at hc
        have HC := Lib.hid hc
        have HQ := Lib.hid hq
        clear hc hq
        go_wp2_with fail
        go_region_held3 (fun w' => w'.cell? ⟨b, off + k * 3, none⟩ = some (.int .i64 xs[k].c) ∧ w'.cell? ⟨b, off + k * 3 + 1, none⟩ = some (.int .i64 xs[k].n) ∧ w'.cell? ⟨b, off + k * 3 + 2, none⟩ = some (.int .i64 xs[k].m) ∧ w'.cell? ⟨b', off' + k * 3, none⟩ = some (.int .i64 ys[k].c) ∧ w'.cell? ⟨b', off' + k * 3 + 1, none⟩ = some (.int .i64 ys[k].n) ∧ w'.cell? ⟨b', off' + k * 3 + 2, none⟩ = some (.int .i64 ys[k].m))
          (first | (go_split_ands; refine ⟨?_, ?_, ?_, ?_, ?_, ?_⟩ <;> (refine (b9.cell (by simp only [World.size_drew]; omega)).trans ?_; with_reducible assumption)) | (go_keep; done)) (first | (go_at_call 64; refine (HC.out _).mono ?_; rintro e w9 ⟨hu, b9⟩; subst hu))
        have B9 := Lib.hid (BB.out.trans ((((Below.refl _ _).drew).trans b9).mono BB.out.size))
        clear b9 BB c0 c1 c2 d0 d1 d2 HC
        cases q
        · go_wp2
          go_ret
          exact ⟨ret_bool (by symm; rw [decide_eq_false_iff_not]; rintro rfl; simpa using HQ.out), B9.out⟩
        · go_wp2
          go_roundw
          case rel => exact ⟨k + 1, hlt, by go_num, B9.out, Lib.hid (eqE_step HL.out hlt hlt2 hd.out (by simpa using HQ.out))⟩
          case measure => simp [intOf]; omega
      · go_wp2
        go_ret
        exact ⟨ret_bool (by rw [eqE_all HL.out (fun j hj => hd.out j (by omega))]; simp), hb⟩
  · have hne : ((xs.length : Int) != (ys.length : Int)) = true := by simp; omega
    have hf : decide (xs = ys) = false := by simp; intro h; exact hl (by rw [h])
    have HF := Lib.hid hf
    clear hf hl
    go_enter Try.func50, Try.ntmps50
    go_wp2
    go_ret
    exact ⟨ret_bool HF.out.symm, Below.refl _ _⟩

end Go.Proofs.Ytlkdlcpfcacigaa
