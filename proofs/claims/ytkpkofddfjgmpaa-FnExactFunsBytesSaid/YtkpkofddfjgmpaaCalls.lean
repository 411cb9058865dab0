/- Slices of calls: szCallS, toCallS, eqCallS (a call's three ints read as a place's do). -/
import Derived.Test.YtkpkofddfjgmpaaOpsT
import Derived.Test.YtkpkofddfjgmpaaOpsE
namespace Go.Proofs.Ytkpkofddfjgmpaa
open Go.RowKit
set_option linter.unusedVariables false

set_option maxHeartbeats 800000 in
set_option maxRecDepth 100000 in
theorem toCall_any (c n m : Int) (w : World) :
    Calls Try.prog 116 #[.agg #[.int .i64 c, .int .i64 n, .int .i64 m]] w fun e w' => e = .returned (.agg #[.int .i64 c, .int .i64 n, .int .i64 m]) ∧ Below w.heap.size w w' := by
  go_enter Try.func116, Try.ntmps116
  go_wp2
  refine bodyPost_ret (v := .agg #[.int .i64 c, .int .i64 n, .int .i64 m]) ?_ rfl ⟨rfl, ?_⟩
  · simp [results, Try.results116, go_sem]
  · repeat (with_reducible refine Below.setCell ?_ (by dsimp only; omega) _)
    exact (((Below.refl _ _).alloc (Nat.le_refl _) _).alloc (by simp) _).alloc (by simp; omega) _

set_option maxHeartbeats 400000 in
theorem szCallS_any {B : Nat} (v : Value) (os : List O3) (left : Int) (w : World) (hr : RdO B w v os) (h0 : -1 ≤ left) (h1 : left ≤ 4611686018427387904) :
    Calls Try.prog 74 #[v, .int .i64 left] w fun e w' => e = .returned (.int .i64 (szOf os.length left)) ∧ w = w' := by
  have hx := hr.len
  unfold maxLen at hx
  obtain ⟨a, cap, rfl⟩ := hr.form
  clear hr
  by_cases hneg : left - os.length < 0
  · have HF := Lib.hid (show szOf os.length left = -1 from if_pos hneg)
    go_enter Try.func74, Try.ntmps74
    go_wp2
    go_ret
    exact ⟨ret_int HF.out.symm, rfl⟩
  · have HF := Lib.hid (show szOf os.length left = left - os.length from if_neg hneg)
    go_enter Try.func74, Try.ntmps74
    go_wp2
    go_ret
    exact ⟨ret_int HF.out.symm, rfl⟩

theorem Try.infoCall : (Try.prog.info? 112).map (fun i => (i.zero, i.size, i.bytes)) = some (some (.agg #[.int .i64 0, .int .i64 0, .int .i64 0]), 3, 24) := by kernel_rfl

set_option maxHeartbeats 800000 in
theorem toCallS_any {B : Nat} (v : Value) (os : List O3) (w : World) (hr : RdO B w v os) (hn : os.length ≤ 4294967296) :
    Calls Try.prog 77 #[v] w fun e w' => ∃ v', e = .returned v' ∧ w'.ownsRow w.heap.size 112 3 v' os.length (flat O3.enc os) ∧ Below w.heap.size w w' := by
  obtain ⟨i0, hi, hz0, hz1, hz2⟩ := info_parts Try.infoCall
  have HR := Lib.hid hr
  obtain ⟨a, cap, rfl⟩ := hr.form
  clear hr
  go_enter Try.func77, Try.ntmps77
  go_wp2_with (refine wpList_make_full _ rfl (.tmp 6) (.tmp 6) 49 rfl w.heap.size 112 i0 (.agg #[.int .i64 0, .int .i64 0, .int .i64 0]) 3 Try.underlying49 hi hz0 hz1 .i64 .i64 _ _ os.length rfl rfl rfl rfl ?_ ?_ ?_ ?_)
  · rw [hz2]; omega
  · unfold maxLen; omega
  · exact Nat.le_refl _
  · intro w1 hown hgrow
    have hb1 : Below w.heap.size w w1 := (Below.refl _ _).grown hgrow (Nat.le_refl _) (by simp)
    obtain ⟨xs, hown, hlen⟩ : ∃ xs, w1.ownsRow w.heap.size 112 3 (.slice (some ⟨w.heap.size, 0, none⟩) os.length os.length) os.length xs ∧ xs.length = os.length * 3 := ⟨_, hown, by simpa using hown.1⟩
    have HL := Lib.hid hlen
    clear hlen
    go_wp2
    go_loopw [4] (fun i wr => ∃ k : Nat, k ≤ os.length ∧ i = .int .i64 k ∧ wr.ownsRow w.heap.size 112 3 (.slice (some ⟨w.heap.size, 0, none⟩) os.length os.length) os.length (rowE O3.enc 3 os xs k) ∧ Below w.heap.size w wr) (fun i _ => os.length - (intOf i).toNat)
    case atStart => exact ⟨0, Nat.zero_le _, rfl, by rw [rowE_zero]; exact hown, hb1⟩
    case round =>
      obtain ⟨k, hk, rfl, ho, hb⟩ := hrel
      by_cases hlt : k < os.length
      · obtain ⟨b, off, cap', hs, hB, hbs, hcap, c0, c1, c2⟩ := RdO.at_ HR.out hlt
        cases hs
        replace c0 := (hb.cell (p := ⟨b, off + k * 3, none⟩) hbs).trans c0
        replace c1 := (hb.cell (p := ⟨b, off + k * 3 + 1, none⟩) hbs).trans c1
        replace c2 := (hb.cell (p := ⟨b, off + k * 3 + 2, none⟩) hbs).trans c2
        go_wp2_with fail
        refine (toCall_any _ _ _ _).mono ?_
        rintro e w2 ⟨rfl, b2⟩
        replace ho := own_below ho b2 (own_lt ho)
        replace hb := hb.trans (b2.mono hb.size)
        clear c0 c1 c2 b2
        have hrl : (rowE O3.enc 3 os xs k).length = os.length * 3 := rowE_len O3.enc_len HL.out hk
        have d0 := own_cellN ho (k * 3) (by omega)
        have d1 := own_cellN ho (k * 3 + 1) (by omega)
        have d2 := own_cellN ho (k * 3 + 2) (by omega)
        rw [List.getElem?_eq_getElem (by omega)] at d0 d1 d2
        have f0 := own_frozen ho (k * 3)
        have f1 := own_frozen ho (k * 3 + 1)
        have f2 := own_frozen ho (k * 3 + 2)
        go_wp2
        go_roundw
        case rel =>
          refine ⟨k + 1, hlt, by go_num, ?_, ((hb.setCell (Nat.le_refl _) _).setCell (Nat.le_refl _) _).setCell (Nat.le_refl _) _⟩
          rw [← rowE_set3 O3.enc_len HL.out (List.getElem?_eq_getElem hlt) rfl]
          exact own_setN (own_setN (own_setN ho _ (by omega) _) _ (by omega) _) _ (by omega) _
        case measure => simp [intOf]; omega
      · obtain rfl : k = os.length := by omega
        go_wp2
        go_ret
        refine ⟨_, rfl, ?_, hb⟩
        rw [← rowE_all HL.out]
        exact ho

set_option maxHeartbeats 400000 in
theorem eqCall_any (o p : O3) (w : World) :
    Calls Try.prog 117 #[.agg #[.int .i64 o.c, .int .i64 o.n, .int .i64 o.m], .agg #[.int .i64 p.c, .int .i64 p.n, .int .i64 p.m]] w fun e w' => e = .returned (.bool (decide (o = p))) ∧ Below w.heap.size w w' := by
  go_enter Try.func117, Try.ntmps117
  go_wp2
  all_goals go_ret
  all_goals refine ⟨ret_bool ?_, ((Below.refl _ _).alloc (Nat.le_refl _) _).alloc (by simp) _⟩
  · exact o3_c (by assumption)
  · exact o3_n (by assumption)
  · exact o3_m (by assumption)
  · exact o3_all (by assumption) (by assumption) (by assumption)

set_option maxHeartbeats 800000 in
theorem eqCallS_any {B1 B2 : Nat} (va vb : Value) (xs ys : List O3) (w : World) (ha : RdO B1 w va xs) (hb : RdO B2 w vb ys) :
    Calls Try.prog 80 #[va, vb] w fun e w' => e = .returned (.bool (decide (xs = ys))) ∧ Below w.heap.size w w' := by
  have hx := ha.len
  have hy := hb.len
  unfold maxLen at hx hy
  have HA := Lib.hid ha
  have HB := Lib.hid hb
  obtain ⟨a1, cap1, rfl⟩ := ha.form
  obtain ⟨a2, cap2, rfl⟩ := hb.form
  clear ha hb
  by_cases hl : xs.length = ys.length
  · have hne : ((xs.length : Int) != (ys.length : Int)) = false := by simp [hl]
    have HL := Lib.hid hl
    clear hl
    go_enter Try.func80, Try.ntmps80
    go_wp2
    go_loopw [5] (fun i wr => ∃ k : Nat, k ≤ xs.length ∧ i = .int .i64 k ∧ Below w.heap.size w wr ∧ Hid (∀ j, j < k → xs[j]? = ys[j]?)) (fun i _ => xs.length - (intOf i).toNat)
    case atStart => exact ⟨0, Nat.zero_le _, rfl, Below.refl _ _, fun j hj => by omega⟩
    case round =>
      obtain ⟨k, hk, rfl, hb, hd⟩ := hrel
      by_cases hlt : k < xs.length
      · have hlt2 : k < ys.length := by rw [← HL.out]; exact hlt
        obtain ⟨b, off, cap', hs, hB, hbs, hcap, c0, c1, c2⟩ := RdO.at_ HA.out hlt
        cases hs
        obtain ⟨b', off', cap'', hs', hB', hbs', hcap', d0, d1, d2⟩ := RdO.at_ HB.out hlt2
        cases hs'
        replace c0 := (hb.cell (p := ⟨b, off + k * 3, none⟩) hbs).trans c0
        replace c1 := (hb.cell (p := ⟨b, off + k * 3 + 1, none⟩) hbs).trans c1
        replace c2 := (hb.cell (p := ⟨b, off + k * 3 + 2, none⟩) hbs).trans c2
        replace d0 := (hb.cell (p := ⟨b', off' + k * 3, none⟩) hbs').trans d0
        replace d1 := (hb.cell (p := ⟨b', off' + k * 3 + 1, none⟩) hbs').trans d1
        replace d2 := (hb.cell (p := ⟨b', off' + k * 3 + 2, none⟩) hbs').trans d2
        have hbz := hb.size
        have hz1 : b < wr.heap.size := by omega
        have hz2 : b' < wr.heap.size := by omega
        have BB := Lib.hid hb
        clear hb
        obtain ⟨q, hq⟩ : ∃ q, decide (xs[k] = ys[k]) = q := ⟨_, rfl⟩
        have hc := fun (W : World) => eqCall_any xs[k] ys[k] W
        rw [hq] at hc
        have HC := Lib.hid hc
        have HQ := Lib.hid hq
        clear hc hq
        go_wp2_with fail
        go_region_held3 (fun w' => w'.cell? ⟨b, off + k * 3, none⟩ = some (.int .i64 xs[k].c) ∧ w'.cell? ⟨b, off + k * 3 + 1, none⟩ = some (.int .i64 xs[k].n) ∧ w'.cell? ⟨b, off + k * 3 + 2, none⟩ = some (.int .i64 xs[k].m) ∧ w'.cell? ⟨b', off' + k * 3, none⟩ = some (.int .i64 ys[k].c) ∧ w'.cell? ⟨b', off' + k * 3 + 1, none⟩ = some (.int .i64 ys[k].n) ∧ w'.cell? ⟨b', off' + k * 3 + 2, none⟩ = some (.int .i64 ys[k].m))
          (first | (go_split_ands; refine ⟨?_, ?_, ?_, ?_, ?_, ?_⟩ <;> (refine (b9.cell (by simp only [World.size_drew]; omega)).trans ?_; with_reducible assumption)) | (go_keep; done)) (first | (go_at_call 117; refine (HC.out _).mono ?_; rintro e w9 ⟨hu, b9⟩; subst hu))
        have B9 := Lib.hid (BB.out.trans ((((Below.refl _ _).drew).trans b9).mono BB.out.size))
        clear b9 BB c0 c1 c2 d0 d1 d2 HC
        cases q
        · go_wp2
          go_ret
          exact ⟨ret_bool (by symm; rw [decide_eq_false_iff_not]; rintro rfl; simpa using HQ.out), B9.out⟩
        · go_wp2
          go_roundw
          case rel => exact ⟨k + 1, hlt, by go_num, B9.out, Lib.hid (eqE_step HL.out hlt hlt2 hd.out (by simpa using HQ.out))⟩
          case measure => simp [intOf]; omega
      · go_wp2
        go_ret
        exact ⟨ret_bool (by rw [eqE_all HL.out (fun j hj => hd.out j (by omega))]; simp), hb⟩
  · have hne : ((xs.length : Int) != (ys.length : Int)) = true := by simp; omega
    have hf : decide (xs = ys) = false := by simp; intro h; exact hl (by rw [h])
    have HF := Lib.hid hf
    clear hf hl
    go_enter Try.func80, Try.ntmps80
    go_wp2
    go_ret
    exact ⟨ret_bool HF.out.symm, Below.refl _ _⟩

end Go.Proofs.Ytkpkofddfjgmpaa
