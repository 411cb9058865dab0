/- HeapOk of the reference. -/
import Derived.Test.YtlkdlcpfcacigaaHeapOk
namespace Go.Proofs.Ytlkdlcpfcacigaa
open Go.RowKit
set_option linter.unusedVariables false

set_option maxHeartbeats 800000 in
set_option maxRecDepth 100000 in
theorem sHeapOk_any {B : Nat} (v : Value) (ws : List Int) (h b n : Int) (w : World) (hr : Rd B .i64 w v ws) (hw : intsOk ws) (hlen : ws.length ≤ 4294967296)
    (bh : -9223372036854775808 ≤ h ∧ h ≤ 9223372036854775807) (bb : -9223372036854775808 ≤ b ∧ b ≤ 9223372036854775807) (bn : -9223372036854775808 ≤ n ∧ n ≤ 9223372036854775807) :
    Calls Try.prog 39 #[.agg #[v, .int .i64 h, .int .i64 b, .int .i64 n]] w fun e w' => e = .returned (.bool (heapOk ws h b n)) ∧ Below w.heap.size w w' := by
  obtain ⟨h0, h1⟩ := bh
  obtain ⟨b0, b1⟩ := bb
  obtain ⟨n0, n1⟩ := bn
  have hr' := hr
  obtain ⟨a, cap, rfl⟩ := hr.form
  clear hr
  cases c1 : inB h 1 3000
  · have HF := Lib.hid (heapOk_noframe (ws := ws) (b := b) (n := n) (frame_half c1))
    clear hr' hw
    go_enter Try.func39, Try.ntmps39
    go_wp2_with (go_at_call 36; refine (l1In_any _ _ _ _).mono ?_; rintro e w' ⟨rfl, rfl⟩)
    go_ret
    exact ⟨ret_bool HF.out.symm, (Below.refl _ _).alloc (Nat.le_refl _) _⟩
  · obtain ⟨h2, h3⟩ := inB_true.1 c1
    by_cases c2 : (ws.length : Int) = 2 * h
    · have e2 : ((ws.length : Int) != 2 * h) = false := by simpa using c2
      by_cases c3 : b = 0 ∨ b = h
      · cases c4 : inB n b (b + h)
        · have HF := Lib.hid (heapOk_noframe (ws := ws) (frame_next c4))
          have main : (b != 0) = false ∨ ((b != 0) = true ∧ (b != h) = false) := by
            by_cases e : b = 0
            · left; simpa using e
            · right; exact ⟨by simpa using e, by simp; omega⟩
          have hb2 : 0 ≤ b := by omega
          have hb3 : b ≤ 3000 := by omega
          clear hr' hw c3 c2
          rcases main with e3 | ⟨e3, e4⟩
          all_goals
            go_enter Try.func39, Try.ntmps39
            go_wp2_with (go_at_call 36; refine (l1In_any _ _ _ _).mono ?_; rintro e w' ⟨rfl, rfl⟩)
            go_ret
            exact ⟨ret_bool HF.out.symm, (Below.refl _ _).alloc (Nat.le_refl _) _⟩
        · have hFr := frame_all c1 c2 c3 c4
          obtain ⟨h', b', n', rfl, rfl, rfl, hF⟩ := heapFrame_true hFr
          have main : ((b' : Int) != 0) = false ∨ (((b' : Int) != 0) = true ∧ ((b' : Int) != (h' : Int)) = false) := by
            by_cases e : (b' : Int) = 0
            · left; simpa using e
            · right; exact ⟨by simpa using e, by simp; omega⟩
          have HFr := Lib.hid hFr
          have hS := fun (W : World) (hb : Below w.heap.size w W) => l17Places_any _ ws h' b' n' W (hr'.below' hb) hw hF
          have HS := Lib.hid hS
          have hb3 : b' ≤ 3000 := by omega
          clear c2 c3 hFr hS
          rcases main with e3 | ⟨e3, e4⟩
          all_goals
            go_enter Try.func39, Try.ntmps39
            go_wp2_with (go_at_call 36; refine (l1In_any _ _ _ _).mono ?_; rintro e w' ⟨rfl, rfl⟩)
            generalize hx : w.alloc _ = x1
            obtain ⟨bx1, k1⟩ := Bx.alloc hx
            clear hx
            refine (HS.out x1 bx1).mono ?_
            rintro e w1 ⟨ht, b1⟩
            replace k1 := k1.below b1 k1.1
            have b2 := bx1.trans (b1.mono bx1.size)
            have z1 := k1.1
            clear bx1
            cases hp : placesOf ws b' n' with
            | none =>
              rw [hp] at ht
              obtain ⟨ua, un, uc, rfl⟩ := ht
              have HN := Lib.hid (heapOk_noplaces (h := h') hp)
              go_wp2
              go_ret
              exact ⟨ret_bool HN.out.symm, b2⟩
            | some ps =>
              rw [hp] at ht
              obtain ⟨u, rfl, ho⟩ := ht
              rw [map_ofN] at ho
              have hps := places_in _ _ _ hp
              have hpl : ps.length ≤ 4294967296 := places_len hp hF
              have ru := Rd.of_own (by rw [← nums_len] at ho; exact ho)
              have HN := Lib.hid (heapOk_places HFr.out hp)
              obtain ⟨ua, uc, rfl⟩ := ru.form
              have rw2 := hr'.below' b2
              have hnl := nums_len ps
              have HL := Lib.hid hnl
              have hn3 : (nums ps).length ≤ 4294967296 := by rw [HL.out]; exact hpl
              clear ho HS hp hr' b1 hnl
              rcases rw2 with ⟨hnil, _⟩ | ⟨bl, off, cap', hsl, hB, hbs, hm, hc⟩
              · have h9 := hF.len; have := hF.h0; rw [hnil] at h9; simp at h9; omega
              cases hsl
              have ru' := ru
              go_wp2_with fail
              go_loopw [5] (fun i wr => ∃ k : Nat, k ≤ (nums ps).length ∧ i = .int .i64 k ∧ Still w1 wr ∧ Hid (∀ j, j < k → (kidsAt ws (ps.getD j 0)).all (wordIn ps) = true)) (fun i _ => (nums ps).length - (intOf i).toNat)
              case atStart => exact ⟨0, Nat.zero_le _, rfl, Still.refl _, fun j hj => by omega⟩
              case round =>
                obtain ⟨k, hk, rfl, hst, hd⟩ := hrel
                have b4 := hst.below w1.heap.size
                have kb := k1.below b4 k1.1
                have q1 := kb.2.1
                have rur := ru.below b4 (Nat.le_refl _)
                by_cases hlt : k < (nums ps).length
                · have hlt' : k < ps.length := by rw [← HL.out]; exact hlt
                  obtain ⟨p, hpe⟩ : ∃ p, ps.getD k 0 = p := ⟨_, rfl⟩
                  obtain ⟨hp1, hp2, hp3, hp4⟩ := hps p (by rw [← hpe]; exact get_mem hlt')
                  rcases ru with ⟨hnil, _⟩ | ⟨bl2, off2, cap2, hsl2, _, hbs2, _, hc2⟩
                  · rw [hnil] at hlt; simp at hlt
                  cases hsl2
                  have c1 := (b4.cell (p := ⟨bl2, off2 + k, none⟩) hbs2).trans (hc2 k hlt)
                  rw [nums_get, hpe] at c1
                  have hpw : p < ws.length := by have := hF.len; have := hF.base; have := hF.n1; omega
                  have hbs3 : bl < w1.heap.size := Nat.lt_of_lt_of_le hB b2.size
                  have c2 := (b4.cell (p := ⟨bl, off + p, none⟩) hbs3).trans (hc p hpw)
                  have hfit : p + 1 + hK (ws.getD p 0) ≤ ws.length := by have := hF.len; have := hF.base; have := hF.n1; omega
                  have hkl := kidsAt_len hfit
                  have d1 := hc2 k hlt
                  rw [nums_get, hpe] at d1
                  have d2 : ∀ j, 1 ≤ j → j ≤ hK (ws.getD p 0) → w1.cell? ⟨bl, off + (p + j), none⟩ = some (.int .i64 ((kidsAt ws p).getD (j - 1) 0)) := by
                    intro j h1 h2
                    rw [hc (p + j) (by omega)]
                    unfold kidsAt
                    rw [take_drop_get _ _ _ _ (by omega), show p + 1 + (j - 1) = p + j from by omega]
                  obtain ⟨x, hxx⟩ : ∃ x, ws.getD p 0 = x := ⟨_, rfl⟩
                  have hxb := hw p
                  rw [hxx] at c2 hp3 hxb hfit hkl d2
                  obtain ⟨hx0, hx1⟩ := hxb
                  have hge := (hOk_true.1 hp3).2.1
                  have hkn := hK_cast x
                  have HKN := Lib.hid hkn
                  have hkb := hKids_nonneg x
                  rw [← hkn] at hkb
                  obtain ⟨hkb1, hkb2⟩ := hkb
                  have HX := Lib.hid hxx
                  have HP := Lib.hid hpe
                  have HKL := Lib.hid hkl
                  have D1 := Lib.hid d1
                  have D2 := Lib.hid d2
                  have hh0 := fun W => (l17Of_any x W hge hx1).mono fun e w' hh => (⟨hh.1, hh.2.symm⟩ : e = _ ∧ w' = W)
                  rw [← hkn] at hh0
                  have HH := Lib.hid hh0
                  clear hc hc2 hps hw hxx hpe hkn hkl d1 d2 hp3 hh0
                  go_wp2_with fail
                  go_quiet ((go_at_call 55; exact Calls.quiet_of_same (HH.out _)))
                  have hst2 := hst.trans ⟨nq, rfl⟩
                  have HST := Lib.hid hst2
                  clear hst hst2 b4 kb q1 c1 c2 rur
                  go_wp2
                  go_loopw [9] (fun i wr => ∃ j : Nat, 1 ≤ j ∧ j ≤ hK x + 1 ∧ i = .int .i64 j ∧ Still w1 wr ∧ Hid (∀ t, t < j - 1 → wordIn ps ((kidsAt ws p).getD t 0) = true)) (fun i _ => hK x + 1 - (intOf i).toNat)
                  case atStart => exact ⟨1, by omega, by omega, rfl, HST.out, fun t ht => by omega⟩
                  case round =>
                    obtain ⟨j, hj1, hj2, rfl, hst, hd2⟩ := hrel
                    by_cases hjk : j ≤ hK x
                    · have b5 := hst.below w1.heap.size
                      have kb := k1.below b5 k1.1
                      have q1 := kb.2.1
                      have rur := ru'.below b5 (Nat.le_refl _)
                      have e1 := (b5.cell (p := ⟨bl2, off2 + k, none⟩) hbs2).trans D1.out
                      have e2 := (b5.cell (p := ⟨bl, off + (p + j), none⟩) hbs3).trans (D2.out j hj1 hjk)
                      obtain ⟨y, hy⟩ : ∃ y, (kidsAt ws p).getD (j - 1) 0 = y := ⟨_, rfl⟩
                      rw [hy] at e2
                      have HY := Lib.hid hy
                      obtain ⟨wi, hwi⟩ : ∃ wi, wordIn ps y = wi := ⟨_, rfl⟩
                      have hcon := fun (n : Nat) => (l17There_any _ ps y (wr.drewN n) (rur.below (Still.below ⟨n, rfl⟩ _) b5.size)).mono fun e w' hh => (⟨hh.1, hh.2.symm⟩ : e = _ ∧ w' = _)
                      rw [hwi] at hcon
                      have HC := Lib.hid hcon
                      have HWI := Lib.hid hwi
                      clear hcon hy kb rur hwi
                      cases wi
                      · go_wp2_with fail
                        go_quiet ((go_at_call 41; exact Calls.quiet_of_same (HC.out _)))
                        go_wp2
                        go_ret
                        exact ⟨ret_bool (by rw [HN.out]; symm; refine fit_bad hlt' ?_; rw [HP.out]; exact out_here (k := j - 1) (by rw [HKL.out]; omega) HY.out HWI.out), b2.trans ((hst.trans ⟨_, rfl⟩).below _)⟩
                      · go_wp2_with fail
                        go_quiet ((go_at_call 41; exact Calls.quiet_of_same (HC.out _)))
                        go_wp2
                        go_roundw
                        case rel => exact ⟨j + 1, by omega, by omega, by go_num, hst.trans ⟨_, rfl⟩, by show ∀ t, _; rw [show j + 1 - 1 = (j - 1) + 1 from by omega]; exact out_step hd2.out (by rw [HY.out]; exact HWI.out)⟩
                        case measure => simp [intOf]; omega
                    · obtain rfl : j = hK x + 1 := by omega
                      have hall : (kidsAt ws p).all (wordIn ps) = true := out_none (fun t ht => hd2.out t (by rw [HKL.out] at ht; omega))
                      have HA := Lib.hid hall
                      clear hall
                      go_wp2
                      go_roundw
                      case rel => exact ⟨k + 1, hlt, by go_num, hst, fit_step hd.out (by rw [HP.out]; exact HA.out)⟩
                      case measure => simp [intOf]; omega
                · go_wp2
                  go_ret
                  exact ⟨ret_bool (by rw [HN.out]; symm; exact fit_all (fun j hj => hd.out j (by rw [HL.out] at hlt; omega))), b2.trans (hst.below _)⟩
      · have e3 : (b != 0) = true := by simp; omega
        have e4 : (b != h) = true := by simp; omega
        have HF := Lib.hid (heapOk_noframe (ws := ws) (n := n) (frame_base (h := h) (b := b) (by omega) (by omega)))
        clear hr' hw c3 c2
        go_enter Try.func39, Try.ntmps39
        go_wp2_with (go_at_call 36; refine (l1In_any _ _ _ _).mono ?_; rintro e w' ⟨rfl, rfl⟩)
        go_ret
        exact ⟨ret_bool HF.out.symm, (Below.refl _ _).alloc (Nat.le_refl _) _⟩
    · have e2 : ((ws.length : Int) != 2 * h) = true := by simpa using c2
      have HF := Lib.hid (heapOk_noframe (b := b) (n := n) (frame_len c2))
      clear hr' hw c2
      go_enter Try.func39, Try.ntmps39
      go_wp2_with (go_at_call 36; refine (l1In_any _ _ _ _).mono ?_; rintro e w' ⟨rfl, rfl⟩)
      go_ret
      exact ⟨ret_bool HF.out.symm, (Below.refl _ _).alloc (Nat.le_refl _) _⟩

end Go.Proofs.Ytlkdlcpfcacigaa
