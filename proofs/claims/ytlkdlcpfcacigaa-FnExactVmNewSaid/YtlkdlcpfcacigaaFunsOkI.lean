/- FunsOk (impl). -/
import Derived.Test.YtlkdlcpfcacigaaMgOpOk
namespace Go.Proofs.Ytlkdlcpfcacigaa
open Go.RowKit
set_option linter.unusedVariables false
set_option linter.unusedSimpArgs false

set_option maxHeartbeats 3200000 in
set_option maxRecDepth 100000 in
theorem iFunsOk_any {B : Nat} (v : Value) (fs : List F2) (w : World) (hr : RdF B w v fs) (hf : ∀ x ∈ fs, fnIn x) (hlen : fs.length ≤ 4294967296) :
    Calls Try.prog 46 #[v] w fun e w' => e = .returned (.bool (funsOk fs)) ∧ Below w.heap.size w w' := by
  have HR := Lib.hid (fun (W : World) (hb : Below w.heap.size w W) => hr.below' hb)
  have HF := Lib.hid hf
  have HI := Lib.hid (fun (a b c : Int) (W : World) => within_any a b c W)
  by_cases hq : inB (fs.length : Int) 1 60 = true
  · have hl := inB_true.1 hq
    have h0 : 0 < fs.length := by omega
    obtain ⟨b, off, cap, lv, rfl, hB, hbs, hcap, q0, q1, ro⟩ := hr.at_ h0
    obtain ⟨la, lc, rfl⟩ := ro.form
    have hz : fs[0] = fs.getD 0 fn0 := (fs_getD h0).symm
    rw [hz] at q0
    obtain ⟨F, hF⟩ : ∃ F, (fs.getD 0 fn0).f = F := ⟨_, rfl⟩
    rw [hF] at q0
    rw [Nat.zero_mul, Nat.add_zero] at q0
    have h0i : (0 : Int) < (fs.length : Int) := by omega
    by_cases hF0 : F = 0
    · subst hF0
      have HH := Lib.hid (show (inB (fs.length : Int) 1 60 && ((fs.getD 0 fn0).f == 0)) = true by rw [hq, hF]; rfl)
      clear hr hf hF hz ro q1
      go_enter Try.func46, Try.ntmps46
      go_wp2_with (go_at_call 44; refine (within_any _ _ _ _).mono ?_; rw [hq]; rintro e w' ⟨rfl, rfl⟩)
      clear q0
      go_loopw [23] (fun i wr => ∃ k : Nat, k ≤ fs.length ∧ i = .int .i64 k ∧ Below w.heap.size w wr ∧ Hid (∀ j (h : j < fs.length), j < k → fnHead fs[j] = true)) (fun i _ => fs.length - (intOf i).toNat)
      case atStart => exact ⟨0, Nat.zero_le _, rfl, Below.refl _ _, Lib.hid (fun j _ h => absurd h (by omega))⟩
      case round =>
        obtain ⟨k, hk, rfl, hb, hd⟩ := hrel
        by_cases hlt : k < fs.length
        · obtain ⟨b', off', cap', lv', hs, _, hbs', _, c0, c1, ro⟩ := (HR.out _ hb).at_ hlt
          cases hs
          obtain ⟨la', lc', rfl⟩ := ro.form
          have hkl : (k : Int) < (fs.length : Int) := by omega
          obtain ⟨x, hx⟩ : ∃ x, fs[k] = x := ⟨_, rfl⟩
          obtain ⟨q3, hq3⟩ : ∃ q, inB x.f 0 20 = q := ⟨_, rfl⟩
          obtain ⟨q4, hq4⟩ : ∃ q, inB (x.os.length : Int) 1 3000 = q := ⟨_, rfl⟩
          rw [hx] at c0 c1
          have HX := Lib.hid hx
          have HB := Lib.hid hb
          clear hx ro hb
          cases q3
          · have HBAD := Lib.hid (funsOk_bad hlt (by rw [HX.out]; unfold fnHead; rw [hq3]; rfl))
            go_wp2_with (go_at_call 44; refine (within_any _ _ _ _).mono ?_; simp only [hq3]; rintro e w' ⟨rfl, rfl⟩)
            go_ret
            exact ⟨ret_bool HBAD.out.symm, HB.out.alloc HB.out.size _⟩
          cases q4
          · have HBAD := Lib.hid (funsOk_bad hlt (by rw [HX.out]; unfold fnHead; rw [hq3, hq4]; rfl))
            go_wp2_with (go_at_call 44; refine (within_any _ _ _ _).mono ?_; simp only [hq3, hq4]; rintro e w' ⟨rfl, rfl⟩)
            go_ret
            exact ⟨ret_bool HBAD.out.symm, HB.out.alloc HB.out.size _⟩
          · go_wp2_with (go_at_call 44; refine (within_any _ _ _ _).mono ?_; simp only [hq3, hq4]; rintro e w' ⟨rfl, rfl⟩)
            go_roundw
            case rel => exact ⟨k + 1, hlt, by go_num, HB.out.alloc HB.out.size _, Lib.hid (fun j h hj => by
              by_cases e : j = k
              · subst e; rw [HX.out]; unfold fnHead; rw [hq3, hq4]; rfl
              · exact hd.out j h (by omega))⟩
            case measure => simp [intOf]; omega
        · obtain rfl : k = fs.length := by omega
          have HB := Lib.hid hb
          clear hb
          go_wp2
          go_loopw [41] (fun i wr => ∃ k : Nat, k ≤ fs.length ∧ i = .int .i64 k ∧ Below w.heap.size w wr ∧ Hid (∀ j, j < k → fnOk fs j = true)) (fun i _ => fs.length - (intOf i).toNat)
          case atStart => exact ⟨0, Nat.zero_le _, rfl, HB.out, Lib.hid (fun j h => absurd h (by omega))⟩
          case round =>
            clear HB
            obtain ⟨k, hk, rfl, hb, hd2⟩ := hrel
            by_cases hlt : k < fs.length
            · obtain ⟨b', off', cap', lv', hs, _, hbs', _, c0, c1, ro⟩ := (HR.out _ hb).at_ hlt
              cases hs
              obtain ⟨la', lc', rfl⟩ := ro.form
              have hkl : (k : Int) < (fs.length : Int) := by omega
              have hhd := hd.out k hlt hlt
              unfold fnHead at hhd
              rw [Bool.and_eq_true] at hhd
              have hh1 := inB_true.1 hhd.1
              have hh2 := inB_true.1 hhd.2
              have hoi := (HF.out _ (List.getElem_mem hlt)).2
              have HO := Lib.hid (fun (W : World) (hb : Below w.heap.size w W) (o : O3) (ho : o3In o) => iOpOk_any _ fs k o W (HR.out W hb) hlt ho hh1 (by omega) (by omega))
              have HOI := Lib.hid hoi
              obtain ⟨x, hx⟩ : ∃ x, fs[k] = x := ⟨_, rfl⟩
              rw [hx] at c0 c1 ro hh2
              have HOX := Lib.hid (by rw [hx] at hoi; exact hoi : ∀ o ∈ x.os, o3In o)
              have HX := Lib.hid hx
              have RO := Lib.hid (fun (W : World) (h : Below wr.heap.size wr W) => RdE.below' ro h)
              have HB := Lib.hid hb
              have hbz := hb.size
              clear hx hb hhd hh1 hoi ro
              go_wp2_with fail
              clear c0 c1
              generalize hz : wr.alloc _ = z
              obtain ⟨bz, kz⟩ := Bx.alloc hz
              clear hz
              have BZ := Lib.hid bz
              have KZ := Lib.hid kz
              have hzz := bz.size
              clear bz kz
              go_loopw [49] (fun i wy => ∃ t : Nat, t ≤ x.os.length ∧ i = .int .i64 t ∧ Below z.heap.size z wy ∧ Hid (∀ j (h : j < x.os.length), j < t → opOk fs k x.os[j] = true)) (fun i _ => x.os.length - (intOf i).toNat)
              case atStart => exact ⟨0, Nat.zero_le _, rfl, Below.refl _ _, Lib.hid (fun j _ h => absurd h (by omega))⟩
              case round =>
                obtain ⟨t, ht, rfl, hb, hd3⟩ := hrel
                have hbr := BZ.out.trans (hb.mono BZ.out.size)
                have hbw := HB.out.trans (hbr.mono hbz)
                by_cases htl : t < x.os.length
                · obtain ⟨bo, offo, capo, hso, _, hbso, _, d0, d1, d2⟩ := RdO.at_ (RO.out _ hbr) htl
                  cases hso
                  have htt : (t : Int) < (x.os.length : Int) := by omega
                  have hoo := HOX.out _ (List.getElem_mem htl)
                  obtain ⟨q5, hq5⟩ : ∃ q, opOk fs k x.os[t] = q := ⟨_, rfl⟩
                  have ho := fun (W : World) (hb : Below w.heap.size w W) => HO.out W hb x.os[t] hoo
                  rw [hq5] at ho
                  have HO5 := Lib.hid ho
                  have HQ5 := Lib.hid hq5
                  have HB3 := Lib.hid hb
                  have HBW := Lib.hid hbw
                  clear ho hq5 hoo hb hbr hbw
                  go_wp2_with fail
                  refine (HO5.out _ (HBW.out.alloc HBW.out.size _)).mono ?_
                  rintro e w9 ⟨rfl, b9⟩
                  have b9z : Below z.heap.size z w9 := (HB3.out.alloc HB3.out.size _).trans (b9.mono (by simp; have := HB3.out.size; omega))
                  have B9 := Lib.hid b9z
                  have BW9 := Lib.hid ((HBW.out.alloc HBW.out.size _).trans (b9.mono (by simp; have := HBW.out.size; omega)))
                  clear b9 b9z d0 d1 d2 HB3 HBW HO5
                  cases q5
                  · have HBAD := Lib.hid (funsOk_fn hlt (fnOk_op hlt (by rw [HX.out]; exact htl) (by have := HQ5.out; simp only [HX.out]; exact this)))
                    go_wp2
                    go_ret
                    exact ⟨ret_bool HBAD.out.symm, BW9.out⟩
                  · go_wp2
                    go_roundw
                    case rel => exact ⟨t + 1, htl, by go_num, B9.out, Lib.hid (fun j h hj => by
                      by_cases e : j = t
                      · subst e; exact HQ5.out
                      · exact hd3.out j h (by omega))⟩
                    case measure => simp [intOf]; omega
                · obtain rfl : t = x.os.length := by omega
                  obtain ⟨E, hE⟩ : ∃ E : Nat, x.os.length - 1 = E := ⟨_, rfl⟩
                  have hEl : E < x.os.length := by omega
                  obtain ⟨bo, offo, capo, hso, _, hbso, _, d0, _, _⟩ := RdO.at_ (RO.out _ hbr) hEl
                  cases hso
                  have e1 : IntKind.i64.wrap ((x.os.length : Int) - 1) = (E : Int) := by rw [IntWalk.i64_in _ (by omega)]; omega
                  have e2 : (E : Int) < (x.os.length : Int) := by omega
                  have kz := KZ.out.below hb KZ.out.1
                  have qz := kz.2.1
                  have yz := kz.1
                  obtain ⟨C, hC⟩ : ∃ C, x.os[E].c = C := ⟨_, rfl⟩
                  rw [hC] at d0
                  have hlc : lastC x = C := by
                    obtain ⟨_, h2⟩ := lastC_at (x := x) rfl (by omega)
                    rw [← h2, ← hC]
                    simp only [hE]
                  have HLC := Lib.hid hlc
                  have HB3 := Lib.hid hb
                  have HBW := Lib.hid hbw
                  have HD3 := hd3
                  clear hC hlc hE hb hbr hbw kz
                  by_cases hC : C = 7 ∨ C = 19 ∨ C = 21
                  · have HYES := Lib.hid (fnOk_yes hlt (fun j hj => by
                      have h1 : j < x.os.length := by rw [← HX.out]; exact hj
                      have h2 := HD3.out j h1 h1
                      simp only [HX.out]
                      exact h2) (by rw [HX.out]; unfold fnLast; rw [HLC.out]; rcases hC with rfl | rfl | rfl <;> rfl))
                    rcases hC with rfl | rfl | rfl
                    all_goals go_wp2
                    all_goals go_roundw
                    all_goals first
                      | exact ⟨k + 1, hlt, by go_num, HBW.out, Lib.hid (fun j hj => by
                          by_cases e : j = k
                          · subst e; exact HYES.out
                          · exact hd2.out j (by omega))⟩
                      | (simp [intOf]; omega)
                  · have HBAD := Lib.hid (funsOk_fn hlt (fnOk_last hlt (by rw [HX.out]; unfold fnLast; rw [HLC.out]; simp; omega)))
                    have n1 : (C != 7) = true := by simp; omega
                    have n2 : (C != 19) = true := by simp; omega
                    have n3 : (C != 21) = true := by simp; omega
                    have n4 : C ≠ 7 := by omega
                    have n5 : C ≠ 19 := by omega
                    have n6 : C ≠ 21 := by omega
                    clear hC
                    go_wp2
                    go_ret
                    exact ⟨ret_bool HBAD.out.symm, HBW.out⟩
            · obtain rfl : k = fs.length := by omega
              have HYES := Lib.hid (funsOk_yes HH.out (fun j h => hd.out j h h) (fun j hj => hd2.out j hj))
              go_wp2
              go_ret
              exact ⟨ret_bool HYES.out.symm, hb⟩
    · have HH := Lib.hid (funsOk_head (fs := fs) (by rw [hF]; simp [hF0]))
      have hFn : (F != 0) = true := by simp [hF0]
      clear hr hf hF hz ro q1
      go_enter Try.func46, Try.ntmps46
      go_wp2_with (go_at_call 44; refine (within_any _ _ _ _).mono ?_; rw [hq]; rintro e w' ⟨rfl, rfl⟩)
      go_ret
      exact ⟨ret_bool HH.out.symm, Below.refl _ _⟩
  · have hq : inB (fs.length : Int) 1 60 = false := by simpa using hq
    have HH := Lib.hid (funsOk_head (fs := fs) (by rw [hq]; rfl))
    obtain ⟨a, cap, rfl⟩ := hr.form
    clear hr hf
    go_enter Try.func46, Try.ntmps46
    go_wp2_with (go_at_call 44; refine (within_any _ _ _ _).mono ?_; rw [hq]; rintro e w' ⟨rfl, rfl⟩)
    go_ret
    exact ⟨ret_bool HH.out.symm, Below.refl _ _⟩

end Go.Proofs.Ytlkdlcpfcacigaa
