/- callsOk: whether a machine's calls are right. -/
import Derived.Test.YtkpkofddfjgmpaaFunsOk
import Derived.Test.YtkpkofddfjgmpaaOpenV
import Derived.Test.YtkpkofddfjgmpaaScalar
import Derived.BigQuiet
namespace Go.Proofs.Ytkpkofddfjgmpaa
open Go.RowKit
set_option linter.unusedVariables false
set_option linter.unusedSimpArgs false

def c0 : O3 := ⟨0, 0, 0⟩
def callOk (fs : List F2) (ns : Nat) (cs : List O3) (i : Nat) : Bool :=
  (inB (cs.getD i c0).c 0 ((fs.length : Int) - 1) && inB (cs.getD i c0).n 0 (((fs.getD (cs.getD i c0).c.toNat fn0).os.length : Int) - 1)) && (inB (cs.getD i c0).m 1 ((ns : Int) - 1) && (decide (i = 0) || decide ((cs.getD (i - 1) c0).m < (cs.getD i c0).m)))
def callsAll (fs : List F2) (ns : Nat) (cs : List O3) : Bool := (List.range cs.length).all (callOk fs ns cs)
def callsOk (fs : List F2) (ns : Nat) (cs : List O3) (code : Int) : Bool := callsAll fs ns cs && (decide (cs.length ≤ 120) && ((code != 0) || decide (0 < cs.length)))
theorem callsAll_bad {fs : List F2} {ns : Nat} {cs : List O3} {i : Nat} (hi : i < cs.length) (h : callOk fs ns cs i = false) : callsAll fs ns cs = false := by
  unfold callsAll
  rw [List.all_eq_false]
  exact ⟨i, List.mem_range.2 hi, by simp [h]⟩
theorem callsAll_yes {fs : List F2} {ns : Nat} {cs : List O3} (h : ∀ j, j < cs.length → callOk fs ns cs j = true) : callsAll fs ns cs = true := by
  unfold callsAll
  rw [List.all_eq_true]
  exact fun j hj => h j (List.mem_range.1 hj)
theorem cs_getD {cs : List O3} {i : Nat} (h : i < cs.length) : cs.getD i c0 = cs[i] := by rw [List.getD_eq_getElem?_getD, List.getElem?_eq_getElem h]; rfl

set_option maxHeartbeats 3200000 in
set_option maxRecDepth 100000 in
theorem iCallsOk_any {B : Nat} (fv hv sv cv ov : Value) (L : VmL) (w : World) (hr : RdV B w fv hv sv cv ov L) (hl : vmSz L ≤ 1048576) :
    Calls Try.prog 97 #[vmV fv hv sv cv ov L] w fun e w' => e = .returned (.bool (callsOk L.fs L.ss.length L.cs L.code)) ∧ Below w.heap.size w w' := by
  obtain ⟨fs, zs, h, b, n, ss, cs, os, code, each⟩ := L
  unfold vmSz at hl
  dsimp only at hl ⊢
  have RF := Lib.hid (fun (W : World) (hb : Below w.heap.size w W) => hr.f.below' hb)
  have RC := Lib.hid (fun (W : World) (hb : Below w.heap.size w W) => RdE.below' hr.c hb)
  obtain ⟨fa, fc, rfl⟩ := hr.f.form
  obtain ⟨ha, hc, rfl⟩ := hr.z.form
  obtain ⟨sa, sc, rfl⟩ := hr.s.form
  obtain ⟨ca, cc, rfl⟩ := hr.c.form
  obtain ⟨oa, oc, rfl⟩ := hr.o.form
  clear hr
  unfold vmV
  dsimp only at RF RC ⊢
  have e1 : IntKind.i64.wrap ((fs.length : Int) - 1) = (fs.length : Int) - 1 := IntWalk.i64_in _ (by omega)
  have e2 : IntKind.i64.wrap ((ss.length : Int) - 1) = (ss.length : Int) - 1 := IntWalk.i64_in _ (by omega)
  have HW := Lib.hid (fun (a b c : Int) (W : World) => (within_any a b c W).mono (fun e w' h => And.intro h.1 h.2.symm))
  go_enter Try.func97, Try.ntmps97
  go_wp2_with fail
  generalize hx : w.alloc _ = x
  obtain ⟨bx, k1⟩ := Bx.alloc hx
  clear hx
  have qx := k1.2.1
  have BX := Lib.hid bx
  have K1 := Lib.hid k1
  have hxz := bx.size
  clear bx k1
  go_wp2
  clear qx
  go_loopw [8] (fun i wr => ∃ k : Nat, k ≤ cs.length ∧ i = .int .i64 k ∧ Below x.heap.size x wr ∧ Hid (∀ j, j < k → callOk fs ss.length cs j = true)) (fun i _ => cs.length - (intOf i).toNat)
  case atStart => exact ⟨0, Nat.zero_le _, rfl, Below.refl _ _, Lib.hid (fun j h => absurd h (by omega))⟩
  case round =>
    obtain ⟨k, hk, rfl, hb, hd⟩ := hrel
    have hbw := BX.out.trans (hb.mono hxz)
    have k1 := K1.out.below hb K1.out.1
    have q1 := k1.2.1
    have y1 := k1.1
    by_cases hlt : k < cs.length
    · obtain ⟨bo, offo, capo, hso, _, hbso, _, d0, d1, d2⟩ := RdO.at_ (RC.out _ hbw) hlt
      cases hso
      have hkl : (k : Int) < (cs.length : Int) := by omega
      obtain ⟨o, ho⟩ : ∃ o, cs[k] = o := ⟨_, rfl⟩
      have hog : cs.getD k c0 = o := by rw [cs_getD hlt, ho]
      rw [ho] at d0 d1 d2
      obtain ⟨a, p, m⟩ := o
      dsimp only at d0 d1 d2
      have HOG := Lib.hid hog
      have HB := Lib.hid hb
      have HBW := Lib.hid hbw
      have hbz := hb.size
      have HRF := Lib.hid (fun (W : World) (h : Below wr.heap.size wr W) => RF.out W (HBW.out.trans (h.mono (by have := HBW.out.size; omega))))
      clear ho hog hb hbw k1
      go_wp2_with fail
      generalize hz : wr.alloc _ = z
      obtain ⟨bz, kz⟩ := Bx.alloc hz
      clear hz
      replace q1 : ∀ j : Nat, z.cell? ⟨w.heap.size, j, none⟩ = _ := fun j => (bz.cell (p := ⟨w.heap.size, j, none⟩) y1).trans (q1 j)
      have qz := kz.2.1
      have HD0 := Lib.hid (fun (t : Nat) => bz.cell (p := ⟨bo, t, none⟩) hbso)
      have BZ := Lib.hid bz
      have hzz := bz.size
      clear bz kz d0 d1 d2
      have HB4 := Lib.hid (HB.out.trans (BZ.out.mono HB.out.size))
      by_cases ha : inB a 0 ((fs.length : Int) - 1) = true
      · have ha2 := inB_true.1 ha
        obtain ⟨ka, rfl⟩ : ∃ k : Nat, a = (k : Int) := ⟨a.toNat, by omega⟩
        have hka : ka < fs.length := by omega
        obtain ⟨bf, offf, capf, lv, hsf, _, hbsf, _, _, c1, ro⟩ := (HRF.out _ BZ.out).at_ hka
        cases hsf
        obtain ⟨la, lc, rfl⟩ := ro.form
        obtain ⟨E, hE⟩ : ∃ E, fs[ka].os.length = E := ⟨_, rfl⟩
        rw [hE] at c1
        have hEb : E ≤ 1048576 := by have := tot_mem (List.getElem_mem hka); omega
        have hFE : (fs.getD (ka : Int).toNat fn0).os.length = E := by rw [Int.toNat_natCast, fs_getD hka, hE]
        have HFE := Lib.hid hFE
        have e3 : IntKind.i64.wrap ((E : Int) - 1) = (E : Int) - 1 := IntWalk.i64_in _ (by omega)
        have hka0 : (0 : Int) ≤ (ka : Int) := by omega
        have hka1 : (ka : Int) < (fs.length : Int) := by omega
        have H1 := Lib.hid (fun (W : World) => (by have := HW.out (ka : Int) 0 ((fs.length : Int) - 1) W; rw [ha] at this; exact this : Calls Try.prog 62 #[.int .i64 (ka : Int), .int .i64 0, .int .i64 ((fs.length : Int) - 1)] W _))
        have HA := Lib.hid ha
        clear ro hE hFE ha2 ha
        by_cases hp : inB p 0 ((E : Int) - 1) = true
        · have H2 := Lib.hid (fun (W : World) => (by have := HW.out p 0 ((E : Int) - 1) W; rw [hp] at this; exact this : Calls Try.prog 62 #[.int .i64 p, .int .i64 0, .int .i64 ((E : Int) - 1)] W _))
          have HP := Lib.hid hp
          clear hp
          by_cases hm : inB m 1 ((ss.length : Int) - 1) = true
          · have H3 := Lib.hid (fun (W : World) => (by have := HW.out m 1 ((ss.length : Int) - 1) W; rw [hm] at this; exact this : Calls Try.prog 62 #[.int .i64 m, .int .i64 1, .int .i64 ((ss.length : Int) - 1)] W _))
            have HM := Lib.hid hm
            clear hm
            by_cases hk0 : k = 0
            · subst hk0
              go_quiet ((go_at_call 62; first | (with_reducible exact Calls.quiet_of_same (H1.out _)) | (with_reducible exact Calls.quiet_of_same (H2.out _)) | (with_reducible exact Calls.quiet_of_same (H3.out _))))
              go_wp2
              go_roundw
              case rel => exact ⟨1, hlt, by go_num, below_drewN HB4.out nq, Lib.hid (fun j hj => by
                obtain rfl : j = 0 := by omega
                unfold callOk
                rw [HOG.out]
                dsimp only
                rw [HFE.out, HA.out, HP.out, HM.out]
                rfl)⟩
              case measure => simp [intOf]; omega
            · obtain ⟨kp, rfl⟩ : ∃ kp, k = kp + 1 := ⟨k - 1, by omega⟩
              obtain ⟨b2, off2, cap2, hs2, _, _, _, _, _, c5⟩ := RdO.at_ (RC.out _ (HBW.out.trans (BZ.out.mono (by have := HBW.out.size; omega)))) (show kp < cs.length by omega)
              cases hs2
              obtain ⟨pm, hpm⟩ : ∃ pm, cs[kp].m = pm := ⟨_, rfl⟩
              rw [hpm] at c5
              have HPM := Lib.hid (show (cs.getD kp c0).m = pm by rw [cs_getD (by omega), hpm])
              have e4 : IntKind.i64.wrap (((kp + 1 : Nat) : Int) - 1) = (kp : Int) := by rw [IntWalk.i64_in _ (by omega)]; omega
              have e5 : IntKind.i64.wrap ((kp : Int) + 1 - 1) = (kp : Int) := by rw [IntWalk.i64_in _ (by omega)]; omega
              have hg0 : (0 : Int) < (kp : Int) + 1 := by omega
              have hkp : (kp : Int) < (cs.length : Int) := by omega
              by_cases hlm : m ≤ pm
              · have HBAD := Lib.hid (callsAll_bad (fs := fs) (ns := ss.length) hlt (by
                  unfold callOk
                  rw [HOG.out, Nat.add_sub_cancel, HPM.out]
                  dsimp only
                  rw [show decide (pm < m) = false by simp; omega]
                  simp))
                clear hpm
                go_quiet ((go_at_call 62; first | (with_reducible exact Calls.quiet_of_same (H1.out _)) | (with_reducible exact Calls.quiet_of_same (H2.out _)) | (with_reducible exact Calls.quiet_of_same (H3.out _))))
                go_wp2
                go_ret
                exact ⟨ret_bool (by unfold callsOk; rw [HBAD.out]; rfl), BX.out.trans ((below_drewN HB4.out nq).mono hxz)⟩
              · have hlm2 : ¬ (m ≤ pm) := hlm
                clear hpm
                go_quiet ((go_at_call 62; first | (with_reducible exact Calls.quiet_of_same (H1.out _)) | (with_reducible exact Calls.quiet_of_same (H2.out _)) | (with_reducible exact Calls.quiet_of_same (H3.out _))))
                go_wp2
                go_roundw
                case rel => exact ⟨kp + 1 + 1, hlt, by go_num, below_drewN HB4.out nq, Lib.hid (fun j hj => by
                  by_cases e : j = kp + 1
                  · subst e
                    unfold callOk
                    rw [HOG.out, Nat.add_sub_cancel, HPM.out]
                    dsimp only
                    rw [HFE.out, HA.out, HP.out, HM.out, show decide (pm < m) = true by simp; omega]
                    simp
                  · exact hd.out j (by omega))⟩
                case measure => simp [intOf]; omega
          · have hm : inB m 1 ((ss.length : Int) - 1) = false := by simpa using hm
            have H3 := Lib.hid (fun (W : World) => (by have := HW.out m 1 ((ss.length : Int) - 1) W; rw [hm] at this; exact this : Calls Try.prog 62 #[.int .i64 m, .int .i64 1, .int .i64 ((ss.length : Int) - 1)] W _))
            have HBAD := Lib.hid (callsAll_bad (fs := fs) (ns := ss.length) hlt (by
              unfold callOk
              rw [HOG.out]
              dsimp only
              rw [hm]
              simp))
            clear hm
            go_quiet ((go_at_call 62; first | (with_reducible exact Calls.quiet_of_same (H1.out _)) | (with_reducible exact Calls.quiet_of_same (H2.out _)) | (with_reducible exact Calls.quiet_of_same (H3.out _))))
            go_wp2
            go_ret
            exact ⟨ret_bool (by unfold callsOk; rw [HBAD.out]; rfl), BX.out.trans ((below_drewN HB4.out nq).mono hxz)⟩
        · have hp : inB p 0 ((E : Int) - 1) = false := by simpa using hp
          have H2 := Lib.hid (fun (W : World) => (by have := HW.out p 0 ((E : Int) - 1) W; rw [hp] at this; exact this : Calls Try.prog 62 #[.int .i64 p, .int .i64 0, .int .i64 ((E : Int) - 1)] W _))
          have H3 := H2
          have HBAD := Lib.hid (callsAll_bad (fs := fs) (ns := ss.length) hlt (by
            unfold callOk
            rw [HOG.out]
            dsimp only
            rw [HFE.out, hp]
            simp))
          clear hp
          go_quiet ((go_at_call 62; first | (with_reducible exact Calls.quiet_of_same (H1.out _)) | (with_reducible exact Calls.quiet_of_same (H2.out _)) | (with_reducible exact Calls.quiet_of_same (H3.out _))))
          go_wp2
          go_ret
          exact ⟨ret_bool (by unfold callsOk; rw [HBAD.out]; rfl), BX.out.trans ((below_drewN HB4.out nq).mono hxz)⟩
      · have ha : inB a 0 ((fs.length : Int) - 1) = false := by simpa using ha
        have H1 := Lib.hid (fun (W : World) => (by have := HW.out a 0 ((fs.length : Int) - 1) W; rw [ha] at this; exact this : Calls Try.prog 62 #[.int .i64 a, .int .i64 0, .int .i64 ((fs.length : Int) - 1)] W _))
        have H2 := H1
        have H3 := H1
        have HBAD := Lib.hid (callsAll_bad (fs := fs) (ns := ss.length) hlt (by
          unfold callOk
          rw [HOG.out]
          dsimp only
          rw [ha]
          rfl))
        clear ha
        go_quiet ((go_at_call 62; first | (with_reducible exact Calls.quiet_of_same (H1.out _)) | (with_reducible exact Calls.quiet_of_same (H2.out _)) | (with_reducible exact Calls.quiet_of_same (H3.out _))))
        go_wp2
        go_ret
        exact ⟨ret_bool (by unfold callsOk; rw [HBAD.out]; rfl), BX.out.trans ((below_drewN HB4.out nq).mono hxz)⟩
    · obtain rfl : k = cs.length := by omega
      have HYES := Lib.hid (callsAll_yes (fun j hj => hd.out j hj))
      have HBW := Lib.hid hbw
      clear hb hbw k1
      by_cases hc1 : cs.length ≤ 120
      · have c1 : (cs.length : Int) ≤ 120 := by omega
        by_cases hc2 : code = 0
        · subst hc2
          by_cases hc3 : 0 < cs.length
          · have c3 : (0 : Int) < (cs.length : Int) := by omega
            go_wp2
            go_ret
            exact ⟨ret_bool (by unfold callsOk; rw [HYES.out, decide_eq_true hc1, decide_eq_true hc3]; rfl), HBW.out⟩
          · have c3 : ¬ ((0 : Int) < (cs.length : Int)) := by omega
            go_wp2
            go_ret
            exact ⟨ret_bool (by unfold callsOk; rw [HYES.out, decide_eq_true hc1, decide_eq_false hc3]; rfl), HBW.out⟩
        · have c2 : (code != 0) = true := by simp [hc2]
          go_wp2
          go_ret
          exact ⟨ret_bool (by unfold callsOk; rw [HYES.out, decide_eq_true hc1, c2]; rfl), HBW.out⟩
      · have c1 : ¬ ((cs.length : Int) ≤ 120) := by omega
        go_wp2
        go_ret
        exact ⟨ret_bool (by unfold callsOk; rw [HYES.out, decide_eq_false hc1]; rfl), HBW.out⟩

end Go.Proofs.Ytkpkofddfjgmpaa
