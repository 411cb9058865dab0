/- szFunS: how much is left. -/
import Derived.Test.YtkpkofddfjgmpaaFuns
namespace Go.Proofs.Ytkpkofddfjgmpaa
open Go.RowKit
set_option linter.unusedVariables false

set_option maxHeartbeats 800000 in
theorem szFunS_any {B : Nat} (v : Value) (fs : List F2) (left : Int) (w : World) (hr : RdF B w v fs) (h0 : -1 ≤ left) (h1 : left ≤ 4611686018427387904) :
    Calls Try.prog 38 #[v, .int .i64 left] w fun e w' => e = .returned (.int .i64 (szOf (fs.length + tot fs) left)) ∧ Below w.heap.size w w' := by
  have hx := hr.len
  unfold maxLen at hx
  have HR := Lib.hid (fun (W : World) (hb : Below w.heap.size w W) => hr.below' hb)
  obtain ⟨a, cap, rfl⟩ := hr.form
  clear hr
  by_cases hneg : left - fs.length < 0
  · have HF := Lib.hid (show szOf (fs.length + tot fs) left = -1 from if_pos (by omega))
    go_enter Try.func38, Try.ntmps38
    go_wp2
    go_ret
    exact ⟨ret_int HF.out.symm, Below.refl _ _⟩
  · go_enter Try.func38, Try.ntmps38
    go_wp2
    go_loopw [1, 5] (fun l i wr => ∃ k : Nat, ∃ L : Int, k ≤ fs.length ∧ i = .int .i64 k ∧ l = .int .i64 L ∧ Hid (L = left - fs.length - tot (fs.take k)) ∧ 0 ≤ L ∧ L ≤ 4611686018427387904 ∧ Below w.heap.size w wr) (fun _ i _ => fs.length - (intOf i).toNat)
    case atStart => exact ⟨0, _, Nat.zero_le _, rfl, rfl, Lib.hid (by simp [tot]), by omega, by omega, Below.refl _ _⟩
    case round =>
      obtain ⟨k, L, hk, rfl, rfl, hL, hL0, hL1, hb⟩ := hrel
      by_cases hlt : k < fs.length
      · obtain ⟨b, off, cap', lv, hs, hB, hbs, hcap, c0, c1, ro⟩ := (HR.out _ hb).at_ hlt
        cases hs
        obtain ⟨la, lc, rfl⟩ := ro.form
        have hz := szFun_any fs[k].f _ fs[k].os L wr ro (by omega) hL1
        have htk := tot_take hlt
        obtain ⟨Z, hZ⟩ : ∃ Z, szOf fs[k].os.length L = Z := ⟨_, rfl⟩
        rw [hZ] at hz
        have HZ := Lib.hid hz
        have HZZ := Lib.hid hZ
        have HTK := Lib.hid htk
        have BB := Lib.hid hb
        have hkl : (k : Int) < (fs.length : Int) := by omega
        clear hz hZ htk hb ro
        go_wp2_with fail
        refine HZ.out.mono ?_
        rintro e w2 ⟨rfl, b2⟩
        have B2 := Lib.hid (BB.out.trans (b2.mono BB.out.size))
        clear BB b2 c0 c1 HZ
        by_cases hZn : Z < 0
        · go_wp2
          go_ret
          refine ⟨ret_int ?_, B2.out⟩
          have h1 := HZZ.out
          have h2 := hL.out
          have h3 : tot (fs.take (k + 1)) ≤ tot fs := by
            have e : tot fs = tot (fs.take (k + 1)) + tot (fs.drop (k + 1)) := by
              unfold tot
              rw [← List.sum_append, ← List.map_append, List.take_append_drop]
            omega
          have h4 := HTK.out
          unfold szOf at h1 ⊢
          split at h1 <;> rw [if_pos (by omega)] <;> omega
        · go_wp2
          go_roundw
          case rel =>
            have h1 := HZZ.out
            have h2 := hL.out
            have h4 := HTK.out
            unfold szOf at h1
            split at h1
            · omega
            · exact ⟨k + 1, Z, hlt, by go_num, rfl, Lib.hid (by omega), by omega, by omega, B2.out⟩
          case measure => simp [intOf]; omega
      · obtain rfl : k = fs.length := by omega
        rw [List.take_length] at hL
        go_wp2
        go_ret
        refine ⟨ret_int ?_, hb⟩
        have h2 := hL.out
        unfold szOf
        rw [if_neg (by omega)]
        omega

end Go.Proofs.Ytkpkofddfjgmpaa
