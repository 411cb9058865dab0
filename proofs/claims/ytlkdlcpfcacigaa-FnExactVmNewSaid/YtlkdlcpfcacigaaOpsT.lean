/- toOpS: a copy of a slice of places, in a new row. -/
import Derived.Test.YtlkdlcpfcacigaaMgElem
import Derived.Test.YtlkdlcpfcacigaaToI
namespace Go.Proofs.Ytlkdlcpfcacigaa
open Go.RowKit
set_option linter.unusedVariables false

theorem Try.infoOp2 : (Try.prog.info? 74).map (fun i => (i.zero, i.size, i.bytes)) = some (some (.agg #[.int .i64 0, .int .i64 0, .int .i64 0]), 3, 24) := by kernel_rfl

set_option maxHeartbeats 800000 in
theorem toOpS_any {B : Nat} (v : Value) (os : List O3) (w : World) (hr : RdO B w v os) (hn : os.length ≤ 4294967296) :
    Calls Try.prog 43 #[v] w fun e w' => ∃ v', e = .returned v' ∧ w'.ownsRow w.heap.size 74 3 v' os.length (flat O3.enc os) ∧ Below w.heap.size w w' := by
  obtain ⟨i0, hi, hz0, hz1, hz2⟩ := info_parts Try.infoOp2
  have HR := Lib.hid hr
  obtain ⟨a, cap, rfl⟩ := hr.form
  clear hr
  go_enter Try.func43, Try.ntmps43
  go_wp2_with (refine wpList_make_full _ rfl (.tmp 6) (.tmp 6) 50 rfl w.heap.size 74 i0 (.agg #[.int .i64 0, .int .i64 0, .int .i64 0]) 3 Try.underlying50 hi hz0 hz1 .i64 .i64 _ _ os.length rfl rfl rfl rfl ?_ ?_ ?_ ?_)
  · rw [hz2]; omega
  · unfold maxLen; omega
  · exact Nat.le_refl _
  · intro w1 hown hgrow
    have hb1 : Below w.heap.size w w1 := (Below.refl _ _).grown hgrow (Nat.le_refl _) (by simp)
    obtain ⟨xs, hown, hlen⟩ : ∃ xs, w1.ownsRow w.heap.size 74 3 (.slice (some ⟨w.heap.size, 0, none⟩) os.length os.length) os.length xs ∧ xs.length = os.length * 3 := ⟨_, hown, by simpa using hown.1⟩
    have HL := Lib.hid hlen
    clear hlen
    go_wp2
    go_loopw [4] (fun i wr => ∃ k : Nat, k ≤ os.length ∧ i = .int .i64 k ∧ wr.ownsRow w.heap.size 74 3 (.slice (some ⟨w.heap.size, 0, none⟩) os.length os.length) os.length (rowE O3.enc 3 os xs k) ∧ Below w.heap.size w wr) (fun i _ => os.length - (intOf i).toNat)
    case atStart => exact ⟨0, Nat.zero_le _, rfl, by rw [rowE_zero]; exact hown, hb1⟩
    case round =>
      obtain ⟨k, hk, rfl, ho, hb⟩ := hrel
      by_cases hlt : k < os.length
      · obtain ⟨b, off, cap', hs, hB, hbs, hcap, c0, c1, c2⟩ := RdO.at_ HR.out hlt
        cases hs
        replace c0 := (hb.cell (p := ⟨b, off + k * 3, none⟩) hbs).trans c0
        replace c1 := (hb.cell (p := ⟨b, off + k * 3 + 1, none⟩) hbs).trans c1
        replace c2 := (hb.cell (p := ⟨b, off + k * 3 + 2, none⟩) hbs).trans c2
        go_wp2_with fail
        refine (toOp_any _ _ _ _).mono ?_
        rintro e w2 ⟨rfl, b2⟩
        replace ho := own_below ho b2 (own_lt ho)
        replace hb := hb.trans (b2.mono hb.size)
        clear c0 c1 c2 b2
        have hrl : (rowE O3.enc 3 os xs k).length = os.length * 3 := rowE_len O3.enc_len HL.out hk
        have d0 := own_cellN ho (k * 3) (by omega)
        have d1 := own_cellN ho (k * 3 + 1) (by omega)
        have d2 := own_cellN ho (k * 3 + 2) (by omega)
        rw [List.getElem?_eq_getElem (by omega)] at d0 d1 d2
        have f0 := own_frozen ho (k * 3)
        have f1 := own_frozen ho (k * 3 + 1)
        have f2 := own_frozen ho (k * 3 + 2)
        go_wp2
        go_roundw
        case rel =>
          refine ⟨k + 1, hlt, by go_num, ?_, ((hb.setCell (Nat.le_refl _) _).setCell (Nat.le_refl _) _).setCell (Nat.le_refl _) _⟩
          rw [← rowE_set3 O3.enc_len HL.out (List.getElem?_eq_getElem hlt) rfl]
          exact own_setN (own_setN (own_setN ho _ (by omega) _) _ (by omega) _) _ (by omega) _
        case measure => simp [intOf]; omega
      · obtain rfl : k = os.length := by omega
        go_wp2
        go_ret
        refine ⟨_, rfl, ?_, hb⟩
        rw [← rowE_all HL.out]
        exact ho

end Go.Proofs.Ytlkdlcpfcacigaa
