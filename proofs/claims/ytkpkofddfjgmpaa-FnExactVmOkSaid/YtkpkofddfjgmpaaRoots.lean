/- rootsOk, l18Right: whether a heap and roots are right. -/
import Derived.Test.YtkpkofddfjgmpaaMoveP
import Derived.Test.YtkpkofddfjgmpaaContains
namespace Go.Proofs.Ytkpkofddfjgmpaa
open Go.RowKit
set_option linter.unusedVariables false

set_option maxHeartbeats 800000 in
set_option maxRecDepth 100000 in
theorem iRootsOk_any {B : Nat} (v vr : Value) (ws rs : List Int) (h b n : Int) (w : World) (hr : Rd B .i64 w v ws) (hw : intsOk ws) (hlen : ws.length ≤ 4294967296) (hq : Rd B .i64 w vr rs)
    (bh : -9223372036854775808 ≤ h ∧ h ≤ 9223372036854775807) (ib : -9223372036854775808 ≤ b ∧ b ≤ 9223372036854775807) (bn : -9223372036854775808 ≤ n ∧ n ≤ 9223372036854775807) :
    Calls Try.prog 96 #[.agg #[v, .int .i64 h, .int .i64 b, .int .i64 n], vr] w fun e w' => e = .returned (.bool (rightOf ws h b n rs)) ∧ Below w.heap.size w w' := by
  have hO := fun (W : World) (hb : Below w.heap.size w W) => iHeapOk_any v ws h b n W (hr.below' hb) hw hlen bh ib bn
  have RQ := Lib.hid (fun (W : World) (hb : Below w.heap.size w W) => hq.below' hb)
  obtain ⟨a, cap, hv⟩ := hr.form
  obtain ⟨qa, qc, rfl⟩ := hq.form
  cases hok : heapOk ws h b n
  · rw [hok] at hO
    have HO := Lib.hid hO
    have HF := Lib.hid (rightOf_not (rs := rs) hok)
    subst hv
    clear hO hr hw bh ib bn hok hq
    go_enter Try.func96, Try.ntmps96
    go_wp2_with fail
    generalize hx : w.alloc _ = x
    obtain ⟨bb, k1⟩ := Bx.alloc hx
    clear hx
    refine (HO.out _ bb).mono ?_
    rintro e w1 ⟨rfl, b1⟩
    replace k1 := k1.below b1 k1.1
    replace bb := bb.trans (b1.mono bb.size)
    clear b1
    go_wp2
    go_ret
    exact ⟨ret_bool HF.out.symm, bb⟩
  · rw [hok] at hO
    have HO := Lib.hid hO
    obtain ⟨h', b', n', ps, rfl, rfl, rfl, hR⟩ := Right.of hok
    have hS := fun (W : World) (hb : Below w.heap.size w W) => starts_any v ws h' b' n' W (hr.below' hb) hw hR.frame
    rw [hR.some] at hS
    have HS := Lib.hid hS
    have HF := Lib.hid (rightOf_at (rs := rs) hok hR.some)
    have hC := fun (g : Nat) (u : Value) (W : World) (r : Rd W.heap.size .i64 W u (nums ps)) (hg : W.cell? ⟨g, 0, none⟩ = some u) (hu : Rd w.heap.size .i64 W (.slice qa rs.length qc) rs) =>
      rootsOk1_contains g u (.slice qa rs.length qc) ps rs W r hR.sorted (by have := hR.len; have := hR.n_le; omega) hg hu
    have HC := Lib.hid hC
    subst hv
    clear hO hr hw bh ib bn hok hq hS hR hC
    go_enter Try.func96, Try.ntmps96
    go_wp2_with fail
    generalize hx : w.alloc _ = x
    obtain ⟨bb, k1⟩ := Bx.alloc hx
    clear hx
    refine (HO.out _ bb).mono ?_
    rintro e w1 ⟨rfl, b1⟩
    replace k1 := k1.below b1 k1.1
    replace bb := bb.trans (b1.mono bb.size)
    clear b1
    have ck1 := k1.2.1
    have yk1 := k1.1
    go_wp2_with fail
    refine (HS.out _ bb).mono ?_
    rintro e w2 ⟨⟨u, rfl, o2⟩, b2⟩
    clear ck1 yk1
    replace k1 := k1.below b2 k1.1
    replace bb := bb.trans (b2.mono bb.size)
    clear b2
    rw [map_ofN, ← nums_len] at o2
    obtain ⟨a2, c2, rfl⟩ := own_form o2
    go_wp2_with fail
    generalize hx : w2.alloc _ = x3
    obtain ⟨bx, k3⟩ := Bx.alloc hx
    clear hx
    replace o2 := own_below o2 bx (own_lt o2)
    replace bb := bb.trans (bx.mono bb.size)
    clear bx
    refine (HC.out _ _ _ (Rd.of_own o2) (k3.2.1 0) (RQ.out _ bb)).mono ?_
    rintro e w4 ⟨rfl, rfl⟩
    go_wp2
    go_ret
    exact ⟨ret_bool (by rw [HF.out]), bb⟩

end Go.Proofs.Ytkpkofddfjgmpaa
