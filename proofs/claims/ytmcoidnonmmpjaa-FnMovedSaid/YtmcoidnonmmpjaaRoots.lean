/- rootsOk, l18Right: whether a heap and roots are right. -/
import Derived.Test.YtmcoidnonmmpjaaMoveP
import Derived.Test.YtmcoidnonmmpjaaContains
namespace Go.Proofs.Ytmcoidnonmmpjaa
open Go.RowKit
set_option linter.unusedVariables false

set_option maxHeartbeats 800000 in
set_option maxRecDepth 100000 in
theorem iRootsOk_any {B : Nat} (v vr : Value) (ws rs : List Int) (h b n : Int) (w : World) (hr : Rd B .i64 w v ws) (hw : intsOk ws) (hlen : ws.length ≤ 4294967296) (hq : Rd B .i64 w vr rs)
    (bh : -9223372036854775808 ≤ h ∧ h ≤ 9223372036854775807) (ib : -9223372036854775808 ≤ b ∧ b ≤ 9223372036854775807) (bn : -9223372036854775808 ≤ n ∧ n ≤ 9223372036854775807) :
    Calls Try.prog 56 #[.agg #[v, .int .i64 h, .int .i64 b, .int .i64 n], vr] w fun e w' => e = .returned (.bool (rightOf ws h b n rs)) ∧ Below w.heap.size w w' := by
  have hO := fun (W : World) (hb : Below w.heap.size w W) => iHeapOk_any v ws h b n W (hr.below' hb) hw hlen bh ib bn
  have RQ := Lib.hid (fun (W : World) (hb : Below w.heap.size w W) => hq.below' hb)
  obtain ⟨a, cap, hv⟩ := hr.form
  obtain ⟨qa, qc, rfl⟩ := hq.form
  cases hok : heapOk ws h b n
  · rw [hok] at hO
    have HO := Lib.hid hO
    have HF := Lib.hid (rightOf_not (rs := rs) hok)
    subst hv
    clear hO hr hw bh ib bn hok hq
    go_enter Try.func56, Try.ntmps56
    go_wp2_with fail
    generalize hx : w.alloc _ = x
    obtain ⟨bb, k1⟩ := Bx.alloc hx
    clear hx
    refine (HO.out _ bb).mono ?_
    rintro e w1 ⟨rfl, b1⟩
    replace k1 := k1.below b1 k1.1
    replace bb := bb.trans (b1.mono bb.size)
    clear b1
    go_wp2
    go_ret
    exact ⟨ret_bool HF.out.symm, bb⟩
  · rw [hok] at hO
    have HO := Lib.hid hO
    obtain ⟨h', b', n', ps, rfl, rfl, rfl, hR⟩ := Right.of hok
    have hS := fun (W : World) (hb : Below w.heap.size w W) => starts_any v ws h' b' n' W (hr.below' hb) hw hR.frame
    rw [hR.some] at hS
    have HS := Lib.hid hS
    have HF := Lib.hid (rightOf_at (rs := rs) hok hR.some)
    have hC := fun (g : Nat) (u : Value) (W : World) (r : Rd W.heap.size .i64 W u (nums ps)) (hg : W.cell? ⟨g, 0, none⟩ = some u) (hu : Rd w.heap.size .i64 W (.slice qa rs.length qc) rs) =>
      rootsOk1_contains g u (.slice qa rs.length qc) ps rs W r hR.sorted (by have := hR.len; have := hR.n_le; omega) hg hu
    have HC := Lib.hid hC
    subst hv
    clear hO hr hw bh ib bn hok hq hS hR hC
    go_enter Try.func56, Try.ntmps56
    go_wp2_with fail
    generalize hx : w.alloc _ = x
    obtain ⟨bb, k1⟩ := Bx.alloc hx
    clear hx
    refine (HO.out _ bb).mono ?_
    rintro e w1 ⟨rfl, b1⟩
    replace k1 := k1.below b1 k1.1
    replace bb := bb.trans (b1.mono bb.size)
    clear b1
    have ck1 := k1.2.1
    have yk1 := k1.1
    go_wp2_with fail
    refine (HS.out _ bb).mono ?_
    rintro e w2 ⟨⟨u, rfl, o2⟩, b2⟩
    clear ck1 yk1
    replace k1 := k1.below b2 k1.1
    replace bb := bb.trans (b2.mono bb.size)
    clear b2
    rw [map_ofN, ← nums_len] at o2
    obtain ⟨a2, c2, rfl⟩ := own_form o2
    go_wp2_with fail
    generalize hx : w2.alloc _ = x3
    obtain ⟨bx, k3⟩ := Bx.alloc hx
    clear hx
    replace o2 := own_below o2 bx (own_lt o2)
    replace bb := bb.trans (bx.mono bb.size)
    clear bx
    refine (HC.out _ _ _ (Rd.of_own o2) (k3.2.1 0) (RQ.out _ bb)).mono ?_
    rintro e w4 ⟨rfl, rfl⟩
    go_wp2
    go_ret
    exact ⟨ret_bool (by rw [HF.out]), bb⟩

set_option maxHeartbeats 800000 in
set_option maxRecDepth 100000 in
theorem l18Right_any {B : Nat} (v vr : Value) (ws rs : List Int) (h b n : Int) (w : World) (hr : Rd B .i64 w v ws) (hw : intsOk ws) (hlen : ws.length ≤ 4294967296) (hq : Rd B .i64 w vr rs) (hrl : rs.length ≤ 4294967296)
    (bh : -9223372036854775808 ≤ h ∧ h ≤ 9223372036854775807) (ib : -9223372036854775808 ≤ b ∧ b ≤ 9223372036854775807) (bn : -9223372036854775808 ≤ n ∧ n ≤ 9223372036854775807) :
    Calls Try.prog 58 #[.agg #[v, .int .i64 h, .int .i64 b, .int .i64 n], vr] w fun e w' => e = .returned (.bool (rightOf ws h b n rs)) ∧ Below w.heap.size w w' := by
  have hO := fun (W : World) (hb : Below w.heap.size w W) => sHeapOk_any v ws h b n W (hr.below' hb) hw hlen bh ib bn
  have RQ := Lib.hid (fun (W : World) (hb : Below w.heap.size w W) => hq.below' hb)
  obtain ⟨a, cap, hv⟩ := hr.form
  obtain ⟨qa, qc, rfl⟩ := hq.form
  cases hok : heapOk ws h b n
  · rw [hok] at hO
    have HO := Lib.hid hO
    have HF := Lib.hid (rightOf_not (rs := rs) hok)
    subst hv
    clear hO hr hw bh ib bn hok hq
    go_enter Try.func58, Try.ntmps58
    go_wp2_with fail
    generalize hx : w.alloc _ = x
    obtain ⟨bb, k1⟩ := Bx.alloc hx
    clear hx
    refine (HO.out _ bb).mono ?_
    rintro e w1 ⟨rfl, b1⟩
    replace k1 := k1.below b1 k1.1
    replace bb := bb.trans (b1.mono bb.size)
    clear b1
    go_wp2
    go_ret
    exact ⟨ret_bool HF.out.symm, bb⟩
  · rw [hok] at hO
    have HO := Lib.hid hO
    obtain ⟨h', b', n', ps, rfl, rfl, rfl, hR⟩ := Right.of hok
    have hS := fun (W : World) (hb : Below w.heap.size w W) => l17Places_any v ws h' b' n' W (hr.below' hb) hw hR.frame
    rw [hR.some] at hS
    have HS := Lib.hid hS
    have HF := Lib.hid (rightOf_at (rs := rs) hok hR.some)
    obtain ⟨r, hrr⟩ : ∃ r, rightOf ws h' b' n' rs = r := ⟨_, rfl⟩
    rw [hrr] at HF ⊢
    subst hv
    clear hO hr hw bh ib bn hok hq hS hR hrr
    go_enter Try.func58, Try.ntmps58
    go_wp2_with fail
    generalize hx : w.alloc _ = x
    obtain ⟨bb, k1⟩ := Bx.alloc hx
    clear hx
    refine (HO.out _ bb).mono ?_
    rintro e w1 ⟨rfl, b1⟩
    replace k1 := k1.below b1 k1.1
    replace bb := bb.trans (b1.mono bb.size)
    clear b1
    have ck1 := k1.2.1
    have yk1 := k1.1
    go_wp2_with fail
    refine (HS.out _ bb).mono ?_
    rintro e w2 ⟨⟨u, rfl, o2⟩, b2⟩
    clear ck1 yk1
    replace k1 := k1.below b2 k1.1
    replace bb := bb.trans (b2.mono bb.size)
    clear b2
    rw [map_ofN, ← nums_len] at o2
    obtain ⟨a2, c2, rfl⟩ := own_form o2
    have HT := Lib.hid (fun (x : Int) => l17There_any (.slice a2 (nums ps).length c2) ps x w2 (Rd.of_own o2))
    have HQ := Lib.hid (RQ.out _ bb)
    clear o2 k1
    go_wp2
    go_loop [7] (fun i => ∃ k : Nat, k ≤ rs.length ∧ i = .int .i64 k ∧ Hid (∀ j, j < k → wordIn ps (rs.getD j 0) = true)) (fun i => rs.length - (intOf i).toNat)
    case atStart => exact ⟨0, Nat.zero_le _, rfl, Lib.hid (fun j hj => absurd hj (by omega))⟩
    case round =>
      obtain ⟨k, hk, rfl, hall⟩ := hrel
      by_cases hlt : k < rs.length
      · rcases HQ.out with ⟨h', _⟩ | ⟨bl, off, c', hv, _, hbs, _, hc⟩
        · rw [h'] at hlt; simp at hlt
        cases hv
        have c0 := hc k hlt
        obtain ⟨x, hxx⟩ : ∃ x, rs.getD k 0 = x := ⟨_, rfl⟩
        rw [hxx] at c0
        have HX := Lib.hid hxx
        clear hc hxx
        cases hwi : wordIn ps x
        · have HT2 := Lib.hid (HT.out x)
          rw [hwi] at HT2
          have HW := Lib.hid hwi
          clear hwi
          go_wp2_with fail
          refine HT2.out.mono ?_
          rintro e w3 ⟨rfl, rfl⟩
          go_wp2
          go_ret
          exact ⟨ret_bool (by rw [HF.out, out_here hlt HX.out HW.out]), bb⟩
        · have HT2 := Lib.hid (HT.out x)
          rw [hwi] at HT2
          have HW := Lib.hid hwi
          clear hwi
          go_wp2_with fail
          refine HT2.out.mono ?_
          rintro e w3 ⟨rfl, rfl⟩
          go_wp2
          go_round
          case rel => exact ⟨k + 1, hlt, by go_num, Lib.hid (out_step hall.out (by rw [HX.out]; exact HW.out))⟩
          case measure => simp [intOf]; omega
      · obtain rfl : k = rs.length := by omega
        have HA := Lib.hid (out_none hall.out)
        clear hall
        go_wp2
        go_ret
        exact ⟨ret_bool (by rw [HF.out, HA.out]), bb⟩

end Go.Proofs.Ytmcoidnonmmpjaa
