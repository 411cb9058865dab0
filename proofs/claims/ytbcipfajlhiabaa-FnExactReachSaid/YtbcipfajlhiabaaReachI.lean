/- Reach of the program. -/
import Derived.Test.YtbcipfajlhiabaaInsP
import Derived.Test.YtbcipfajlhiabaaShapeP
import Derived.Test.YtbcipfajlhiabaaMet
import Derived.Test.YtbcipfajlhiabaaRoots
import Derived.Test.YtbcipfajlhiabaaSortLay
import Derived.Sort.OwnSortedInts
namespace Go.Proofs.Ytbcipfajlhiabaa
open Go.RowKit
set_option linter.unusedVariables false

open Go.Sort in
theorem sort_any {base : Nat} (v : Value) (zs : List Int) (w : World) (ho : w.ownsRow base 3 1 v zs.length (zs.map (Value.int .i64))) (hl : zs.length ≤ 4294967296) :
    Calls Try.prog 57 #[v] w fun e w' => e = .returned (.tuple #[]) ∧ w'.ownsRow base 3 1 v zs.length ((zs.mergeSort fun x y => decide (x ≤ y)).map (Value.int .i64)) ∧ w.grownBy w' v.ownBlock := by
  by_cases h0 : zs.length = 0
  · obtain rfl : zs = [] := List.eq_nil_of_length_eq_zero h0
    obtain ⟨a, c, rfl⟩ := own_form ho
    refine (Try.slices_Sort_int_none a c w).mono ?_
    rintro e w' ⟨rfl, rfl⟩
    exact ⟨rfl, by rw [List.mergeSort_nil]; exact ho, grownBy.refl _ _⟩
  · rcases ho.2 with ⟨_, h⟩ | ⟨g, cap, cur, rfl, hbg, hg, hn, hm, hc, ht⟩
    · exact absurd h h0
    · have hgl : g < w.heap.size := (Array.getElem?_eq_some_iff.1 hg).1
      refine (Try.slices_Sort_int g 0 cap zs w (holds_of_blockI hg (by simpa using ht)) hgl (by omega)).mono ?_
      rintro e w' ⟨rfl, nn, os, rfl⟩
      exact ⟨rfl, ownsRow_sortedI (n := nn) (os := os) (ts := zs.mergeSort fun x y => decide (x ≤ y)) (List.length_mergeSort zs) hbg hg hn hm hc, grownBy_sortedI (w := w) (g := g) (n := nn) (os := os) _⟩

set_option maxHeartbeats 800000 in
set_option maxRecDepth 100000 in
theorem iReach_any {B : Nat} (v vr : Value) (ws rs : List Int) (h b n : Int) (w : World) (hr : Rd B .i64 w v ws) (hw : intsOk ws) (hlen : ws.length ≤ 4294967296) (hq : Rd B .i64 w vr rs) (hrl : rs.length ≤ 4294967296)
    (bh : -9223372036854775808 ≤ h ∧ h ≤ 9223372036854775807) (ib : -9223372036854775808 ≤ b ∧ b ≤ 9223372036854775807) (bn : -9223372036854775808 ≤ n ∧ n ≤ 9223372036854775807) :
    Calls Try.prog 28 #[.agg #[v, .int .i64 h, .int .i64 b, .int .i64 n], vr] w fun e w' => ∃ u, e = .returned u ∧ w'.ownsRow w.heap.size 3 1 u (reachOf ws h b n rs).length ((reachOf ws h b n rs).map (Value.int .i64)) ∧ Below w.heap.size w w' := by
  have hO := fun (W : World) (hb : Below w.heap.size w W) => iRootsOk_any v vr ws rs h b n W (hr.below' hb) hw hlen (hq.below' hb) bh ib bn
  cases hok : rightOf ws h b n rs
  · obtain ⟨a, cap, rfl⟩ := hr.form
    obtain ⟨qa, qc, rfl⟩ := hq.form
    rw [hok] at hO
    have HO := Lib.hid hO
    have HF := Lib.hid (reachOf_not hok)
    clear hO hr hw bh ib bn hok hq
    go_enter Try.func28, Try.ntmps28
    go_wp2_with fail
    generalize hx : w.alloc _ = x
    obtain ⟨bb, k1⟩ := Bx.alloc hx
    clear hx
    refine (HO.out _ bb).mono ?_
    rintro e w1 ⟨rfl, b1⟩
    replace k1 := k1.below b1 k1.1
    replace bb := bb.trans (b1.mono bb.size)
    clear b1
    go_wp2
    go_ret
    exact ⟨_, rfl, by rw [HF.out]; exact World.ownsRow_nil _ _ _ _, bb⟩
  · rw [hok] at hO
    have HO := Lib.hid hO
    have HF := reachOf_yes hok
    obtain ⟨h', b', n', ps, rfl, rfl, rfl, hR, hx⟩ := Right.ofR hok
    have hM := fun (W : World) (hb : Below w.heap.size w W) => met_any v vr ws rs h' b' n' ps W hR (hr.below' hb) hw (hq.below' hb) hx hrl
    have hoO := order_ok hR hx
    have hol : (orderOf ws rs).length ≤ 6000 := Nat.le_trans (hR.ord_len hoO) hR.n_le.2
    obtain ⟨o, ho⟩ : ∃ o, orderOf ws rs = o := ⟨_, rfl⟩
    rw [ho] at hM HF hoO hol
    have hS := sort_ins (nums_nodup hoO.1)
    have HM := Lib.hid hM
    have HFF := Lib.hid (HF.trans hS.symm)
    obtain ⟨a, cap, rfl⟩ := hr.form
    obtain ⟨qa, qc, rfl⟩ := hq.form
    clear hO hr hw bh ib bn hok hq hM ho HF hR hx hS hoO
    go_enter Try.func28, Try.ntmps28
    go_wp2_with fail
    generalize hx : w.alloc _ = x
    obtain ⟨bb, k1⟩ := Bx.alloc hx
    clear hx
    refine (HO.out _ bb).mono ?_
    rintro e w1 ⟨rfl, b1⟩
    replace k1 := k1.below b1 k1.1
    replace bb := bb.trans (b1.mono bb.size)
    clear b1
    have ck1 := k1.2.1
    have yk1 := k1.1
    go_wp2_with fail
    refine (HM.out _ bb).mono ?_
    rintro e w2 ⟨ov, nv, rfl, oo, rn, b2⟩
    clear ck1 yk1
    have z1 := bb.size
    replace k1 := k1.below b2 k1.1
    replace bb := bb.trans (b2.mono bb.size)
    clear b2
    obtain ⟨oa, oc, rfl⟩ := own_form oo
    rw [map_ofN] at oo
    have oo' : w2.ownsRow w1.heap.size 3 1 (.slice oa o.length oc) (nums o).length ((nums o).map (Value.int .i64)) := by rw [nums_len]; exact oo
    have hC := sort_any _ (nums o) w2 oo' (by rw [nums_len]; omega)
    have HC := Lib.hid hC
    have OO := Lib.hid oo
    have BB := Lib.hid bb
    clear oo oo' hC bb rn
    go_wp2_with fail
    refine HC.out.mono ?_
    rintro e w3 ⟨rfl, o3, g3⟩
    have b3 := BB.out.trans (Below.of_grown (B := w.heap.size) g3 BB.out.size (fun k hk => Nat.le_trans z1 (OO.out.lt k hk).1))
    have O3 := Lib.hid o3
    clear o3 g3
    go_wp2
    go_ret
    refine ⟨_, rfl, ?_, b3⟩
    rw [HFF.out, List.length_mergeSort]
    exact own_base O3.out z1

end Go.Proofs.Ytbcipfajlhiabaa
