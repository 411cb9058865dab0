/- toFunS: a copy of a slice of functions, in new rows. -/
import Derived.Test.YtkpkofddfjgmpaaFuns
namespace Go.Proofs.Ytkpkofddfjgmpaa
open Go.RowKit
set_option linter.unusedVariables false

theorem Try.infoFun : (Try.prog.info? 34).map (fun i => (i.zero, i.size, i.bytes)) = some (some (.agg #[.int .i64 0, .slice none 0 0]), 2, 32) := by kernel_rfl
/-- the first elements new, the others as they were. -/
theorem flatF_set {fl : List (Int × Value)} {ys : List Value} {n k : Nat} (hk : fl.length = k) (h : ys.length = n * 2) (hn : k < n) (a : Int) (u : Value) :
    ((flat encFV fl ++ ys.drop (k * 2)).set (k * 2) (.int .i64 a)).set (k * 2 + 1) u = flat encFV (fl ++ [(a, u)]) ++ ys.drop ((k + 1) * 2) := by
  have hf : (flat encFV fl).length = k * 2 := by rw [flat_len encFV_len, hk]
  have hd : ys.drop (k * 2) = ys[k * 2]'(by omega) :: ys[k * 2 + 1]'(by omega) :: ys.drop (k * 2 + 2) := by
    rw [List.drop_eq_getElem_cons (by omega), List.drop_eq_getElem_cons (by omega)]
  rw [hd, List.set_append_right _ _ (by omega), List.set_append_right _ _ (by omega), hf, Nat.sub_self, show k * 2 + 1 - k * 2 = 1 by omega, flat_snoc, List.append_assoc, show (k + 1) * 2 = k * 2 + 2 by omega]
  rfl

set_option maxHeartbeats 1600000 in
theorem toFunS_any {B : Nat} (v : Value) (fs : List F2) (w : World) (hr : RdF B w v fs) (hn : fs.length ≤ 4294967296) (hm : tot fs ≤ 4294967296) :
    Calls Try.prog 40 #[v] w fun e w' => ∃ v', e = .returned v' ∧ OwnF w.heap.size w' v' fs ∧ Below w.heap.size w w' := by
  obtain ⟨i0, hi, hz0, hz1, hz2⟩ := info_parts Try.infoFun
  have HR := Lib.hid (fun (W : World) (hb : Below w.heap.size w W) => hr.below' hb)
  obtain ⟨a, cap, rfl⟩ := hr.form
  clear hr
  go_enter Try.func40, Try.ntmps40
  go_wp2_with (refine wpList_make_full _ rfl (.tmp 6) (.tmp 6) 47 rfl w.heap.size 34 i0 (.agg #[.int .i64 0, .slice none 0 0]) 2 Try.underlying47 hi hz0 hz1 .i64 .i64 _ _ fs.length rfl rfl rfl rfl ?_ ?_ ?_ ?_)
  · rw [hz2]; omega
  · unfold maxLen; omega
  · exact Nat.le_refl _
  · intro w1 hown hgrow
    have hb1 : Below w.heap.size w w1 := (Below.refl _ _).grown hgrow (Nat.le_refl _) (by simp)
    obtain ⟨xs, hown, hlen⟩ : ∃ xs, w1.ownsRow w.heap.size 34 2 (.slice (some ⟨w.heap.size, 0, none⟩) fs.length fs.length) fs.length xs ∧ xs.length = fs.length * 2 := ⟨_, hown, by simpa using hown.1⟩
    have HL := Lib.hid hlen
    have hgz := (hown.lt _ rfl).2
    have HO := Lib.hid hown
    have HB := Lib.hid hb1
    clear hlen hgrow hown hb1
    go_wp2
    go_loopw [4] (fun i wr => ∃ (k : Nat) (fl : List (Int × Value)), k ≤ fs.length ∧ i = .int .i64 k ∧ Hid (fl.length = k) ∧ wr.ownsRow w.heap.size 34 2 (.slice (some ⟨w.heap.size, 0, none⟩) fs.length fs.length) fs.length (flat encFV fl ++ xs.drop (k * 2)) ∧
      (∀ j (h : j < fl.length) (h' : j < fs.length), fl[j].1 = fs[j].f ∧ wr.ownsRow (w.heap.size + 1) 81 3 fl[j].2 fs[j].os.length (flat O3.enc fs[j].os)) ∧ fl.Pairwise (fun x y => Blk x.2 y.2) ∧ w.heap.size + 1 ≤ wr.heap.size ∧ Below w.heap.size w wr) (fun i _ => fs.length - (intOf i).toNat)
    case atStart => exact ⟨0, [], Nat.zero_le _, rfl, Lib.hid rfl, by simpa [flat] using HO.out, fun j h => absurd h (by simp), List.Pairwise.nil, hgz, HB.out⟩
    case round =>
      clear HO HB
      obtain ⟨k, fl, hk, rfl, hfl, ho, hin, hpw, hgz2, hb⟩ := hrel
      by_cases hlt : k < fs.length
      · obtain ⟨b, off, cap', lv, hs, hB, hbs, hcap, c0, c1, ro⟩ := (HR.out _ hb).at_ hlt
        cases hs
        obtain ⟨la, lc, rfl⟩ := ro.form
        have hmem := tot_mem (List.getElem_mem hlt)
        have hto := toFun_any fs[k].f _ fs[k].os wr ro (by omega)
        have hkl : (k : Int) < (fs.length : Int) := by omega
        have HT := Lib.hid hto
        have HO := Lib.hid ho
        have HI := Lib.hid hin
        have HP := Lib.hid hpw
        have HB := Lib.hid hb
        have hbz := hb.size
        clear hto ho hin hpw hb ro hmem
        go_wp2_with fail
        refine HT.out.mono ?_
        rintro e w2 ⟨v2, rfl, o2, b2⟩
        obtain ⟨a2, c2, rfl⟩ := own_form o2
        have ho := own_below HO.out b2 (own_lt HO.out)
        have hrl : (flat encFV fl ++ xs.drop (k * 2)).length = fs.length * 2 := by
          rw [List.length_append, flat_len encFV_len, hfl.out, List.length_drop, HL.out]; omega
        have d0 := own_cellN ho (k * 2) (by omega)
        have d1 := own_cellN ho (k * 2 + 1) (by omega)
        rw [List.getElem?_eq_getElem (by omega)] at d0 d1
        have f0 := own_frozen ho (k * 2)
        have f1 := own_frozen ho (k * 2 + 1)
        have b3 := b2.mono hbz
        have ho3 := own_setN (own_setN ho (k * 2) (by omega) (.int .i64 fs[k].f)) (k * 2 + 1) (by omega) (.slice a2 fs[k].os.length c2)
        rw [flatF_set hfl.out HL.out hlt] at ho3
        have hin3 : ∀ j (h : j < (fl ++ [(fs[k].f, Value.slice a2 fs[k].os.length c2)]).length) (h' : j < fs.length), (fl ++ [(fs[k].f, Value.slice a2 fs[k].os.length c2)])[j].1 = fs[j].f ∧
            ((w2.setCell ⟨w.heap.size, k * 2, none⟩ (.int .i64 fs[k].f)).setCell ⟨w.heap.size, k * 2 + 1, none⟩ (.slice a2 fs[k].os.length c2)).ownsRow (w.heap.size + 1) 81 3 (fl ++ [(fs[k].f, Value.slice a2 fs[k].os.length c2)])[j].2 fs[j].os.length (flat O3.enc fs[j].os) := by
          intro j h h'
          have hset : ∀ {u : Value} {n : Nat} {ys : List Value}, w2.ownsRow (w.heap.size + 1) 81 3 u n ys → ((w2.setCell ⟨w.heap.size, k * 2, none⟩ (.int .i64 fs[k].f)).setCell ⟨w.heap.size, k * 2 + 1, none⟩ (.slice a2 fs[k].os.length c2)).ownsRow (w.heap.size + 1) 81 3 u n ys := fun h =>
            ownsRow_setCell_below (ownsRow_setCell_below h (by show w.heap.size < _; omega) _) (by show w.heap.size < _; omega) _
          by_cases hj : j < fl.length
          · rw [List.getElem_append_left hj]
            exact ⟨(HI.out j hj h').1, hset (own_below (HI.out j hj h').2 b2 (own_lt (HI.out j hj h').2))⟩
          · have hje : j = k := by simp at h; have := hfl.out; omega
            subst hje
            rw [List.getElem_append_right (by omega)]
            simp only [hfl.out, Nat.sub_self, List.getElem_cons_zero]
            exact ⟨trivial, hset (own_base o2 hgz2)⟩
        have hpw3 : (fl ++ [(fs[k].f, Value.slice a2 fs[k].os.length c2)]).Pairwise (fun x y => Blk x.2 y.2) := by
          rw [List.pairwise_append]
          refine ⟨HP.out, List.pairwise_singleton _ _, fun x hx y hy p q hp hq => ?_⟩
          obtain rfl := List.mem_singleton.1 hy
          obtain ⟨j, hj, rfl⟩ := List.mem_iff_getElem.1 hx
          have h1 := own_lt (HI.out j hj (by have := hfl.out; omega)).2 p hp
          have h2 := (o2.lt q hq).1
          omega
        have HO3 := Lib.hid ho3
        have HI3 := Lib.hid hin3
        have HP3 := Lib.hid hpw3
        have HB3 := Lib.hid (((HB.out.trans b3).setCell (p := ⟨w.heap.size, k * 2, none⟩) (Nat.le_refl _) (.int .i64 fs[k].f)).setCell (p := ⟨w.heap.size, k * 2 + 1, none⟩) (Nat.le_refl _) (.slice a2 fs[k].os.length c2))
        have hsz2 := b2.size
        clear c0 c1 HT HO HI HP HB ho ho3 hin3 hpw3 b2 b3 o2
        go_wp2
        go_roundw
        case rel => exact ⟨k + 1, _, hlt, by go_num, Lib.hid (by rw [List.length_append, hfl.out]; rfl), HO3.out, HI3.out, HP3.out, by simp; omega, HB3.out⟩
        case measure => simp [intOf]; omega
      · obtain rfl : k = fs.length := by omega
        have hown : OwnF w.heap.size wr (.slice (some ⟨w.heap.size, 0, none⟩) fs.length fs.length) fs := by
          refine ⟨fl, ?_, hfl.out, fun j h h' => ⟨(hin j h h').1, own_base (hin j h h').2 (Nat.le_succ _)⟩, fun x hx p q hp hq => ?_, hpw⟩
          · rw [List.drop_eq_nil_of_le (by rw [HL.out]; exact Nat.le_refl _), List.append_nil] at ho
            exact ho
          · have e : w.heap.size = p := Option.some.inj hp
            obtain ⟨j, hj, rfl⟩ := List.mem_iff_getElem.1 hx
            have := ((hin j hj (by have := hfl.out; omega)).2.lt q hq).1
            omega
        have HO := Lib.hid hown
        have HB := Lib.hid hb
        clear hown ho hin hpw hb
        go_wp2
        go_ret
        exact ⟨_, rfl, HO.out, HB.out⟩

end Go.Proofs.Ytkpkofddfjgmpaa
