import Derived.Test.YtmcoidnonmmpjaaCollI
import Derived.Test.YtmcoidnonmmpjaaRoots
import Derived.Test.YtmcoidnonmmpjaaHdr
import Derived.Test.YtmcoidnonmmpjaaMgWkS
import Derived.Test.YtmcoidnonmmpjaaCopyS
/- Collect: the heap's words and the roots behind the move; copies, where something isn't right. -/
namespace Go.Proofs.Ytmcoidnonmmpjaa
open Go.RowKit
set_option linter.unusedVariables false

/-- what is told: a heap of new words, new roots. -/
def CollTold (W : World) (e : Ending) (w' : World) (h : Int) (P : Coll) : Prop :=
  ∃ uv qv, e = .returned (.tuple #[.agg #[uv, .int .i64 h, .int .i64 P.base, .int .i64 P.next], qv]) ∧ w'.ownsRow W.heap.size 3 1 uv P.ws.length (P.ws.map (Value.int .i64)) ∧ w'.ownsRow W.heap.size 3 1 qv P.roots.length (P.roots.map (Value.int .i64)) ∧ Diff uv qv

theorem collect_len (ws : List Int) (h b n : Int) (rs : List Int) : (collectOf ws h b n rs).ws.length = ws.length ∧ (collectOf ws h b n rs).roots.length = rs.length := by
  cases hr : rightOf ws h b n rs
  · rw [collect_not hr]; exact ⟨rfl, rfl⟩
  · obtain ⟨h', b', n', ps, rfl, rfl, rfl, hR, hx⟩ := Right.ofR hr
    have hbh : b' ≤ h' := by have := hR.frame.base; omega
    rw [collect_yes hbh hr]
    refine ⟨lay_len ?_, by simp⟩
    rw [mvd_len]
    have h1 := hR.raw_le (order_ok hR hx)
    have h2 := hR.frame.len
    omega

set_option maxHeartbeats 1600000 in
set_option maxRecDepth 100000 in
theorem iCollect_any {B : Nat} (v vr : Value) (ws rs : List Int) (h b n : Int) (w : World) (hr : Rd B .i64 w v ws) (hw : intsOk ws) (hlen : ws.length ≤ 4294967296) (hq : Rd B .i64 w vr rs) (hrl : rs.length ≤ 4294967296)
    (bh : -9223372036854775808 ≤ h ∧ h ≤ 9223372036854775807) (ib : -9223372036854775808 ≤ b ∧ b ≤ 9223372036854775807) (bn : -9223372036854775808 ≤ n ∧ n ≤ 9223372036854775807) :
    Calls Try.prog 23 #[.agg #[v, .int .i64 h, .int .i64 b, .int .i64 n], vr] w fun e w' => CollTold w e w' h (collectOf ws h b n rs) ∧ Below w.heap.size w w' := by
  have hO := fun (W : World) (hb : Below w.heap.size w W) => iRootsOk_any v vr ws rs h b n W (hr.below' hb) hw hlen (hq.below' hb) bh ib bn
  have hC := fun (W : World) (hb : Below w.heap.size w W) => copyHeap_any v ws h b n W (hr.below' hb) hlen
  have hK := fun (W : World) (hb : Below w.heap.size w W) => clone_any vr rs W (hq.below' hb) hrl
  have HO := Lib.hid hO
  have HC := Lib.hid hC
  have HK := Lib.hid hK
  clear hO hC hK
  by_cases hright : rightOf ws h b n rs = true
  · obtain ⟨h', b', n', ps, rfl, rfl, rfl, hR, hx⟩ := Right.ofR hright
    have hbh : b' ≤ h' := by have := hR.frame.base; omega
    rw [hright] at HO
    rw [collect_yes hbh hright]
    have hM := fun (W : World) (hb : Below w.heap.size w W) => collect_any v vr ws rs h' b' n' ps W hR (hr.below' hb) hw (hq.below' hb) hx hrl
    have hL : (lay (h' - b') ws.length (mvd ws (h' - b') (orderOf ws rs) (orderOf ws rs))).length = ws.length := by
      refine lay_len ?_
      rw [mvd_len]
      have h1 := hR.raw_le (order_ok hR hx)
      have h2 := hR.frame.len
      omega
    have hL2 : (rs.map (mv ws (h' - b') (orderOf ws rs))).length = rs.length := by simp
    unfold CollTold
    dsimp only
    rw [hL, hL2]
    obtain ⟨ts, hts⟩ : ∃ ts, lay (h' - b') ws.length (mvd ws (h' - b') (orderOf ws rs) (orderOf ws rs)) = ts := ⟨_, rfl⟩
    obtain ⟨qs, hqs⟩ : ∃ qs, rs.map (mv ws (h' - b') (orderOf ws rs)) = qs := ⟨_, rfl⟩
    obtain ⟨nb, hnb⟩ : ∃ nb, h' - b' = nb := ⟨_, rfl⟩
    obtain ⟨nn, hnn⟩ : ∃ nn, h' - b' + (raw ws (orderOf ws rs)).length = nn := ⟨_, rfl⟩
    simp only [hts, hqs, hnn] at hM ⊢
    simp only [hnb] at hM ⊢
    have HM := Lib.hid hM
    obtain ⟨a, cap, rfl⟩ := hr.form
    obtain ⟨qa, qc, rfl⟩ := hq.form
    clear hM hR hr hq hright hx hL hL2 hts hqs hnb hnn
    go_enter Try.func23, Try.ntmps23
    go_wp2_with fail
    generalize hx : (w.alloc _).alloc _ = x
    obtain ⟨bb, k1, k2, sx⟩ := alloc_box2 hx
    clear hx
    have ck1 := k1.2.1
    have yk1 := k1.1
    go_wp2_with fail
    refine (HO.out _ bb).mono ?_
    rintro e w1 ⟨rfl, b1⟩
    clear ck1 yk1
    have hwx := b1.size
    replace k1 := k1.below b1 k1.1
    replace k2 := k2.below b1 k2.1
    replace bb := bb.trans (b1.mono bb.size)
    clear b1
    have ck1 := k1.2.1
    have yk1 := k1.1
    go_wp2_with fail
    refine (HM.out _ bb).mono ?_
    rintro e w2 ⟨uv, qv, rfl, o1, o2, b2, hdf⟩
    obtain ⟨ua, uc, rfl⟩ := own_form o1
    obtain ⟨va, vc, rfl⟩ := own_form o2
    clear ck1 yk1
    replace k1 := k1.below b2 k1.1
    replace k2 := k2.below b2 k2.1
    replace bb := bb.trans (b2.mono bb.size)
    clear b2
    have ck2 := k2.2.1
    have yk2 := k2.1
    have zk2 := k2.2.2
    have O1 := Lib.hid o1
    have O2 := Lib.hid o2
    have BB := Lib.hid bb
    clear o1 o2 bb
    go_wp2
    refine bodyPost_ret (v := .tuple #[.agg #[.slice ua ws.length uc, .int .i64 h', .int .i64 nb, .int .i64 nn], .slice va rs.length vc]) ?_ rfl ⟨⟨_, _, rfl, ?_, ?_, hdf⟩, ?_⟩
    · simp [results, Try.results23, go_sem, ck2]
    · refine own_base (base := w1.heap.size) ?_ (by omega)
      repeat (refine ownsRow_setCell_below ?_ (by dsimp only; omega) _)
      exact O1.out
    · refine own_base (base := w1.heap.size) ?_ (by omega)
      repeat (refine ownsRow_setCell_below ?_ (by dsimp only; omega) _)
      exact O2.out
    · repeat (refine Below.setCell ?_ (by dsimp only; omega) _)
      exact BB.out
  · rw [Bool.not_eq_true] at hright
    rw [hright] at HO
    rw [collect_not hright]
    obtain ⟨a, cap, rfl⟩ := hr.form
    obtain ⟨qa, qc, rfl⟩ := hq.form
    clear hr hq hright
    go_enter Try.func23, Try.ntmps23
    go_wp2_with fail
    generalize hx : (w.alloc _).alloc _ = x
    obtain ⟨bb, k1, k2, sx⟩ := alloc_box2 hx
    clear hx
    have ck1 := k1.2.1
    have yk1 := k1.1
    go_wp2_with fail
    refine (HO.out _ bb).mono ?_
    rintro e w1 ⟨rfl, b1⟩
    clear ck1 yk1
    have hwx := b1.size
    replace k1 := k1.below b1 k1.1
    replace k2 := k2.below b1 k2.1
    replace bb := bb.trans (b1.mono bb.size)
    clear b1
    have ck1 := k1.2.1
    have yk1 := k1.1
    go_wp2_with fail
    refine (HC.out _ bb).mono ?_
    rintro e w2 ⟨uv, rfl, o1, b2⟩
    obtain ⟨ua, uc, rfl⟩ := own_form o1
    clear ck1 yk1
    have hwy := b2.size
    replace k1 := k1.below b2 k1.1
    replace k2 := k2.below b2 k2.1
    replace bb := bb.trans (b2.mono bb.size)
    clear b2
    go_wp2_with fail
    refine (HK.out _ bb).mono ?_
    rintro e w3 ⟨qv, rfl, o2, b3⟩
    obtain ⟨va, vc, rfl⟩ := own_form o2
    have hdf := Diff.of o1 o2 (Nat.le_refl _)
    replace o1 := own_below o1 b3 (own_lt o1)
    replace k1 := k1.below b3 k1.1
    replace k2 := k2.below b3 k2.1
    replace bb := bb.trans (b3.mono bb.size)
    clear b3
    have ck2 := k2.2.1
    have yk2 := k2.1
    have zk2 := k2.2.2
    have O1 := Lib.hid o1
    have O2 := Lib.hid o2
    have BB := Lib.hid bb
    clear o1 o2 bb
    go_wp2
    refine bodyPost_ret (v := .tuple #[.agg #[.slice ua ws.length uc, .int .i64 h, .int .i64 b, .int .i64 n], .slice va rs.length vc]) ?_ rfl ⟨⟨_, _, rfl, ?_, ?_, hdf⟩, ?_⟩
    · simp [results, Try.results23, go_sem, ck2]
    · refine own_base (base := w1.heap.size) ?_ (by omega)
      repeat (refine ownsRow_setCell_below ?_ (by dsimp only; omega) _)
      exact O1.out
    · refine own_base (base := w2.heap.size) ?_ (by omega)
      repeat (refine ownsRow_setCell_below ?_ (by dsimp only; omega) _)
      exact O2.out
    · repeat (refine Below.setCell ?_ (by dsimp only; omega) _)
      exact BB.out

end Go.Proofs.Ytmcoidnonmmpjaa

/- Collect, as the reference has it. -/
namespace Go.Proofs.Ytmcoidnonmmpjaa
open Go.RowKit
set_option linter.unusedVariables false

set_option maxHeartbeats 1600000 in
set_option maxRecDepth 100000 in
theorem sCollect_any {B : Nat} (v vr : Value) (ws rs : List Int) (h b n : Int) (w : World) (hr : Rd B .i64 w v ws) (hw : intsOk ws) (hlen : ws.length ≤ 4294967296) (hq : Rd B .i64 w vr rs) (hrl : rs.length ≤ 4294967296)
    (bh : -9223372036854775808 ≤ h ∧ h ≤ 9223372036854775807) (ib : -9223372036854775808 ≤ b ∧ b ≤ 9223372036854775807) (bn : -9223372036854775808 ≤ n ∧ n ≤ 9223372036854775807) :
    Calls Try.prog 24 #[.agg #[v, .int .i64 h, .int .i64 b, .int .i64 n], vr] w fun e w' => CollTold w e w' h (collectOf ws h b n rs) ∧ Below w.heap.size w w' := by
  obtain ⟨i0, hi, hz0, hz1, hz2⟩ := info_parts Try.infoI2
  have hO := fun (W : World) (hb : Below w.heap.size w W) => l18Right_any v vr ws rs h b n W (hr.below' hb) hw hlen (hq.below' hb) hrl bh ib bn
  have hC := fun (W : World) (hb : Below w.heap.size w W) => l17Copy_any v ws h b n W (hr.below' hb) hlen
  have hK := fun (W : World) (hb : Below w.heap.size w W) => hq.below' hb
  have HO := Lib.hid hO
  have HC := Lib.hid hC
  have HK := Lib.hid hK
  clear hO hC hK
  by_cases hright : rightOf ws h b n rs = true
  · obtain ⟨h', b', n', ps, rfl, rfl, rfl, hR, hx⟩ := Right.ofR hright
    have hbh : b' ≤ h' := by have := hR.frame.base; omega
    rw [hright] at HO
    rw [collect_yes hbh hright]
    have hM := fun (W : World) (hb : Below w.heap.size w W) => l18Collect_any v vr ws rs h' b' n' ps W hR (hr.below' hb) hw (hq.below' hb) hx hrl
    have hL : (lay (h' - b') ws.length (mvd ws (h' - b') (orderOf ws rs) (orderOf ws rs))).length = ws.length := by
      refine lay_len ?_
      rw [mvd_len]
      have h1 := hR.raw_le (order_ok hR hx)
      have h2 := hR.frame.len
      omega
    have hL2 : (rs.map (mv ws (h' - b') (orderOf ws rs))).length = rs.length := by simp
    unfold CollTold
    dsimp only
    rw [hL, hL2]
    obtain ⟨ts, hts⟩ : ∃ ts, lay (h' - b') ws.length (mvd ws (h' - b') (orderOf ws rs) (orderOf ws rs)) = ts := ⟨_, rfl⟩
    obtain ⟨qs, hqs⟩ : ∃ qs, rs.map (mv ws (h' - b') (orderOf ws rs)) = qs := ⟨_, rfl⟩
    obtain ⟨nb, hnb⟩ : ∃ nb, h' - b' = nb := ⟨_, rfl⟩
    obtain ⟨nn, hnn⟩ : ∃ nn, h' - b' + (raw ws (orderOf ws rs)).length = nn := ⟨_, rfl⟩
    simp only [hts, hqs, hnn] at hM ⊢
    simp only [hnb] at hM ⊢
    have HM := Lib.hid hM
    obtain ⟨a, cap, rfl⟩ := hr.form
    obtain ⟨qa, qc, rfl⟩ := hq.form
    clear hM hR hr hq hright hx hL hL2 hts hqs hnb hnn
    go_enter Try.func24, Try.ntmps24
    go_wp2_with fail
    generalize hx : (w.alloc _).alloc _ = x
    obtain ⟨bb, k1, k2, sx⟩ := alloc_box2 hx
    clear hx
    have ck1 := k1.2.1
    have yk1 := k1.1
    go_wp2_with fail
    refine (HO.out _ bb).mono ?_
    rintro e w1 ⟨rfl, b1⟩
    clear ck1 yk1
    have b1' := b1.size
    replace k1 := k1.below b1 k1.1
    replace k2 := k2.below b1 k2.1
    replace bb := bb.trans (b1.mono bb.size)
    clear b1
    have ck1 := k1.2.1
    have yk1 := k1.1
    go_wp2_with fail
    refine (HM.out _ bb).mono ?_
    rintro e w2 ⟨uv, qv, rfl, o1, o2, b2, hdf⟩
    obtain ⟨ua, uc, rfl⟩ := own_form o1
    obtain ⟨va, vc, rfl⟩ := own_form o2
    clear ck1 yk1
    have hwx := b1'
    replace k1 := k1.below b2 k1.1
    replace k2 := k2.below b2 k2.1
    replace bb := bb.trans (b2.mono bb.size)
    clear b2
    have ck2 := k2.2.1
    have yk2 := k2.1
    have zk2 := k2.2.2
    have O1 := Lib.hid o1
    have O2 := Lib.hid o2
    have BB := Lib.hid bb
    have K2 := Lib.hid k2
    clear o1 o2 bb k2
    go_wp2
    refine bodyPost_ret (v := .tuple #[.agg #[.slice ua ws.length uc, .int .i64 h', .int .i64 nb, .int .i64 nn], .slice va rs.length vc]) ?_ rfl ⟨⟨_, _, rfl, ?_, ?_, hdf⟩, ?_⟩
    · simp [results, Try.results24, go_sem, ck2, yk2]
    · refine own_base (base := w1.heap.size) (World.ownsRow.alloc ?_ _) (by omega)
      repeat (refine ownsRow_setCell_below ?_ (by dsimp only; omega) _)
      exact O1.out
    · refine own_base (base := w1.heap.size) (World.ownsRow.alloc ?_ _) (by omega)
      repeat (refine ownsRow_setCell_below ?_ (by dsimp only; omega) _)
      exact O2.out
    · refine Below.alloc ?_ (by simp; omega) _
      repeat (refine Below.setCell ?_ (by dsimp only; omega) _)
      exact BB.out
  · rw [Bool.not_eq_true] at hright
    rw [hright] at HO
    rw [collect_not hright]
    obtain ⟨a, cap, rfl⟩ := hr.form
    obtain ⟨qa, qc, rfl⟩ := hq.form
    clear hr hq hright
    go_enter Try.func24, Try.ntmps24
    go_wp2_with fail
    generalize hx : (w.alloc _).alloc _ = x
    obtain ⟨bb, k1, k2, sx⟩ := alloc_box2 hx
    clear hx
    have ck1 := k1.2.1
    have yk1 := k1.1
    go_wp2_with fail
    refine (HO.out _ bb).mono ?_
    rintro e w1 ⟨rfl, b1⟩
    clear ck1 yk1
    have hwx := b1.size
    replace k1 := k1.below b1 k1.1
    replace k2 := k2.below b1 k2.1
    replace bb := bb.trans (b1.mono bb.size)
    clear b1
    have ck1 := k1.2.1
    have yk1 := k1.1
    go_wp2_with fail
    refine (HC.out _ bb).mono ?_
    rintro e w2 ⟨uv, rfl, o1, b2⟩
    obtain ⟨ua, uc, rfl⟩ := own_form o1
    clear ck1 yk1
    have hwy := b2.size
    replace k1 := k1.below b2 k1.1
    replace k2 := k2.below b2 k2.1
    replace bb := bb.trans (b2.mono bb.size)
    clear b2
    cases qa with
    | none =>
      have hz : rs = [] := (HK.out _ bb).none_nil
      have ck2 := k2.2.1
      have yk2 := k2.1
      have zk2 := k2.2.2
      have O1 := Lib.hid o1
      have BB := Lib.hid bb
      have hdf : Diff (.slice ua ws.length uc) (.slice (some ⟨w2.heap.size, 0, none⟩) 0 0) := fun k hk hk' => by
        have e : w2.heap.size = k := Option.some.inj hk'
        have := own_lt o1 k hk
        omega
      clear o1 bb HK
      go_wp2
      refine bodyPost_ret (v := .tuple #[.agg #[.slice ua ws.length uc, .int .i64 h, .int .i64 b, .int .i64 n], .slice (some ⟨w2.heap.size, 0, none⟩) 0 0]) ?_ rfl ⟨⟨_, _, rfl, ?_, ?_, hdf⟩, ?_⟩
      · simp [results, Try.results24, go_sem, ck2, yk2]
      · refine own_base (base := w1.heap.size) (World.ownsRow.alloc ?_ _) (by omega)
        repeat (refine ownsRow_setCell_below ?_ (by dsimp only; omega) _)
        exact O1.out
      · rw [hz]
        exact own_empty (by simp) (by omega)
      · refine Below.alloc ?_ (by simp; omega) _
        repeat (refine Below.setCell ?_ (by dsimp only; omega) _)
        exact BB.out
    | some ad =>
      have hnew := ((HK.out _ bb).news ((Below.refl w2.heap.size w2).alloc (Nat.le_refl _) (.cells #[] 3))).2
      have HN := Lib.hid hnew
      have ck2 := k2.2.1
      have yk2 := k2.1
      have zk2 := k2.2.2
      have O1 := Lib.hid o1
      have BB := Lib.hid bb
      have K2 := Lib.hid k2
      clear o1 bb HK hnew
      go_wp2_with (at_builtin; refine wpList_append_own _ rfl _ _ 24 rfl w2.heap.size 3 i0 (.int .i64 0) 1 8 Try.underlying24 hi hz0 hz1 hz2 rfl (by decide) _ 0 [] rfl ?_ ad rs.length qc (rs.map (Value.int .i64)) rfl (by simp) HN.out (ints_one _ _) ?_ ?_ ?_ ?_)
      · exact own_empty rfl (Nat.le_refl _)
      · unfold maxLen; omega
      · omega
      · simp
      · intro v' w3 ho hg _
        have b3 : Below w2.heap.size w2 w3 := ((Below.refl _ _).alloc (Nat.le_refl _) _).grown hg (by simp) (by intro k hk; simp [Value.ownBlock] at hk; omega)
        obtain ⟨va, vc, rfl⟩ := own_form ho
        have hdf := Diff.of O1.out ho (Nat.le_refl _)
        have hdf' : Diff (.slice ua ws.length uc) (.slice va (0 + rs.length) vc) := fun k hk hk' => hdf k hk (by rw [Nat.zero_add] at hk'; exact hk')
        have o1 := own_below O1.out b3 (own_lt O1.out)
        have k2 := K2.out.below b3 K2.out.1
        have bb := BB.out.trans (b3.mono BB.out.size)
        have ck2 := k2.2.1
        have yk2 := k2.1
        have zk2 := k2.2.2
        have O3 := Lib.hid o1
        have O4 := Lib.hid ho
        have BZ := Lib.hid bb
        have hwz := hg.size
        clear o1 ho hg b3 bb O1 BB K2 HN
        go_wp2
        refine bodyPost_ret (v := .tuple #[.agg #[.slice ua ws.length uc, .int .i64 h, .int .i64 b, .int .i64 n], .slice va (0 + rs.length) vc]) ?_ rfl ⟨⟨_, _, rfl, ?_, ?_, hdf'⟩, ?_⟩
        · simp [results, Try.results24, go_sem, ck2]
        · refine own_base (base := w1.heap.size) ?_ (by omega)
          repeat (refine ownsRow_setCell_below ?_ (by dsimp only; omega) _)
          exact O3.out
        · refine own_base (base := w2.heap.size) ?_ (by omega)
          repeat (refine ownsRow_setCell_below ?_ (by dsimp only; omega) _)
          simpa using O4.out
        · repeat (refine Below.setCell ?_ (by dsimp only; omega) _)
          exact BZ.out

end Go.Proofs.Ytmcoidnonmmpjaa
