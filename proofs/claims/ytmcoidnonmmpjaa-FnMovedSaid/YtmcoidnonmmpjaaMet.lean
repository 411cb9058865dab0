/- met: the blocks that are come to, in order, and the number of each. -/
import Derived.Test.YtmcoidnonmmpjaaSee
import Derived.Deep.RegionHeld3
namespace Go.Proofs.Ytmcoidnonmmpjaa
open Go.RowKit
set_option linter.unusedVariables false

/-- rows of one number. -/
theorem mkRow_numbers (xs : List Value) (N : Nat) (h : xs.length = N) : mkRow (fun _ => Value.int .i64 (-1)) xs N = (numbers [] N).map (Value.int .i64) := by
  rw [mkRow_all _ _ _ h, numbers_nil, List.map_replicate]
  refine List.ext_getElem (by simp) fun i h1 h2 => by simp

set_option maxHeartbeats 4000000 in
set_option maxRecDepth 100000 in
theorem met_any {B : Nat} (v vr : Value) (ws rs : List Int) (h b n : Nat) (ps : List Nat) (w : World) (hR : Right ws h b n ps) (hr : Rd B .i64 w v ws) (hw : intsOk ws) (hq : Rd B .i64 w vr rs) (hx : rs.all (wordIn ps) = true) (hrl : rs.length ≤ 4294967296) :
    Calls Try.prog 60 #[.agg #[v, .int .i64 h, .int .i64 b, .int .i64 n], vr] w fun e w' => ∃ ov nv, e = .returned (.tuple #[ov, nv]) ∧ w'.ownsRow w.heap.size 3 1 ov (orderOf ws rs).length ((orderOf ws rs).map ofN) ∧
      Rd w'.heap.size .i64 w' nv (numbers (orderOf ws rs) ws.length) ∧ Below w.heap.size w w' := by
  obtain ⟨i0, hi, hz0, hz1, hz2⟩ := info_parts Try.infoI2
  have hN0 := hR.n_le
  have hNz : 0 < ws.length := by have := hR.frame.len; have := hR.frame.h0; omega
  obtain ⟨hN1, hN2⟩ := hN0
  have hbl := fun (B : Nat) (W : World) (p : Nat) (hp : p ∈ ps) (hr : Rd B .i64 W v ws) => blockAt_any v ws h b n p W hr hw (hR.at_ hp).2.2.1 (Nat.le_trans (hR.at_ hp).2.2.2.1 hN1) (by omega)
  have HBL := Lib.hid hbl
  have hpN : ∀ p ∈ ps, p < ws.length := fun p hp => Nat.lt_of_lt_of_le (hR.at_ hp).2.1 hN1
  have hpl : ps.length ≤ 6000 := by have := hR.len; omega
  have RW := Lib.hid (fun (W : World) (hb : Below w.heap.size w W) => hr.below' hb)
  have RQ := Lib.hid (fun (W : World) (hb : Below w.heap.size w W) => hq.below' hb)
  have HRi := Lib.hid hR
  have HPN := Lib.hid hpN
  have HXR := Lib.hid hx
  have hkl := fun (p : Nat) => kidsAt_le ws p
  have HKL := Lib.hid hkl
  obtain ⟨a, cap, rfl⟩ := hr.form
  obtain ⟨qa, qc, rfl⟩ := hq.form
  clear hr hq hw hbl hR hpN hx hkl
  go_enter Try.func60, Try.ntmps60
  go_wp2_with (refine wpList_make_full _ rfl (.tmp 17) (.tmp 17) 24 rfl (w.heap.size + 1) 3 i0 (.int .i64 0) 1 Try.underlying24 hi hz0 hz1 .i64 .i64 _ _ ws.length rfl rfl rfl rfl ?_ ?_ ?_ ?_)
  · rw [hz2]; omega
  · unfold maxLen; omega
  · simp
  · intro w1 hown hgrow
    generalize hx : ((w.alloc _).alloc _).alloc _ = x at hgrow
    have hoo : x.ownsRow (w.heap.size + 1) 3 1 (.slice (some ⟨w.heap.size + 1, 0, none⟩) 0 0) 0 [] := by
      rw [← hx]
      exact (own_empty (by simp) (by simp)).alloc _
    obtain ⟨bx, k1, _, k3, sx⟩ := alloc_box3 hx
    have b1 : Below w.heap.size w w1 := bx.trans (Below.of_grown hgrow (by omega) (fun k hk => by cases hk))
    have k11 := k1.grown hgrow (fun h => by cases h)
    have k13 := k3.grown hgrow (fun h => by cases h)
    have oo1 := hoo.kept hgrow (.inr (fun h => by cases h))
    obtain ⟨xs, hown, hlen⟩ : ∃ xs, w1.ownsRow (w.heap.size + 1) 3 1 (.slice (some ⟨w.heap.size + 1 + 1 + 1, 0, none⟩) ws.length ws.length) ws.length xs ∧ xs.length = ws.length := ⟨_, hown, by simpa using hown.1⟩
    have HL := Lib.hid hlen
    have hg1 := (hown.lt _ rfl).2
    obtain ⟨gr, hgr⟩ : ∃ gr, w.heap.size + 1 + 1 + 1 = gr := ⟨_, rfl⟩
    rw [hgr] at hown hg1 ⊢
    obtain ⟨go, hgo⟩ : ∃ go, w.heap.size + 2 = go := ⟨_, rfl⟩
    rw [hgo] at k13
    have hgo' : w.heap.size + 1 + 1 = go := hgo
    have e1 : w.heap.size + 1 < go := by omega
    have e2 : go < gr := by omega
    clear hgrow hlen hoo bx k1 k3 hx sx
    go_wp2
    generalize hx : w1.alloc _ = x1
    obtain ⟨bx, k2⟩ := Bx.alloc hx
    have z1 := bx.size
    have k21 := k11.below bx k11.1
    have k23 := k13.below bx k13.1
    have oo2 := own_below oo1 bx (own_lt oo1)
    have on2 := own_below hown bx (own_lt hown)
    have b2 := b1.trans (bx.mono b1.size)
    obtain ⟨gn, hgn⟩ : ∃ gn, w1.heap.size = gn := ⟨_, rfl⟩
    rw [hgn] at k2 ⊢
    have e3 : gr < gn := by omega
    have e4 : gn < x1.heap.size := k2.1
    have HGO := Lib.hid hgo
    have HGR := Lib.hid hgr
    have HGN := Lib.hid hgn
    have K21 := Lib.hid k21
    have K23 := Lib.hid k23
    have K2 := Lib.hid k2
    have OO2 := Lib.hid oo2
    have ON2 := Lib.hid on2
    have B2 := Lib.hid b2
    clear hx bx k11 k13 oo1 hown b1 hgo hgr hgn hgo' k21 k23 oo2 on2 b2 hg1
    clear k2
    go_loopw [21] (fun i wr => ∃ k : Nat, k ≤ ws.length ∧ i = .int .i64 k ∧ wr.ownsRow (w.heap.size + 1) 3 1 (.slice (some ⟨gr, 0, none⟩) ws.length ws.length) ws.length (mkRow (fun _ => Value.int .i64 (-1)) xs k) ∧
      Bx wr w.heap.size #[.slice a ws.length cap, .int .i64 h, .int .i64 b, .int .i64 n] ∧ Bx wr go #[.slice (some ⟨w.heap.size + 1, 0, none⟩) 0 0] ∧ Bx wr gn #[.slice (some ⟨gr, 0, none⟩) ws.length ws.length] ∧
      wr.ownsRow (w.heap.size + 1) 3 1 (.slice (some ⟨w.heap.size + 1, 0, none⟩) 0 0) 0 [] ∧ Below w.heap.size w wr) (fun i _ => ws.length - (intOf i).toNat)
    case atStart => exact ⟨0, Nat.zero_le _, rfl, by rw [mkRow_zero]; exact ON2.out, K21.out, K23.out, K2.out, OO2.out, B2.out⟩
    case round =>
      clear K21 K23 K2 OO2 ON2 B2
      obtain ⟨k, hk, rfl, hon, k1, k3, k2, hoo, hb⟩ := hrel
      by_cases hlt : k < ws.length
      · have c1 := own_cell hon k hlt
        rw [mkRow_get _ _ _ (by rw [HL.out]; exact hlt)] at c1
        have f1 := own_frozen hon k
        have on3 := own_set hon k hlt (.int .i64 (-1))
        rw [mkRow_set (fun _ => Value.int .i64 (-1)) xs k (by rw [HL.out]; exact hlt)] at on3
        have g3 := grownBy.setCell wr gr k (.int .i64 (-1))
        have k13 := k1.grown g3 (fun h => by have := Option.some.inj h; omega)
        have k33 := k3.grown g3 (fun h => by have := Option.some.inj h; omega)
        have k23 := k2.grown g3 (fun h => by have := Option.some.inj h; omega)
        have oo3 := hoo.kept g3 (.inr (fun h => absurd (Option.some.inj h) (by show ¬ (w.heap.size + 1 = gr); omega)))
        have b3 := hb.setCell (p := ⟨gr, k, none⟩) (by dsimp only; omega) (.int .i64 (-1))
        have q2 := k2.2.1
        have hki : (k : Int) < (ws.length : Int) := by omega
        have K13 := Lib.hid k13
        have K33 := Lib.hid k33
        have K23 := Lib.hid k23
        have OO3 := Lib.hid oo3
        have ON3 := Lib.hid on3
        have B3 := Lib.hid b3
        clear k13 k33 k23 oo3 on3 b3 g3 hon hoo hb k1 k2 k3
        go_wp2
        go_roundw
        case rel => exact ⟨k + 1, hlt, by go_num, ON3.out, K13.out, K33.out, K23.out, OO3.out, B3.out⟩
        case measure => simp [intOf]; omega
      · obtain rfl : k = ws.length := by omega
        rw [mkRow_numbers _ _ HL.out] at hon
        have hA : Apart (w.heap.size + 1) gn go gr := ⟨by omega, by omega, by omega, by omega, by omega⟩
        have hS : Seen wr (w.heap.size + 1) gn go gr ws.length ws.length (.slice (some ⟨w.heap.size + 1, 0, none⟩) 0 0) [] := ⟨k2, k3, hon, hoo, fun k h => by have e : w.heap.size + 1 = k := Option.some.inj h; subst e; exact ⟨by omega, by omega, by omega⟩⟩
        have HC := Lib.hid (see_any (B := w.heap.size) hA _ (.slice qa rs.length qc) ps [] rs wr hS (RQ.out _ hb) (by omega) (ordered_nil ps) HXR.out HPN.out (by omega) hpl hrl)
        have K1 := Lib.hid k1
        have HB := Lib.hid hb
        clear hA hS hon hoo k1 k2 k3 hb
        go_wp2_with fail
        refine HC.out.mono ?_
        rintro e w2 ⟨rfl, ⟨ov, hS⟩, b2⟩
        have k1 := K1.out.below b2 (by omega)
        have b4 := HB.out.trans (b2.mono (by have := HB.out.size; omega))
        have hoS := seeL_ok (ordered_nil ps) HXR.out
        have hbf : bfs ws (ws.length - 0) 0 (seeL [] rs) = orderOf ws rs := rfl
        obtain ⟨S0, hS0⟩ : ∃ S0, seeL [] rs = S0 := ⟨_, rfl⟩
        rw [hS0] at hS hoS hbf
        have K4 := Lib.hid k1
        have S4 := Lib.hid hS
        have O4 := Lib.hid hoS
        have F4 := Lib.hid hbf
        have B4 := Lib.hid b4
        clear hS hoS hbf k1 b4 b2 K1 HB hS0 HC
        go_wp2
        go_loopw [10] (fun t wr => ∃ (i : Nat) (ov' : Value) (S : List Nat), t = .int .i64 i ∧ i ≤ S.length ∧ Seen wr (w.heap.size + 1) gn go gr ws.length ws.length ov' S ∧ Ordered ps S ∧ Hid (bfs ws (ws.length - i) i S = orderOf ws rs) ∧
          Bx wr w.heap.size #[.slice a ws.length cap, .int .i64 h, .int .i64 b, .int .i64 n] ∧ Below w.heap.size w wr) (fun t _ => ws.length - (intOf t).toNat)
        case atStart => exact ⟨0, ov, S0, rfl, Nat.zero_le _, S4.out, O4.out, F4.out, K4.out, B4.out⟩
        case round =>
          clear S4 O4 F4 K4 B4
          obtain ⟨i, ov', S, rfl, hiS, hS, hO, hf, k1, hb⟩ := hrel
          have hSl := HRi.out.ord_len hO
          obtain ⟨oa, oc, rfl⟩ := own_form hS.oo
          by_cases hlt : i < S.length
          · have hpm : S.getD i 0 ∈ ps := hO.2 _ (get_mem hlt)
            have co := own_cell_any hS.oo i hlt
            have hf' := hf.out
            rw [show ws.length - i = (ws.length - (i + 1)) + 1 by omega, bfs_go hlt] at hf'
            have hO' := HRi.out.see hO hlt
            obtain ⟨oad, rfl, co⟩ := co
            rw [List.getElem?_map, List.getElem?_eq_getElem hlt, Option.map_some, show S[i] = S.getD i 0 by simp [List.getD, List.getElem?_eq_getElem hlt]] at co
            obtain ⟨p, hpp⟩ : ∃ p, S.getD i 0 = p := ⟨_, rfl⟩
            rw [hpp] at hpm co hf' hO'
            have q1 := k1.2.1
            have q3 := hS.bo.2.1
            have hii : (i : Int) < (S.length : Int) := by omega
            have q10 := q1 0
            have q11 := q1 1
            have q12 := q1 2
            have q13 := q1 3
            have q30 := q3 0
            simp at q10 q11 q12 q13 q30
            have lg := (hS.oo.lt oad rfl).2
            have lo := hS.bo.1
            have l1 := k1.1
            have S3 := Lib.hid hS
            have K3 := Lib.hid k1
            have B3 := Lib.hid hb
            have F3 := Lib.hid hf'
            have O3 := Lib.hid hO'
            have OO := Lib.hid hO
            clear hS hO hf k1 hb hf' hO' hpp q1 q3
            go_wp2_with fail
            go_region_held3 (fun w' => w'.cell? ⟨w.heap.size, 0, none⟩ = some (.slice a ws.length cap) ∧ w'.cell? ⟨w.heap.size, 1, none⟩ = some (.int .i64 h) ∧ w'.cell? ⟨w.heap.size, 2, none⟩ = some (.int .i64 b) ∧ w'.cell? ⟨w.heap.size, 3, none⟩ = some (.int .i64 n) ∧
              w'.cell? ⟨go, 0, none⟩ = some (.slice (some ⟨oad, 0, none⟩) S.length oc) ∧ w'.cell? ⟨oad, i, none⟩ = some (ofN p)) (first | (go_split_ands; refine ⟨?_, ?_, ?_, ?_, ?_, ?_⟩ <;> (refine (b5.cell (by simp only [World.size_drew]; omega)).trans ?_; with_reducible assumption)) | (go_keep; done)) (first | (go_at_call 52; refine (HBL.out _ _ p hpm (RW.out _ (by exact B3.out.drew))).mono ?_; rintro e w5 ⟨u, hu, ru, b5⟩; subst hu))

            obtain ⟨ua, uc, rfl⟩ := ru.form
            have b5' : Below wr.heap.size wr w5 := ((Below.refl _ _).drew).trans b5
            have S5 := S3.out.below b5'
            have k5 := K3.out.below b5' K3.out.1
            have B5 := B3.out.trans (b5'.mono B3.out.size)
            have z3 := b5'.size
            have hA : Apart (w.heap.size + 1) gn go gr := ⟨by omega, by omega, by omega, by omega, by omega⟩
            have HC := Lib.hid (see_any (B := w.heap.size) hA _ (.slice ua (kidsAt ws p).length uc) ps S (kidsAt ws p) w5 S5 ru (by omega) OO.out (HRi.out.at_ hpm).2.2.2.2 HPN.out (by omega) hpl (by have := HKL.out p; omega))
            have K5 := Lib.hid k5
            have B5' := Lib.hid B5
            have z5 := b5.size
            clear hA S5 k5 B5 b5 b5' ru S3 K3 B3 q10 q11 q12 q13 q30 co
            go_wp2_with fail
            refine HC.out.mono ?_
            rintro e w6 ⟨rfl, ⟨ov6, hS6⟩, b6⟩
            have K6 := Lib.hid (K5.out.below b6 (by omega))
            have B6 := Lib.hid (B5'.out.trans (b6.mono (by have := B5'.out.size; omega)))
            have S6 := Lib.hid hS6
            clear hS6 b6 K5 B5' HC
            go_wp2
            go_roundw
            case rel => exact ⟨i + 1, ov6, seeL S (kidsAt ws p), by go_num, by have := F3.out; exact seeL_grow hlt, S6.out, O3.out, F3.out, K6.out, B6.out⟩
            case measure => simp [intOf]; omega
          · obtain rfl : i = S.length := by omega
            have hfe := hf.out
            rw [bfs_end (Nat.lt_irrefl _)] at hfe
            subst hfe
            have q3 := hS.bo.2.1
            have q2 := hS.bn.2.1
            have OO := Lib.hid hS.oo
            have ON := Lib.hid hS.on
            have HB := Lib.hid hb
            clear hS hO hf k1 hb
            go_wp2_with fail
            go_quiet (fail)
            go_wp2
            go_ret2
            refine ⟨_, _, rfl, own_base (base := w.heap.size + 1) (own_below OO.out (below_drewN (Below.refl _ _) _) (own_lt OO.out)) (by omega), ?_, below_drewN HB.out _⟩
            have o := own_below ON.out (below_drewN (Below.refl _ wr) nq) (own_lt ON.out)
            have o' : (wr.drewN nq).ownsRow (w.heap.size + 1) 3 1 (.slice (some ⟨gr, 0, none⟩) ws.length ws.length) (numbers (orderOf ws rs) ws.length).length ((numbers (orderOf ws rs) ws.length).map (Value.int .i64)) := by rw [numbers_len]; exact o
            exact Rd.of_own o'

end Go.Proofs.Ytmcoidnonmmpjaa
