/- l18Order: the blocks that are come to, in order. -/
import Derived.Test.YtmcoidnonmmpjaaMoveP
import Derived.Test.YtmcoidnonmmpjaaAppR
import Derived.Test.YtmcoidnonmmpjaaWordOk
import Derived.Test.YtmcoidnonmmpjaaHdr
import Derived.IntWalk
namespace Go.Proofs.Ytmcoidnonmmpjaa
open Go.RowKit
set_option linter.unusedVariables false

theorem Rd.of_nums {base : Nat} {w : World} {a : Option Addr} {c : Nat} {S : List Nat} (h : w.ownsRow base 3 1 (.slice a S.length c) S.length (S.map ofN)) : Rd w.heap.size .i64 w (.slice a S.length c) (nums S) := by
  rw [map_ofN] at h
  have h2 : w.ownsRow base 3 1 (.slice a S.length c) (nums S).length ((nums S).map (Value.int .i64)) := by rw [nums_len]; exact h
  exact Rd.of_own h2
theorem mem_nums_nat {S : List Nat} {p : Nat} : decide ((p : Int) ∈ nums S) = decide (p ∈ S) := by
  rw [decide_eq_decide, mem_nums]
  constructor
  · rintro ⟨q, hq, e⟩
    have : q = p := by omega
    exact this ▸ hq
  · exact fun h => ⟨p, h, rfl⟩

set_option maxHeartbeats 4000000 in
set_option maxRecDepth 100000 in
theorem l18Order_any {B : Nat} (v vr : Value) (ws rs : List Int) (h b n : Nat) (ps : List Nat) (w : World) (hR : Right ws h b n ps) (hr : Rd B .i64 w v ws) (hw : intsOk ws) (hq : Rd B .i64 w vr rs) (hx : rs.all (wordIn ps) = true) (hrl : rs.length ≤ 4294967296) :
    Calls Try.prog 62 #[.agg #[v, .int .i64 h, .int .i64 b, .int .i64 n], vr] w fun e w' => ∃ u, e = .returned u ∧ w'.ownsRow w.heap.size 3 1 u (orderOf ws rs).length ((orderOf ws rs).map ofN) ∧ Below w.heap.size w w' := by
  obtain ⟨i0, hi, hz0, hz1, hz2⟩ := info_parts Try.infoI2
  obtain ⟨hN1, hN2⟩ := hR.n_le
  have hpl : ps.length ≤ 6000 := by have := hR.len; omega
  have RW := Lib.hid (fun (W : World) (hb : Below w.heap.size w W) => hr.below' hb)
  have RQ := Lib.hid (fun (W : World) (hb : Below w.heap.size w W) => hq.below' hb)
  have HRi := Lib.hid hR
  have HXR := Lib.hid hx
  have HWO := Lib.hid hw
  obtain ⟨a, cap, rfl⟩ := hr.form
  obtain ⟨qa, qc, rfl⟩ := hq.form
  clear hr hq hw hR hx
  go_enter Try.func62, Try.ntmps62
  go_wp2
  generalize hxx : (w.alloc _).alloc _ = x
  have hoo : x.ownsRow (w.heap.size + 1) 3 1 (.slice (some ⟨w.heap.size + 1, 0, none⟩) 0 0) 0 [] := by
    rw [← hxx]
    exact own_empty (by simp) (by simp)
  obtain ⟨bx, k1, _, sx⟩ := alloc_box2 hxx
  have BX := Lib.hid bx
  have OO := Lib.hid hoo
  have K1 := Lib.hid k1
  clear hxx bx hoo k1 sx
  go_loopw [5, 6] (fun u t wr => ∃ (k : Nat) (S : List Nat), t = .int .i64 k ∧ k ≤ rs.length ∧ wr.ownsRow (w.heap.size + 1) 3 1 u S.length (S.map ofN) ∧ Hid (S = seeL [] (rs.take k)) ∧
    Bx wr w.heap.size #[.slice a ws.length cap, .int .i64 h, .int .i64 b, .int .i64 n] ∧ Below w.heap.size w wr) (fun _ t _ => rs.length - (intOf t).toNat)
  case atStart => exact ⟨0, [], rfl, Nat.zero_le _, OO.out, Lib.hid rfl, K1.out, BX.out⟩
  case round =>
    clear OO K1 BX
    obtain ⟨k, S, rfl, hk, ho, hS, k1, hb⟩ := hrel
    obtain ⟨oa, oc, rfl⟩ := own_form ho
    have z1 := k1.1
    have hSO : Ordered ps S := by rw [hS.out]; exact seeL_ok (ordered_nil ps) (all_take k HXR.out)
    have hSl : S.length ≤ 6000 := Nat.le_trans (nodup_len S ps hSO.1 hSO.2) hpl
    by_cases hlt : k < rs.length
    · rcases RQ.out _ hb with ⟨h', _⟩ | ⟨bl, off, c', hv, _, hbs, _, hc⟩
      · rw [h'] at hlt; simp at hlt
      cases hv
      have c0 := hc k hlt
      have hx1 := all_get HXR.out hlt
      have hst := seeL_take (o := []) hlt
      rw [← hS.out] at hst
      obtain ⟨x, hxx⟩ : ∃ x, rs.getD k 0 = x := ⟨_, rfl⟩
      rw [hxx] at c0 hx1 hst
      have HST := Lib.hid hst
      have SO := Lib.hid hSO
      have HL := Lib.hid (fun (n : Int) => l7In_any (.slice oa S.length oc) (nums S) n wr (Rd.of_nums ho))
      have HO := Lib.hid ho
      have HB := Lib.hid hb
      have K1 := Lib.hid k1
      clear hst hxx hc hSO ho hb k1
      have hkx : (k : Int) < (rs.length : Int) := by omega
      by_cases hev : x % 2 = 0
      · obtain ⟨p, hpp, hpx⟩ := wordIn_ref hx1 hev
        have HX := Lib.hid hpx
        have hpe : (x / 2).toNat = p := by omega
        have HSW := Lib.hid (show seeW S x = if p ∈ S then S else S ++ [p] by unfold seeW; rw [if_pos hev, hpe])
        have e1 : (x % 2 == 0) = true := by simp; omega
        clear hpx hpe hx1
        by_cases hin : p ∈ S
        · have HL2 := Lib.hid (by have := HL.out (p : Int); rw [mem_nums_nat, decide_eq_true hin] at this; exact this : Calls Try.prog 54 #[.slice oa S.length oc, .int .i64 p] wr _)
          have HIN := Lib.hid hin
          clear hin
          go_wp2_with (first | (go_at_call 50; refine (sWordRef_any _ _).mono ?_; rw [← HX.out]; rintro e w' ⟨rfl, rfl⟩) | (go_at_call 78; refine (sIsRef_any _ _).mono ?_; rintro e w' ⟨rfl, rfl⟩) | (go_at_call 54; refine HL2.out.mono ?_; rintro e w' ⟨rfl, rfl⟩))
          go_roundw
          case rel => exact ⟨k + 1, S, by go_num, hlt, HO.out, Lib.hid (by rw [HST.out, HSW.out, if_pos HIN.out]), K1.out, HB.out⟩
          case measure => simp [intOf]; omega
        · have HL2 := Lib.hid (by have := HL.out (p : Int); rw [mem_nums_nat, decide_eq_false hin] at this; exact this : Calls Try.prog 54 #[.slice oa S.length oc, .int .i64 p] wr _)
          have HIN := Lib.hid hin
          clear hin
          go_wp2_with (first | (go_at_call 50; refine (sWordRef_any _ _).mono ?_; rw [← HX.out]; rintro e w' ⟨rfl, rfl⟩) | (go_at_call 78; refine (sIsRef_any _ _).mono ?_; rintro e w' ⟨rfl, rfl⟩) | (go_at_call 54; refine HL2.out.mono ?_; rintro e w' ⟨rfl, rfl⟩) | (at_builtin; refine wpList_app1_at rfl _ _ 24 rfl (w.heap.size + 1) 3 i0 (.int .i64 0) 1 8 Try.underlying24 hi hz0 hz1 hz2 rfl (by decide) _ _ _ rfl HO.out #[_] rfl ?_ wr.heap.size rfl rfl ?_ ?_ ?_ ?_))
          · rfl
          · unfold maxLen; omega
          · omega
          · omega
          · intro v' w4 ho4 hg4 hat4
            have k4 := K1.out.grown hg4 (fun h => by have := (HO.out.lt _ h.symm).1; omega)
            have b4 := HB.out.trans (Below.of_grown (B := w.heap.size) hg4 (by omega) (fun k hk => by have := (HO.out.lt k hk).1; omega))
            have R : w4.ownsRow (w.heap.size + 1) 3 1 v' (S ++ [p]).length ((S ++ [p]).map ofN) := by simpa [ofN] using ho4
            have RR := Lib.hid R
            have K4 := Lib.hid k4
            have B4 := Lib.hid b4
            clear ho4 hg4 hat4 R k4 b4
            go_wp2
            go_roundw
            case rel => exact ⟨k + 1, S ++ [p], by go_num, hlt, RR.out, Lib.hid (by rw [HST.out, HSW.out, if_neg HIN.out]), K4.out, B4.out⟩
            case measure => simp [intOf]; omega
      · have e1 : (x % 2 == 0) = false := by simp; omega
        have HSW := Lib.hid (show seeW S x = S by unfold seeW; rw [if_neg hev])
        clear hev hx1
        go_wp2_with (first | (go_at_call 78; refine (sIsRef_any _ _).mono ?_; rintro e w' ⟨rfl, rfl⟩))
        go_roundw
        case rel => exact ⟨k + 1, S, by go_num, hlt, HO.out, Lib.hid (by rw [HST.out, HSW.out]), K1.out, HB.out⟩
        case measure => simp [intOf]; omega
    · obtain rfl : k = rs.length := by omega
      have hf : bfs ws (ws.length - 0) 0 S = orderOf ws rs := by rw [hS.out, List.take_of_length_le (Nat.le_refl _)]; rfl
      have F := Lib.hid hf
      have SO := Lib.hid hSO
      have HO := Lib.hid ho
      have HB := Lib.hid hb
      have K1 := Lib.hid k1
      clear hf hSO ho hb k1 hS
      go_wp2
      go_loopw [5, 7] (fun u t wr => ∃ (i : Nat) (S : List Nat), t = .int .i64 i ∧ i ≤ S.length ∧ wr.ownsRow (w.heap.size + 1) 3 1 u S.length (S.map ofN) ∧ Ordered ps S ∧ Hid (bfs ws (ws.length - i) i S = orderOf ws rs) ∧
        Bx wr w.heap.size #[.slice a ws.length cap, .int .i64 h, .int .i64 b, .int .i64 n] ∧ Below w.heap.size w wr) (fun _ t _ => ws.length - (intOf t).toNat)
      case atStart => exact ⟨0, S, rfl, Nat.zero_le _, HO.out, SO.out, F, K1.out, HB.out⟩
      case round =>
        clear SO F HO HB K1
        obtain ⟨i, S, rfl, hiS, ho, hO, hf, k1, hb⟩ := hrel
        have hSl := HRi.out.ord_len hO
        obtain ⟨oa, oc, rfl⟩ := own_form ho
        by_cases hlt : i < S.length
        · have hpm : S.getD i 0 ∈ ps := hO.2 _ (get_mem hlt)
          obtain ⟨oad, rfl, co⟩ := own_cell_any ho i hlt
          have hf' := hf.out
          rw [show ws.length - i = (ws.length - (i + 1)) + 1 by omega, bfs_go hlt] at hf'
          rw [List.getElem?_map, List.getElem?_eq_getElem hlt, Option.map_some, show S[i] = S.getD i 0 by simp [List.getD, List.getElem?_eq_getElem hlt]] at co
          obtain ⟨p, hpp⟩ : ∃ p, S.getD i 0 = p := ⟨_, rfl⟩
          rw [hpp] at hpm co hf'
          unfold ofN at co
          obtain ⟨_, hpn, hph, hpf, hpk⟩ := HRi.out.at_ hpm
          have hxi := HWO.out p
          rcases RW.out _ hb with ⟨h', _⟩ | ⟨bl, off, c', hv, _, hbs, _, hc⟩
          · rw [h'] at hN1; simp at hN1; omega
          cases hv
          have c0 := hc p (by omega)
          obtain ⟨X, hXX⟩ : ∃ X, ws.getD p 0 = X := ⟨_, rfl⟩
          have HXX := Lib.hid hXX
          rw [hXX] at hph hpf hxi c0
          have hX0 := (hOk_true.1 hph).2.1
          have hkn := hK_cast X
          have hkb : hK X ≤ 20 := by have := (hOk_true.1 hph).2.2.2; omega
          have HH := Lib.hid (fun (W : World) => (l17Of_any X W hX0 hxi.2).mono (fun e w' hp => And.intro hp.1 hp.2.symm))
          rw [← hkn] at HH
          have q1 := k1.2.1
          have hii : (i : Int) < (S.length : Int) := by omega
          have hpi : (p : Int) < (ws.length : Int) := by omega
          have HO := Lib.hid ho
          have HOr := Lib.hid hO
          have HF := Lib.hid hf'
          have K1 := Lib.hid k1
          have HB := Lib.hid hb
          have HPP := Lib.hid hpp
          clear ho hO hf hf' k1 hb hc hXX hkn hpp hxi
          go_wp2_with fail
          go_quiet ((go_at_call 48; exact Calls.quiet_of_same (HH.out _)))
          have HO2 := own_below HO.out (below_drewN (Below.refl _ wr) nq) (own_lt HO.out)
          have K2 := K1.out.below (below_drewN (Below.refl _ wr) nq) K1.out.1
          have B2 := below_drewN HB.out nq
          generalize hwd : wr.drewN nq = w2 at HO2 K2 B2
          have HO3 := Lib.hid HO2
          have K3 := Lib.hid K2
          have B3 := Lib.hid B2
          clear hwd HO2 K2 B2 co c0 q1 HO K1 HB HH
          go_wp2
          go_loopw [5, 11] (fun u t wr => ∃ (j : Nat) (T : List Nat), t = .int .i64 j ∧ 1 ≤ j ∧ j ≤ hK X + 1 ∧ wr.ownsRow (w.heap.size + 1) 3 1 u T.length (T.map ofN) ∧ Hid (T = seeL S ((kidsAt ws p).take (j - 1))) ∧
            Bx wr w.heap.size #[.slice (some ⟨bl, off, none⟩) ws.length cap, .int .i64 h, .int .i64 b, .int .i64 n] ∧ Below w.heap.size w wr) (fun _ t _ => hK X + 1 - (intOf t).toNat)
          case atStart => exact ⟨1, S, rfl, Nat.le_refl _, by omega, HO3.out, Lib.hid (by simp [seeL]), K3.out, B3.out⟩
          case round =>
            clear HO3 K3 B3
            obtain ⟨j, T, rfl, hj1, hj2, ho, hT, k1, hb⟩ := hrel
            obtain ⟨ta, tc, rfl⟩ := own_form ho
            have hTO : Ordered ps T := by rw [hT.out]; exact seeL_ok HOr.out (all_take _ hpk)
            have hTl : T.length ≤ 6000 := Nat.le_trans (nodup_len T ps hTO.1 hTO.2) hpl
            have hST : S.length ≤ T.length := by rw [hT.out]; exact seeL_len _ _
            have hTi : T.getD i 0 = p := by rw [hT.out, seeL_at hlt, HPP.out]
            by_cases hjk : j ≤ hK X
            · have hkl : (kidsAt ws p).length = hK X := by rw [kidsAt_len (by rw [HXX.out]; omega), HXX.out]
              have hjl : j - 1 < (kidsAt ws p).length := by omega
              have hy0 : (kidsAt ws p).getD (j - 1) 0 = ws.getD (p + j) 0 := by rw [kids_get (by rw [HXX.out]; omega), show p + (j - 1 + 1) = p + j by omega]
              have hx1 := all_get hpk hjl
              have hst := seeL_take (o := S) hjl
              rw [← hT.out, show j - 1 + 1 = j + 1 - 1 by omega] at hst
              rw [hy0] at hst hx1
              obtain ⟨tad, rfl, co⟩ := own_cell_any ho i (by omega)
              rw [List.getElem?_map, List.getElem?_eq_getElem (by omega), Option.map_some, show T[i]'(by omega) = T.getD i 0 by simp [List.getD, List.getElem?_eq_getElem (show i < T.length by omega)], hTi] at co
              unfold ofN at co
              rcases RW.out _ hb with ⟨h', _⟩ | ⟨bl', off', c', hv, _, hbs', _, hc⟩
              · rw [h'] at hN1; simp at hN1; omega
              cases hv
              have c0 := hc (p + j) (by omega)
              obtain ⟨x, hxx⟩ : ∃ x, ws.getD (p + j) 0 = x := ⟨_, rfl⟩
              rw [hxx] at c0 hx1 hst
              have HST := Lib.hid hst
              have TO := Lib.hid hTO
              have q1 := k1.2.1
              have s1 : IntKind.i64.wrap ((p : Int) + (j : Int)) = (p : Int) + (j : Int) := IntWalk.i64_in _ (by omega)
              have s2 : (0 : Int) ≤ (p : Int) + (j : Int) := by omega
              have s3 : ((p : Int) + (j : Int)).toNat = p + j := by omega
              have s4 : (p : Int) + (j : Int) < (ws.length : Int) := by omega
              have s5 : (i : Int) < (T.length : Int) := by omega
              have HO := Lib.hid ho
              have HB := Lib.hid hb
              have K1 := Lib.hid k1
              clear hst hxx hc hTO ho hb k1 hT hTi hkl hjl hy0
              go_wp2_with fail
              go_quiet (fail)
              clear s1 s2 s3 s4
              have HO2 := own_below HO.out (below_drewN (Below.refl _ wr) nq) (own_lt HO.out)
              have K2 := K1.out.below (below_drewN (Below.refl _ wr) nq) K1.out.1
              have B2 := below_drewN HB.out nq
              generalize hwd : wr.drewN nq = w2 at HO2 K2 B2
              have HL := Lib.hid (fun (n : Int) => l7In_any (.slice (some ⟨tad, 0, none⟩) T.length tc) (nums T) n w2 (Rd.of_nums HO2))
              have HO3 := Lib.hid HO2
              have K3 := Lib.hid K2
              have B3 := Lib.hid B2
              have z2 := K2.1
              clear hwd HO2 K2 B2 co c0 q1 HO K1 HB
              by_cases hev : x % 2 = 0
              · obtain ⟨p2, hpp, hpx⟩ := wordIn_ref hx1 hev
                have HX := Lib.hid hpx
                have hpe : (x / 2).toNat = p2 := by omega
                have HSW := Lib.hid (show seeW T x = if p2 ∈ T then T else T ++ [p2] by unfold seeW; rw [if_pos hev, hpe])
                have e1 : (x % 2 == 0) = true := by simp; omega
                clear hpx hpe hx1
                by_cases hin : p2 ∈ T
                · have HL2 := Lib.hid (by have := HL.out (p2 : Int); rw [mem_nums_nat, decide_eq_true hin] at this; exact this : Calls Try.prog 54 #[.slice (some ⟨tad, 0, none⟩) T.length tc, .int .i64 p2] w2 _)
                  have HIN := Lib.hid hin
                  clear hin
                  go_wp2_with (first | (go_at_call 50; refine (sWordRef_any _ _).mono ?_; rw [← HX.out]; rintro e w' ⟨rfl, rfl⟩) | (go_at_call 78; refine (sIsRef_any _ _).mono ?_; rintro e w' ⟨rfl, rfl⟩) | (go_at_call 54; refine HL2.out.mono ?_; rintro e w' ⟨rfl, rfl⟩))
                  go_roundw
                  case rel => exact ⟨j + 1, T, by go_num, by omega, by omega, HO3.out, Lib.hid (by rw [HST.out, HSW.out, if_pos HIN.out]), K3.out, B3.out⟩
                  case measure => simp [intOf]; omega
                · have HL2 := Lib.hid (by have := HL.out (p2 : Int); rw [mem_nums_nat, decide_eq_false hin] at this; exact this : Calls Try.prog 54 #[.slice (some ⟨tad, 0, none⟩) T.length tc, .int .i64 p2] w2 _)
                  have HIN := Lib.hid hin
                  clear hin
                  go_wp2_with (first | (go_at_call 50; refine (sWordRef_any _ _).mono ?_; rw [← HX.out]; rintro e w' ⟨rfl, rfl⟩) | (go_at_call 78; refine (sIsRef_any _ _).mono ?_; rintro e w' ⟨rfl, rfl⟩) | (go_at_call 54; refine HL2.out.mono ?_; rintro e w' ⟨rfl, rfl⟩) | (at_builtin; refine wpList_app1_at rfl _ _ 24 rfl (w.heap.size + 1) 3 i0 (.int .i64 0) 1 8 Try.underlying24 hi hz0 hz1 hz2 rfl (by decide) _ _ _ rfl HO3.out #[_] rfl ?_ w2.heap.size rfl rfl ?_ ?_ ?_ ?_))
                  · rfl
                  · unfold maxLen; omega
                  · omega
                  · omega
                  · intro v' w4 ho4 hg4 hat4
                    have k4 := K3.out.grown hg4 (fun h => by have := (HO3.out.lt _ h.symm).1; omega)
                    have b4 := B3.out.trans (Below.of_grown (B := w.heap.size) hg4 (by omega) (fun k hk => by have := (HO3.out.lt k hk).1; omega))
                    have R : w4.ownsRow (w.heap.size + 1) 3 1 v' (T ++ [p2]).length ((T ++ [p2]).map ofN) := by simpa [ofN] using ho4
                    have RR := Lib.hid R
                    have K4 := Lib.hid k4
                    have B4 := Lib.hid b4
                    clear ho4 hg4 hat4 R k4 b4
                    go_wp2
                    go_roundw
                    case rel => exact ⟨j + 1, T ++ [p2], by go_num, by omega, by omega, RR.out, Lib.hid (by rw [HST.out, HSW.out, if_neg HIN.out]), K4.out, B4.out⟩
                    case measure => simp [intOf]; omega
              · have e1 : (x % 2 == 0) = false := by simp; omega
                have HSW := Lib.hid (show seeW T x = T by unfold seeW; rw [if_neg hev])
                clear hev hx1
                go_wp2_with (first | (go_at_call 78; refine (sIsRef_any _ _).mono ?_; rintro e w' ⟨rfl, rfl⟩))
                go_roundw
                case rel => exact ⟨j + 1, T, by go_num, by omega, by omega, HO3.out, Lib.hid (by rw [HST.out, HSW.out]), K3.out, B3.out⟩
                case measure => simp [intOf]; omega
            · have hkl : (kidsAt ws p).length = hK X := by rw [kidsAt_len (by rw [HXX.out]; omega), HXX.out]
              have hTe : T = seeL S (kidsAt ws p) := by rw [hT.out, List.take_of_length_le (by omega)]
              have HTe := Lib.hid hTe
              have TO := Lib.hid hTO
              have HO := Lib.hid ho
              have HB := Lib.hid hb
              have K1 := Lib.hid k1
              clear hT hTi hTO ho hb k1 hkl hTe
              go_wp2
              go_roundw
              case rel => exact ⟨i + 1, T, by go_num, by omega, HO.out, TO.out, Lib.hid (by rw [HTe.out]; exact HF.out), K1.out, HB.out⟩
              case measure => simp [intOf]; omega
        · obtain rfl : i = S.length := by omega
          have hfe := hf.out
          rw [bfs_end (Nat.lt_irrefl _)] at hfe
          subst hfe
          have HO := Lib.hid ho
          have HB := Lib.hid hb
          clear ho hO hf k1 hb
          go_wp2
          go_ret
          exact ⟨_, rfl, own_base HO.out (by omega), HB.out⟩

end Go.Proofs.Ytmcoidnonmmpjaa
