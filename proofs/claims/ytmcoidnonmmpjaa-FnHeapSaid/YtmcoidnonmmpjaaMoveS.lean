/- l18Move, walked. -/
import Derived.Test.YtmcoidnonmmpjaaWkS
namespace Go.Proofs.Ytmcoidnonmmpjaa
open Go.RowKit
set_option linter.unusedVariables false
set_option linter.unusedSimpArgs false

set_option maxHeartbeats 1600000 in
set_option maxRecDepth 100000 in
theorem l18Move_any {B H gW gr N : Nat} (v wv nv : Value) (ws l : List Int) (h b n b' nx : Nat) (ps S : List Nat) (x : Int) (w : World) (hR : Right ws h b n ps) (hr : Rd B .i64 w v ws) (hBH : B ≤ H) (hw : intsOk ws)
    (hx : wordIn ps x = true) (hS : Ordered ps S) (hN : N = ws.length) (hb' : b' + h ≤ N) (hl : l.length = (raw ws S).length) (hnx : nx = b' + (raw ws S).length)
    (hk : Wk w H gW gr N v h b n b' (nx : Int) (lay b' N l) wv nv S (newPl ws b' S)) (hH : H ≤ gr) (hHw : H ≤ w.heap.size) :
    Calls Try.prog 85 #[.pointer (some ⟨gW, 0, none⟩), .int .i64 x] w fun e w' => e = .returned (.int .i64 (mv ws b' (seeW S x) x)) ∧ ∃ wv' nv' nx', nx' = b' + (raw ws (seeW S x)).length ∧
      Wk w' H gW gr N v h b n b' ((nx' : Nat) : Int) (lay b' N (l ++ newB ws S x)) wv' nv' (seeW S x) (newPl ws b' (seeW S x)) ∧ Below H w w' ∧ KeptW w w' gW gr wv nv ∧ FreshIn w.heap.size wv wv' ∧ FreshIn w.heap.size nv nv' := by
  obtain ⟨i0, hi, hz0, hz1, hz2⟩ := info_parts Try.infoI2
  have hNa : N ≤ ws.length := Nat.le_of_eq hN
  have hNb : ws.length ≤ N := Nat.le_of_eq hN.symm
  clear hN
  by_cases hev : x % 2 = 0
  · obtain ⟨p, hpp, hpx⟩ := wordIn_ref hx hev
    have hpe : (x / 2).toNat = p := by omega
    have e1 : (x % 2 == 0) = true := by simp; omega
    have HX := Lib.hid hpx
    have HWR := Lib.hid (fun (W : World) => (by have := sWordRef_any x W; rw [← HX.out] at this; exact this : Calls Try.prog 50 #[.int .i64 x] W _))
    have hSl := hR.ord_len hS
    obtain ⟨hN1, hN2⟩ := hR.n_le
    by_cases hin : p ∈ S
    · have hsw : seeW S x = S := by unfold seeW; rw [if_pos hev, hpe, if_pos hin]
      have hnb : newB ws S x = [] := by unfold newB; rw [if_pos hev, hpe, if_pos hin]
      rw [hsw, hnb, List.append_nil]
      obtain ⟨i, hi⟩ : ∃ i, S.idxOf p = i := ⟨_, rfl⟩
      have hil : i < S.length := hi ▸ List.idxOf_lt_length_of_mem hin
      have hig : S[i] = p := by subst hi; exact List.getElem_idxOf hil
      have hmv : mv ws b' S x = 2 * ((b' + (raw ws (S.take i)).length : Nat) : Int) := by
        unfold mv; rw [if_pos hev, hpe]; unfold newAt; rw [hi]
      have hle := newAt_le (b' := b') hR hS p
      unfold newAt at hle
      rw [hi] at hle
      obtain ⟨m, hm⟩ : ∃ m, b' + (raw ws (S.take i)).length = m := ⟨_, rfl⟩
      have hne : ∀ j (hj : j < S.length), j < i → S[j] ≠ p := fun j hj hlt => by
        have := List.pairwise_iff_getElem.1 hS.1 j i hj hil hlt
        rwa [hig] at this
      rw [hm] at hmv hle
      rw [hmv]
      have hrw := fun (W : World) => sRefWord_any (m : Int) W
      rw [show refW (m : Int) = 2 * (m : Int) by unfold refW inB; rw [if_pos (by simp; omega)]] at hrw
      have HRW := Lib.hid hrw
      obtain ⟨sa, sc, rfl⟩ := own_form hk.so
      obtain ⟨na, nc, rfl⟩ := own_form hk.no
      obtain ⟨sg, rfl, hcz⟩ := own_cell_any hk.so i hil
      clear hcz
      have hpl : (newPl ws b' S).length = S.length := newPl_len _ _ _
      obtain ⟨ng, rfl, cn⟩ := own_cell_any hk.no i (by rw [hpl]; exact hil)
      rw [List.getElem?_map, newPl_get hil, Option.map_some, hm] at cn
      unfold ofN at cn
      have hcs := fun (j : Nat) (hj : j < S.length) => (own_cell hk.so j hj)
      have hpl2 : (i : Int) < ((newPl ws b' S).length : Int) := by rw [hpl]; omega
      have HCS := Lib.hid hcs
      have HNE := Lib.hid hne
      have HIG := Lib.hid hig
      have HK := Lib.hid hk
      have qW := hk.bx.2.1
      have q8 := qW 8
      have q9 := qW 9
      have HNX := Lib.hid hnx
      clear hk hcs hne hig hrw hmv hsw hnb hin hpe hpl hm hi hS hR hr hw hl hx hpx qW hnx
      go_enter Try.func85, Try.ntmps85
      go_wp2_with (first | (go_at_call 78; refine (sIsRef_any _ _).mono ?_; rintro e w' ⟨rfl, rfl⟩) | (go_at_call 50; refine (HWR.out _).mono ?_; rintro e w' ⟨rfl, rfl⟩))
      go_loopw [6] (fun t wr => ∃ k : Nat, k ≤ i ∧ t = .int .i64 k ∧ wr = w) (fun t _ => i - (intOf t).toNat)
      case atStart => exact ⟨0, Nat.zero_le _, rfl, rfl⟩
      case round =>
        obtain ⟨k, hki, rfl, rfl⟩ := hrel
        have hks : (k : Int) < (S.length : Int) := by omega
        have ck := HCS.out k (by omega)
        rw [List.getElem?_map, List.getElem?_eq_getElem (by omega), Option.map_some] at ck
        unfold ofN at ck
        by_cases hke : k = i
        · subst hke
          rw [HIG.out] at ck
          go_wp2_with (go_at_call 90; refine (HRW.out _).mono ?_; rintro e w' ⟨rfl, rfl⟩)
          go_ret
          exact ⟨rfl, _, _, _, HNX.out, HK.out, Below.refl _ _, KeptW.refl _ _ _ _ _, FreshIn.refl _ _, FreshIn.refl _ _⟩
        · have hq := HNE.out k (by omega) (by omega)
          obtain ⟨q, hqq⟩ : ∃ q, S[k]'(by omega) = q := ⟨_, rfl⟩
          rw [hqq] at ck hq
          have e2 : ((q : Int) == (p : Int)) = false := by simp; omega
          clear hqq
          go_wp2
          go_roundw
          case rel => exact ⟨k + 1, by omega, by go_num, trivial⟩
          case measure => simp [intOf]; omega
    · have hsw : seeW S x = S ++ [p] := by unfold seeW; rw [if_pos hev, hpe, if_neg hin]
      have hnb : newB ws S x = blk ws p := by unfold newB; rw [if_pos hev, hpe, if_neg hin]
      have hSp : Ordered ps (S ++ [p]) := by rw [← hsw]; exact seeW_ok hS hx
      have hle := hR.raw_le hSp
      rw [raw_snoc, List.length_append] at hle
      obtain ⟨r1, r2, r3, r4, r5⟩ := hR.at_ hpp
      have hbl := blk_len (ws := ws) (p := p) (by omega)
      have hmv : mv ws b' (S ++ [p]) x = 2 * ((b' + (raw ws S).length : Nat) : Int) := by
        unfold mv; rw [if_pos hev, hpe, newAt_new hin]
      rw [hsw, hnb, hmv, ← hnx, newPl_snoc, ← hnx]
      have hrl : (raw ws (S ++ [p])).length = (raw ws S).length + (blk ws p).length := by rw [raw_snoc, List.length_append]
      rw [hrl]
      have hrw := fun (W : World) => sRefWord_any (nx : Int) W
      rw [show refW (nx : Int) = 2 * (nx : Int) by unfold refW inB; rw [if_pos (by simp; omega)]] at hrw
      have HRW := Lib.hid hrw
      have hxi := hw p
      have hbg : ∀ k, k < (blk ws p).length → (blk ws p).getD k 0 = ws.getD (p + k) 0 := fun k hk => blk_get (by omega)
      have hll : (lay b' N l).length = N := lay_len (by omega)
      have hov : ∀ k, k < (blk ws p).length → (ov (lay b' N l) nx ((blk ws p).take k)).set (nx + k) (ws.getD (p + k) 0) = ov (lay b' N l) nx ((blk ws p).take (k + 1)) := fun k hk => by
        rw [← hbg k hk]; exact ov_next hk (by omega)
      have hov0 : ov (lay b' N l) nx ((blk ws p).take 0) = lay b' N l := by simp [ov]
      have hov1 : ov (lay b' N l) nx ((blk ws p).take (blk ws p).length) = lay b' N (l ++ blk ws p) := by
        rw [List.take_length, hnx, ← hl]; exact lay_push (by omega)
      have hlk : ∀ k, k ≤ (blk ws p).length → (ov (lay b' N l) nx ((blk ws p).take k)).length = N := fun k hk => by
        rw [ov_len (by rw [List.length_take]; omega)]; exact hll
      rw [hbl] at hov hov1 hlk hle ⊢
      obtain ⟨X, hX⟩ : ∃ X, ws.getD p 0 = X := ⟨_, rfl⟩
      obtain ⟨ts, hts⟩ : ∃ ts : Nat → List Int, (fun k => ov (lay b' N l) nx ((blk ws p).take k)) = ts := ⟨_, rfl⟩
      have hts' : ∀ k, ov (lay b' N l) nx ((blk ws p).take k) = ts k := fun k => congrFun hts k
      simp only [hts'] at hov hov0 hov1 hlk
      rw [hX] at r3 r4 hov hov1 hlk hle hxi ⊢
      have hfitN : nx + (1 + hK X) ≤ N := by omega
      have hX0 := (hOk_true.1 r3).2.1
      have hkn := hK_cast X
      have hk20 : hK X ≤ 20 := by have := (hOk_true.1 r3).2.2.2; omega
      have hof := fun (W : World) => (l17Of_any X W hX0 hxi.2)
      rw [← hkn] at hof
      have HOF := Lib.hid hof
      rw [← hov0] at hk
      obtain ⟨sa, sc, rfl⟩ := own_form hk.so
      have hcs := fun (j : Nat) (hj : j < S.length) => (own_cell_any hk.so j hj)
      have hne : ∀ j (hj : j < S.length), S[j] ≠ p := fun j hj he => hin (he ▸ List.getElem_mem hj)
      have HCS := Lib.hid hcs
      have HNE := Lib.hid hne
      have HK := Lib.hid hk
      have HOV := Lib.hid hov
      have HOV1 := Lib.hid hov1
      have HLK := Lib.hid hlk
      have HNX := Lib.hid hnx
      have HXX := Lib.hid hX
      have RW := Lib.hid (fun (W : World) (hb : Below H w W) => hr.below hb hBH)
      have q8 := hk.bx.2.1 8
      have hpl : (newPl ws b' S).length = S.length := newPl_len _ _ _
      have HPL := Lib.hid hpl
      clear hk hcs hne hrw hmv hsw hnb hin hpe hpl hS hSp hR hr hw hl hx hpx hnx hov hov0 hov1 hlk hll hbg hbl hrl hof hkn hts hts' hX r3
      go_enter Try.func85, Try.ntmps85
      go_wp2_with (first | (go_at_call 78; refine (sIsRef_any _ _).mono ?_; rintro e w' ⟨rfl, rfl⟩) | (go_at_call 50; refine (HWR.out _).mono ?_; rintro e w' ⟨rfl, rfl⟩))
      go_loopw [6] (fun t wr => ∃ k : Nat, k ≤ S.length ∧ t = .int .i64 k ∧ wr = w) (fun t _ => S.length - (intOf t).toNat)
      case atStart => exact ⟨0, Nat.zero_le _, rfl, rfl⟩
      case round =>
        obtain ⟨k, hki, rfl, rfl⟩ := hrel
        by_cases hlt : k < S.length
        · have hks : (k : Int) < (S.length : Int) := by omega
          obtain ⟨sg, rfl, ck⟩ := HCS.out k hlt
          rw [List.getElem?_map, List.getElem?_eq_getElem (by omega), Option.map_some] at ck
          unfold ofN at ck
          have hq := HNE.out k hlt
          obtain ⟨q, hqq⟩ : ∃ q, S[k]'(by omega) = q := ⟨_, rfl⟩
          rw [hqq] at ck hq
          have e2 : ((q : Int) == (p : Int)) = false := by simp; omega
          clear hqq
          go_wp2
          go_roundw
          case rel => exact ⟨k + 1, by omega, by go_num, trivial⟩
          case measure => simp [intOf]; omega
        · obtain rfl : k = S.length := by omega
          obtain ⟨wA, rfl⟩ : ∃ W, W = wr := ⟨wr, rfl⟩
          rcases RW.out _ (Below.refl _ _) with ⟨h', _⟩ | ⟨bl, off, c', rfl, _, hbs, _, hc⟩
          · rw [h'] at hN1; simp at hN1; omega
          have c0 := hc p (by omega)
          rw [HXX.out] at c0
          have qW := HK.out.bx.2.1
          have q0 := qW 0
          have q7 := qW 7
          have hpi : (p : Int) < (ws.length : Int) := by omega
          have HB := Lib.hid (Below.refl H wA)
          clear hc qW HCS HNE
          go_wp2_with (go_at_call 48; refine (HOF.out _).mono ?_; rintro e w' ⟨rfl, rfl⟩)
          clear q0 q7 q8 c0
          go_loopw [11] (fun t wr => ∃ k : Nat, k ≤ 1 + hK X ∧ t = .int .i64 k ∧ Wk wr H gW gr N (.slice (some ⟨bl, off, none⟩) ws.length c') h b n b' (nx : Int) (ts k) (.slice sa S.length sc) nv S (newPl ws b' S) ∧ Below H wA wr ∧ KeptW wA wr gW gr (.slice sa S.length sc) nv) (fun t _ => 1 + hK X - (intOf t).toNat)
          case atStart => exact ⟨0, Nat.zero_le _, rfl, HK.out, HB.out, KeptW.refl _ _ _ _ _⟩
          case round =>
            clear HK HB
            obtain ⟨k, hki, rfl, hk, hb, kp⟩ := hrel
            by_cases hlt : k < 1 + hK X
            · have hkk : (k : Int) ≤ (hK X : Int) := by omega
              rcases RW.out _ hb with ⟨h', _⟩ | ⟨bl', off', c'', hv, _, hbs, _, hc⟩
              · rw [h'] at hN1; simp at hN1; omega
              cases hv
              have c1 := hc (p + k) (by omega)
              have hov := HOV.out k hlt
              obtain ⟨y, hy⟩ : ∃ y, ws.getD (p + k) 0 = y := ⟨_, rfl⟩
              rw [hy] at c1 hov
              have hlen := HLK.out k hki
              obtain ⟨w2, hw2⟩ : ∃ w2, wr.drew = w2 := ⟨_, rfl⟩
              have bd : Below wr.heap.size wr w2 := by rw [← hw2]; exact (Below.refl _ _).drew
              have k2 := hk.below bd
              have k3 := k2.turn (i := nx + k) (by omega) y
              rw [hov] at k3
              have b3 := (hb.trans (bd.mono (Nat.le_trans hHw hb.size))).setCell (p := ⟨gr, nx + k, none⟩) hH (.int .i64 y)
              have c2 := own_cell k2.tr (nx + k) (by omega)
              obtain ⟨z, hz⟩ : ∃ z, ((ts k).map (Value.int .i64))[nx + k]? = some z := ⟨_, List.getElem?_eq_getElem (by rw [List.length_map, hlen]; omega)⟩
              rw [hz] at c2
              clear hz
              have c3 := own_frozen k2.tr (nx + k)
              have kp2 := kp.drew
              rw [hw2] at kp2
              have KP := Lib.hid (kp2.grown (grownBy.setCell w2 gr (nx + k) (.int .i64 y)) (.inr (.inl rfl)))
              have qW := hk.bx.2.1
              have q0 := qW 0
              have q4 := qW 4
              have HW2 := Lib.hid hw2
              have K3 := Lib.hid k3
              have B3 := Lib.hid b3
              clear hc hy hov hlen hw2 bd k2 k3 b3 qW hk hb kp kp2
              go_wp2_with fail
              have s1 : IntKind.i64.wrap ((nx : Int) + (k : Int)) = (nx : Int) + (k : Int) := IntWalk.i64_in _ (by omega)
              have s2 : (0 : Int) ≤ (nx : Int) + (k : Int) := by omega
              have s3 : ((nx : Int) + (k : Int)).toNat = nx + k := by omega
              have s4 : (nx : Int) + (k : Int) < (N : Int) := by omega
              have s5 : IntKind.i64.wrap ((p : Int) + (k : Int)) = (p : Int) + (k : Int) := IntWalk.i64_in _ (by omega)
              have s6 : (0 : Int) ≤ (p : Int) + (k : Int) := by omega
              have s7 : ((p : Int) + (k : Int)).toNat = p + k := by omega
              have s8 : (p : Int) + (k : Int) < (ws.length : Int) := by omega
              go_still_tail 19, (by kernel_rfl)
              repeat still_step
              try refine wpStill_nil ?_
              change wpList _ _ _ _ _ wr.drew
              rw [HW2.out]
              clear s1 s2 s3 s4 s5 s6 s7 s8
              go_wp2
              go_roundw
              case rel => exact ⟨k + 1, hlt, by go_num, K3.out, B3.out, KP.out⟩
              case measure => simp [intOf]; omega
            · obtain rfl : k = 1 + hK X := by omega
              rw [HOV1.out] at hk
              have qW := hk.bx.2.1
              have fW := hk.bx.2.2
              have q8 := qW 8
              have q7 := qW 7
              have yW := hk.bx.1
              have hwW := hk.hW
              have hz := hb.size
              have K7 := Lib.hid (hk.next ((nx : Int) + 1 + (hK X : Int)))
              have B7 := Lib.hid (hb.setCell (p := ⟨gW, 7, none⟩) hk.hW (.int .i64 ((nx : Int) + 1 + (hK X : Int))))
              have KP := Lib.hid (kp.grown (grownBy.setCell wr gW 7 (.int .i64 ((nx : Int) + 1 + (hK X : Int)))) (.inl rfl))
              have hkz := kp.1
              clear hk hb qW kp
              go_wp2_with (at_builtin; refine wpList_app1_at rfl _ _ 24 rfl H 3 i0 (.int .i64 0) 1 8 Try.underlying24 hi hz0 hz1 hz2 rfl (by decide) _ _ _ rfl K7.out.so #[_] rfl ?_ wr.heap.size ?_ rfl ?_ ?_ ?_ ?_)
              · rfl
              · simp
              · unfold maxLen; omega
              · omega
              · simp; omega
              · intro v1 w1 ho1 hg1 hat1
                have k1 := K7.out.bx.grown hg1 (fun h => (K7.out.d2 _ h.symm).1 rfl)
                have z1 := hg1.size
                have b1 := B7.out.trans (Below.of_grown (B := H) hg1 (by simp; omega) (fun i hi => (K7.out.so.lt i hi).1))
                have m1 := Wk.app1 (p := p) (by simp) K7.out ho1 hg1 hat1
                obtain ⟨s1a, s1c, rfl⟩ := own_form ho1
                obtain ⟨na, nc, rfl⟩ := own_form m1.no
                have qW := k1.2.1
                have f1 := k1.2.2
                have q8 := qW 8
                have q9 := qW 9
                have M1 := Lib.hid m1
                have KP1 := Lib.hid ((KP.out.grown hg1 (.inr (.inr (.inl rfl)))).grown (grownBy.setCell w1 gW 8 (.slice s1a (S.length + 1) s1c)) (.inl rfl))
                have FR1 := Lib.hid (FreshIn.of hat1 hkz)
                have B1 := Lib.hid (b1.setCell (p := ⟨gW, 8, none⟩) hwW (.slice s1a (S.length + 1) s1c))
                have hpl := HPL.out
                have hpl2 : (newPl ws b' S).length + 1 ≤ 6001 := by omega
                have hsz : wr.heap.size ≤ w1.heap.size := by simpa using z1
                clear hpl ho1 hg1 hat1 k1 m1 b1 qW K7 B7 z1 fW
                go_wp2_with (at_builtin; refine wpList_app1_at rfl _ _ 24 rfl H 3 i0 (.int .i64 0) 1 8 Try.underlying24 hi hz0 hz1 hz2 rfl (by decide) _ _ _ rfl M1.out.no #[_] rfl ?_ w1.heap.size ?_ rfl ?_ ?_ ?_ ?_)
                · rfl
                · simp
                · unfold maxLen; omega
                · omega
                · simp; omega
                · intro v2 w2 ho2 hg2 hat2
                  have k2 := M1.out.bx.grown hg2 (fun h => (M1.out.d3 _ h.symm).1 rfl)
                  have z2 := hg2.size
                  have b2 := B1.out.trans (Below.of_grown (B := H) hg2 (by simp; omega) (fun i hi => (M1.out.no.lt i hi).1))
                  have m2 := Wk.app2 (p := nx) (by simp) M1.out ho2 hg2 hat2
                  obtain ⟨s2a, s2c, rfl⟩ := own_form ho2
                  have qW := k2.2.1
                  have f2 := k2.2.2
                  have q9 := qW 9
                  have M2 := Lib.hid m2
                  have KP2 := Lib.hid ((KP1.out.grown hg2 (.inr (.inr (.inr rfl)))).grown (grownBy.setCell w2 gW 9 (.slice s2a ((newPl ws b' S).length + 1) s2c)) (.inl rfl))
                  have FR2 := Lib.hid (FreshIn.of hat2 (Nat.le_trans hkz hsz))
                  have B2 := Lib.hid (b2.setCell (p := ⟨gW, 9, none⟩) hwW (.slice s2a ((newPl ws b' S).length + 1) s2c))
                  clear ho2 hg2 hat2 k2 m2 b2 qW M1 B1 z2 q8 f1
                  go_wp2_with (go_at_call 90; refine (HRW.out _).mono ?_; rintro e w' ⟨rfl, rfl⟩)
                  go_ret
                  refine ⟨rfl, .slice s1a (S.length + 1) s1c, .slice s2a ((newPl ws b' S).length + 1) s2c, nx + (1 + hK X), by have := HNX.out; omega, ?_, B2.out, KP2.out, FR1.out, FR2.out⟩
                  rw [show ((nx + (1 + hK X) : Nat) : Int) = (nx : Int) + 1 + (hK X : Int) by omega]
                  exact M2.out
  · have hsw : seeW S x = S := by unfold seeW; rw [if_neg hev]
    have hnb : newB ws S x = [] := by unfold newB; rw [if_neg hev]
    have hmv : mv ws b' S x = x := by unfold mv; rw [if_neg hev]
    have e1 : (x % 2 == 0) = false := by simp; omega
    rw [hsw, hnb, List.append_nil, hmv]
    have HK := Lib.hid hk
    have HNX := Lib.hid hnx
    clear hk hsw hnb hmv hS hR hr hw hl hx hnx
    go_enter Try.func85, Try.ntmps85
    go_wp2_with (go_at_call 78; refine (sIsRef_any _ _).mono ?_; rintro e w' ⟨rfl, rfl⟩)
    go_ret
    exact ⟨rfl, _, _, _, HNX.out, HK.out, Below.refl _ _, KeptW.refl _ _ _ _ _, FreshIn.refl _ _, FreshIn.refl _ _⟩

end Go.Proofs.Ytmcoidnonmmpjaa
