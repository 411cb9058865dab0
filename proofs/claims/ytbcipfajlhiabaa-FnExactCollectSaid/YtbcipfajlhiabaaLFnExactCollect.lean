/- The law FnExactCollect returns true for every input that can be read as data, with no condition, and its arguments read as they did. -/
import Derived.Deep.RegionWith
import Derived.Test.YtbcipfajlhiabaaRows
import Derived.Test.YtbcipfajlhiabaaOpen
import Derived.Test.YtbcipfajlhiabaaCollT2
import Derived.Test.YtbcipfajlhiabaaHeapTo
import Derived.Test.YtbcipfajlhiabaaHeapNew
namespace Go.Proofs.Ytbcipfajlhiabaa.fnExactCollect
open Go.ChangeShapes Go.WideShapes Go.ChangeAt Go.RowKit
open Go.ChangeMaps (open_string shut_string)
set_option linter.unusedVariables false

theorem own : ownKnob Try.prog.godebug = none := by kernel_rfl
theorem laidOut : laidOutB Try.prog = true := by kernel_rfl

set_option maxHeartbeats 800000 in
set_option maxRecDepth 100000 in
theorem walk (w : World) (u0 : Value) (z0 : List Int) (h0 b0 n0 : Int) (r0 : Rd w.heap.size .i64 w u0 z0) (i0 : intsIn z0) (ih0 : -9223372036854775808 ≤ h0 ∧ h0 ≤ 9223372036854775807) (ib0 : -9223372036854775808 ≤ b0 ∧ b0 ≤ 9223372036854775807) (in0 : -9223372036854775808 ≤ n0 ∧ n0 ≤ 9223372036854775807) (u1 : Value) (z1 : List Int) (r1 : Rd w.heap.size .i64 w u1 z1) (i1 : intsIn z1) :
    Calls Try.prog 9 #[.agg #[u0, .int .i64 h0, .int .i64 b0, .int .i64 n0], u1] w fun e w' => e = .returned (.bool true) ∧ Below w.heap.size w w' := by
  by_cases hb1 : z1.length ≤ 1048576
  · by_cases hbig : z0.length ≤ 1048576
    · have hs : szOf z0.length 1048576 = 1048576 - z0.length := by unfold szOf; rw [if_neg (by omega)]
      have hz := fun (W : World) (hb : Below w.heap.size w W) => szHeap_any u0 z0 h0 b0 n0 1048576 W (r0.below' hb) (by omega) (by omega)
      rw [hs] at hz
      have HZ := Lib.hid hz
      have hto := fun (W : World) (hb : Below w.heap.size w W) => toHeap_any u0 z0 h0 b0 n0 W (r0.below' hb) (by omega)
      have HT := Lib.hid hto
      have htk := fun (W : World) (hb : Below w.heap.size w W) => toIntS_any u1 z1 W (r1.below' hb) (by omega)
      have HK := Lib.hid htk
      have hP1 := fun (B : Nat) (v vk : Value) (W : World) (hr : Rd B .i64 W v z0) (hk : Rd B .i64 W vk z1) => sCollect_any v vk z0 z1 h0 b0 n0 W hr i0 (by omega) hk (by omega) ih0 ib0 in0
      have hP2 := fun (B : Nat) (v vk : Value) (W : World) (hr : Rd B .i64 W v z0) (hk : Rd B .i64 W vk z1) => iCollect_any v vk z0 z1 h0 b0 n0 W hr i0 (by omega) hk (by omega) ih0 ib0 in0
      have hql := collect_len z0 h0 b0 n0 z1
      obtain ⟨⟨qs, qb, qn, qr⟩, hQ⟩ : ∃ Q, collectOf z0 h0 b0 n0 z1 = Q := ⟨_, rfl⟩
      rw [hQ] at hP1 hP2 hql
      have hq1 : qs.length ≤ 1048576 := Nat.le_trans (Nat.le_of_eq hql.1) hbig
      have hq2 : qr.length ≤ 1048576 := Nat.le_trans (Nat.le_of_eq hql.2) hb1
      have H1 := Lib.hid hP1
      have H2 := Lib.hid hP2
      obtain ⟨a0, cap0, rfl⟩ := r0.form
      obtain ⟨a1, cap1, rfl⟩ := r1.form
      clear hs hz hto htk hP1 hP2 hQ hql r0 i0 ih0 ib0 in0 r1 i1
      go_enter Try.func9, Try.ntmps9
      go_wp2_with fail
      generalize hx : w.alloc _ = xk0
      obtain ⟨bb, k0⟩ := Bx.alloc hx
      clear hx
      have zxk0 := bb.size
      have uk0 := k0.1
      refine (HZ.out _ bb).mono ?_
      rintro e w1 ⟨rfl, b1⟩
      replace k0 := k0.below b1 k0.1
      have zw1 := b1.size
      replace bb := bb.trans (b1.mono bb.size)
      clear b1
      have ck0 := k0.2.1
      have yk0 := k0.1
      go_wp2_with fail
      clear ck0 yk0
      refine (HT.out _ bb).mono ?_
      rintro e w2 ⟨v1, rfl, o1, b2⟩
      have lo1 : ∀ k, v1.ownBlock = some k → w1.heap.size ≤ k := fun k hk => (o1.lt k hk).1
      have mo1 := own_lt o1
      replace k0 := k0.below b2 k0.1
      have zw2 := b2.size
      replace bb := bb.trans (b2.mono bb.size)
      clear b2
      obtain ⟨ao1, do1, rfl⟩ := own_form o1
      go_wp2_with fail
      refine (HK.out _ bb).mono ?_
      rintro e w3 ⟨v2, rfl, o2, b3⟩
      have lo2 : ∀ k, v2.ownBlock = some k → w2.heap.size ≤ k := fun k hk => (o2.lt k hk).1
      have mo2 := own_lt o2
      replace k0 := k0.below b3 k0.1
      replace o1 := own_below o1 b3 (own_lt o1)
      have zw3 := b3.size
      replace bb := bb.trans (b3.mono bb.size)
      clear b3
      obtain ⟨ao2, do2, rfl⟩ := own_form o2
      go_wp2_with fail
      refine (H1.out _ _ _ _ (Rd.of_own o1) (Rd.of_own o2)).mono ?_
      rintro e w4 ⟨⟨v3, e3, rfl, o3, p3, df3⟩, b4⟩
      have lo3 : ∀ k, v3.ownBlock = some k → w3.heap.size ≤ k := fun k hk => (o3.lt k hk).1
      have mo3 := own_lt o3
      have lp3 : ∀ k, e3.ownBlock = some k → w3.heap.size ≤ k := fun k hk => (p3.lt k hk).1
      have mp3 := own_lt p3
      replace k0 := k0.below b4 k0.1
      replace o1 := own_below o1 b4 (own_lt o1)
      replace o2 := own_below o2 b4 (own_lt o2)
      have zw4 := b4.size
      replace bb := bb.trans (b4.mono bb.size)
      clear b4
      obtain ⟨ao3, do3, rfl⟩ := own_form o3
      obtain ⟨ap3, dp3, rfl⟩ := own_form p3
      clear lo1 mo1
      clear lo2 mo2
      clear o1 o2
      have ck0 := k0.2.1
      have yk0 := k0.1
      go_wp2_with fail
      clear ck0 yk0
      generalize hx : w4.alloc _ = xk1
      obtain ⟨bx, k1⟩ := Bx.alloc hx
      clear hx
      replace k0 := k0.below bx k0.1
      replace o3 := own_below o3 bx (own_lt o3)
      replace p3 := own_below p3 bx (own_lt p3)
      have zxk1 := bx.size
      replace bb := bb.trans (bx.mono bb.size)
      clear bx
      have uk1 := k1.1
      refine (HT.out _ bb).mono ?_
      rintro e w5 ⟨v4, rfl, o4, b5⟩
      have lo4 : ∀ k, v4.ownBlock = some k → xk1.heap.size ≤ k := fun k hk => (o4.lt k hk).1
      have mo4 := own_lt o4
      replace k0 := k0.below b5 k0.1
      replace k1 := k1.below b5 k1.1
      replace o3 := own_below o3 b5 (own_lt o3)
      replace p3 := own_below p3 b5 (own_lt p3)
      have zw5 := b5.size
      replace bb := bb.trans (b5.mono bb.size)
      clear b5
      obtain ⟨ao4, do4, rfl⟩ := own_form o4
      go_wp2_with fail
      generalize hx : w5.alloc _ = xk2
      obtain ⟨bx, k2⟩ := Bx.alloc hx
      clear hx
      replace k0 := k0.below bx k0.1
      replace k1 := k1.below bx k1.1
      replace o3 := own_below o3 bx (own_lt o3)
      replace p3 := own_below p3 bx (own_lt p3)
      replace o4 := own_below o4 bx (own_lt o4)
      have zxk2 := bx.size
      replace bb := bb.trans (bx.mono bb.size)
      clear bx
      have uk2 := k2.1
      refine (HK.out _ bb).mono ?_
      rintro e w6 ⟨v5, rfl, o5, b6⟩
      have lo5 : ∀ k, v5.ownBlock = some k → xk2.heap.size ≤ k := fun k hk => (o5.lt k hk).1
      have mo5 := own_lt o5
      replace k0 := k0.below b6 k0.1
      replace k1 := k1.below b6 k1.1
      replace k2 := k2.below b6 k2.1
      replace o3 := own_below o3 b6 (own_lt o3)
      replace p3 := own_below p3 b6 (own_lt p3)
      replace o4 := own_below o4 b6 (own_lt o4)
      have zw6 := b6.size
      replace bb := bb.trans (b6.mono bb.size)
      clear b6
      obtain ⟨ao5, do5, rfl⟩ := own_form o5
      have ck2 := k2.2.1
      have yk2 := k2.1
      go_wp2_with fail
      clear ck2 yk2
      refine (H2.out _ _ _ _ (Rd.of_own o4) (Rd.of_own o5)).mono ?_
      rintro e w7 ⟨⟨v6, e6, rfl, o6, p6, df6⟩, b7⟩
      have lo6 : ∀ k, v6.ownBlock = some k → w6.heap.size ≤ k := fun k hk => (o6.lt k hk).1
      have mo6 := own_lt o6
      have lp6 : ∀ k, e6.ownBlock = some k → w6.heap.size ≤ k := fun k hk => (p6.lt k hk).1
      have mp6 := own_lt p6
      replace k0 := k0.below b7 k0.1
      replace k1 := k1.below b7 k1.1
      replace k2 := k2.below b7 k2.1
      replace o3 := own_below o3 b7 (own_lt o3)
      replace p3 := own_below p3 b7 (own_lt p3)
      replace o4 := own_below o4 b7 (own_lt o4)
      replace o5 := own_below o5 b7 (own_lt o5)
      have zw7 := b7.size
      replace bb := bb.trans (b7.mono bb.size)
      clear b7
      obtain ⟨ao6, do6, rfl⟩ := own_form o6
      obtain ⟨ap6, dp6, rfl⟩ := own_form p6
      have ck1 := k1.2.1
      have yk1 := k1.1
      go_wp2_with fail
      clear ck1 yk1
      generalize hx : w7.alloc _ = xk3
      obtain ⟨bx, k3⟩ := Bx.alloc hx
      clear hx
      replace k0 := k0.below bx k0.1
      replace k1 := k1.below bx k1.1
      replace k2 := k2.below bx k2.1
      replace o3 := own_below o3 bx (own_lt o3)
      replace p3 := own_below p3 bx (own_lt p3)
      replace o4 := own_below o4 bx (own_lt o4)
      replace o5 := own_below o5 bx (own_lt o5)
      replace o6 := own_below o6 bx (own_lt o6)
      replace p6 := own_below p6 bx (own_lt p6)
      have zxk3 := bx.size
      replace bb := bb.trans (bx.mono bb.size)
      clear bx
      have uk3 := k3.1
      refine (eqHeap_same _ _ _ _ _ _ _ (Rd.of_own o6) (Rd.of_own o3)).mono ?_
      rintro e w8 ⟨rfl, b8⟩
      replace k0 := k0.below b8 k0.1
      replace k1 := k1.below b8 k1.1
      replace k2 := k2.below b8 k2.1
      replace k3 := k3.below b8 k3.1
      replace o3 := own_below o3 b8 (own_lt o3)
      replace p3 := own_below p3 b8 (own_lt p3)
      replace o4 := own_below o4 b8 (own_lt o4)
      replace o5 := own_below o5 b8 (own_lt o5)
      replace o6 := own_below o6 b8 (own_lt o6)
      replace p6 := own_below p6 b8 (own_lt p6)
      have zw8 := b8.size
      replace bb := bb.trans (b8.mono bb.size)
      clear b8
      go_wp2_with fail
      refine (eqIntS_any _ _ _ _ _ (Rd.of_own p6) (Rd.of_own p3)).mono ?_
      rintro e w9 ⟨rfl, b9⟩
      have b9x := b9.below w8.heap.size
      clear b9
      replace k0 := k0.below b9x k0.1
      replace k1 := k1.below b9x k1.1
      replace k2 := k2.below b9x k2.1
      replace k3 := k3.below b9x k3.1
      replace o3 := own_below o3 b9x (own_lt o3)
      replace p3 := own_below p3 b9x (own_lt p3)
      replace o4 := own_below o4 b9x (own_lt o4)
      replace o5 := own_below o5 b9x (own_lt o5)
      replace o6 := own_below o6 b9x (own_lt o6)
      replace p6 := own_below p6 b9x (own_lt p6)
      have zw9 := b9x.size
      replace bb := bb.trans (b9x.mono bb.size)
      clear b9x
      rw [decide_eq_true rfl]
      have ck0 := k0.2.1
      have yk0 := k0.1
      have ck2 := k2.2.1
      have yk2 := k2.1
      go_wp2_with fail
      go_region_with (first | (go_at_call 12; refine (HT.out _ (by first | exact bb | exact bb.drew)).mono ?_; rintro e w10 ⟨v10, rfl, o10, b10⟩; have c10 : Below w9.heap.size w9 w10 := ((Below.refl w9.heap.size w9).drew).trans b10; replace k0 := k0.below c10 k0.1; replace k1 := k1.below c10 k1.1; replace k2 := k2.below c10 k2.1; replace k3 := k3.below c10 k3.1; replace o3 := own_below o3 c10 (own_lt o3); replace p3 := own_below p3 c10 (own_lt p3); replace o4 := own_below o4 c10 (own_lt o4); replace o5 := own_below o5 c10 (own_lt o5); replace o6 := own_below o6 c10 (own_lt o6); replace p6 := own_below p6 c10 (own_lt p6); replace bb := bb.trans (c10.mono bb.size); have zw10 := c10.size; have p10 := Rd.of_own o10; obtain ⟨a10, d10, hv10⟩ := own_form o10; subst hv10; have q10 := k2.2.1; clear o10 b10 c10) | (go_at_call 14; refine (eqHeap_same _ _ _ _ _ _ _ (by first | exact Rd.of_own o4 | exact (Rd.of_own o4).below ((Below.refl _ _).drew) (Nat.le_refl _)) (by first | exact p10 | exact (p10).below ((Below.refl _ _).drew) (Nat.le_refl _))).mono ?_; rintro e w11 ⟨rfl, b11⟩))
      all_goals
        replace k0 := k0.below b11 k0.1
        replace k1 := k1.below b11 k1.1
        replace k2 := k2.below b11 k2.1
        replace k3 := k3.below b11 k3.1
        replace o3 := own_below o3 b11 (own_lt o3)
        replace p3 := own_below p3 b11 (own_lt p3)
        replace o4 := own_below o4 b11 (own_lt o4)
        replace o5 := own_below o5 b11 (own_lt o5)
        replace o6 := own_below o6 b11 (own_lt o6)
        replace p6 := own_below p6 b11 (own_lt p6)
        have zw11 := b11.size
        replace bb := bb.trans (b11.mono bb.size)
        clear b11
        clear q10 p10
        clear ck0 yk0 ck2 yk2
        go_wp2_with fail
        refine (HK.out _ bb).mono ?_
        rintro e w12 ⟨v7, rfl, o7, b12⟩
        have lo7 : ∀ k, v7.ownBlock = some k → w11.heap.size ≤ k := fun k hk => (o7.lt k hk).1
        have mo7 := own_lt o7
        replace k0 := k0.below b12 k0.1
        replace k1 := k1.below b12 k1.1
        replace k2 := k2.below b12 k2.1
        replace k3 := k3.below b12 k3.1
        replace o3 := own_below o3 b12 (own_lt o3)
        replace p3 := own_below p3 b12 (own_lt p3)
        replace o4 := own_below o4 b12 (own_lt o4)
        replace o5 := own_below o5 b12 (own_lt o5)
        replace o6 := own_below o6 b12 (own_lt o6)
        replace p6 := own_below p6 b12 (own_lt p6)
        have zw12 := b12.size
        replace bb := bb.trans (b12.mono bb.size)
        clear b12
        obtain ⟨ao7, do7, rfl⟩ := own_form o7
        go_wp2_with fail
        refine (eqIntS_any _ _ _ _ _ (Rd.of_own o5) (Rd.of_own o7)).mono ?_
        rintro e w13 ⟨rfl, b13⟩
        have b13x := b13.below w12.heap.size
        clear b13
        replace k0 := k0.below b13x k0.1
        replace k1 := k1.below b13x k1.1
        replace k2 := k2.below b13x k2.1
        replace k3 := k3.below b13x k3.1
        replace o3 := own_below o3 b13x (own_lt o3)
        replace p3 := own_below p3 b13x (own_lt p3)
        replace o4 := own_below o4 b13x (own_lt o4)
        replace o5 := own_below o5 b13x (own_lt o5)
        replace o6 := own_below o6 b13x (own_lt o6)
        replace p6 := own_below p6 b13x (own_lt p6)
        replace o7 := own_below o7 b13x (own_lt o7)
        have zw13 := b13x.size
        replace bb := bb.trans (b13x.mono bb.size)
        clear b13x
        rw [decide_eq_true rfl]
        clear lo7 mo7
        clear o7
        have ck2 := k2.2.1
        have yk2 := k2.1
        go_wp2_with fail
        clear ck2 yk2
        refine (markHeap_any _ _ _ _ _ _ _ o4 (by omega) (by omega)).mono ?_
        rintro e w14 ⟨rfl, o4', g14⟩
        have zw14 := g14.size
        replace k0 := k0.grown g14 (Bx.apart' (N := xk1.heap.size) lo4 (by omega))
        replace k1 := k1.grown g14 (Bx.apart' (N := xk1.heap.size) lo4 (by omega))
        replace k2 := k2.grown g14 (Bx.apart (N := w5.heap.size) mo4 (by omega))
        replace k3 := k3.grown g14 (Bx.apart (N := w5.heap.size) mo4 (by omega))
        replace o3 := o3.kept g14 (own_apart' (N := xk1.heap.size) lo4 (fun k hk => by have := mo3 k hk; omega))
        replace p3 := p3.kept g14 (own_apart' (N := xk1.heap.size) lo4 (fun k hk => by have := mp3 k hk; omega))
        replace o5 := o5.kept g14 (own_apart (N := w5.heap.size) mo4 (fun k hk => by have := lo5 k hk; omega))
        replace o6 := o6.kept g14 (own_apart (N := w5.heap.size) mo4 (fun k hk => by have := lo6 k hk; omega))
        replace p6 := p6.kept g14 (own_apart (N := w5.heap.size) mo4 (fun k hk => by have := lp6 k hk; omega))
        replace bb := bb.trans (Below.of_grown (B := w.heap.size) g14 (by omega) (fun k hk => by have := lo4 k hk; omega))
        clear g14 o4
        have lo4' := lo4
        have mo4' := mo4
        clear lo4 mo4
        clear lo4' mo4'
        clear o4' k2
        go_wp2_with fail
        refine (markIntS_any _ _ _ _ o5 (by omega) (by omega)).mono ?_
        rintro e w15 ⟨rfl, o5', g15⟩
        have zw15 := g15.size
        replace k0 := k0.grown g15 (Bx.apart' (N := xk2.heap.size) lo5 (by omega))
        replace k1 := k1.grown g15 (Bx.apart' (N := xk2.heap.size) lo5 (by omega))
        replace k3 := k3.grown g15 (Bx.apart (N := w6.heap.size) mo5 (by omega))
        replace o3 := o3.kept g15 (own_apart' (N := xk2.heap.size) lo5 (fun k hk => by have := mo3 k hk; omega))
        replace p3 := p3.kept g15 (own_apart' (N := xk2.heap.size) lo5 (fun k hk => by have := mp3 k hk; omega))
        replace o6 := o6.kept g15 (own_apart (N := w6.heap.size) mo5 (fun k hk => by have := lo6 k hk; omega))
        replace p6 := p6.kept g15 (own_apart (N := w6.heap.size) mo5 (fun k hk => by have := lp6 k hk; omega))
        replace bb := bb.trans (Below.of_grown (B := w.heap.size) g15 (by omega) (fun k hk => by have := lo5 k hk; omega))
        clear g15 o5
        have lo5' := lo5
        have mo5' := mo5
        clear lo5 mo5
        clear lo5' mo5'
        clear o5'
        have ck1 := k1.2.1
        have yk1 := k1.1
        have ck3 := k3.2.1
        have yk3 := k3.1
        go_wp2_with fail
        clear ck1 yk1 ck3 yk3
        refine (eqHeap_same _ _ _ _ _ _ _ (Rd.of_own o6) (Rd.of_own o3)).mono ?_
        rintro e w16 ⟨rfl, b16⟩
        replace k0 := k0.below b16 k0.1
        replace k1 := k1.below b16 k1.1
        replace k3 := k3.below b16 k3.1
        replace o3 := own_below o3 b16 (own_lt o3)
        replace p3 := own_below p3 b16 (own_lt p3)
        replace o6 := own_below o6 b16 (own_lt o6)
        replace p6 := own_below p6 b16 (own_lt p6)
        have zw16 := b16.size
        replace bb := bb.trans (b16.mono bb.size)
        clear b16
        go_wp2_with fail
        refine (eqIntS_any _ _ _ _ _ (Rd.of_own p6) (Rd.of_own p3)).mono ?_
        rintro e w17 ⟨rfl, b17⟩
        have b17x := b17.below w16.heap.size
        clear b17
        replace k0 := k0.below b17x k0.1
        replace k1 := k1.below b17x k1.1
        replace k3 := k3.below b17x k3.1
        replace o3 := own_below o3 b17x (own_lt o3)
        replace p3 := own_below p3 b17x (own_lt p3)
        replace o6 := own_below o6 b17x (own_lt o6)
        replace p6 := own_below p6 b17x (own_lt p6)
        have zw17 := b17x.size
        replace bb := bb.trans (b17x.mono bb.size)
        clear b17x
        rw [decide_eq_true rfl]
        have ck3 := k3.2.1
        have yk3 := k3.1
        go_wp2_with fail
        clear ck3 yk3
        refine (markHeap_any _ _ _ _ _ _ _ o6 (by omega) (by omega)).mono ?_
        rintro e w18 ⟨rfl, o8, g18⟩
        have zw18 := g18.size
        replace k0 := k0.grown g18 (Bx.apart' (N := w6.heap.size) lo6 (by omega))
        replace k1 := k1.grown g18 (Bx.apart' (N := w6.heap.size) lo6 (by omega))
        replace k3 := k3.grown g18 (Bx.apart (N := w7.heap.size) mo6 (by omega))
        replace o3 := o3.kept g18 (own_apart' (N := w6.heap.size) lo6 (fun k hk => by have := mo3 k hk; omega))
        replace p3 := p3.kept g18 (own_apart' (N := w6.heap.size) lo6 (fun k hk => by have := mp3 k hk; omega))
        replace p6 := p6.kept g18 (own_diff df6)
        replace bb := bb.trans (Below.of_grown (B := w.heap.size) g18 (by omega) (fun k hk => by have := lo6 k hk; omega))
        clear g18 o6
        have lo8 := lo6
        have mo8 := mo6
        clear lo6 mo6
        go_wp2_with fail
        refine (markIntS_any _ _ _ _ p6 (by omega) (by omega)).mono ?_
        rintro e w19 ⟨rfl, p8, g19⟩
        have zw19 := g19.size
        replace k0 := k0.grown g19 (Bx.apart' (N := w6.heap.size) lp6 (by omega))
        replace k1 := k1.grown g19 (Bx.apart' (N := w6.heap.size) lp6 (by omega))
        replace k3 := k3.grown g19 (Bx.apart (N := w7.heap.size) mp6 (by omega))
        replace o3 := o3.kept g19 (own_apart' (N := w6.heap.size) lp6 (fun k hk => by have := mo3 k hk; omega))
        replace p3 := p3.kept g19 (own_apart' (N := w6.heap.size) lp6 (fun k hk => by have := mp3 k hk; omega))
        replace o8 := o8.kept g19 (own_diff' df6)
        replace bb := bb.trans (Below.of_grown (B := w.heap.size) g19 (by omega) (fun k hk => by have := lp6 k hk; omega))
        clear g19 p6
        have lp8 := lp6
        have mp8 := mp6
        clear lp6 mp6
        have ck3 := k3.2.1
        have yk3 := k3.1
        go_wp2_with fail
        clear ck3 yk3
        refine (heldHeap_any _ _ _ _ _ _ (Rd.of_own o8) (by omega) (by omega)).mono ?_
        rintro e w20 ⟨rfl, b20⟩
        replace k0 := k0.below b20 k0.1
        replace k1 := k1.below b20 k1.1
        replace k3 := k3.below b20 k3.1
        replace o3 := own_below o3 b20 (own_lt o3)
        replace p3 := own_below p3 b20 (own_lt p3)
        replace o8 := own_below o8 b20 (own_lt o8)
        replace p8 := own_below p8 b20 (own_lt p8)
        have zw20 := b20.size
        replace bb := bb.trans (b20.mono bb.size)
        clear b20
        go_wp2_with fail
        refine (heldIntS_any _ _ _ (Rd.of_own p8) (by omega) (by omega)).mono ?_
        rintro e w21 ⟨rfl, b21⟩
        have b21x := b21.below w20.heap.size
        clear b21
        replace k0 := k0.below b21x k0.1
        replace k1 := k1.below b21x k1.1
        replace k3 := k3.below b21x k3.1
        replace o3 := own_below o3 b21x (own_lt o3)
        replace p3 := own_below p3 b21x (own_lt p3)
        replace o8 := own_below o8 b21x (own_lt o8)
        replace p8 := own_below p8 b21x (own_lt p8)
        have zw21 := b21x.size
        replace bb := bb.trans (b21x.mono bb.size)
        clear b21x
        have ck0 := k0.2.1
        have yk0 := k0.1
        go_wp2_with fail
        clear ck0 yk0
        refine (HT.out _ bb).mono ?_
        rintro e w22 ⟨v9, rfl, o9, b22⟩
        have lo9 : ∀ k, v9.ownBlock = some k → w21.heap.size ≤ k := fun k hk => (o9.lt k hk).1
        have mo9 := own_lt o9
        replace k0 := k0.below b22 k0.1
        replace k1 := k1.below b22 k1.1
        replace k3 := k3.below b22 k3.1
        replace o3 := own_below o3 b22 (own_lt o3)
        replace p3 := own_below p3 b22 (own_lt p3)
        replace o8 := own_below o8 b22 (own_lt o8)
        replace p8 := own_below p8 b22 (own_lt p8)
        have zw22 := b22.size
        replace bb := bb.trans (b22.mono bb.size)
        clear b22
        obtain ⟨ao9, do9, rfl⟩ := own_form o9
        go_wp2_with fail
        refine (HK.out _ bb).mono ?_
        rintro e w23 ⟨v10, rfl, o10, b23⟩
        have lo10 : ∀ k, v10.ownBlock = some k → w22.heap.size ≤ k := fun k hk => (o10.lt k hk).1
        have mo10 := own_lt o10
        replace k0 := k0.below b23 k0.1
        replace k1 := k1.below b23 k1.1
        replace k3 := k3.below b23 k3.1
        replace o3 := own_below o3 b23 (own_lt o3)
        replace p3 := own_below p3 b23 (own_lt p3)
        replace o8 := own_below o8 b23 (own_lt o8)
        replace p8 := own_below p8 b23 (own_lt p8)
        replace o9 := own_below o9 b23 (own_lt o9)
        have zw23 := b23.size
        replace bb := bb.trans (b23.mono bb.size)
        clear b23
        obtain ⟨ao10, do10, rfl⟩ := own_form o10
        go_wp2_with fail
        refine (H2.out _ _ _ _ (Rd.of_own o9) (Rd.of_own o10)).mono ?_
        rintro e w24 ⟨⟨v11, e11, rfl, o11, p11, df11⟩, b24⟩
        have lo11 : ∀ k, v11.ownBlock = some k → w23.heap.size ≤ k := fun k hk => (o11.lt k hk).1
        have mo11 := own_lt o11
        have lp11 : ∀ k, e11.ownBlock = some k → w23.heap.size ≤ k := fun k hk => (p11.lt k hk).1
        have mp11 := own_lt p11
        replace k0 := k0.below b24 k0.1
        replace k1 := k1.below b24 k1.1
        replace k3 := k3.below b24 k3.1
        replace o3 := own_below o3 b24 (own_lt o3)
        replace p3 := own_below p3 b24 (own_lt p3)
        replace o8 := own_below o8 b24 (own_lt o8)
        replace p8 := own_below p8 b24 (own_lt p8)
        replace o9 := own_below o9 b24 (own_lt o9)
        replace o10 := own_below o10 b24 (own_lt o10)
        have zw24 := b24.size
        replace bb := bb.trans (b24.mono bb.size)
        clear b24
        obtain ⟨ao11, do11, rfl⟩ := own_form o11
        obtain ⟨ap11, dp11, rfl⟩ := own_form p11
        clear lo9 mo9
        clear lo10 mo10
        clear o9 o10
        have ck1 := k1.2.1
        have yk1 := k1.1
        go_wp2_with fail
        clear ck1 yk1
        generalize hx : w24.alloc _ = xk4
        obtain ⟨bx, k4⟩ := Bx.alloc hx
        clear hx
        replace k0 := k0.below bx k0.1
        replace k1 := k1.below bx k1.1
        replace k3 := k3.below bx k3.1
        replace o3 := own_below o3 bx (own_lt o3)
        replace p3 := own_below p3 bx (own_lt p3)
        replace o8 := own_below o8 bx (own_lt o8)
        replace p8 := own_below p8 bx (own_lt p8)
        replace o11 := own_below o11 bx (own_lt o11)
        replace p11 := own_below p11 bx (own_lt p11)
        have zxk4 := bx.size
        replace bb := bb.trans (bx.mono bb.size)
        clear bx
        have uk4 := k4.1
        refine (eqHeap_same _ _ _ _ _ _ _ (Rd.of_own o11) (Rd.of_own o3)).mono ?_
        rintro e w25 ⟨rfl, b25⟩
        replace k0 := k0.below b25 k0.1
        replace k1 := k1.below b25 k1.1
        replace k3 := k3.below b25 k3.1
        replace k4 := k4.below b25 k4.1
        replace o3 := own_below o3 b25 (own_lt o3)
        replace p3 := own_below p3 b25 (own_lt p3)
        replace o8 := own_below o8 b25 (own_lt o8)
        replace p8 := own_below p8 b25 (own_lt p8)
        replace o11 := own_below o11 b25 (own_lt o11)
        replace p11 := own_below p11 b25 (own_lt p11)
        have zw25 := b25.size
        replace bb := bb.trans (b25.mono bb.size)
        clear b25
        go_wp2_with fail
        refine (eqIntS_any _ _ _ _ _ (Rd.of_own p11) (Rd.of_own p3)).mono ?_
        rintro e w26 ⟨rfl, b26⟩
        have b26x := b26.below w25.heap.size
        clear b26
        replace k0 := k0.below b26x k0.1
        replace k1 := k1.below b26x k1.1
        replace k3 := k3.below b26x k3.1
        replace k4 := k4.below b26x k4.1
        replace o3 := own_below o3 b26x (own_lt o3)
        replace p3 := own_below p3 b26x (own_lt p3)
        replace o8 := own_below o8 b26x (own_lt o8)
        replace p8 := own_below p8 b26x (own_lt p8)
        replace o11 := own_below o11 b26x (own_lt o11)
        replace p11 := own_below p11 b26x (own_lt p11)
        have zw26 := b26x.size
        replace bb := bb.trans (b26x.mono bb.size)
        clear b26x
        rw [decide_eq_true rfl]
        clear lo11 mo11
        clear lp11 mp11
        clear lp3 mp3
        clear lo3 mo3
        clear o11 p11 p3 o3
        have ck3 := k3.2.1
        have yk3 := k3.1
        go_wp2_with fail
        clear ck3 yk3
        refine (heldHeap_any _ _ _ _ _ _ (Rd.of_own o8) (by omega) (by omega)).mono ?_
        rintro e w27 ⟨rfl, b27⟩
        replace k0 := k0.below b27 k0.1
        replace k1 := k1.below b27 k1.1
        replace k3 := k3.below b27 k3.1
        replace k4 := k4.below b27 k4.1
        replace o8 := own_below o8 b27 (own_lt o8)
        replace p8 := own_below p8 b27 (own_lt p8)
        have zw27 := b27.size
        replace bb := bb.trans (b27.mono bb.size)
        clear b27
        go_wp2_with fail
        refine (heldIntS_any _ _ _ (Rd.of_own p8) (by omega) (by omega)).mono ?_
        rintro e w28 ⟨rfl, b28⟩
        have b28x := b28.below w27.heap.size
        clear b28
        replace k0 := k0.below b28x k0.1
        replace k1 := k1.below b28x k1.1
        replace k3 := k3.below b28x k3.1
        replace k4 := k4.below b28x k4.1
        replace o8 := own_below o8 b28x (own_lt o8)
        replace p8 := own_below p8 b28x (own_lt p8)
        have zw28 := b28x.size
        replace bb := bb.trans (b28x.mono bb.size)
        clear b28x
        go_wp2
        go_ret
        exact ⟨rfl, bb⟩
    · have hs : szOf z0.length 1048576 = -1 := by unfold szOf; rw [if_pos (by omega)]
      have hz := fun (W : World) (hb : Below w.heap.size w W) => szHeap_any u0 z0 h0 b0 n0 1048576 W (r0.below' hb) (by omega) (by omega)
      rw [hs] at hz
      have HZ := Lib.hid hz
      obtain ⟨a0, cap0, rfl⟩ := r0.form
      obtain ⟨a1, cap1, rfl⟩ := r1.form
      clear hs hz r0 r1
      go_enter Try.func9, Try.ntmps9
      go_wp2_with fail
      generalize hx : w.alloc _ = x0
      obtain ⟨b0', k0⟩ := Bx.alloc hx
      clear hx
      refine (HZ.out _ b0').mono ?_
      rintro e w1 ⟨rfl, b1⟩
      go_wp2
      go_ret
      exact ⟨rfl, b0'.trans (b1.mono b0'.size)⟩
  · obtain ⟨a0, cap0, rfl⟩ := r0.form
    have h1l := r1.len
    unfold maxLen at h1l
    obtain ⟨a1, cap1, rfl⟩ := r1.form
    clear r0 r1
    go_enter Try.func9, Try.ntmps9
    go_wp2
    go_ret
    exact ⟨rfl, (Below.refl _ _).alloc (Nat.le_refl _) _⟩

set_option maxRecDepth 100000 in
theorem lifted (os : Os) (started : os.Started) (H : Type) (enc : TypeId × Value → H) :
    ReturnsInHanded {} Try.checked os 9 .any (Rows.fnExactCollectSpec.pre6 enc Try.prog Try.f9 Rows.fnExactCollectRow.domain false) (Rows.fnExactCollectSpec.post enc Try.prog Try.f9 false true false false) := by
  refine returnsInHanded_of_change (C := Try.checked) own started (by kernel_rfl) Try.func9
    (ChangeSpec.witness6 (enc := enc) (C := Try.checked) false ⟨#[], #[.agg #[.slice none 0 0, .int .i64 0, .int .i64 0, .int .i64 0], .slice none 0 0], []⟩ 8 (by kernel_rfl) (by kernel_rfl) (by kernel_rfl) (by kernel_rfl)) ?_
  intro W base args ds gs before hval0 hW hcnd _
  have hval : ∀ (j : Nat) t v, Try.f9.params[j]? = some t → args[j]? = some v → Value.okWide Try.prog W .any base t v := hval0
  have hW' := hW
  obtain ⟨p, q, hA0, hV, rfl, hfz, hnd⟩ := hW
  have hA : DataW.TrodAll enc Try.prog W 0 (fun _ => true) true Try.f9.params.toList args.toList ds p := hA0
  rw [Try.params9] at hA hval
  obtain ⟨v0, vs0, d0, ds0, p0, q0, hargs, rfl, rfl, h0, t0⟩ := trodAll_cons hA
  obtain ⟨v1, vs1, d1, ds1, p1, q1, rfl, rfl, rfl, h1, t1⟩ := trodAll_cons t0
  obtain ⟨rfl, rfl, rfl⟩ := trodAll_nil t1
  obtain rfl : args = #[v0, v1] := by cases args; simp_all
  obtain ⟨rfl, rfl⟩ := trodVars_none hV
  have k0 := h0
  have lt0 : ∀ x ∈ p0, x.block < W.heap.size := by obtain ⟨m, hm⟩ := k0; exact DataW.trod_lt m _ _ _ hm
  obtain ⟨u0, c10, c20, c30, y00, y10, y20, y30, g0, rfl, rfl, rfl, f00, f10, f20, f30⟩ := Joins.open_agg4 Try.underlying24 (by kernel_rfl) (by kernel_rfl) (hval 0 24 v0 rfl rfl) h0
  obtain ⟨z0, r0, i0⟩ := ints_rd Try.underlying22 Try.underlying3 (by kernel_rfl) f00
  obtain ⟨hh0, rfl, ih0⟩ := int_rd Try.underlying3 f10
  obtain ⟨hb0, rfl, ib0⟩ := int_rd Try.underlying3 f20
  obtain ⟨hn0, rfl, in0⟩ := int_rd Try.underlying3 f30
  have k1 := h1
  have lt1 : ∀ x ∈ p1, x.block < W.heap.size := by obtain ⟨m, hm⟩ := k1; exact DataW.trod_lt m _ _ _ hm
  obtain ⟨s1, l1, c1, rfl⟩ := okWide_slice Try.underlying22 (hval 1 22 v1 rfl rfl)
  obtain ⟨g1, hf1⟩ := h1
  obtain ⟨z1, r1, i1⟩ := ints_rd Try.underlying22 Try.underlying3 (by kernel_rfl) (by simpa [Value.cells] using hf1)
  clear hA0 hval0
  refine (walk W _ z0 _ _ _ r0 i0 ih0 ib0 in0 _ z1 r1 i1).mono fun e W' ⟨he, bel⟩ => ?_
  subst he
  exact ⟨_, rfl, _, _, _, [], _, [], hW', trodAll_mk1 (shut_bool Try.underlying4 _), (trodAll_cons_mk (Below.trod laidOut (by kernel_rfl) (of_decide_eq_true (by kernel_rfl)) k0 bel lt0) (trodAll_cons_mk (Below.trod laidOut (by kernel_rfl) (of_decide_eq_true (by kernel_rfl)) k1 bel lt1) trodAll_mk0)), rfl, bel.frame _, fun h => by cases h⟩

theorem over : Rows.fnExactCollectRow.holds Try.pinned (OpenSpec.ofChange Rows.fnExactCollectSpec) :=
  OpenClaim.holds_of_wide 9 Try.f9 rfl rfl rfl rfl rfl rfl rfl ⟨rfl, rfl, rfl, rfl, rfl⟩ rfl rfl rfl rfl rfl (by kernel_rfl) Try.func9 (by kernel_rfl)
    (of_decide_eq_true (by kernel_rfl)) (by unfold Func.isWrapper; first | (rw [if_pos (by decide +kernel)]; kernel_rfl) | (rw [if_neg (by decide +kernel)]; exact ⟨rfl, rfl⟩))
    (fun os started H enc _ => lifted os started H enc)

theorem proved : Rows.FnExactCollectSaid := over
end Go.Proofs.Ytbcipfajlhiabaa.fnExactCollect
