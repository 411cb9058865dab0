/- Alloc of the reference. -/
import Derived.Test.YtmcoidnonmmpjaaPutS
import Derived.Test.YtmcoidnonmmpjaaAllocI
namespace Go.Proofs.Ytmcoidnonmmpjaa
open Go.RowKit
set_option linter.unusedVariables false

set_option maxHeartbeats 800000 in
set_option maxRecDepth 100000 in
theorem sAlloc_not {B : Nat} (v vk : Value) (ws ks : List Int) (h b n : Int) (f : Bool) (tag : Int) (w : World) (hr : Rd B .i64 w v ws) (hw : intsOk ws) (hlen : ws.length ≤ 4294967296)
    (rk : Rd B .i64 w vk ks) (hkl : ks.length ≤ 4294967296)
    (bh : -9223372036854775808 ≤ h ∧ h ≤ 9223372036854775807) (ib : -9223372036854775808 ≤ b ∧ b ≤ 9223372036854775807) (bn : -9223372036854775808 ≤ n ∧ n ≤ 9223372036854775807)
    (hno : ¬ (heapOk ws h b n = true ∧ inB tag 0 3000 = true ∧ ks.length ≤ 20 ∧ n + (1 + ks.length) ≤ b + h)) :
    Calls Try.prog 8 #[.agg #[v, .int .i64 h, .int .i64 b, .int .i64 n], .bool f, .int .i64 tag, vk] w fun e w' => PutTold w e w' h b ⟨ws, n, 0, false⟩ ∧ Below w.heap.size w w' := by
  have hC := fun (W : World) (hb : Below w.heap.size w W) => l17Copy_any v ws h b n W (hr.below' hb) hlen
  have hO := fun (W : World) (hb : Below w.heap.size w W) => sHeapOk_any v ws h b n W (hr.below' hb) hw hlen bh ib bn
  have rk' := fun (W : World) (hb : Below w.heap.size w W) => rk.below' hb
  obtain ⟨a, cap, rfl⟩ := hr.form
  obtain ⟨ka, kc, rfl⟩ := rk.form
  have HC := Lib.hid hC
  have RK := Lib.hid rk'
  cases hok : heapOk ws h b n
  · rw [hok] at hO
    have HO := Lib.hid hO
    clear hC hO hr rk hw bh ib bn hok hno rk'
    go_enter Try.func8, Try.ntmps8
    go_wp2_with fail
    generalize hx : (w.alloc _).alloc _ = x
    obtain ⟨bb, k1, k2, sx⟩ := alloc_box2 hx
    clear hx
    have SX := Lib.hid sx
    clear sx
    have ck1 := k1.2.1
    have yk1 := k1.1
    go_wp2_with fail
    refine (HO.out _ bb).mono ?_
    rintro e w1 ⟨rfl, b1⟩
    clear ck1 yk1
    replace k1 := k1.below b1 k1.1
    replace k2 := k2.below b1 k2.1
    replace bb := bb.trans (b1.mono bb.size)
    clear b1
    have ck1 := k1.2.1
    have yk1 := k1.1
    go_wp2_with fail
    refine (HC.out _ bb).mono ?_
    rintro e w2 ⟨v1, rfl, o1, b2⟩
    clear ck1 yk1
    have s1 := k2.1
    replace k1 := k1.below b2 k1.1
    replace k2 := k2.below b2 k2.1
    replace bb := bb.trans (b2.mono bb.size)
    clear b2
    obtain ⟨a1, c1, rfl⟩ := own_form o1
    have ck1 := k1.2.1
    have yk1 := k1.1
    have zk1 := k1.2.2
    have ck2 := k2.2.1
    have yk2 := k2.1
    have zk2 := k2.2.2
    have O1 := Lib.hid o1
    clear o1
    go_wp2
    refine bodyPost_ret (v := .tuple #[.agg #[.slice a1 ws.length c1, .int .i64 h, .int .i64 b, .int .i64 n], .int .i64 0, .bool false]) ?_ rfl ⟨⟨_, rfl, ?_⟩, ?_⟩
    · simp [results, Try.results8, go_sem, ck2]
    · have hs := SX.out
      refine own_base (base := w1.heap.size) ?_ (by omega)
      repeat (with_reducible refine ownsRow_setCell_below ?_ (by dsimp only; omega) _)
      exact O1.out
    · repeat (with_reducible refine Below.setCell ?_ (by dsimp only; omega) _)
      exact bb
  · rw [hok] at hO
    have HO := Lib.hid hO
    obtain ⟨h', b', n', rfl, rfl, rfl, hF⟩ := heapFrame_true (heapOk_frame hok)
    have e1 : b' + h' ≤ 6000 := by have := hF.h1; have := hF.base; omega
    have e2 : n' ≤ b' + h' := hF.n1
    cases ht : inB tag 0 3000
    · have HW := Lib.hid (fun (W : World) => (by have := l1In_any tag 0 3000 W; rw [ht] at this; exact this : Calls Try.prog 39 #[.int .i64 tag, .int .i64 0, .int .i64 3000] W _))
      clear hC hO hr rk hw bh ib bn hok hno rk' ht hF
      go_enter Try.func8, Try.ntmps8
      go_wp2_with fail
      generalize hx : (w.alloc _).alloc _ = x
      obtain ⟨bb, k1, k2, sx⟩ := alloc_box2 hx
      clear hx
      have SX := Lib.hid sx
      clear sx
      have ck1 := k1.2.1
      have yk1 := k1.1
      go_wp2_with fail
      refine (HO.out _ bb).mono ?_
      rintro e w1 ⟨rfl, b1⟩
      clear ck1 yk1
      replace k1 := k1.below b1 k1.1
      replace k2 := k2.below b1 k2.1
      replace bb := bb.trans (b1.mono bb.size)
      clear b1
      have ck1 := k1.2.1
      have yk1 := k1.1
      go_wp2_with fail
      refine (HW.out _).mono ?_
      rintro e w11 ⟨rfl, rfl⟩
      go_wp2_with fail
      refine (HC.out _ bb).mono ?_
      rintro e w2 ⟨v1, rfl, o1, b2⟩
      clear ck1 yk1
      have s1 := k2.1
      replace k1 := k1.below b2 k1.1
      replace k2 := k2.below b2 k2.1
      replace bb := bb.trans (b2.mono bb.size)
      clear b2
      obtain ⟨a1, c1, rfl⟩ := own_form o1
      have ck1 := k1.2.1
      have yk1 := k1.1
      have zk1 := k1.2.2
      have ck2 := k2.2.1
      have yk2 := k2.1
      have zk2 := k2.2.2
      have O1 := Lib.hid o1
      clear o1
      go_wp2
      refine bodyPost_ret (v := .tuple #[.agg #[.slice a1 ws.length c1, .int .i64 h', .int .i64 b', .int .i64 n'], .int .i64 0, .bool false]) ?_ rfl ⟨⟨_, rfl, ?_⟩, ?_⟩
      · simp [results, Try.results8, go_sem, ck2]
      · have hs := SX.out
        refine own_base (base := w1.heap.size) ?_ (by omega)
        repeat (with_reducible refine ownsRow_setCell_below ?_ (by dsimp only; omega) _)
        exact O1.out
      · repeat (with_reducible refine Below.setCell ?_ (by dsimp only; omega) _)
        exact bb
    · have HW := Lib.hid (fun (W : World) => (by have := l1In_any tag 0 3000 W; rw [ht] at this; exact this : Calls Try.prog 39 #[.int .i64 tag, .int .i64 0, .int .i64 3000] W _))
      by_cases c20 : 20 < ks.length
      · clear hC hO hr rk hw bh ib bn hok hno rk' ht hF
        go_enter Try.func8, Try.ntmps8
        go_wp2_with fail
        generalize hx : (w.alloc _).alloc _ = x
        obtain ⟨bb, k1, k2, sx⟩ := alloc_box2 hx
        clear hx
        have SX := Lib.hid sx
        clear sx
        have ck1 := k1.2.1
        have yk1 := k1.1
        go_wp2_with fail
        refine (HO.out _ bb).mono ?_
        rintro e w1 ⟨rfl, b1⟩
        clear ck1 yk1
        replace k1 := k1.below b1 k1.1
        replace k2 := k2.below b1 k2.1
        replace bb := bb.trans (b1.mono bb.size)
        clear b1
        have ck1 := k1.2.1
        have yk1 := k1.1
        go_wp2_with fail
        refine (HW.out _).mono ?_
        rintro e w11 ⟨rfl, rfl⟩
        go_wp2_with fail
        refine (HC.out _ bb).mono ?_
        rintro e w2 ⟨v1, rfl, o1, b2⟩
        clear ck1 yk1
        have s1 := k2.1
        replace k1 := k1.below b2 k1.1
        replace k2 := k2.below b2 k2.1
        replace bb := bb.trans (b2.mono bb.size)
        clear b2
        obtain ⟨a1, c1, rfl⟩ := own_form o1
        have ck1 := k1.2.1
        have yk1 := k1.1
        have zk1 := k1.2.2
        have ck2 := k2.2.1
        have yk2 := k2.1
        have zk2 := k2.2.2
        have O1 := Lib.hid o1
        clear o1
        go_wp2
        refine bodyPost_ret (v := .tuple #[.agg #[.slice a1 ws.length c1, .int .i64 h', .int .i64 b', .int .i64 n'], .int .i64 0, .bool false]) ?_ rfl ⟨⟨_, rfl, ?_⟩, ?_⟩
        · simp [results, Try.results8, go_sem, ck2]
        · have hs := SX.out
          refine own_base (base := w1.heap.size) ?_ (by omega)
          repeat (with_reducible refine ownsRow_setCell_below ?_ (by dsimp only; omega) _)
          exact O1.out
        · repeat (with_reducible refine Below.setCell ?_ (by dsimp only; omega) _)
          exact bb
      · have hnr : b' + h' ≤ n' + ks.length := by
          have h4 : ¬ (n' : Int) + (1 + ks.length) ≤ (b' : Int) + (h' : Int) := fun h => hno ⟨hok, ht, by omega, h⟩
          omega
        have hP := fun (a : Option Addr) (m c : Nat) (W : World) (hb : Below w.heap.size w W) => l17Put_no a m c (.slice ka ks.length kc) ks h' b' n' f tag W (RK.out _ hb) e1 e2 hnr
        have HP := Lib.hid hP
        clear hC hO hr rk hw bh ib bn hok hno rk' ht hF hP
        go_enter Try.func8, Try.ntmps8
        go_wp2_with fail
        generalize hx : (w.alloc _).alloc _ = x
        obtain ⟨bb, k1, k2, sx⟩ := alloc_box2 hx
        clear hx
        have SX := Lib.hid sx
        clear sx
        have ck1 := k1.2.1
        have yk1 := k1.1
        go_wp2_with fail
        refine (HO.out _ bb).mono ?_
        rintro e w1 ⟨rfl, b1⟩
        clear ck1 yk1
        replace k1 := k1.below b1 k1.1
        replace k2 := k2.below b1 k2.1
        replace bb := bb.trans (b1.mono bb.size)
        clear b1
        have ck1 := k1.2.1
        have yk1 := k1.1
        go_wp2_with fail
        refine (HW.out _).mono ?_
        rintro e w11 ⟨rfl, rfl⟩
        go_wp2_with fail
        refine (HC.out _ bb).mono ?_
        rintro e w2 ⟨v1, rfl, o1, b2⟩
        clear ck1 yk1
        replace k1 := k1.below b2 k1.1
        replace k2 := k2.below b2 k2.1
        replace bb := bb.trans (b2.mono bb.size)
        clear b2
        obtain ⟨a1, c1, rfl⟩ := own_form o1
        clear o1
        go_wp2_with fail
        refine (HP.out _ _ _ _ bb).mono ?_
        rintro e w3 ⟨rfl, b3⟩
        replace k1 := k1.below b3 k1.1
        replace k2 := k2.below b3 k2.1
        replace bb := bb.trans (b3.mono bb.size)
        clear b3
        have ck1 := k1.2.1
        have yk1 := k1.1
        go_wp2_with fail
        clear ck1 yk1
        generalize hx : w3.alloc _ = x3
        obtain ⟨bx, k3⟩ := Bx.alloc hx
        clear hx
        replace k1 := k1.below bx k1.1
        replace k2 := k2.below bx k2.1
        replace bb := bb.trans (bx.mono bb.size)
        clear bx
        refine (HC.out _ bb).mono ?_
        rintro e w4 ⟨v4, rfl, o4, b4⟩
        have s1 := k2.1
        replace k1 := k1.below b4 k1.1
        replace k2 := k2.below b4 k2.1
        replace bb := bb.trans (b4.mono bb.size)
        clear b4
        obtain ⟨a4, c4, rfl⟩ := own_form o4
        have ck1 := k1.2.1
        have yk1 := k1.1
        have zk1 := k1.2.2
        have ck2 := k2.2.1
        have yk2 := k2.1
        have zk2 := k2.2.2
        have O4 := Lib.hid o4
        clear o4 k3
        go_wp2
        refine bodyPost_ret (v := .tuple #[.agg #[.slice a4 ws.length c4, .int .i64 h', .int .i64 b', .int .i64 n'], .int .i64 0, .bool false]) ?_ rfl ⟨⟨_, rfl, ?_⟩, ?_⟩
        · simp [results, Try.results8, go_sem, ck2]
        · have hs := SX.out
          refine own_base (base := x3.heap.size) ?_ (by omega)
          repeat (with_reducible refine ownsRow_setCell_below ?_ (by dsimp only; omega) _)
          exact O4.out
        · repeat (with_reducible refine Below.setCell ?_ (by dsimp only; omega) _)
          exact bb

set_option maxHeartbeats 800000 in
set_option maxRecDepth 100000 in
theorem sAlloc_yes {B : Nat} (v vk : Value) (ws ks : List Int) (h b n : Nat) (f : Bool) (tag : Int) (w : World) (hr : Rd B .i64 w v ws) (hw : intsOk ws) (hlen : ws.length ≤ 4294967296)
    (rk : Rd B .i64 w vk ks) (hk : intsOk ks) (hF : Frame ws h b n) (hok : heapOk ws h b n = true) (ht : inB tag 0 3000 = true) (h20 : ks.length ≤ 20) (hfit : (n : Int) + (1 + ks.length) ≤ b + h)
    (P : Put) (hPe : P = if heapOk (ov ws n (hdOf f tag ks.length :: ks)) h b (n + (1 + ks.length)) then ⟨ov ws n (hdOf f tag ks.length :: ks), n + (1 + ks.length), n, true⟩ else ⟨ws, n, 0, false⟩) :
    Calls Try.prog 8 #[.agg #[v, .int .i64 h, .int .i64 b, .int .i64 n], .bool f, .int .i64 tag, vk] w fun e w' => PutTold w e w' h b P ∧ Below w.heap.size w w' := by
  have e1 : b + h ≤ 6000 := by have := hF.h1; have := hF.base; omega
  have e2 : n ≤ b + h := hF.n1
  have e3 : b + h ≤ ws.length := by have := hF.len; have := hF.base; omega
  have e4 : ws.length ≤ 6000 := by have := hF.len; have := hF.h1; omega
  obtain ⟨t0, t1⟩ := inB_true.1 ht
  have hC := fun (W : World) (hb : Below w.heap.size w W) => l17Copy_any v ws h b n W (hr.below' hb) hlen
  have hO := fun (W : World) (hb : Below w.heap.size w W) => sHeapOk_any v ws h b n W (hr.below' hb) hw hlen ⟨by omega, by omega⟩ ⟨by omega, by omega⟩ ⟨by omega, by omega⟩
  obtain ⟨zs, hzs⟩ : ∃ zs, ov ws n (hdOf f tag ks.length :: ks) = zs := ⟨_, rfl⟩
  have hzl : zs.length = ws.length := by rw [← hzs]; exact ov_len (by simp; omega)
  have hzo : intsOk zs := by
    rw [← hzs]
    refine ov_ok hw (intsOk_of fun x hx => ?_)
    rcases List.mem_cons.1 hx with rfl | hx
    · have := hdOf_in f tag ks.length t0 t1 h20; omega
    · exact intsOk_mem hk x hx
  have hO2 := fun (B : Nat) (v : Value) (W : World) (hr : Rd B .i64 W v zs) => sHeapOk_any v zs h b (n + (1 + ks.length)) W hr hzo (by omega) ⟨by omega, by omega⟩ ⟨by omega, by omega⟩ ⟨by omega, by omega⟩
  have hP := fun (B base : Nat) (v : Value) (W : World) (ho : W.ownsRow base 3 1 v ws.length (ws.map (Value.int .i64))) (hbw : base ≤ W.heap.size) (rk : Rd B .i64 W vk ks) (hB : B ≤ base) =>
    l17Put_yes v vk ws ks h b n f tag W ho hbw rk hB t0 t1 h20 e3 (by omega) e4
  have hW := fun (W : World) => l1In_any tag 0 3000 W
  rw [ht] at hW
  have rk' := fun (W : World) (hb : Below w.heap.size w W) => rk.below' hb
  obtain ⟨a, cap, rfl⟩ := hr.form
  obtain ⟨ka, kc, rfl⟩ := rk.form
  rw [hzs] at hP hPe
  rw [hok] at hO
  have HC := Lib.hid hC
  have HO := Lib.hid hO
  have HP := Lib.hid hP
  have HW := Lib.hid hW
  have RK := Lib.hid rk'
  have ZL := Lib.hid hzl
  cases hz : heapOk zs h b (n + (1 + ks.length))
  all_goals
    rw [hz] at hO2 hPe
    simp only [Bool.false_eq_true, ↓reduceIte] at hPe
    have HPe := Lib.hid hPe
    have HO2 := Lib.hid hO2
    clear hPe hC hO hP hW hO2 hr rk hw hk hok ht hF hzs hzo hz rk' hzl
    go_enter Try.func8, Try.ntmps8
    go_wp2_with fail
    generalize hx : (w.alloc _).alloc _ = x
    obtain ⟨bb, k1, k2, sx⟩ := alloc_box2 hx
    clear hx
    have SX := Lib.hid sx
    clear sx
    have ck1 := k1.2.1
    have yk1 := k1.1
    go_wp2_with fail
    refine (HO.out _ bb).mono ?_
    rintro e w1 ⟨rfl, b1⟩
    clear ck1 yk1
    replace k1 := k1.below b1 k1.1
    replace k2 := k2.below b1 k2.1
    replace bb := bb.trans (b1.mono bb.size)
    clear b1
    have ck1 := k1.2.1
    have yk1 := k1.1
    go_wp2_with fail
    refine (HW.out _).mono ?_
    rintro e w11 ⟨rfl, rfl⟩
    go_wp2_with fail
    refine (HC.out _ bb).mono ?_
    rintro e w2 ⟨v1, rfl, o1, b2⟩
    clear ck1 yk1
    have s1 := b2.size
    have s0 := k2.1
    replace k1 := k1.below b2 k1.1
    replace k2 := k2.below b2 k2.1
    replace bb := bb.trans (b2.mono bb.size)
    clear b2
    obtain ⟨a1, c1, rfl⟩ := own_form o1
    go_wp2_with fail
    refine (HP.out _ _ _ _ o1 s1 (RK.out _ bb) (by omega)).mono ?_
    rintro e w7 ⟨rfl, o7, b7⟩
    replace k1 := k1.below b7 (by omega)
    replace k2 := k2.below b7 (by omega)
    replace bb := bb.trans (b7.mono (by omega))
    have r7 : Rd w7.heap.size .i64 w7 (.slice a1 ws.length c1) zs := by
      have o := o7
      rw [← ZL.out] at o
      have := Rd.of_own o
      rwa [ZL.out] at this
    clear b7 o1
    go_wp2_with fail
    generalize hx : w7.alloc _ = x3
    obtain ⟨bx, k3⟩ := Bx.alloc hx
    clear hx
    replace k1 := k1.below bx k1.1
    replace k2 := k2.below bx k2.1
    replace r7 := r7.below' bx
    replace o7 := own_below o7 bx (own_lt o7)
    replace bb := bb.trans (bx.mono bb.size)
    clear bx
    refine (HO2.out _ _ _ r7).mono ?_
    rintro e w8 ⟨rfl, b8⟩
    clear r7
    replace k1 := k1.below b8 k1.1
    replace k2 := k2.below b8 k2.1
    replace k3 := k3.below b8 k3.1
    replace o7 := own_below o7 b8 (own_lt o7)
    replace bb := bb.trans (b8.mono bb.size)
    clear b8
  · have ck1 := k1.2.1
    have yk1 := k1.1
    go_wp2_with fail
    refine (HC.out _ bb).mono ?_
    rintro e w9 ⟨v9, rfl, o9, b9⟩
    clear ck1 yk1
    have s9 := k2.1
    replace k1 := k1.below b9 k1.1
    replace k2 := k2.below b9 k2.1
    replace bb := bb.trans (b9.mono bb.size)
    clear b9
    obtain ⟨a9, c9, rfl⟩ := own_form o9
    have ck2 := k2.2.1
    have yk2 := k2.1
    have zk2 := k2.2.2
    have O9 := Lib.hid o9
    clear o9 k3 o7 k1
    go_wp2
    refine bodyPost_ret (v := .tuple #[.agg #[.slice a9 ws.length c9, .int .i64 h, .int .i64 b, .int .i64 n], .int .i64 0, .bool false]) ?_ rfl ⟨?_, ?_⟩
    · simp [results, Try.results8, go_sem, ck2]
    · rw [HPe.out]
      refine ⟨_, rfl, ?_⟩
      refine own_base (base := w8.heap.size) ?_ (by omega)
      repeat (with_reducible refine ownsRow_setCell_below ?_ (by dsimp only; omega) _)
      exact O9.out
    · repeat (with_reducible refine Below.setCell ?_ (by dsimp only; omega) _)
      exact bb
  · have ck2 := k2.2.1
    have yk2 := k2.1
    have zk2 := k2.2.2
    have ck3 := k3.2.1
    have yk3 := k3.1
    have zk3 := k3.2.2
    have O7 := Lib.hid o7
    clear o7 k1
    go_wp2
    refine bodyPost_ret (v := .tuple #[.agg #[.slice a1 ws.length c1, .int .i64 h, .int .i64 b, .int .i64 (n + (1 + ks.length))], .int .i64 n, .bool true]) ?_ rfl ⟨?_, ?_⟩
    · simp [results, Try.results8, go_sem, ck2]
    · rw [HPe.out]
      refine ⟨_, rfl, ?_⟩
      show World.ownsRow _ _ _ _ _ zs.length _
      rw [ZL.out]
      refine own_base (base := w1.heap.size) ?_ (by omega)
      repeat (with_reducible refine ownsRow_setCell_below ?_ (by dsimp only; omega) _)
      exact O7.out
    · repeat (with_reducible refine Below.setCell ?_ (by dsimp only; omega) _)
      exact bb

theorem sAlloc_any {B : Nat} (v vk : Value) (ws ks : List Int) (h b n : Int) (f : Bool) (tag : Int) (w : World) (hr : Rd B .i64 w v ws) (hw : intsOk ws) (hlen : ws.length ≤ 4294967296)
    (rk : Rd B .i64 w vk ks) (hk : intsOk ks) (hkl : ks.length ≤ 4294967296)
    (bh : -9223372036854775808 ≤ h ∧ h ≤ 9223372036854775807) (ib : -9223372036854775808 ≤ b ∧ b ≤ 9223372036854775807) (bn : -9223372036854775808 ≤ n ∧ n ≤ 9223372036854775807) :
    Calls Try.prog 8 #[.agg #[v, .int .i64 h, .int .i64 b, .int .i64 n], .bool f, .int .i64 tag, vk] w fun e w' => PutTold w e w' h b (allocOf ws h b n f tag ks) ∧ Below w.heap.size w w' := by
  by_cases hc : heapOk ws h b n = true ∧ inB tag 0 3000 = true ∧ ks.length ≤ 20 ∧ n + (1 + ks.length) ≤ b + h
  · obtain ⟨hok, ht, h20, hfit⟩ := hc
    obtain ⟨h', b', n', rfl, rfl, rfl, hF⟩ := heapFrame_true (heapOk_frame hok)
    rw [alloc_if hok ht h20 hfit]
    exact sAlloc_yes v vk ws ks h' b' n' f tag w hr hw hlen rk hk hF hok ht h20 hfit _ rfl
  · rw [alloc_not hc]
    exact sAlloc_not v vk ws ks h b n f tag w hr hw hlen rk hkl bh ib bn hc

theorem alloc_len (ws : List Int) (h b n : Int) (f : Bool) (tag : Int) (ks : List Int) : (allocOf ws h b n f tag ks).ws.length = ws.length := by
  by_cases hc : heapOk ws h b n = true ∧ inB tag 0 3000 = true ∧ ks.length ≤ 20 ∧ n + (1 + ks.length) ≤ b + h
  · obtain ⟨hok, ht, h20, hfit⟩ := hc
    obtain ⟨h', b', n', rfl, rfl, rfl, hF⟩ := heapFrame_true (heapOk_frame hok)
    rw [alloc_if hok ht h20 hfit]
    have := hF.len
    have := hF.base
    split
    · exact ov_len (by simp; omega)
    · rfl
  · rw [alloc_not hc]

end Go.Proofs.Ytmcoidnonmmpjaa
