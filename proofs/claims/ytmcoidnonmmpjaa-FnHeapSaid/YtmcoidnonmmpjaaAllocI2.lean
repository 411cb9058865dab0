/- Alloc of the program: where there is room; the whole. -/
import Derived.Test.YtmcoidnonmmpjaaAllocI
namespace Go.Proofs.Ytmcoidnonmmpjaa
open Go.RowKit
set_option linter.unusedVariables false

set_option maxHeartbeats 800000 in
set_option maxRecDepth 100000 in
theorem iAlloc_yes {B : Nat} (v vk : Value) (ws ks : List Int) (h b n : Nat) (f : Bool) (tag : Int) (w : World) (hr : Rd B .i64 w v ws) (hw : intsOk ws) (hlen : ws.length ≤ 4294967296)
    (rk : Rd B .i64 w vk ks) (hk : intsOk ks) (hF : Frame ws h b n) (hok : heapOk ws h b n = true) (ht : inB tag 0 3000 = true) (h20 : ks.length ≤ 20) (hfit : (n : Int) + (1 + ks.length) ≤ b + h)
    (P : Put) (hPe : P = if heapOk (ov ws n (hdOf f tag ks.length :: ks)) h b (n + (1 + ks.length)) then ⟨ov ws n (hdOf f tag ks.length :: ks), n + (1 + ks.length), n, true⟩ else ⟨ws, n, 0, false⟩) :
    Calls Try.prog 7 #[.agg #[v, .int .i64 h, .int .i64 b, .int .i64 n], .bool f, .int .i64 tag, vk] w fun e w' =>
      PutTold w e w' h b P ∧ Below w.heap.size w w' := by
  have e1 : b + h ≤ 6000 := by have := hF.h1; have := hF.base; omega
  have e2 : n ≤ b + h := hF.n1
  have e3 : b + h ≤ ws.length := by have := hF.len; have := hF.base; omega
  have e4 : ws.length ≤ 6000 := by have := hF.len; have := hF.h1; omega
  obtain ⟨t0, t1⟩ := inB_true.1 ht
  have hC := fun (W : World) (hb : Below w.heap.size w W) => copyHeap_any v ws h b n W (hr.below' hb) hlen
  have hO := fun (W : World) (hb : Below w.heap.size w W) => iHeapOk_any v ws h b n W (hr.below' hb) hw hlen ⟨by omega, by omega⟩ ⟨by omega, by omega⟩ ⟨by omega, by omega⟩
  have hR := fun (W : World) (hb : Below w.heap.size w W) => iRoom_any v ws h b n W (hr.below' hb) hw hlen ⟨by omega, by omega⟩ ⟨by omega, by omega⟩ ⟨by omega, by omega⟩
  obtain ⟨zs, hzs⟩ : ∃ zs, ov ws n (hdOf f tag ks.length :: ks) = zs := ⟨_, rfl⟩
  have hzl : zs.length = ws.length := by rw [← hzs]; exact ov_len (by simp; omega)
  have hzo : intsOk zs := by
    rw [← hzs]
    refine ov_ok hw (intsOk_of fun x hx => ?_)
    rcases List.mem_cons.1 hx with rfl | hx
    · have := hdOf_in f tag ks.length t0 t1 h20; omega
    · exact intsOk_mem hk x hx
  have hO2 := fun (B : Nat) (v : Value) (W : World) (hr : Rd B .i64 W v zs) => iHeapOk_any v zs h b (n + (1 + ks.length)) W hr hzo (by omega) ⟨by omega, by omega⟩ ⟨by omega, by omega⟩ ⟨by omega, by omega⟩
  have hP := fun (B base g : Nat) (v : Value) (W : World) (kb : Bx W g #[v, .int .i64 h, .int .i64 b, .int .i64 n]) (ho : W.ownsRow base 3 1 v ws.length (ws.map (Value.int .i64))) (hg : base ≤ g) (hne : some g ≠ v.ownBlock) (rk : Rd B .i64 W vk ks) (hB : B ≤ base) =>
    alloc_any v vk ws ks h b n f tag W kb ho hg hne rk hB t0 t1 h20 (by omega) e4
  have hW := fun (W : World) => within_any tag 0 3000 W
  rw [ht] at hW
  obtain ⟨r, hrr⟩ : ∃ r, roomOf ws h b n = r := ⟨_, rfl⟩
  have hr1 : r = (b : Int) + (h : Int) - (n : Int) := by rw [← hrr]; simp [roomOf, hok]
  have r0 : 1 + (ks.length : Int) ≤ r := by omega
  have r1 : r ≤ 6000 := by omega
  have rk' := fun (W : World) (hb : Below w.heap.size w W) => rk.below' hb
  obtain ⟨a, cap, rfl⟩ := hr.form
  obtain ⟨ka, kc, rfl⟩ := rk.form
  rw [hzs] at hP hPe
  rw [hok] at hO
  rw [hrr] at hR
  have HC := Lib.hid hC
  have HO := Lib.hid hO
  have HR := Lib.hid hR
  have HP := Lib.hid hP
  have HW := Lib.hid hW
  have RK := Lib.hid rk'
  have ZL := Lib.hid hzl
  cases hz : heapOk zs h b (n + (1 + ks.length))
  all_goals
    rw [hz] at hO2 hPe
    simp only [Bool.false_eq_true, ↓reduceIte] at hPe
    have HPe := Lib.hid hPe
    have HO2 := Lib.hid hO2
    clear hPe hC hO hR hP hW hO2 hr rk hw hk hok ht hF hr1 hrr hzs hzo hz rk' hzl
    go_enter Try.func7, Try.ntmps7
    go_wp2_with fail
    generalize hx : (w.alloc _).alloc _ = x
    obtain ⟨bb, k1, k2, sx⟩ := alloc_box2 hx
    clear hx
    have SX := Lib.hid sx
    clear sx
    have ck1 := k1.2.1
    have yk1 := k1.1
    go_wp2_with fail
    refine (HC.out _ bb).mono ?_
    rintro e w1 ⟨v1, rfl, o1, b1⟩
    clear ck1 yk1
    have s1 := b1.size
    replace k1 := k1.below b1 k1.1
    replace k2 := k2.below b1 k2.1
    replace bb := bb.trans (b1.mono bb.size)
    clear b1
    obtain ⟨a1, c1, rfl⟩ := own_form o1
    have m1 := Lib.hid (own_lt o1)
    have ck1 := k1.2.1
    have yk1 := k1.1
    go_wp2_with fail
    clear ck1 yk1
    generalize hx : w1.alloc _ = x3
    obtain ⟨bx, k3⟩ := Bx.alloc hx
    clear hx
    replace k1 := k1.below bx k1.1
    replace k2 := k2.below bx k2.1
    replace o1 := own_below o1 bx (own_lt o1)
    replace bb := bb.trans (bx.mono bb.size)
    clear bx
    refine (HO.out _ bb).mono ?_
    rintro e w4 ⟨rfl, b4⟩
    replace k1 := k1.below b4 k1.1
    replace k2 := k2.below b4 k2.1
    replace k3 := k3.below b4 k3.1
    replace o1 := own_below o1 b4 (own_lt o1)
    replace bb := bb.trans (b4.mono bb.size)
    clear b4
    have ck1 := k1.2.1
    have yk1 := k1.1
    go_wp2_with fail
    refine (HR.out _ bb).mono ?_
    rintro e w5 ⟨rfl, b5⟩
    clear ck1 yk1
    replace k1 := k1.below b5 k1.1
    replace k2 := k2.below b5 k2.1
    replace k3 := k3.below b5 k3.1
    replace o1 := own_below o1 b5 (own_lt o1)
    replace bb := bb.trans (b5.mono bb.size)
    clear b5
    go_wp2_with fail
    refine (HW.out _).mono ?_
    rintro e w6 ⟨rfl, rfl⟩
    go_wp2_with fail
    refine (HP.out _ _ _ _ _ k3 o1 s1 (Bx.apart m1.out (Nat.le_refl _)) (RK.out _ bb) (by have := SX.out; omega)).mono ?_
    rintro e w7 ⟨rfl, o7, k7, b7⟩
    have hs := SX.out
    replace k1 := k1.below b7 (by omega)
    replace k2 := k2.below b7 (by omega)
    replace bb := bb.trans (b7.mono (by omega))
    have r7 : Rd w7.heap.size .i64 w7 (.slice a1 ws.length c1) zs := by
      have o := o7
      rw [← ZL.out] at o
      have := Rd.of_own o
      rwa [ZL.out] at this
    clear b7 o1 k3 hs
    have ck7 := k7.2.1
    have yk7 := k7.1
    go_wp2_with fail
    refine (HO2.out _ _ _ r7).mono ?_
    rintro e w8 ⟨rfl, b8⟩
    clear r7
    clear ck7 yk7
    replace k1 := k1.below b8 k1.1
    replace k2 := k2.below b8 k2.1
    replace k7 := k7.below b8 k7.1
    replace o7 := own_below o7 b8 (own_lt o7)
    replace bb := bb.trans (b8.mono bb.size)
    clear b8
  · have ck1 := k1.2.1
    have yk1 := k1.1
    go_wp2_with fail
    refine (HC.out _ bb).mono ?_
    rintro e w9 ⟨v9, rfl, o9, b9⟩
    clear ck1 yk1
    have s9 := k2.1
    replace k1 := k1.below b9 k1.1
    replace k2 := k2.below b9 k2.1
    replace bb := bb.trans (b9.mono bb.size)
    clear b9
    obtain ⟨a9, c9, rfl⟩ := own_form o9
    have ck2 := k2.2.1
    have yk2 := k2.1
    have zk2 := k2.2.2
    have O9 := Lib.hid o9
    clear o9 k7 o7 k1
    go_wp2
    refine bodyPost_ret (v := .tuple #[.agg #[.slice a9 ws.length c9, .int .i64 h, .int .i64 b, .int .i64 n], .int .i64 0, .bool false]) ?_ rfl ⟨?_, ?_⟩
    · simp [results, Try.results7, go_sem, ck2]
    · rw [HPe.out]
      refine ⟨_, rfl, ?_⟩
      have hs := SX.out
      refine own_base (base := w8.heap.size) ?_ (by omega)
      repeat (refine ownsRow_setCell_below ?_ (by dsimp only; omega) _)
      exact O9.out
    · repeat (refine Below.setCell ?_ (by dsimp only; omega) _)
      exact bb
  · have ck2 := k2.2.1
    have yk2 := k2.1
    have zk2 := k2.2.2
    have ck7 := k7.2.1
    have yk7 := k7.1
    have zk7 := k7.2.2
    have O7 := Lib.hid o7
    clear o7 k1
    go_wp2
    refine bodyPost_ret (v := .tuple #[.agg #[.slice a1 ws.length c1, .int .i64 h, .int .i64 b, .int .i64 (n + (1 + ks.length))], .int .i64 n, .bool true]) ?_ rfl ⟨?_, ?_⟩
    · simp [results, Try.results7, go_sem, ck2]
    · rw [HPe.out]
      refine ⟨_, rfl, ?_⟩
      have hs := SX.out
      show World.ownsRow _ _ _ _ _ zs.length _
      rw [ZL.out]
      refine own_base (base := x.heap.size) ?_ (by omega)
      repeat (refine ownsRow_setCell_below ?_ (by dsimp only; omega) _)
      exact O7.out
    · repeat (refine Below.setCell ?_ (by dsimp only; omega) _)
      exact bb

theorem iAlloc_any {B : Nat} (v vk : Value) (ws ks : List Int) (h b n : Int) (f : Bool) (tag : Int) (w : World) (hr : Rd B .i64 w v ws) (hw : intsOk ws) (hlen : ws.length ≤ 4294967296)
    (rk : Rd B .i64 w vk ks) (hk : intsOk ks) (hkl : ks.length ≤ 4294967296)
    (bh : -9223372036854775808 ≤ h ∧ h ≤ 9223372036854775807) (ib : -9223372036854775808 ≤ b ∧ b ≤ 9223372036854775807) (bn : -9223372036854775808 ≤ n ∧ n ≤ 9223372036854775807) :
    Calls Try.prog 7 #[.agg #[v, .int .i64 h, .int .i64 b, .int .i64 n], .bool f, .int .i64 tag, vk] w fun e w' => PutTold w e w' h b (allocOf ws h b n f tag ks) ∧ Below w.heap.size w w' := by
  by_cases hc : heapOk ws h b n = true ∧ inB tag 0 3000 = true ∧ ks.length ≤ 20 ∧ n + (1 + ks.length) ≤ b + h
  · obtain ⟨hok, ht, h20, hfit⟩ := hc
    obtain ⟨h', b', n', rfl, rfl, rfl, hF⟩ := heapFrame_true (heapOk_frame hok)
    rw [alloc_if hok ht h20 hfit]
    exact iAlloc_yes v vk ws ks h' b' n' f tag w hr hw hlen rk hk hF hok ht h20 hfit _ rfl
  · rw [alloc_not hc]
    exact iAlloc_not v vk ws ks h b n f tag w hr hw hlen rk hkl bh ib bn hc

end Go.Proofs.Ytmcoidnonmmpjaa
