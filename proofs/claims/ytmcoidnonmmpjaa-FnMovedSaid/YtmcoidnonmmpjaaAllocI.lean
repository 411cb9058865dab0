/- Alloc of the program. -/
import Derived.Test.YtmcoidnonmmpjaaPut
import Derived.Test.YtmcoidnonmmpjaaRoom
namespace Go.Proofs.Ytmcoidnonmmpjaa
open Go.RowKit
set_option linter.unusedVariables false

/-- what Alloc tells, as values. -/
def PutTold (W : World) (e : Ending) (w' : World) (h b : Int) (P : Put) : Prop :=
  ∃ v', e = .returned (.tuple #[.agg #[v', .int .i64 h, .int .i64 b, .int .i64 P.next], .int .i64 P.at_, .bool P.ok]) ∧ w'.ownsRow W.heap.size 3 1 v' P.ws.length (P.ws.map (Value.int .i64))

set_option maxHeartbeats 800000 in
set_option maxRecDepth 100000 in
theorem iAlloc_not {B : Nat} (v vk : Value) (ws ks : List Int) (h b n : Int) (f : Bool) (tag : Int) (w : World) (hr : Rd B .i64 w v ws) (hw : intsOk ws) (hlen : ws.length ≤ 4294967296)
    (rk : Rd B .i64 w vk ks) (hkl : ks.length ≤ 4294967296)
    (bh : -9223372036854775808 ≤ h ∧ h ≤ 9223372036854775807) (ib : -9223372036854775808 ≤ b ∧ b ≤ 9223372036854775807) (bn : -9223372036854775808 ≤ n ∧ n ≤ 9223372036854775807)
    (hno : ¬ (heapOk ws h b n = true ∧ inB tag 0 3000 = true ∧ ks.length ≤ 20 ∧ n + (1 + ks.length) ≤ b + h)) :
    Calls Try.prog 7 #[.agg #[v, .int .i64 h, .int .i64 b, .int .i64 n], .bool f, .int .i64 tag, vk] w fun e w' => PutTold w e w' h b ⟨ws, n, 0, false⟩ ∧ Below w.heap.size w w' := by
  have hC := fun (W : World) (hb : Below w.heap.size w W) => copyHeap_any v ws h b n W (hr.below' hb) hlen
  have hO := fun (W : World) (hb : Below w.heap.size w W) => iHeapOk_any v ws h b n W (hr.below' hb) hw hlen bh ib bn
  have hR := fun (W : World) (hb : Below w.heap.size w W) => iRoom_any v ws h b n W (hr.below' hb) hw hlen bh ib bn
  obtain ⟨a, cap, rfl⟩ := hr.form
  obtain ⟨ka, kc, rfl⟩ := rk.form
  have HC := Lib.hid hC
  cases hok : heapOk ws h b n
  · rw [hok] at hO
    have HO := Lib.hid hO
    clear hC hO hR hr rk hw bh ib bn hok hno
    go_enter Try.func7, Try.ntmps7
    go_wp2_with fail
    generalize hx : (w.alloc _).alloc _ = x
    obtain ⟨bb, k1, k2, sx⟩ := alloc_box2 hx
    clear hx
    have SX := Lib.hid sx
    clear sx
    have ck1 := k1.2.1
    have yk1 := k1.1
    go_wp2_with fail
    refine (HC.out _ bb).mono ?_
    rintro e w1 ⟨v1, rfl, o1, b1⟩
    clear ck1 yk1
    replace k1 := k1.below b1 k1.1
    replace k2 := k2.below b1 k2.1
    replace bb := bb.trans (b1.mono bb.size)
    clear b1
    obtain ⟨a1, c1, rfl⟩ := own_form o1
    have ck1 := k1.2.1
    have yk1 := k1.1
    go_wp2_with fail
    clear ck1 yk1
    generalize hx : w1.alloc _ = x3
    obtain ⟨bx, k3⟩ := Bx.alloc hx
    clear hx
    replace k1 := k1.below bx k1.1
    replace k2 := k2.below bx k2.1
    replace o1 := own_below o1 bx (own_lt o1)
    replace bb := bb.trans (bx.mono bb.size)
    clear bx
    refine (HO.out _ bb).mono ?_
    rintro e w4 ⟨rfl, b4⟩
    replace k1 := k1.below b4 k1.1
    replace k2 := k2.below b4 k2.1
    replace k3 := k3.below b4 k3.1
    replace o1 := own_below o1 b4 (own_lt o1)
    replace bb := bb.trans (b4.mono bb.size)
    clear b4
    have ck1 := k1.2.1
    have yk1 := k1.1
    have zk1 := k1.2.2
    have ck2 := k2.2.1
    have yk2 := k2.1
    have zk2 := k2.2.2
    have ck3 := k3.2.1
    have yk3 := k3.1
    have zk3 := k3.2.2
    have O1 := Lib.hid o1
    clear o1
    go_wp2
    refine bodyPost_ret (v := .tuple #[.agg #[.slice a1 ws.length c1, .int .i64 h, .int .i64 b, .int .i64 n], .int .i64 0, .bool false]) ?_ rfl ⟨⟨_, rfl, ?_⟩, ?_⟩
    · simp [results, Try.results7, go_sem, ck2]
    · have hs := SX.out
      refine own_base (base := x.heap.size) ?_ (by omega)
      repeat (refine ownsRow_setCell_below ?_ (by dsimp only; omega) _)
      exact O1.out
    · repeat (refine Below.setCell ?_ (by dsimp only; omega) _)
      exact bb
  · obtain ⟨r, hrr⟩ : ∃ r, roomOf ws h b n = r := ⟨_, rfl⟩
    rw [hok] at hO
    rw [hrr] at hR
    have HO := Lib.hid hO
    have HR := Lib.hid hR
    obtain ⟨h', b', n', rfl, rfl, rfl, hF⟩ := heapFrame_true (heapOk_frame hok)
    have e1 : b' + h' ≤ 6000 := by have := hF.h1; have := hF.base; omega
    have e2 : n' ≤ b' + h' := hF.n1
    have hr1 : r = (b' : Int) + (h' : Int) - (n' : Int) := by rw [← hrr]; simp [roomOf, hok]
    have r0 : 0 ≤ r := by omega
    have r1 : r ≤ 6000 := by omega
    by_cases c1 : r < 1 + ks.length
    · clear hC hO hR hr rk hw bh ib bn hok hno hF hr1 hrr
      go_enter Try.func7, Try.ntmps7
      go_wp2_with fail
      generalize hx : (w.alloc _).alloc _ = x
      obtain ⟨bb, k1, k2, sx⟩ := alloc_box2 hx
      clear hx
      have SX := Lib.hid sx
      clear sx
      have ck1 := k1.2.1
      have yk1 := k1.1
      go_wp2_with fail
      refine (HC.out _ bb).mono ?_
      rintro e w1 ⟨v1, rfl, o1, b1⟩
      clear ck1 yk1
      replace k1 := k1.below b1 k1.1
      replace k2 := k2.below b1 k2.1
      replace bb := bb.trans (b1.mono bb.size)
      clear b1
      obtain ⟨a1, c1, rfl⟩ := own_form o1
      have ck1 := k1.2.1
      have yk1 := k1.1
      go_wp2_with fail
      clear ck1 yk1
      generalize hx : w1.alloc _ = x3
      obtain ⟨bx, k3⟩ := Bx.alloc hx
      clear hx
      replace k1 := k1.below bx k1.1
      replace k2 := k2.below bx k2.1
      replace o1 := own_below o1 bx (own_lt o1)
      replace bb := bb.trans (bx.mono bb.size)
      clear bx
      refine (HO.out _ bb).mono ?_
      rintro e w4 ⟨rfl, b4⟩
      replace k1 := k1.below b4 k1.1
      replace k2 := k2.below b4 k2.1
      replace k3 := k3.below b4 k3.1
      replace o1 := own_below o1 b4 (own_lt o1)
      replace bb := bb.trans (b4.mono bb.size)
      clear b4
      have ck1 := k1.2.1
      have yk1 := k1.1
      go_wp2_with fail
      refine (HR.out _ bb).mono ?_
      rintro e w5 ⟨rfl, b5⟩
      clear ck1 yk1
      replace k1 := k1.below b5 k1.1
      replace k2 := k2.below b5 k2.1
      replace k3 := k3.below b5 k3.1
      replace o1 := own_below o1 b5 (own_lt o1)
      replace bb := bb.trans (b5.mono bb.size)
      clear b5
      have ck1 := k1.2.1
      have yk1 := k1.1
      have zk1 := k1.2.2
      have ck2 := k2.2.1
      have yk2 := k2.1
      have zk2 := k2.2.2
      have ck3 := k3.2.1
      have yk3 := k3.1
      have zk3 := k3.2.2
      have O1 := Lib.hid o1
      clear o1
      go_wp2
      refine bodyPost_ret (v := .tuple #[.agg #[.slice a1 ws.length c1, .int .i64 h', .int .i64 b', .int .i64 n'], .int .i64 0, .bool false]) ?_ rfl ⟨⟨_, rfl, ?_⟩, ?_⟩
      · simp [results, Try.results7, go_sem, ck2]
      · have hs := SX.out
        refine own_base (base := x.heap.size) ?_ (by omega)
        repeat (refine ownsRow_setCell_below ?_ (by dsimp only; omega) _)
        exact O1.out
      · repeat (refine Below.setCell ?_ (by dsimp only; omega) _)
        exact bb
    · have hno' : inB tag 0 3000 = false ∨ 20 < ks.length := by
        by_cases ht : inB tag 0 3000 = true
        · right
          have : ¬ ks.length ≤ 20 := fun h => hno ⟨hok, ht, h, by omega⟩
          omega
        · left; simpa using ht
      cases ht : inB tag 0 3000
      all_goals
        have hk2 : inB tag 0 3000 = true → 20 < ks.length := by intro h; rcases hno' with h' | h' <;> simp_all
        rw [ht] at hk2
        simp only [Bool.false_eq_true, false_implies, forall_const] at hk2
        have HW := Lib.hid (fun (W : World) => (by have := within_any tag 0 3000 W; rw [ht] at this; exact this : Calls Try.prog 37 #[.int .i64 tag, .int .i64 0, .int .i64 3000] W _))
        clear hC hO hR hr rk hw bh ib bn hok hno hno' hF hr1 hrr ht
        go_enter Try.func7, Try.ntmps7
        go_wp2_with fail
        generalize hx : (w.alloc _).alloc _ = x
        obtain ⟨bb, k1, k2, sx⟩ := alloc_box2 hx
        clear hx
        have SX := Lib.hid sx
        clear sx
        have ck1 := k1.2.1
        have yk1 := k1.1
        go_wp2_with fail
        refine (HC.out _ bb).mono ?_
        rintro e w1 ⟨v1, rfl, o1, b1⟩
        clear ck1 yk1
        replace k1 := k1.below b1 k1.1
        replace k2 := k2.below b1 k2.1
        replace bb := bb.trans (b1.mono bb.size)
        clear b1
        obtain ⟨a1, c1, rfl⟩ := own_form o1
        have ck1 := k1.2.1
        have yk1 := k1.1
        go_wp2_with fail
        clear ck1 yk1
        generalize hx : w1.alloc _ = x3
        obtain ⟨bx, k3⟩ := Bx.alloc hx
        clear hx
        replace k1 := k1.below bx k1.1
        replace k2 := k2.below bx k2.1
        replace o1 := own_below o1 bx (own_lt o1)
        replace bb := bb.trans (bx.mono bb.size)
        clear bx
        refine (HO.out _ bb).mono ?_
        rintro e w4 ⟨rfl, b4⟩
        replace k1 := k1.below b4 k1.1
        replace k2 := k2.below b4 k2.1
        replace k3 := k3.below b4 k3.1
        replace o1 := own_below o1 b4 (own_lt o1)
        replace bb := bb.trans (b4.mono bb.size)
        clear b4
        have ck1 := k1.2.1
        have yk1 := k1.1
        go_wp2_with fail
        refine (HR.out _ bb).mono ?_
        rintro e w5 ⟨rfl, b5⟩
        clear ck1 yk1
        replace k1 := k1.below b5 k1.1
        replace k2 := k2.below b5 k2.1
        replace k3 := k3.below b5 k3.1
        replace o1 := own_below o1 b5 (own_lt o1)
        replace bb := bb.trans (b5.mono bb.size)
        clear b5
        go_wp2_with fail
        refine (HW.out _).mono ?_
        rintro e w6 ⟨rfl, rfl⟩
        have ck1 := k1.2.1
        have yk1 := k1.1
        have zk1 := k1.2.2
        have ck2 := k2.2.1
        have yk2 := k2.1
        have zk2 := k2.2.2
        have ck3 := k3.2.1
        have yk3 := k3.1
        have zk3 := k3.2.2
        have O1 := Lib.hid o1
        clear o1
        go_wp2
        refine bodyPost_ret (v := .tuple #[.agg #[.slice a1 ws.length c1, .int .i64 h', .int .i64 b', .int .i64 n'], .int .i64 0, .bool false]) ?_ rfl ⟨⟨_, rfl, ?_⟩, ?_⟩
        · simp [results, Try.results7, go_sem, ck2]
        · have hs := SX.out
          refine own_base (base := x.heap.size) ?_ (by omega)
          repeat (refine ownsRow_setCell_below ?_ (by dsimp only; omega) _)
          exact O1.out
        · repeat (refine Below.setCell ?_ (by dsimp only; omega) _)
          exact bb

end Go.Proofs.Ytmcoidnonmmpjaa
