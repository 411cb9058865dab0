import Derived.Test.YtmcoidnonmmpjaaPut
import Derived.Test.YtmcoidnonmmpjaaCopyS
import Derived.IntWalk
import Derived.Test.YtmcoidnonmmpjaaAllocI
/- l17Put: a block put behind all, in a heap of one's own. -/
namespace Go.Proofs.Ytmcoidnonmmpjaa
open Go.RowKit
set_option linter.unusedVariables false

set_option maxHeartbeats 800000 in
set_option maxRecDepth 100000 in
theorem l17Put_no {B : Nat} (a : Option Addr) (m c : Nat) (vk : Value) (ks : List Int) (h b n : Nat) (f : Bool) (tag : Int) (w : World) (rk : Rd B .i64 w vk ks) (hh : b + h ≤ 6000) (hn : n ≤ b + h) (hno : b + h ≤ n + ks.length) :
    Calls Try.prog 41 #[.agg #[.slice a m c, .int .i64 h, .int .i64 b, .int .i64 n], .bool f, .int .i64 tag, vk] w fun e w' => e = .returned (.tuple #[.agg #[.slice a m c, .int .i64 h, .int .i64 b, .int .i64 n], .int .i64 0, .bool false]) ∧ Below w.heap.size w w' := by
  have hkl := rk.len
  unfold maxLen at hkl
  obtain ⟨ka, kc, rfl⟩ := rk.form
  clear rk
  have hno' : (b : Int) + (h : Int) - (n : Int) ≤ (ks.length : Int) := by omega
  go_enter Try.func41, Try.ntmps41
  go_wp2_with fail
  refine bodyPost_ret (v := .tuple #[.agg #[.slice a m c, .int .i64 h, .int .i64 b, .int .i64 n], .int .i64 0, .bool false]) ?_ rfl ⟨rfl, ((Below.refl _ _).alloc (Nat.le_refl _) _).alloc (by simp) _⟩
  simp [results, Try.results41, go_sem]

set_option maxHeartbeats 1600000 in
set_option maxRecDepth 100000 in
theorem l17Put_yes {base B : Nat} (v vk : Value) (ws ks : List Int) (h b n : Nat) (f : Bool) (tag : Int) (w : World)
    (ho : w.ownsRow base 3 1 v ws.length (ws.map (Value.int .i64))) (hbw : base ≤ w.heap.size) (rk : Rd B .i64 w vk ks) (hB : B ≤ base) (h0 : 0 ≤ tag) (h1 : tag ≤ 3000) (h2 : ks.length ≤ 20)
    (hh : b + h ≤ ws.length) (hfit : n + 1 + ks.length ≤ b + h) (hlen : ws.length ≤ 6000) :
    Calls Try.prog 41 #[.agg #[v, .int .i64 h, .int .i64 b, .int .i64 n], .bool f, .int .i64 tag, vk] w fun e w' => e = .returned (.tuple #[.agg #[v, .int .i64 h, .int .i64 b, .int .i64 (n + (1 + ks.length))], .int .i64 n, .bool true]) ∧
      w'.ownsRow base 3 1 v ws.length ((ov ws n (hdOf f tag ks.length :: ks)).map (Value.int .i64)) ∧ Below base w w' := by
  obtain ⟨a, cap, rfl⟩ := own_form ho
  obtain ⟨ka, kc, rfl⟩ := rk.form
  rcases ho.2 with ⟨hv, _⟩ | ⟨gr, cap', cur', hv, _⟩
  · injection hv; omega
  cases hv
  have hbg : base ≤ gr := (ho.lt gr rfl).1
  have hgw : gr < w.heap.size := (ho.lt gr rfl).2
  have hhd := hdOf_in f tag ks.length h0 h1 h2
  obtain ⟨hd, hhe⟩ : ∃ hd, hdOf f tag ks.length = hd := ⟨_, rfl⟩
  have hC := fun (w : World) => l17Head_any f tag ks.length w h0 h1 h2
  rw [hhe] at hC hhd ⊢
  obtain ⟨hd0, hd1⟩ := hhd
  have HC := Lib.hid hC
  clear hC hhe
  have hno' : decide ((b : Int) + (h : Int) - (n : Int) ≤ (ks.length : Int)) = false := by simp; omega
  have hnn : (n : Int) < (ws.length : Int) := by omega
  go_enter Try.func41, Try.ntmps41
  go_wp2_with fail
  generalize hx : (w.alloc _).alloc _ = x
  obtain ⟨bx, k1, k2, sx⟩ := alloc_box2 hx
  clear hx
  have O := own_below ho bx (own_lt ho)
  have R := rk.below' bx
  have SX := Lib.hid sx
  clear sx
  obtain ⟨w2, hw2⟩ : ∃ w2, x.drew = w2 := ⟨_, rfl⟩
  have bd : Below x.heap.size x w2 := by rw [← hw2]; exact (Below.refl _ _).drew
  have O2 := own_below O bd (own_lt O)
  have k21 := k1.below bd k1.1
  have k22 := k2.below bd k2.1
  have n1 : gr < x.heap.size := (O.lt gr rfl).2
  have bb2 : Below base w w2 := (bx.mono hbw).trans (bd.mono (Nat.le_trans hbw bx.size))
  have o3 := own_set O2 n (by omega) (.int .i64 hd)
  rw [← List.map_set, ov_one _ (by omega)] at o3
  have g3 := grownBy.setCell w2 gr n (.int .i64 hd)
  have k31 := k21.grown g3 (fun h => by have := Option.some.inj h; omega)
  have k32 := k22.grown g3 (fun h => by have := Option.some.inj h; omega)
  have bb3 := bb2.setCell (p := ⟨gr, n, none⟩) hbg (.int .i64 hd)
  have c1 := own_cell O2 n (by omega)
  rw [List.getElem?_map, List.getElem?_eq_getElem (by omega), Option.map_some] at c1
  have c2 := own_frozen O2 n
  have q1 := k1.2.1
  have q2 := k21.2.1
  have HW := Lib.hid hw2
  have O3 := Lib.hid o3
  have K31 := Lib.hid k31
  have K32 := Lib.hid k32
  have B3 := Lib.hid bb3
  have RK := Lib.hid (fun (W : World) (hb : Below base w W) => rk.below hb hB)
  have hov : ∀ k, k + 1 ≤ ks.length → (ov ws n ((hd :: ks).take (k + 1))).set (n + 1 + k) (ks.getD k 0) = ov ws n ((hd :: ks).take (k + 2)) := by
    intro k hk
    have := ov_next (ws := ws) (p := n) (i := k + 1) (ks := hd :: ks) (by simp; omega) (by simp; omega)
    rwa [show n + (k + 1) = n + 1 + k by omega] at this
  have HOV := Lib.hid hov
  have HOL := Lib.hid (fun (k : Nat) (hk : k ≤ ks.length) => (ov_len (ws := ws) (p := n) (ks := (hd :: ks).take (k + 1)) (by simp; omega)))
  clear bd k1 k2 ho O O2 k21 k22 o3 k31 k32 bb3 bb2 g3 hw2 rk R hov
  go_still_tail 9, (by kernel_rfl)
  still_call (HC.out _)
  repeat still_step
  try refine wpStill_nil ?_
  change wpList _ _ _ _ _ x.drew
  rw [HW.out]
  go_wp2
  generalize hw3 : World.setCell _ _ _ = w3
  have o3 : w3.ownsRow base 3 1 (.slice (some ⟨gr, 0, none⟩) ws.length cap) ws.length ((ov ws n ((hd :: ks).take 1)).map (Value.int .i64)) := by rw [← hw3]; exact O3.out
  have k31 := K31.out
  have k32 := K32.out
  rw [hw3] at k31 k32
  have b3 : Below base w w3 := by rw [← hw3]; exact B3.out
  clear hw3 q1 q2 c1 c2 K31 K32 B3 O3
  go_loopw [12] (fun i wr => ∃ k : Nat, k ≤ ks.length ∧ i = .int .i64 k ∧ wr.ownsRow base 3 1 (.slice (some ⟨gr, 0, none⟩) ws.length cap) ws.length ((ov ws n ((hd :: ks).take (k + 1))).map (Value.int .i64)) ∧
    Bx wr w.heap.size #[.slice (some ⟨gr, 0, none⟩) ws.length cap, .int .i64 h, .int .i64 b, .int .i64 n] ∧ Bx wr (w.heap.size + 1) #[.slice none 0 0, .int .i64 0, .int .i64 0, .int .i64 0] ∧ Below base w wr) (fun i _ => ks.length - (intOf i).toNat)
  case atStart => exact ⟨0, Nat.zero_le _, rfl, o3, k31, k32, b3⟩
  case round =>
    clear o3 k31 k32 b3
    obtain ⟨k, hk, rfl, ho, k1, k2, hb⟩ := hrel
    by_cases hlt : k < ks.length
    · rcases RK.out _ hb with ⟨h', _⟩ | ⟨bl, off, c', hv, _, hbs, _, hc⟩
      · rw [h'] at hlt; simp at hlt
      cases hv
      obtain ⟨w2, hw2⟩ : ∃ w2, wr.drew = w2 := ⟨_, rfl⟩
      have bd : Below wr.heap.size wr w2 := by rw [← hw2]; exact (Below.refl _ _).drew
      have O2 := own_below ho bd (own_lt ho)
      have k21 := k1.below bd k1.1
      have k22 := k2.below bd k2.1
      have bb2 : Below base w w2 := hb.trans (bd.mono (Nat.le_trans hbw hb.size))
      have o3 := own_set O2 (n + 1 + k) (by omega) (.int .i64 (ks.getD k 0))
      rw [← List.map_set, HOV.out k hlt] at o3
      have g3 := grownBy.setCell w2 gr (n + 1 + k) (.int .i64 (ks.getD k 0))
      have k31 := k21.grown g3 (fun h => by have := Option.some.inj h; omega)
      have k32 := k22.grown g3 (fun h => by have := Option.some.inj h; omega)
      have bb3 := bb2.setCell (p := ⟨gr, n + 1 + k, none⟩) hbg (.int .i64 (ks.getD k 0))
      have c1 := own_cell O2 (n + 1 + k) (by omega)
      rw [List.getElem?_map, List.getElem?_eq_getElem (by rw [HOL.out k hk]; omega), Option.map_some] at c1
      have c2 := own_frozen O2 (n + 1 + k)
      have c3 := hc k hlt
      have q1 := k1.2.1
      have hnk : (n : Int) + 1 + (k : Int) < (ws.length : Int) := by omega
      have hkk : (k : Int) < (ks.length : Int) := by omega
      have HW2 := Lib.hid hw2
      obtain ⟨kv, hkv⟩ : ∃ kv, ks.getD k 0 = kv := ⟨_, rfl⟩
      rw [hkv] at c3 o3 k31 k32 bb3
      have O3 := Lib.hid o3
      have K31 := Lib.hid k31
      have K32 := Lib.hid k32
      have B3 := Lib.hid bb3
      clear bd k1 k2 ho O2 k21 k22 o3 k31 k32 bb3 bb2 g3 hw2 hc hkv hb
      go_wp2_with fail
      have s1 : IntKind.i64.wrap ((n : Int) + 1) = (n : Int) + 1 := IntWalk.i64_in _ (by omega)
      have s2 : IntKind.i64.wrap ((n : Int) + 1 + (k : Int)) = (n : Int) + 1 + (k : Int) := IntWalk.i64_in _ (by omega)
      have s3 : (0 : Int) ≤ (n : Int) + 1 + (k : Int) := by omega
      have s4 : ((n : Int) + 1 + (k : Int)).toNat = n + 1 + k := by omega
      go_still_tail 11, (by kernel_rfl)
      repeat still_step
      try refine wpStill_nil ?_
      change wpList _ _ _ _ _ wr.drew
      rw [HW2.out]
      clear s1 s2 s3 s4
      go_wp2
      go_roundw
      case rel => exact ⟨k + 1, hlt, by go_num, O3.out, K31.out, K32.out, B3.out⟩
      case measure => simp [intOf]; omega
    · obtain rfl : k = ks.length := by omega
      rw [List.take_of_length_le (by simp)] at ho
      have ck1 := k1.2.1
      have yk1 := k1.1
      have zk1 := k1.2.2
      have ck2 := k2.2.1
      have yk2 := k2.1
      have zk2 := k2.2.2
      have O := Lib.hid ho
      have BB := Lib.hid hb
      clear ho hb
      go_wp2
      refine bodyPost_ret (v := .tuple #[.agg #[.slice (some ⟨gr, 0, none⟩) ws.length cap, .int .i64 h, .int .i64 b, .int .i64 (n + 1 + ks.length)], .int .i64 n, .bool true]) ?_ rfl ⟨by rw [Int.add_assoc], ?_, ?_⟩
      · simp [results, Try.results41, go_sem, ck2]
      · refine own_below (B := w.heap.size) O.out ?_ (fun k h => by cases h; exact hgw)
        repeat (with_reducible refine Below.setCell ?_ (by dsimp only; omega) _)
        exact Below.refl _ _
      · repeat (with_reducible refine Below.setCell ?_ (by dsimp only; omega) _)
        exact BB.out

end Go.Proofs.Ytmcoidnonmmpjaa

/- Alloc of the reference. -/
namespace Go.Proofs.Ytmcoidnonmmpjaa
open Go.RowKit
set_option linter.unusedVariables false

set_option maxHeartbeats 800000 in
set_option maxRecDepth 100000 in
theorem sAlloc_not {B : Nat} (v vk : Value) (ws ks : List Int) (h b n : Int) (f : Bool) (tag : Int) (w : World) (hr : Rd B .i64 w v ws) (hw : intsOk ws) (hlen : ws.length ≤ 4294967296)
    (rk : Rd B .i64 w vk ks) (hkl : ks.length ≤ 4294967296)
    (bh : -9223372036854775808 ≤ h ∧ h ≤ 9223372036854775807) (ib : -9223372036854775808 ≤ b ∧ b ≤ 9223372036854775807) (bn : -9223372036854775808 ≤ n ∧ n ≤ 9223372036854775807)
    (hno : ¬ (heapOk ws h b n = true ∧ inB tag 0 3000 = true ∧ ks.length ≤ 20 ∧ n + (1 + ks.length) ≤ b + h)) :
    Calls Try.prog 8 #[.agg #[v, .int .i64 h, .int .i64 b, .int .i64 n], .bool f, .int .i64 tag, vk] w fun e w' => PutTold w e w' h b ⟨ws, n, 0, false⟩ ∧ Below w.heap.size w w' := by
  have hC := fun (W : World) (hb : Below w.heap.size w W) => l17Copy_any v ws h b n W (hr.below' hb) hlen
  have hO := fun (W : World) (hb : Below w.heap.size w W) => sHeapOk_any v ws h b n W (hr.below' hb) hw hlen bh ib bn
  have rk' := fun (W : World) (hb : Below w.heap.size w W) => rk.below' hb
  obtain ⟨a, cap, rfl⟩ := hr.form
  obtain ⟨ka, kc, rfl⟩ := rk.form
  have HC := Lib.hid hC
  have RK := Lib.hid rk'
  cases hok : heapOk ws h b n
  · rw [hok] at hO
    have HO := Lib.hid hO
    clear hC hO hr rk hw bh ib bn hok hno rk'
    go_enter Try.func8, Try.ntmps8
    go_wp2_with fail
    generalize hx : (w.alloc _).alloc _ = x
    obtain ⟨bb, k1, k2, sx⟩ := alloc_box2 hx
    clear hx
    have SX := Lib.hid sx
    clear sx
    have ck1 := k1.2.1
    have yk1 := k1.1
    go_wp2_with fail
    refine (HO.out _ bb).mono ?_
    rintro e w1 ⟨rfl, b1⟩
    clear ck1 yk1
    replace k1 := k1.below b1 k1.1
    replace k2 := k2.below b1 k2.1
    replace bb := bb.trans (b1.mono bb.size)
    clear b1
    have ck1 := k1.2.1
    have yk1 := k1.1
    go_wp2_with fail
    refine (HC.out _ bb).mono ?_
    rintro e w2 ⟨v1, rfl, o1, b2⟩
    clear ck1 yk1
    have s1 := k2.1
    replace k1 := k1.below b2 k1.1
    replace k2 := k2.below b2 k2.1
    replace bb := bb.trans (b2.mono bb.size)
    clear b2
    obtain ⟨a1, c1, rfl⟩ := own_form o1
    have ck1 := k1.2.1
    have yk1 := k1.1
    have zk1 := k1.2.2
    have ck2 := k2.2.1
    have yk2 := k2.1
    have zk2 := k2.2.2
    have O1 := Lib.hid o1
    clear o1
    go_wp2
    refine bodyPost_ret (v := .tuple #[.agg #[.slice a1 ws.length c1, .int .i64 h, .int .i64 b, .int .i64 n], .int .i64 0, .bool false]) ?_ rfl ⟨⟨_, rfl, ?_⟩, ?_⟩
    · simp [results, Try.results8, go_sem, ck2]
    · have hs := SX.out
      refine own_base (base := w1.heap.size) ?_ (by omega)
      repeat (with_reducible refine ownsRow_setCell_below ?_ (by dsimp only; omega) _)
      exact O1.out
    · repeat (with_reducible refine Below.setCell ?_ (by dsimp only; omega) _)
      exact bb
  · rw [hok] at hO
    have HO := Lib.hid hO
    obtain ⟨h', b', n', rfl, rfl, rfl, hF⟩ := heapFrame_true (heapOk_frame hok)
    have e1 : b' + h' ≤ 6000 := by have := hF.h1; have := hF.base; omega
    have e2 : n' ≤ b' + h' := hF.n1
    cases ht : inB tag 0 3000
    · have HW := Lib.hid (fun (W : World) => (by have := l1In_any tag 0 3000 W; rw [ht] at this; exact this : Calls Try.prog 39 #[.int .i64 tag, .int .i64 0, .int .i64 3000] W _))
      clear hC hO hr rk hw bh ib bn hok hno rk' ht hF
      go_enter Try.func8, Try.ntmps8
      go_wp2_with fail
      generalize hx : (w.alloc _).alloc _ = x
      obtain ⟨bb, k1, k2, sx⟩ := alloc_box2 hx
      clear hx
      have SX := Lib.hid sx
      clear sx
      have ck1 := k1.2.1
      have yk1 := k1.1
      go_wp2_with fail
      refine (HO.out _ bb).mono ?_
      rintro e w1 ⟨rfl, b1⟩
      clear ck1 yk1
      replace k1 := k1.below b1 k1.1
      replace k2 := k2.below b1 k2.1
      replace bb := bb.trans (b1.mono bb.size)
      clear b1
      have ck1 := k1.2.1
      have yk1 := k1.1
      go_wp2_with fail
      refine (HW.out _).mono ?_
      rintro e w11 ⟨rfl, rfl⟩
      go_wp2_with fail
      refine (HC.out _ bb).mono ?_
      rintro e w2 ⟨v1, rfl, o1, b2⟩
      clear ck1 yk1
      have s1 := k2.1
      replace k1 := k1.below b2 k1.1
      replace k2 := k2.below b2 k2.1
      replace bb := bb.trans (b2.mono bb.size)
      clear b2
      obtain ⟨a1, c1, rfl⟩ := own_form o1
      have ck1 := k1.2.1
      have yk1 := k1.1
      have zk1 := k1.2.2
      have ck2 := k2.2.1
      have yk2 := k2.1
      have zk2 := k2.2.2
      have O1 := Lib.hid o1
      clear o1
      go_wp2
      refine bodyPost_ret (v := .tuple #[.agg #[.slice a1 ws.length c1, .int .i64 h', .int .i64 b', .int .i64 n'], .int .i64 0, .bool false]) ?_ rfl ⟨⟨_, rfl, ?_⟩, ?_⟩
      · simp [results, Try.results8, go_sem, ck2]
      · have hs := SX.out
        refine own_base (base := w1.heap.size) ?_ (by omega)
        repeat (with_reducible refine ownsRow_setCell_below ?_ (by dsimp only; omega) _)
        exact O1.out
      · repeat (with_reducible refine Below.setCell ?_ (by dsimp only; omega) _)
        exact bb
    · have HW := Lib.hid (fun (W : World) => (by have := l1In_any tag 0 3000 W; rw [ht] at this; exact this : Calls Try.prog 39 #[.int .i64 tag, .int .i64 0, .int .i64 3000] W _))
      by_cases c20 : 20 < ks.length
      · clear hC hO hr rk hw bh ib bn hok hno rk' ht hF
        go_enter Try.func8, Try.ntmps8
        go_wp2_with fail
        generalize hx : (w.alloc _).alloc _ = x
        obtain ⟨bb, k1, k2, sx⟩ := alloc_box2 hx
        clear hx
        have SX := Lib.hid sx
        clear sx
        have ck1 := k1.2.1
        have yk1 := k1.1
        go_wp2_with fail
        refine (HO.out _ bb).mono ?_
        rintro e w1 ⟨rfl, b1⟩
        clear ck1 yk1
        replace k1 := k1.below b1 k1.1
        replace k2 := k2.below b1 k2.1
        replace bb := bb.trans (b1.mono bb.size)
        clear b1
        have ck1 := k1.2.1
        have yk1 := k1.1
        go_wp2_with fail
        refine (HW.out _).mono ?_
        rintro e w11 ⟨rfl, rfl⟩
        go_wp2_with fail
        refine (HC.out _ bb).mono ?_
        rintro e w2 ⟨v1, rfl, o1, b2⟩
        clear ck1 yk1
        have s1 := k2.1
        replace k1 := k1.below b2 k1.1
        replace k2 := k2.below b2 k2.1
        replace bb := bb.trans (b2.mono bb.size)
        clear b2
        obtain ⟨a1, c1, rfl⟩ := own_form o1
        have ck1 := k1.2.1
        have yk1 := k1.1
        have zk1 := k1.2.2
        have ck2 := k2.2.1
        have yk2 := k2.1
        have zk2 := k2.2.2
        have O1 := Lib.hid o1
        clear o1
        go_wp2
        refine bodyPost_ret (v := .tuple #[.agg #[.slice a1 ws.length c1, .int .i64 h', .int .i64 b', .int .i64 n'], .int .i64 0, .bool false]) ?_ rfl ⟨⟨_, rfl, ?_⟩, ?_⟩
        · simp [results, Try.results8, go_sem, ck2]
        · have hs := SX.out
          refine own_base (base := w1.heap.size) ?_ (by omega)
          repeat (with_reducible refine ownsRow_setCell_below ?_ (by dsimp only; omega) _)
          exact O1.out
        · repeat (with_reducible refine Below.setCell ?_ (by dsimp only; omega) _)
          exact bb
      · have hnr : b' + h' ≤ n' + ks.length := by
          have h4 : ¬ (n' : Int) + (1 + ks.length) ≤ (b' : Int) + (h' : Int) := fun h => hno ⟨hok, ht, by omega, h⟩
          omega
        have hP := fun (a : Option Addr) (m c : Nat) (W : World) (hb : Below w.heap.size w W) => l17Put_no a m c (.slice ka ks.length kc) ks h' b' n' f tag W (RK.out _ hb) e1 e2 hnr
        have HP := Lib.hid hP
        clear hC hO hr rk hw bh ib bn hok hno rk' ht hF hP
        go_enter Try.func8, Try.ntmps8
        go_wp2_with fail
        generalize hx : (w.alloc _).alloc _ = x
        obtain ⟨bb, k1, k2, sx⟩ := alloc_box2 hx
        clear hx
        have SX := Lib.hid sx
        clear sx
        have ck1 := k1.2.1
        have yk1 := k1.1
        go_wp2_with fail
        refine (HO.out _ bb).mono ?_
        rintro e w1 ⟨rfl, b1⟩
        clear ck1 yk1
        replace k1 := k1.below b1 k1.1
        replace k2 := k2.below b1 k2.1
        replace bb := bb.trans (b1.mono bb.size)
        clear b1
        have ck1 := k1.2.1
        have yk1 := k1.1
        go_wp2_with fail
        refine (HW.out _).mono ?_
        rintro e w11 ⟨rfl, rfl⟩
        go_wp2_with fail
        refine (HC.out _ bb).mono ?_
        rintro e w2 ⟨v1, rfl, o1, b2⟩
        clear ck1 yk1
        replace k1 := k1.below b2 k1.1
        replace k2 := k2.below b2 k2.1
        replace bb := bb.trans (b2.mono bb.size)
        clear b2
        obtain ⟨a1, c1, rfl⟩ := own_form o1
        clear o1
        go_wp2_with fail
        refine (HP.out _ _ _ _ bb).mono ?_
        rintro e w3 ⟨rfl, b3⟩
        replace k1 := k1.below b3 k1.1
        replace k2 := k2.below b3 k2.1
        replace bb := bb.trans (b3.mono bb.size)
        clear b3
        have ck1 := k1.2.1
        have yk1 := k1.1
        go_wp2_with fail
        clear ck1 yk1
        generalize hx : w3.alloc _ = x3
        obtain ⟨bx, k3⟩ := Bx.alloc hx
        clear hx
        replace k1 := k1.below bx k1.1
        replace k2 := k2.below bx k2.1
        replace bb := bb.trans (bx.mono bb.size)
        clear bx
        refine (HC.out _ bb).mono ?_
        rintro e w4 ⟨v4, rfl, o4, b4⟩
        have s1 := k2.1
        replace k1 := k1.below b4 k1.1
        replace k2 := k2.below b4 k2.1
        replace bb := bb.trans (b4.mono bb.size)
        clear b4
        obtain ⟨a4, c4, rfl⟩ := own_form o4
        have ck1 := k1.2.1
        have yk1 := k1.1
        have zk1 := k1.2.2
        have ck2 := k2.2.1
        have yk2 := k2.1
        have zk2 := k2.2.2
        have O4 := Lib.hid o4
        clear o4 k3
        go_wp2
        refine bodyPost_ret (v := .tuple #[.agg #[.slice a4 ws.length c4, .int .i64 h', .int .i64 b', .int .i64 n'], .int .i64 0, .bool false]) ?_ rfl ⟨⟨_, rfl, ?_⟩, ?_⟩
        · simp [results, Try.results8, go_sem, ck2]
        · have hs := SX.out
          refine own_base (base := x3.heap.size) ?_ (by omega)
          repeat (with_reducible refine ownsRow_setCell_below ?_ (by dsimp only; omega) _)
          exact O4.out
        · repeat (with_reducible refine Below.setCell ?_ (by dsimp only; omega) _)
          exact bb

set_option maxHeartbeats 800000 in
set_option maxRecDepth 100000 in
theorem sAlloc_yes {B : Nat} (v vk : Value) (ws ks : List Int) (h b n : Nat) (f : Bool) (tag : Int) (w : World) (hr : Rd B .i64 w v ws) (hw : intsOk ws) (hlen : ws.length ≤ 4294967296)
    (rk : Rd B .i64 w vk ks) (hk : intsOk ks) (hF : Frame ws h b n) (hok : heapOk ws h b n = true) (ht : inB tag 0 3000 = true) (h20 : ks.length ≤ 20) (hfit : (n : Int) + (1 + ks.length) ≤ b + h)
    (P : Put) (hPe : P = if heapOk (ov ws n (hdOf f tag ks.length :: ks)) h b (n + (1 + ks.length)) then ⟨ov ws n (hdOf f tag ks.length :: ks), n + (1 + ks.length), n, true⟩ else ⟨ws, n, 0, false⟩) :
    Calls Try.prog 8 #[.agg #[v, .int .i64 h, .int .i64 b, .int .i64 n], .bool f, .int .i64 tag, vk] w fun e w' => PutTold w e w' h b P ∧ Below w.heap.size w w' := by
  have e1 : b + h ≤ 6000 := by have := hF.h1; have := hF.base; omega
  have e2 : n ≤ b + h := hF.n1
  have e3 : b + h ≤ ws.length := by have := hF.len; have := hF.base; omega
  have e4 : ws.length ≤ 6000 := by have := hF.len; have := hF.h1; omega
  obtain ⟨t0, t1⟩ := inB_true.1 ht
  have hC := fun (W : World) (hb : Below w.heap.size w W) => l17Copy_any v ws h b n W (hr.below' hb) hlen
  have hO := fun (W : World) (hb : Below w.heap.size w W) => sHeapOk_any v ws h b n W (hr.below' hb) hw hlen ⟨by omega, by omega⟩ ⟨by omega, by omega⟩ ⟨by omega, by omega⟩
  obtain ⟨zs, hzs⟩ : ∃ zs, ov ws n (hdOf f tag ks.length :: ks) = zs := ⟨_, rfl⟩
  have hzl : zs.length = ws.length := by rw [← hzs]; exact ov_len (by simp; omega)
  have hzo : intsOk zs := by
    rw [← hzs]
    refine ov_ok hw (intsOk_of fun x hx => ?_)
    rcases List.mem_cons.1 hx with rfl | hx
    · have := hdOf_in f tag ks.length t0 t1 h20; omega
    · exact intsOk_mem hk x hx
  have hO2 := fun (B : Nat) (v : Value) (W : World) (hr : Rd B .i64 W v zs) => sHeapOk_any v zs h b (n + (1 + ks.length)) W hr hzo (by omega) ⟨by omega, by omega⟩ ⟨by omega, by omega⟩ ⟨by omega, by omega⟩
  have hP := fun (B base : Nat) (v : Value) (W : World) (ho : W.ownsRow base 3 1 v ws.length (ws.map (Value.int .i64))) (hbw : base ≤ W.heap.size) (rk : Rd B .i64 W vk ks) (hB : B ≤ base) =>
    l17Put_yes v vk ws ks h b n f tag W ho hbw rk hB t0 t1 h20 e3 (by omega) e4
  have hW := fun (W : World) => l1In_any tag 0 3000 W
  rw [ht] at hW
  have rk' := fun (W : World) (hb : Below w.heap.size w W) => rk.below' hb
  obtain ⟨a, cap, rfl⟩ := hr.form
  obtain ⟨ka, kc, rfl⟩ := rk.form
  rw [hzs] at hP hPe
  rw [hok] at hO
  have HC := Lib.hid hC
  have HO := Lib.hid hO
  have HP := Lib.hid hP
  have HW := Lib.hid hW
  have RK := Lib.hid rk'
  have ZL := Lib.hid hzl
  cases hz : heapOk zs h b (n + (1 + ks.length))
  all_goals
    rw [hz] at hO2 hPe
    simp only [Bool.false_eq_true, ↓reduceIte] at hPe
    have HPe := Lib.hid hPe
    have HO2 := Lib.hid hO2
    clear hPe hC hO hP hW hO2 hr rk hw hk hok ht hF hzs hzo hz rk' hzl
    go_enter Try.func8, Try.ntmps8
    go_wp2_with fail
    generalize hx : (w.alloc _).alloc _ = x
    obtain ⟨bb, k1, k2, sx⟩ := alloc_box2 hx
    clear hx
    have SX := Lib.hid sx
    clear sx
    have ck1 := k1.2.1
    have yk1 := k1.1
    go_wp2_with fail
    refine (HO.out _ bb).mono ?_
    rintro e w1 ⟨rfl, b1⟩
    clear ck1 yk1
    replace k1 := k1.below b1 k1.1
    replace k2 := k2.below b1 k2.1
    replace bb := bb.trans (b1.mono bb.size)
    clear b1
    have ck1 := k1.2.1
    have yk1 := k1.1
    go_wp2_with fail
    refine (HW.out _).mono ?_
    rintro e w11 ⟨rfl, rfl⟩
    go_wp2_with fail
    refine (HC.out _ bb).mono ?_
    rintro e w2 ⟨v1, rfl, o1, b2⟩
    clear ck1 yk1
    have s1 := b2.size
    have s0 := k2.1
    replace k1 := k1.below b2 k1.1
    replace k2 := k2.below b2 k2.1
    replace bb := bb.trans (b2.mono bb.size)
    clear b2
    obtain ⟨a1, c1, rfl⟩ := own_form o1
    go_wp2_with fail
    refine (HP.out _ _ _ _ o1 s1 (RK.out _ bb) (by omega)).mono ?_
    rintro e w7 ⟨rfl, o7, b7⟩
    replace k1 := k1.below b7 (by omega)
    replace k2 := k2.below b7 (by omega)
    replace bb := bb.trans (b7.mono (by omega))
    have r7 : Rd w7.heap.size .i64 w7 (.slice a1 ws.length c1) zs := by
      have o := o7
      rw [← ZL.out] at o
      have := Rd.of_own o
      rwa [ZL.out] at this
    clear b7 o1
    go_wp2_with fail
    generalize hx : w7.alloc _ = x3
    obtain ⟨bx, k3⟩ := Bx.alloc hx
    clear hx
    replace k1 := k1.below bx k1.1
    replace k2 := k2.below bx k2.1
    replace r7 := r7.below' bx
    replace o7 := own_below o7 bx (own_lt o7)
    replace bb := bb.trans (bx.mono bb.size)
    clear bx
    refine (HO2.out _ _ _ r7).mono ?_
    rintro e w8 ⟨rfl, b8⟩
    clear r7
    replace k1 := k1.below b8 k1.1
    replace k2 := k2.below b8 k2.1
    replace k3 := k3.below b8 k3.1
    replace o7 := own_below o7 b8 (own_lt o7)
    replace bb := bb.trans (b8.mono bb.size)
    clear b8
  · have ck1 := k1.2.1
    have yk1 := k1.1
    go_wp2_with fail
    refine (HC.out _ bb).mono ?_
    rintro e w9 ⟨v9, rfl, o9, b9⟩
    clear ck1 yk1
    have s9 := k2.1
    replace k1 := k1.below b9 k1.1
    replace k2 := k2.below b9 k2.1
    replace bb := bb.trans (b9.mono bb.size)
    clear b9
    obtain ⟨a9, c9, rfl⟩ := own_form o9
    have ck2 := k2.2.1
    have yk2 := k2.1
    have zk2 := k2.2.2
    have O9 := Lib.hid o9
    clear o9 k3 o7 k1
    go_wp2
    refine bodyPost_ret (v := .tuple #[.agg #[.slice a9 ws.length c9, .int .i64 h, .int .i64 b, .int .i64 n], .int .i64 0, .bool false]) ?_ rfl ⟨?_, ?_⟩
    · simp [results, Try.results8, go_sem, ck2]
    · rw [HPe.out]
      refine ⟨_, rfl, ?_⟩
      refine own_base (base := w8.heap.size) ?_ (by omega)
      repeat (with_reducible refine ownsRow_setCell_below ?_ (by dsimp only; omega) _)
      exact O9.out
    · repeat (with_reducible refine Below.setCell ?_ (by dsimp only; omega) _)
      exact bb
  · have ck2 := k2.2.1
    have yk2 := k2.1
    have zk2 := k2.2.2
    have ck3 := k3.2.1
    have yk3 := k3.1
    have zk3 := k3.2.2
    have O7 := Lib.hid o7
    clear o7 k1
    go_wp2
    refine bodyPost_ret (v := .tuple #[.agg #[.slice a1 ws.length c1, .int .i64 h, .int .i64 b, .int .i64 (n + (1 + ks.length))], .int .i64 n, .bool true]) ?_ rfl ⟨?_, ?_⟩
    · simp [results, Try.results8, go_sem, ck2]
    · rw [HPe.out]
      refine ⟨_, rfl, ?_⟩
      show World.ownsRow _ _ _ _ _ zs.length _
      rw [ZL.out]
      refine own_base (base := w1.heap.size) ?_ (by omega)
      repeat (with_reducible refine ownsRow_setCell_below ?_ (by dsimp only; omega) _)
      exact O7.out
    · repeat (with_reducible refine Below.setCell ?_ (by dsimp only; omega) _)
      exact bb

theorem sAlloc_any {B : Nat} (v vk : Value) (ws ks : List Int) (h b n : Int) (f : Bool) (tag : Int) (w : World) (hr : Rd B .i64 w v ws) (hw : intsOk ws) (hlen : ws.length ≤ 4294967296)
    (rk : Rd B .i64 w vk ks) (hk : intsOk ks) (hkl : ks.length ≤ 4294967296)
    (bh : -9223372036854775808 ≤ h ∧ h ≤ 9223372036854775807) (ib : -9223372036854775808 ≤ b ∧ b ≤ 9223372036854775807) (bn : -9223372036854775808 ≤ n ∧ n ≤ 9223372036854775807) :
    Calls Try.prog 8 #[.agg #[v, .int .i64 h, .int .i64 b, .int .i64 n], .bool f, .int .i64 tag, vk] w fun e w' => PutTold w e w' h b (allocOf ws h b n f tag ks) ∧ Below w.heap.size w w' := by
  by_cases hc : heapOk ws h b n = true ∧ inB tag 0 3000 = true ∧ ks.length ≤ 20 ∧ n + (1 + ks.length) ≤ b + h
  · obtain ⟨hok, ht, h20, hfit⟩ := hc
    obtain ⟨h', b', n', rfl, rfl, rfl, hF⟩ := heapFrame_true (heapOk_frame hok)
    rw [alloc_if hok ht h20 hfit]
    exact sAlloc_yes v vk ws ks h' b' n' f tag w hr hw hlen rk hk hF hok ht h20 hfit _ rfl
  · rw [alloc_not hc]
    exact sAlloc_not v vk ws ks h b n f tag w hr hw hlen rk hkl bh ib bn hc

theorem alloc_len (ws : List Int) (h b n : Int) (f : Bool) (tag : Int) (ks : List Int) : (allocOf ws h b n f tag ks).ws.length = ws.length := by
  by_cases hc : heapOk ws h b n = true ∧ inB tag 0 3000 = true ∧ ks.length ≤ 20 ∧ n + (1 + ks.length) ≤ b + h
  · obtain ⟨hok, ht, h20, hfit⟩ := hc
    obtain ⟨h', b', n', rfl, rfl, rfl, hF⟩ := heapFrame_true (heapOk_frame hok)
    rw [alloc_if hok ht h20 hfit]
    have := hF.len
    have := hF.base
    split
    · exact ov_len (by simp; omega)
    · rfl
  · rw [alloc_not hc]

end Go.Proofs.Ytmcoidnonmmpjaa
