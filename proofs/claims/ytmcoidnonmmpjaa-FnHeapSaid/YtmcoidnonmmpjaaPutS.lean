/- l17Put: a block put behind all, in a heap of one's own. -/
import Derived.Test.YtmcoidnonmmpjaaPut
import Derived.Test.YtmcoidnonmmpjaaCopyS
import Derived.IntWalk
namespace Go.Proofs.Ytmcoidnonmmpjaa
open Go.RowKit
set_option linter.unusedVariables false

set_option maxHeartbeats 800000 in
set_option maxRecDepth 100000 in
theorem l17Put_no {B : Nat} (a : Option Addr) (m c : Nat) (vk : Value) (ks : List Int) (h b n : Nat) (f : Bool) (tag : Int) (w : World) (rk : Rd B .i64 w vk ks) (hh : b + h ≤ 6000) (hn : n ≤ b + h) (hno : b + h ≤ n + ks.length) :
    Calls Try.prog 41 #[.agg #[.slice a m c, .int .i64 h, .int .i64 b, .int .i64 n], .bool f, .int .i64 tag, vk] w fun e w' => e = .returned (.tuple #[.agg #[.slice a m c, .int .i64 h, .int .i64 b, .int .i64 n], .int .i64 0, .bool false]) ∧ Below w.heap.size w w' := by
  have hkl := rk.len
  unfold maxLen at hkl
  obtain ⟨ka, kc, rfl⟩ := rk.form
  clear rk
  have hno' : (b : Int) + (h : Int) - (n : Int) ≤ (ks.length : Int) := by omega
  go_enter Try.func41, Try.ntmps41
  go_wp2_with fail
  refine bodyPost_ret (v := .tuple #[.agg #[.slice a m c, .int .i64 h, .int .i64 b, .int .i64 n], .int .i64 0, .bool false]) ?_ rfl ⟨rfl, ((Below.refl _ _).alloc (Nat.le_refl _) _).alloc (by simp) _⟩
  simp [results, Try.results41, go_sem]

set_option maxHeartbeats 1600000 in
set_option maxRecDepth 100000 in
theorem l17Put_yes {base B : Nat} (v vk : Value) (ws ks : List Int) (h b n : Nat) (f : Bool) (tag : Int) (w : World)
    (ho : w.ownsRow base 3 1 v ws.length (ws.map (Value.int .i64))) (hbw : base ≤ w.heap.size) (rk : Rd B .i64 w vk ks) (hB : B ≤ base) (h0 : 0 ≤ tag) (h1 : tag ≤ 3000) (h2 : ks.length ≤ 20)
    (hh : b + h ≤ ws.length) (hfit : n + 1 + ks.length ≤ b + h) (hlen : ws.length ≤ 6000) :
    Calls Try.prog 41 #[.agg #[v, .int .i64 h, .int .i64 b, .int .i64 n], .bool f, .int .i64 tag, vk] w fun e w' => e = .returned (.tuple #[.agg #[v, .int .i64 h, .int .i64 b, .int .i64 (n + (1 + ks.length))], .int .i64 n, .bool true]) ∧
      w'.ownsRow base 3 1 v ws.length ((ov ws n (hdOf f tag ks.length :: ks)).map (Value.int .i64)) ∧ Below base w w' := by
  obtain ⟨a, cap, rfl⟩ := own_form ho
  obtain ⟨ka, kc, rfl⟩ := rk.form
  rcases ho.2 with ⟨hv, _⟩ | ⟨gr, cap', cur', hv, _⟩
  · injection hv; omega
  cases hv
  have hbg : base ≤ gr := (ho.lt gr rfl).1
  have hgw : gr < w.heap.size := (ho.lt gr rfl).2
  have hhd := hdOf_in f tag ks.length h0 h1 h2
  obtain ⟨hd, hhe⟩ : ∃ hd, hdOf f tag ks.length = hd := ⟨_, rfl⟩
  have hC := fun (w : World) => l17Head_any f tag ks.length w h0 h1 h2
  rw [hhe] at hC hhd ⊢
  obtain ⟨hd0, hd1⟩ := hhd
  have HC := Lib.hid hC
  clear hC hhe
  have hno' : decide ((b : Int) + (h : Int) - (n : Int) ≤ (ks.length : Int)) = false := by simp; omega
  have hnn : (n : Int) < (ws.length : Int) := by omega
  go_enter Try.func41, Try.ntmps41
  go_wp2_with fail
  generalize hx : (w.alloc _).alloc _ = x
  obtain ⟨bx, k1, k2, sx⟩ := alloc_box2 hx
  clear hx
  have O := own_below ho bx (own_lt ho)
  have R := rk.below' bx
  have SX := Lib.hid sx
  clear sx
  obtain ⟨w2, hw2⟩ : ∃ w2, x.drew = w2 := ⟨_, rfl⟩
  have bd : Below x.heap.size x w2 := by rw [← hw2]; exact (Below.refl _ _).drew
  have O2 := own_below O bd (own_lt O)
  have k21 := k1.below bd k1.1
  have k22 := k2.below bd k2.1
  have n1 : gr < x.heap.size := (O.lt gr rfl).2
  have bb2 : Below base w w2 := (bx.mono hbw).trans (bd.mono (Nat.le_trans hbw bx.size))
  have o3 := own_set O2 n (by omega) (.int .i64 hd)
  rw [← List.map_set, ov_one _ (by omega)] at o3
  have g3 := grownBy.setCell w2 gr n (.int .i64 hd)
  have k31 := k21.grown g3 (fun h => by have := Option.some.inj h; omega)
  have k32 := k22.grown g3 (fun h => by have := Option.some.inj h; omega)
  have bb3 := bb2.setCell (p := ⟨gr, n, none⟩) hbg (.int .i64 hd)
  have c1 := own_cell O2 n (by omega)
  rw [List.getElem?_map, List.getElem?_eq_getElem (by omega), Option.map_some] at c1
  have c2 := own_frozen O2 n
  have q1 := k1.2.1
  have q2 := k21.2.1
  have HW := Lib.hid hw2
  have O3 := Lib.hid o3
  have K31 := Lib.hid k31
  have K32 := Lib.hid k32
  have B3 := Lib.hid bb3
  have RK := Lib.hid (fun (W : World) (hb : Below base w W) => rk.below hb hB)
  have hov : ∀ k, k + 1 ≤ ks.length → (ov ws n ((hd :: ks).take (k + 1))).set (n + 1 + k) (ks.getD k 0) = ov ws n ((hd :: ks).take (k + 2)) := by
    intro k hk
    have := ov_next (ws := ws) (p := n) (i := k + 1) (ks := hd :: ks) (by simp; omega) (by simp; omega)
    rwa [show n + (k + 1) = n + 1 + k by omega] at this
  have HOV := Lib.hid hov
  have HOL := Lib.hid (fun (k : Nat) (hk : k ≤ ks.length) => (ov_len (ws := ws) (p := n) (ks := (hd :: ks).take (k + 1)) (by simp; omega)))
  clear bd k1 k2 ho O O2 k21 k22 o3 k31 k32 bb3 bb2 g3 hw2 rk R hov
  go_still_tail 9, (by kernel_rfl)
  still_call (HC.out _)
  repeat still_step
  try refine wpStill_nil ?_
  change wpList _ _ _ _ _ x.drew
  rw [HW.out]
  go_wp2
  generalize hw3 : World.setCell _ _ _ = w3
  have o3 : w3.ownsRow base 3 1 (.slice (some ⟨gr, 0, none⟩) ws.length cap) ws.length ((ov ws n ((hd :: ks).take 1)).map (Value.int .i64)) := by rw [← hw3]; exact O3.out
  have k31 := K31.out
  have k32 := K32.out
  rw [hw3] at k31 k32
  have b3 : Below base w w3 := by rw [← hw3]; exact B3.out
  clear hw3 q1 q2 c1 c2 K31 K32 B3 O3
  go_loopw [12] (fun i wr => ∃ k : Nat, k ≤ ks.length ∧ i = .int .i64 k ∧ wr.ownsRow base 3 1 (.slice (some ⟨gr, 0, none⟩) ws.length cap) ws.length ((ov ws n ((hd :: ks).take (k + 1))).map (Value.int .i64)) ∧
    Bx wr w.heap.size #[.slice (some ⟨gr, 0, none⟩) ws.length cap, .int .i64 h, .int .i64 b, .int .i64 n] ∧ Bx wr (w.heap.size + 1) #[.slice none 0 0, .int .i64 0, .int .i64 0, .int .i64 0] ∧ Below base w wr) (fun i _ => ks.length - (intOf i).toNat)
  case atStart => exact ⟨0, Nat.zero_le _, rfl, o3, k31, k32, b3⟩
  case round =>
    clear o3 k31 k32 b3
    obtain ⟨k, hk, rfl, ho, k1, k2, hb⟩ := hrel
    by_cases hlt : k < ks.length
    · rcases RK.out _ hb with ⟨h', _⟩ | ⟨bl, off, c', hv, _, hbs, _, hc⟩
      · rw [h'] at hlt; simp at hlt
      cases hv
      obtain ⟨w2, hw2⟩ : ∃ w2, wr.drew = w2 := ⟨_, rfl⟩
      have bd : Below wr.heap.size wr w2 := by rw [← hw2]; exact (Below.refl _ _).drew
      have O2 := own_below ho bd (own_lt ho)
      have k21 := k1.below bd k1.1
      have k22 := k2.below bd k2.1
      have bb2 : Below base w w2 := hb.trans (bd.mono (Nat.le_trans hbw hb.size))
      have o3 := own_set O2 (n + 1 + k) (by omega) (.int .i64 (ks.getD k 0))
      rw [← List.map_set, HOV.out k hlt] at o3
      have g3 := grownBy.setCell w2 gr (n + 1 + k) (.int .i64 (ks.getD k 0))
      have k31 := k21.grown g3 (fun h => by have := Option.some.inj h; omega)
      have k32 := k22.grown g3 (fun h => by have := Option.some.inj h; omega)
      have bb3 := bb2.setCell (p := ⟨gr, n + 1 + k, none⟩) hbg (.int .i64 (ks.getD k 0))
      have c1 := own_cell O2 (n + 1 + k) (by omega)
      rw [List.getElem?_map, List.getElem?_eq_getElem (by rw [HOL.out k hk]; omega), Option.map_some] at c1
      have c2 := own_frozen O2 (n + 1 + k)
      have c3 := hc k hlt
      have q1 := k1.2.1
      have hnk : (n : Int) + 1 + (k : Int) < (ws.length : Int) := by omega
      have hkk : (k : Int) < (ks.length : Int) := by omega
      have HW2 := Lib.hid hw2
      obtain ⟨kv, hkv⟩ : ∃ kv, ks.getD k 0 = kv := ⟨_, rfl⟩
      rw [hkv] at c3 o3 k31 k32 bb3
      have O3 := Lib.hid o3
      have K31 := Lib.hid k31
      have K32 := Lib.hid k32
      have B3 := Lib.hid bb3
      clear bd k1 k2 ho O2 k21 k22 o3 k31 k32 bb3 bb2 g3 hw2 hc hkv hb
      go_wp2_with fail
      have s1 : IntKind.i64.wrap ((n : Int) + 1) = (n : Int) + 1 := IntWalk.i64_in _ (by omega)
      have s2 : IntKind.i64.wrap ((n : Int) + 1 + (k : Int)) = (n : Int) + 1 + (k : Int) := IntWalk.i64_in _ (by omega)
      have s3 : (0 : Int) ≤ (n : Int) + 1 + (k : Int) := by omega
      have s4 : ((n : Int) + 1 + (k : Int)).toNat = n + 1 + k := by omega
      go_still_tail 11, (by kernel_rfl)
      repeat still_step
      try refine wpStill_nil ?_
      change wpList _ _ _ _ _ wr.drew
      rw [HW2.out]
      clear s1 s2 s3 s4
      go_wp2
      go_roundw
      case rel => exact ⟨k + 1, hlt, by go_num, O3.out, K31.out, K32.out, B3.out⟩
      case measure => simp [intOf]; omega
    · obtain rfl : k = ks.length := by omega
      rw [List.take_of_length_le (by simp)] at ho
      have ck1 := k1.2.1
      have yk1 := k1.1
      have zk1 := k1.2.2
      have ck2 := k2.2.1
      have yk2 := k2.1
      have zk2 := k2.2.2
      have O := Lib.hid ho
      have BB := Lib.hid hb
      clear ho hb
      go_wp2
      refine bodyPost_ret (v := .tuple #[.agg #[.slice (some ⟨gr, 0, none⟩) ws.length cap, .int .i64 h, .int .i64 b, .int .i64 (n + 1 + ks.length)], .int .i64 n, .bool true]) ?_ rfl ⟨by rw [Int.add_assoc], ?_, ?_⟩
      · simp [results, Try.results41, go_sem, ck2]
      · refine own_below (B := w.heap.size) O.out ?_ (fun k h => by cases h; exact hgw)
        repeat (with_reducible refine Below.setCell ?_ (by dsimp only; omega) _)
        exact Below.refl _ _
      · repeat (with_reducible refine Below.setCell ?_ (by dsimp only; omega) _)
        exact BB.out

end Go.Proofs.Ytmcoidnonmmpjaa
