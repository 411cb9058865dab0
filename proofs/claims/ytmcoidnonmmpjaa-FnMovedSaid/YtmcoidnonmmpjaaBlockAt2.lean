/- BlockAt of the program and of the reference. -/
import Derived.Test.YtmcoidnonmmpjaaBlockAt
namespace Go.Proofs.Ytmcoidnonmmpjaa
open Go.RowKit
set_option linter.unusedVariables false

set_option maxHeartbeats 800000 in
set_option maxRecDepth 100000 in
theorem iBlockAt_any {B : Nat} (v : Value) (ws : List Int) (h b n p : Int) (w : World) (hr : Rd B .i64 w v ws) (hw : intsOk ws) (hlen : ws.length ≤ 4294967296)
    (bh : -9223372036854775808 ≤ h ∧ h ≤ 9223372036854775807) (bb : -9223372036854775808 ≤ b ∧ b ≤ 9223372036854775807) (bn : -9223372036854775808 ≤ n ∧ n ≤ 9223372036854775807) :
    Calls Try.prog 13 #[.agg #[v, .int .i64 h, .int .i64 b, .int .i64 n], .int .i64 p] w fun e w' => BlockTold w ws e w' (blockOf ws h b n p) ∧ Below w.heap.size w w' := by
  have hS := fun (W : World) (hb : Below w.heap.size w W) => iHeapOk_any v ws h b n W (hr.below' hb) hw hlen bh bb bn
  have hr' := fun (W : World) (hb : Below w.heap.size w W) => hr.below' hb
  obtain ⟨a, cap, rfl⟩ := hr.form
  cases hok : heapOk ws h b n
  · rw [hok] at hS
    have HS := Lib.hid hS
    rw [blockOf_not hok]
    clear hS hr hr' hw bh bb bn hok
    go_enter Try.func13, Try.ntmps13
    go_wp2_with fail
    generalize hx : w.alloc _ = x
    obtain ⟨bx, k1⟩ := Bx.alloc hx
    clear hx
    refine (HS.out _ bx).mono ?_
    rintro e w1 ⟨rfl, b1⟩
    have b2 := bx.trans (b1.mono bx.size)
    clear bx b1 k1
    go_wp2
    ((try simp only [Exit.inBlock, Exit.then]); refine bodyPost_ret (results_tmp4 rfl _ _ _) rfl ?_)
    exact ⟨⟨_, rfl, World.ownsRow_nil _ _ _ _⟩, b2⟩
  · obtain ⟨h', b', n', rfl, rfl, rfl, hF⟩ := heapFrame_true (heapOk_frame hok)
    rw [hok] at hS
    obtain ⟨ps, hp⟩ := heapOk_some hok
    have hps := places_in _ _ _ hp
    have hT := fun (W : World) (hb : Below w.heap.size w W) => starts_any _ ws h' b' n' W (hr' _ hb) hw hF
    rw [hp] at hT
    have HS := Lib.hid hS
    have HT := Lib.hid hT
    have HO := Lib.hid hok
    have HP := Lib.hid hp
    obtain ⟨o, hbo⟩ : ∃ o, blockOf ws h' b' n' p = o := ⟨_, rfl⟩
    rw [hbo]
    have HBO := Lib.hid hbo
    clear hS hT bh bb bn hok hp hbo
    go_enter Try.func13, Try.ntmps13
    go_wp2_with fail
    generalize hx : w.alloc _ = x
    obtain ⟨bx, k1⟩ := Bx.alloc hx
    clear hx
    refine (HS.out _ bx).mono ?_
    rintro e w1 ⟨rfl, b1⟩
    replace k1 := k1.below b1 k1.1
    replace b1 := bx.trans (b1.mono bx.size)
    have q1 := k1.2.1
    have y1 := k1.1
    clear bx
    go_wp2_with fail
    refine (HT.out _ b1).mono ?_
    rintro e w2 ⟨⟨u, rfl, ho⟩, b2⟩
    rw [map_ofN, ← nums_len] at ho
    replace k1 := k1.below b2 k1.1
    replace b2 := b1.trans (b2.mono b1.size)
    have ru := Rd.of_own ho
    obtain ⟨ua, uc, rfl⟩ := ru.form
    clear ho q1 y1 b1
    have hcn := contains_any _ (nums ps) p w2 ru
    by_cases hm : p ∈ nums ps
    · rw [decide_eq_true hm] at hcn
      have HC := Lib.hid hcn
      obtain ⟨p', hp', rfl⟩ := mem_nums.1 hm
      have HM := Lib.hid (HBO.out.symm.trans (blockOf_in HO.out HP.out hm))
      obtain ⟨_, h2, h3, h4⟩ := hps p' hp'
      have hfl : n' ≤ ws.length := by have := hF.len; have := hF.base; have := hF.n1; omega
      have hB := fun (W : World) (hb : Below w.heap.size w W) => blockAt_any _ ws h' b' n' p' W (hr' _ hb) hw h3 (by omega) hlen
      have HB := Lib.hid hB
      have hkl : (kidsAt ws p').length ≤ 64 := by rw [kidsAt_len (by omega)]; have := hKids_nonneg (ws.getD p' 0); unfold hK; omega
      clear hcn hB hm hps hr' hr ru
      go_wp2_with fail
      refine HC.out.mono ?_
      rintro e w3 ⟨rfl, rfl⟩
      have q1 := k1.2.1
      have y1 := k1.1
      go_wp2_with fail
      refine (HB.out _ b2).mono ?_
      rintro e w4 ⟨u4, rfl, r4, b4⟩
      replace b4 := b2.trans (b4.mono b2.size)
      obtain ⟨a4, c4, rfl⟩ := r4.form
      clear q1 y1 k1
      go_wp2_with fail
      refine (clone_any _ _ _ r4 (by omega)).mono ?_
      rintro e w5 ⟨v5, rfl, o5, b5⟩
      have b6 := b4.trans (b5.mono b4.size)
      have o6 := own_base o5 b4.size
      clear o5 b5 b4 r4 b2
      go_wp2
      ((try simp only [Exit.inBlock, Exit.then]); refine bodyPost_ret (results_tmp4 rfl _ _ _) rfl ?_)
      rw [HM.out]
      exact ⟨⟨_, rfl, o6⟩, b6⟩
    · rw [decide_eq_false hm] at hcn
      have HC := Lib.hid hcn
      have HM := Lib.hid (HBO.out.symm.trans (blockOf_out HO.out HP.out hm))
      clear hcn hm hps hr' hr ru
      go_wp2_with fail
      refine HC.out.mono ?_
      rintro e w3 ⟨rfl, rfl⟩
      go_wp2
      ((try simp only [Exit.inBlock, Exit.then]); refine bodyPost_ret (results_tmp4 rfl _ _ _) rfl ?_)
      rw [HM.out]
      exact ⟨⟨_, rfl, World.ownsRow_nil _ _ _ _⟩, b2⟩

end Go.Proofs.Ytmcoidnonmmpjaa
