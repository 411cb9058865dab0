/- BlockAt of the reference. -/
import Derived.Test.YtmcoidnonmmpjaaBlockAt2
namespace Go.Proofs.Ytmcoidnonmmpjaa
open Go.RowKit
set_option linter.unusedVariables false

set_option maxHeartbeats 800000 in
set_option maxRecDepth 100000 in
theorem sBlockAt_any {B : Nat} (v : Value) (ws : List Int) (h b n p : Int) (w : World) (hr : Rd B .i64 w v ws) (hw : intsOk ws) (hlen : ws.length ≤ 4294967296)
    (bh : -9223372036854775808 ≤ h ∧ h ≤ 9223372036854775807) (bb : -9223372036854775808 ≤ b ∧ b ≤ 9223372036854775807) (bn : -9223372036854775808 ≤ n ∧ n ≤ 9223372036854775807) :
    Calls Try.prog 14 #[.agg #[v, .int .i64 h, .int .i64 b, .int .i64 n], .int .i64 p] w fun e w' => BlockTold w ws e w' (blockOf ws h b n p) ∧ Below w.heap.size w w' := by
  have hS := fun (W : World) (hb : Below w.heap.size w W) => sHeapOk_any v ws h b n W (hr.below' hb) hw hlen bh bb bn
  have hr' := fun (W : World) (hb : Below w.heap.size w W) => hr.below' hb
  obtain ⟨a, cap, rfl⟩ := hr.form
  cases hok : heapOk ws h b n
  · rw [hok] at hS
    have HS := Lib.hid hS
    rw [blockOf_not hok]
    clear hS hr hr' hw bh bb bn hok
    go_enter Try.func14, Try.ntmps14
    go_wp2_with fail
    generalize hx : w.alloc _ = x
    obtain ⟨bx, k1⟩ := Bx.alloc hx
    clear hx
    refine (HS.out _ bx).mono ?_
    rintro e w1 ⟨rfl, b1⟩
    have b2 := bx.trans (b1.mono bx.size)
    have z2 := b2.size
    clear bx b1 k1
    go_wp2
    ((try simp only [Exit.inBlock, Exit.then]); refine bodyPost_ret (results_tmp4 rfl _ _ _) rfl ?_)
    exact ⟨⟨_, rfl, own_empty rfl z2⟩, b2.alloc z2 _⟩
  · obtain ⟨h', b', n', rfl, rfl, rfl, hF⟩ := heapFrame_true (heapOk_frame hok)
    rw [hok] at hS
    obtain ⟨ps, hp⟩ := heapOk_some hok
    have hps := places_in _ _ _ hp
    have hT := fun (W : World) (hb : Below w.heap.size w W) => l17Places_any _ ws h' b' n' W (hr' _ hb) hw hF
    rw [hp] at hT
    have HS := Lib.hid hS
    have HT := Lib.hid hT
    have HO := Lib.hid hok
    have HP := Lib.hid hp
    obtain ⟨o, hbo⟩ : ∃ o, blockOf ws h' b' n' p = o := ⟨_, rfl⟩
    rw [hbo]
    have HBO := Lib.hid hbo
    clear hS hT bh bb bn hok hp hbo
    go_enter Try.func14, Try.ntmps14
    go_wp2_with fail
    generalize hx : w.alloc _ = x
    obtain ⟨bx, k1⟩ := Bx.alloc hx
    clear hx
    refine (HS.out _ bx).mono ?_
    rintro e w1 ⟨rfl, b1⟩
    replace k1 := k1.below b1 k1.1
    replace b1 := bx.trans (b1.mono bx.size)
    have q1 := k1.2.1
    have y1 := k1.1
    clear bx
    go_wp2_with fail
    refine (HT.out _ b1).mono ?_
    rintro e w2 ⟨⟨u, rfl, ho⟩, b2⟩
    rw [map_ofN, ← nums_len] at ho
    replace k1 := k1.below b2 k1.1
    replace b2 := b1.trans (b2.mono b1.size)
    have ru := Rd.of_own ho
    obtain ⟨ua, uc, rfl⟩ := ru.form
    clear ho q1 y1 b1
    have hcn := l7In_any _ (nums ps) p w2 ru
    by_cases hm : p ∈ nums ps
    · rw [decide_eq_true hm] at hcn
      have HC := Lib.hid hcn
      obtain ⟨p', hp', rfl⟩ := mem_nums.1 hm
      have HM := Lib.hid (HBO.out.symm.trans (blockOf_in HO.out HP.out hm))
      obtain ⟨_, h2, h3, h4⟩ := hps p' hp'
      have hfl : n' ≤ ws.length := by have := hF.len; have := hF.base; have := hF.n1; omega
      have hkl : (kidsAt ws p').length ≤ 64 := by rw [kidsAt_len (by omega)]; have := hKids_nonneg (ws.getD p' 0); unfold hK; omega
      rcases hr' w2 b2 with ⟨hnil, _⟩ | ⟨bl, off, cc, hsl, hB', hbs, hmm, hc⟩
      · rw [hnil] at hfl; simp at hfl; omega
      cases hsl
      obtain ⟨hm1, hm2⟩ := hmm
      have c2 := hc p' (by omega)
      have hkid := fun (W : World) (hb : Below w2.heap.size w2 W) q c m hq hmm hmc => Rd.kids (B := w2.heap.size) (cap := c) (w := W) hbs (Nat.lt_of_lt_of_le hbs hb.size) (fun j hj => (hb.cell (p := ⟨bl, off + j, none⟩) hbs).trans (hc j hj)) p' c (by omega) hm1 q hq m hmm hmc
      have hfit : p' + 1 + hK (ws.getD p' 0) ≤ ws.length := by omega
      obtain ⟨x, hxx⟩ : ∃ x, ws.getD p' 0 = x := ⟨_, rfl⟩
      have hxb := hw p'
      have hge := (hOk_true.1 h3).2.1
      have hk2 := kidsAt_len hfit
      rw [hxx] at hxb h3 c2 hfit hge hkid hk2
      obtain ⟨hx0, hx1⟩ := hxb
      have HX := Lib.hid hxx
      have hkn := hK_cast x
      have hkb := hKids_nonneg x
      rw [← hkn] at hkb
      obtain ⟨hkb1, hkb2⟩ := hkb
      have hh0 := fun W => l17Of_any x W hge hx1
      rw [← hkn] at hh0
      have HH := Lib.hid hh0
      have HKID := Lib.hid hkid
      have HK2 := Lib.hid hk2
      obtain ⟨i0, hi, hz0, hz1, hz2⟩ := info_parts Try.infoI2
      have z2 := b2.size
      clear hcn hm hps hr' hr ru hc hxx hkn hh0 hkid hk2 hw h3
      by_cases hcp : cap = p' + 1
      · have hk0 : hK x = 0 := by omega
        have hrd : ∀ (W : World) (m : Nat), m = hK x → Rd w2.heap.size .i64 W (.slice (some ⟨bl, off, none⟩) m 0) (kidsAt ws p') := fun W m hm => .inl ⟨by unfold kidsAt; rw [HX.out, hk0]; simp, some ⟨bl, off, none⟩, 0, by rw [hm, hk0]⟩
        have HRD := Lib.hid hrd
        clear hk0 hrd
        subst hcp
        go_wp2_with fail
        refine HC.out.mono ?_
        rintro e w3 ⟨rfl, rfl⟩
        have q1 := k1.2.1
        have y1 := k1.1
        go_wp2_with fail
        refine (HH.out _).mono ?_
        rintro e w4 ⟨rfl, rfl⟩
        go_wp2_with (at_builtin; refine wpList_append_own _ rfl _ _ 24 rfl w2.heap.size 3 i0 (.int .i64 0) 1 8 Try.underlying24 hi hz0 hz1 hz2 rfl (by decide) _ 0 [] rfl ?_ _ _ _ ((kidsAt ws p').map (Value.int .i64)) rfl ?_ ?_ (ints_one _ _) ?_ ?_ ?_ ?_)
        · exact own_empty rfl (Nat.le_refl _)
        · have := HK2.out; simp; omega
        · intro j u hj; exact (Rd.news (w := w2) (HRD.out w2 (hK x) rfl) ((Below.refl w2.heap.size w2).alloc (Nat.le_refl _) _)).2 j u hj
        · have := HK2.out; unfold maxLen; omega
        · have := HK2.out; omega
        · simp
        · intro v' w5 ho hg _
          have hb5 : Below w2.heap.size w2 w5 := ((Below.refl _ _).alloc (Nat.le_refl _) _).grown hg (by simp) (by intro k hk; simp [Value.ownBlock] at hk; omega)
          have b6 := b2.trans (hb5.mono z2)
          have o6 := own_base ho z2
          clear hg ho hb5 q1 y1 k1 b2
          go_wp2
          ((try simp only [Exit.inBlock, Exit.then]); refine bodyPost_ret (results_tmp4 rfl _ _ _) rfl ?_)
          rw [HM.out]
          refine ⟨⟨v', by rw [HX.out]; rfl, ?_⟩, b6⟩
          have h := HK2.out
          rw [h]
          first | exact o6 | simpa using o6
      · go_wp2_with fail
        refine HC.out.mono ?_
        rintro e w3 ⟨rfl, rfl⟩
        have q1 := k1.2.1
        have y1 := k1.1
        go_wp2_with fail
        refine (HH.out _).mono ?_
        rintro e w4 ⟨rfl, rfl⟩
        go_wp2_with (at_builtin; refine wpList_append_own _ rfl _ _ 24 rfl w2.heap.size 3 i0 (.int .i64 0) 1 8 Try.underlying24 hi hz0 hz1 hz2 rfl (by decide) _ 0 [] rfl ?_ _ _ _ ((kidsAt ws p').map (Value.int .i64)) rfl ?_ ?_ (ints_one _ _) ?_ ?_ ?_ ?_)
        · exact own_empty rfl (Nat.le_refl _)
        · have := HK2.out; simp; omega
        · intro j u hj; exact (Rd.news (w := w2) (HKID.out w2 (Below.refl _ _) (off + (p' + 1)) (cap - (p' + 1)) (hK x) rfl rfl (by omega)) ((Below.refl w2.heap.size w2).alloc (Nat.le_refl _) _)).2 j u hj
        · have := HK2.out; unfold maxLen; omega
        · have := HK2.out; omega
        · simp
        · intro v' w5 ho hg _
          have hb5 : Below w2.heap.size w2 w5 := ((Below.refl _ _).alloc (Nat.le_refl _) _).grown hg (by simp) (by intro k hk; simp [Value.ownBlock] at hk; omega)
          have b6 := b2.trans (hb5.mono z2)
          have o6 := own_base ho z2
          clear hg ho hb5 q1 y1 k1 b2
          go_wp2
          ((try simp only [Exit.inBlock, Exit.then]); refine bodyPost_ret (results_tmp4 rfl _ _ _) rfl ?_)
          rw [HM.out]
          refine ⟨⟨v', by rw [HX.out]; rfl, ?_⟩, b6⟩
          have h := HK2.out
          rw [h]
          first | exact o6 | simpa using o6
    · rw [decide_eq_false hm] at hcn
      have HC := Lib.hid hcn
      have HM := Lib.hid (HBO.out.symm.trans (blockOf_out HO.out HP.out hm))
      clear hcn hm hps hr' hr ru
      go_wp2_with fail
      refine HC.out.mono ?_
      rintro e w3 ⟨rfl, rfl⟩
      have z2 := b2.size
      go_wp2
      ((try simp only [Exit.inBlock, Exit.then]); refine bodyPost_ret (results_tmp4 rfl _ _ _) rfl ?_)
      rw [HM.out]
      exact ⟨⟨_, rfl, own_empty rfl z2⟩, b2.alloc z2 _⟩

end Go.Proofs.Ytmcoidnonmmpjaa
