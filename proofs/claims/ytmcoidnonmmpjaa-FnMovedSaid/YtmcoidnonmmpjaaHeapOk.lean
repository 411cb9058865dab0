/- HeapOk of the program and of the reference. -/
import Derived.Test.YtmcoidnonmmpjaaPlaces
import Derived.Test.YtmcoidnonmmpjaaContains
namespace Go.Proofs.Ytmcoidnonmmpjaa
open Go.RowKit
set_option linter.unusedVariables false

theorem heapFrame_true {ws : List Int} {h b n : Int} (hf : heapFrame ws h b n = true) : ∃ h' b' n' : Nat, h = h' ∧ b = b' ∧ n = n' ∧ Frame ws h' b' n' := by
  unfold heapFrame at hf
  rw [decide_eq_true_iff] at hf
  obtain ⟨h1, h2, h3, h4, h5, h6⟩ := hf
  exact ⟨h.toNat, b.toNat, n.toNat, by omega, by omega, by omega, by omega, by omega, by omega, by omega, by omega, by omega⟩
theorem heapOk_noframe {ws : List Int} {h b n : Int} (hf : heapFrame ws h b n = false) : heapOk ws h b n = false := by simp [heapOk, hf]
theorem frame_half {ws : List Int} {h b n : Int} (hf : inB h 1 3000 = false) : heapFrame ws h b n = false := by
  have := inB_false.1 hf
  simp only [heapFrame, decide_eq_false_iff_not]; omega
theorem frame_len {ws : List Int} {h b n : Int} (hf : ¬ (ws.length : Int) = 2 * h) : heapFrame ws h b n = false := by
  simp only [heapFrame, decide_eq_false_iff_not]; omega
theorem frame_base {ws : List Int} {h b n : Int} (h1 : ¬ b = 0) (h2 : ¬ b = h) : heapFrame ws h b n = false := by
  simp only [heapFrame, decide_eq_false_iff_not]; omega
theorem frame_next {ws : List Int} {h b n : Int} (hf : inB n b (b + h) = false) : heapFrame ws h b n = false := by
  have := inB_false.1 hf
  simp only [heapFrame, decide_eq_false_iff_not]; omega
theorem frame_all {ws : List Int} {h b n : Int} (h1 : inB h 1 3000 = true) (h2 : (ws.length : Int) = 2 * h) (h3 : b = 0 ∨ b = h) (h4 : inB n b (b + h) = true) : heapFrame ws h b n = true := by
  have := inB_true.1 h1
  have := inB_true.1 h4
  simp only [heapFrame, decide_eq_true_iff]; omega
theorem heapOk_noplaces {ws : List Int} {h b n : Nat} (hp : placesOf ws b n = none) : heapOk ws h b n = false := by simp [heapOk, hp]
theorem heapOk_places {ws : List Int} {h b n : Nat} {ps : List Nat} (hf : heapFrame ws h b n = true) (hp : placesOf ws b n = some ps) : heapOk ws h b n = blocksFit ws ps := by simp [heapOk, hp, hf]

theorem take_drop_get (ws : List Int) (p m j : Nat) (hj : j < m) : ((ws.drop p).take m).getD j 0 = ws.getD (p + j) 0 := by
  simp [List.getD, hj]
theorem kidsAt_len {ws : List Int} {p : Nat} (h : p + 1 + hK (ws.getD p 0) ≤ ws.length) : (kidsAt ws p).length = hK (ws.getD p 0) := by
  unfold kidsAt
  generalize hK (ws.getD p 0) = m at h ⊢
  simp; omega
/-- the kids of a block, read. -/
theorem Rd.kids {B : Nat} {w : World} {b off cap : Nat} {ws : List Int} (hB : b < B) (hbs : b < w.heap.size) (hc : ∀ j, j < ws.length → w.cell? ⟨b, off + j, none⟩ = some (.int .i64 (ws.getD j 0))) (p : Nat) (c : Nat) (h : p + 1 + hK (ws.getD p 0) ≤ ws.length) (hm : ws.length ≤ maxLen) (q : Nat) (hq : q = off + (p + 1)) (m : Nat) (hmm : m = hK (ws.getD p 0)) (hmc : m ≤ c) :
    Rd B .i64 w (.slice (some ⟨b, q, none⟩) m c) (kidsAt ws p) := by
  subst hq
  subst hmm
  have hl := kidsAt_len h
  refine .inr ⟨b, off + (p + 1), c, by rw [hl], hB, hbs, ⟨by omega, by omega⟩, fun j hj => ?_⟩
  rw [hl] at hj
  rw [Nat.add_assoc, hc (p + 1 + j) (by omega)]
  unfold kidsAt
  rw [take_drop_get _ _ _ _ hj]
theorem fit_step {ws : List Int} {ps : List Nat} {k : Nat} (h : ∀ j, j < k → (kidsAt ws (ps.getD j 0)).all (wordIn ps) = true) (he : (kidsAt ws (ps.getD k 0)).all (wordIn ps) = true) : ∀ j, j < k + 1 → (kidsAt ws (ps.getD j 0)).all (wordIn ps) = true := by
  intro j hj
  by_cases e : j = k
  · subst e; exact he
  · exact h j (by omega)
theorem fit_all {ws : List Int} {ps : List Nat} (h : ∀ j, j < ps.length → (kidsAt ws (ps.getD j 0)).all (wordIn ps) = true) : blocksFit ws ps = true := by
  unfold blocksFit
  rw [List.all_eq_true]
  intro x hx
  obtain ⟨i, hi, he⟩ := List.getElem_of_mem hx
  have := h i hi
  simpa [List.getD, List.getElem?_eq_getElem hi, he] using this
theorem fit_bad {ws : List Int} {ps : List Nat} {k : Nat} (hk : k < ps.length) (h : (kidsAt ws (ps.getD k 0)).all (wordIn ps) = false) : blocksFit ws ps = false := by
  unfold blocksFit
  rw [List.all_eq_false]
  exact ⟨ps.getD k 0, by simp [List.getD, List.getElem?_eq_getElem hk], by rw [h]; simp⟩
theorem nums_get (ps : List Nat) (k : Nat) : (nums ps).getD k 0 = ((ps.getD k 0 : Nat) : Int) := by
  simp only [nums, List.getD, List.getElem?_map]
  cases ps[k]? <;> simp
theorem map_ofN (ps : List Nat) : ps.map ofN = (nums ps).map (Value.int .i64) := by simp [nums, ofN, Function.comp_def]
theorem places_len {ws : List Int} {h b n : Nat} {ps : List Nat} (hp : placesOf ws b n = some ps) (hF : Frame ws h b n) : ps.length ≤ 4294967296 := by
  have h1 := places_in _ _ _ hp
  have h2 := places_sorted _ _ _ hp
  have h3 : ps.length ≤ n := by
    have := List.Nodup.length_le_of_subset (l₁ := ps) (l₂ := List.range n) (h2.imp (fun h => Nat.ne_of_lt h)) (fun q hq => by simpa using (h1 q hq).2.1)
    simpa using this
  have := hF.n1; have := hF.h1; have := hF.base
  omega
theorem get_mem {ps : List Nat} {k : Nat} (hk : k < ps.length) : ps.getD k 0 ∈ ps := by simp [List.getD, List.getElem?_eq_getElem hk]

set_option maxHeartbeats 800000 in
set_option maxRecDepth 100000 in
theorem iHeapOk_any {B : Nat} (v : Value) (ws : List Int) (h b n : Int) (w : World) (hr : Rd B .i64 w v ws) (hw : intsOk ws) (hlen : ws.length ≤ 4294967296)
    (bh : -9223372036854775808 ≤ h ∧ h ≤ 9223372036854775807) (bb : -9223372036854775808 ≤ b ∧ b ≤ 9223372036854775807) (bn : -9223372036854775808 ≤ n ∧ n ≤ 9223372036854775807) :
    Calls Try.prog 10 #[.agg #[v, .int .i64 h, .int .i64 b, .int .i64 n]] w fun e w' => e = .returned (.bool (heapOk ws h b n)) ∧ Below w.heap.size w w' := by
  obtain ⟨h0, h1⟩ := bh
  obtain ⟨b0, b1⟩ := bb
  obtain ⟨n0, n1⟩ := bn
  have hr' := hr
  obtain ⟨a, cap, rfl⟩ := hr.form
  clear hr
  cases c1 : inB h 1 3000
  · have HF := Lib.hid (heapOk_noframe (ws := ws) (b := b) (n := n) (frame_half c1))
    clear hr' hw
    go_enter Try.func10, Try.ntmps10
    go_wp2_with (go_at_call 37; refine (within_any _ _ _ _).mono ?_; rintro e w' ⟨rfl, rfl⟩)
    go_ret
    exact ⟨ret_bool HF.out.symm, (Below.refl _ _).alloc (Nat.le_refl _) _⟩
  · obtain ⟨h2, h3⟩ := inB_true.1 c1
    by_cases c2 : (ws.length : Int) = 2 * h
    · have e2 : ((ws.length : Int) != 2 * h) = false := by simpa using c2
      by_cases c3 : b = 0 ∨ b = h
      · cases c4 : inB n b (b + h)
        · have HF := Lib.hid (heapOk_noframe (ws := ws) (frame_next c4))
          have main : (b != 0) = false ∨ ((b != 0) = true ∧ (b != h) = false) := by
            by_cases e : b = 0
            · left; simpa using e
            · right; exact ⟨by simpa using e, by simp; omega⟩
          have hb2 : 0 ≤ b := by omega
          have hb3 : b ≤ 3000 := by omega
          clear hr' hw c3 c2
          rcases main with e3 | ⟨e3, e4⟩
          all_goals
            go_enter Try.func10, Try.ntmps10
            go_wp2_with (go_at_call 37; refine (within_any _ _ _ _).mono ?_; rintro e w' ⟨rfl, rfl⟩)
            go_ret
            exact ⟨ret_bool HF.out.symm, (Below.refl _ _).alloc (Nat.le_refl _) _⟩
        · have hFr := frame_all c1 c2 c3 c4
          obtain ⟨h', b', n', rfl, rfl, rfl, hF⟩ := heapFrame_true hFr
          have main : ((b' : Int) != 0) = false ∨ (((b' : Int) != 0) = true ∧ ((b' : Int) != (h' : Int)) = false) := by
            by_cases e : (b' : Int) = 0
            · left; simpa using e
            · right; exact ⟨by simpa using e, by simp; omega⟩
          have HFr := Lib.hid hFr
          have hS := fun (W : World) (hb : Below w.heap.size w W) => starts_any _ ws h' b' n' W (hr'.below' hb) hw hF
          have HS := Lib.hid hS
          have hb3 : b' ≤ 3000 := by omega
          clear c2 c3 hFr hS
          rcases main with e3 | ⟨e3, e4⟩
          all_goals
            go_enter Try.func10, Try.ntmps10
            go_wp2_with (go_at_call 37; refine (within_any _ _ _ _).mono ?_; rintro e w' ⟨rfl, rfl⟩)
            generalize hx : w.alloc _ = x1
            obtain ⟨bx1, k1⟩ := Bx.alloc hx
            clear hx
            refine (HS.out x1 bx1).mono ?_
            rintro e w1 ⟨ht, b1⟩
            replace k1 := k1.below b1 k1.1
            have b2 := bx1.trans (b1.mono bx1.size)
            have z1 := k1.1
            clear bx1
            cases hp : placesOf ws b' n' with
            | none =>
              rw [hp] at ht
              obtain ⟨ua, un, uc, rfl⟩ := ht
              have HN := Lib.hid (heapOk_noplaces (h := h') hp)
              go_wp2
              go_ret
              exact ⟨ret_bool HN.out.symm, b2.alloc (Nat.le_trans (by omega) b2.size) _⟩
            | some ps =>
              rw [hp] at ht
              obtain ⟨u, rfl, ho⟩ := ht
              rw [map_ofN] at ho
              have hps := places_in _ _ _ hp
              have hsrt := places_sorted _ _ _ hp
              have hpl : ps.length ≤ 4294967296 := places_len hp hF
              have ru := Rd.of_own (by rw [← nums_len] at ho; exact ho)
              have HN := Lib.hid (heapOk_places HFr.out hp)
              obtain ⟨ua, uc, rfl⟩ := ru.form
              have q1 := k1.2.1
              clear ho HS hp
              go_wp2_with fail
              generalize hx : w1.alloc _ = x2
              obtain ⟨bx2, k2⟩ := Bx.alloc hx
              clear hx q1
              replace k1 := k1.below bx2 z1
              replace ru := ru.below bx2 (Nat.le_refl _)
              have b3 := b2.trans (bx2.mono b2.size)
              have rw2 := hr'.below' b3
              have hnl := nums_len ps
              have HL := Lib.hid hnl
              have q1 := k1.2.1
              have q2 := k2.2.1
              have y1 := k1.1
              have y2 := k2.1
              clear bx2 hr' b1 b2 hnl
              have hn3 : (nums ps).length ≤ 4294967296 := by rw [HL.out]; exact hpl
              rcases rw2 with ⟨hnil, _⟩ | ⟨bl, off, cap', hsl, hB, hbs, hm, hc⟩
              · have h9 := hF.len; have := hF.h0; rw [hnil] at h9; simp at h9; omega
              cases hsl
              go_loop [58] (fun i => ∃ k : Nat, k ≤ (nums ps).length ∧ i = .int .i64 k ∧ Hid (∀ j, j < k → (kidsAt ws (ps.getD j 0)).all (wordIn ps) = true)) (fun i => (nums ps).length - (intOf i).toNat)
              case atStart => exact ⟨0, Nat.zero_le _, rfl, fun j hj => by omega⟩
              case round =>
                obtain ⟨k, hk, rfl, hd⟩ := hrel
                by_cases hlt : k < (nums ps).length
                · have hlt' : k < ps.length := by rw [← HL.out]; exact hlt
                  obtain ⟨p, hpe⟩ : ∃ p, ps.getD k 0 = p := ⟨_, rfl⟩
                  obtain ⟨hp1, hp2, hp3, hp4⟩ := hps p (by rw [← hpe]; exact get_mem hlt')
                  have ru' := ru
                  rcases ru with ⟨hnil, _⟩ | ⟨bl2, off2, cap2, hsl2, _, hbs2, _, hc2⟩
                  · rw [hnil] at hlt; simp at hlt
                  cases hsl2
                  have c1 := hc2 k hlt
                  rw [nums_get, hpe] at c1
                  have hpw : p < ws.length := by have := hF.len; have := hF.base; have := hF.n1; omega
                  have c2 := hc p hpw
                  have hfit : p + 1 + hK (ws.getD p 0) ≤ ws.length := by have := hF.len; have := hF.base; have := hF.n1; omega
                  have hkid := fun q c m hq hmm hmc => Rd.kids (B := w.heap.size) (cap := c) hB hbs hc p c hfit hm.1 q hq m hmm hmc
                  obtain ⟨hm1, hm2⟩ := hm
                  have hcon := fun u hu => heapOk1_contains (B' := w.heap.size) w1.heap.size _ u ps (kidsAt ws p) x2 ru' hsrt hpl (by simpa using q2 0) hu
                  have HK := Lib.hid hkid
                  have HC := Lib.hid hcon
                  obtain ⟨x, hxx⟩ : ∃ x, ws.getD p 0 = x := ⟨_, rfl⟩
                  have hxb := hw p
                  rw [hxx] at c2 hp3 hxb hfit
                  obtain ⟨hx0, hx1⟩ := hxb
                  have hkn := hK_cast x
                  have HKN := Lib.hid hkn
                  have hkb := hKids_nonneg x
                  rw [← hkn] at hkb
                  obtain ⟨hkb1, hkb2⟩ := hkb
                  have HX := Lib.hid hxx
                  have HP := Lib.hid hpe
                  clear hkid hcon hc hc2 hps hw hxx hpe hkn
                  go_wp2_with fail
                  refine (headed_ok _ _ hp3 hx1).mono ?_
                  rw [← HKN.out]
                  rintro e w' ⟨rfl, rfl⟩
                  by_cases hcp : cap = p + 1
                  · have h0 : hK x = 0 := by omega
                    have hrd : Rd w.heap.size .i64 x2 (.slice (some ⟨bl, off, none⟩) (hK x) 0) (kidsAt ws p) := .inl ⟨by unfold kidsAt; rw [HX.out, h0]; simp, some ⟨bl, off, none⟩, 0, by rw [h0]⟩
                    have HRD := Lib.hid hrd
                    clear h0 hrd
                    subst hcp
                    cases hall : (kidsAt ws p).all (wordIn ps)
                    all_goals
                      go_wp2_with fail
                      refine (HC.out _ HRD.out).mono ?_
                      rintro e w' ⟨rfl, rfl⟩
                      rw [hall]
                      go_wp2
                      first
                        | (go_ret; exact ⟨ret_bool (by rw [HN.out]; symm; exact fit_bad hlt' (by rw [HP.out]; exact hall)), b3⟩)
                        | (go_round
                           case rel => exact ⟨k + 1, hlt, by go_num, fit_step hd.out (by rw [HP.out]; exact hall)⟩
                           case measure => simp [intOf]; omega)
                  · cases hall : (kidsAt ws p).all (wordIn ps)
                    all_goals
                      go_wp2_with fail
                      refine (HC.out _ (HK.out _ _ _ (by omega) (by rw [HX.out]) (by omega))).mono ?_
                      rintro e w' ⟨rfl, rfl⟩
                      rw [hall]
                      go_wp2
                      first
                        | (go_ret; exact ⟨ret_bool (by rw [HN.out]; symm; exact fit_bad hlt' (by rw [HP.out]; exact hall)), b3⟩)
                        | (go_round
                           case rel => exact ⟨k + 1, hlt, by go_num, fit_step hd.out (by rw [HP.out]; exact hall)⟩
                           case measure => simp [intOf]; omega)
                · go_wp2
                  go_ret
                  exact ⟨ret_bool (by rw [HN.out]; symm; exact fit_all (fun j hj => hd.out j (by rw [HL.out] at hlt; omega))), b3⟩
      · have e3 : (b != 0) = true := by simp; omega
        have e4 : (b != h) = true := by simp; omega
        have HF := Lib.hid (heapOk_noframe (ws := ws) (n := n) (frame_base (h := h) (b := b) (by omega) (by omega)))
        clear hr' hw c3 c2
        go_enter Try.func10, Try.ntmps10
        go_wp2_with (go_at_call 37; refine (within_any _ _ _ _).mono ?_; rintro e w' ⟨rfl, rfl⟩)
        go_ret
        exact ⟨ret_bool HF.out.symm, (Below.refl _ _).alloc (Nat.le_refl _) _⟩
    · have e2 : ((ws.length : Int) != 2 * h) = true := by simpa using c2
      have HF := Lib.hid (heapOk_noframe (b := b) (n := n) (frame_len c2))
      clear hr' hw c2
      go_enter Try.func10, Try.ntmps10
      go_wp2_with (go_at_call 37; refine (within_any _ _ _ _).mono ?_; rintro e w' ⟨rfl, rfl⟩)
      go_ret
      exact ⟨ret_bool HF.out.symm, (Below.refl _ _).alloc (Nat.le_refl _) _⟩

end Go.Proofs.Ytmcoidnonmmpjaa
