/- A block put behind all, in a heap of one's own. -/
import Derived.Test.YtmcoidnonmmpjaaHdr
import Derived.StillTailTactics
namespace Go.Proofs.Ytmcoidnonmmpjaa
open Go.RowKit
set_option linter.unusedVariables false

theorem Bx.set {w : World} {g : Nat} {cur : Array Value} (h : Bx w g cur) (i : Nat) (hi : i < cur.size) (u : Value) : Bx (w.setCell ⟨g, i, none⟩ u) g (cur.setIfInBounds i u) := by
  refine ⟨by rw [World.size_setCell]; exact h.1, fun j => ?_, fun j => by rw [World.frozen?_setCell]; exact h.2.2 j⟩
  by_cases hj : i = j
  · subst hj
    rw [World.cell?_setCell_same _ _ _ ((h.2.1 i).trans (Array.getElem?_eq_getElem hi))]
    simp [hi]
  · rw [World.cell?_setCell_other _ _ _ _ (by intro he; injection he; exact hj (by assumption)), h.2.1 j, Array.getElem?_setIfInBounds_ne hj]
theorem grownBy.row {w w' : World} {g : Nat} (cs : Array Value) (h : w.setRow g cs = w') : w.grownBy w' (some g) := by
  subst h
  exact ⟨rfl, rfl, rfl, by simp, fun k _ hne => setRow_other w g k cs (by intro h; exact hne (by rw [h]))⟩

/-- all blocks but two are as they were. -/
def Kept2 (w w' : World) (g gr : Nat) : Prop := w.heap.size ≤ w'.heap.size ∧ ∀ i, i < w.heap.size → i ≠ g → i ≠ gr → w'.heap[i]? = w.heap[i]?
theorem Kept2.grown {a b c : World} {g gr : Nat} {row : Option Nat} (h : Kept2 a b g gr) (k : b.grownBy c row) (hr : row = some g ∨ row = some gr) : Kept2 a c g gr :=
  ⟨Nat.le_trans h.1 k.size, fun i hi h1 h2 => (k.block i (Nat.lt_of_lt_of_le hi h.1) (by rcases hr with e | e <;> (rw [e]; intro hh; have := Option.some.inj hh; omega))).trans (h.2 i hi h1 h2)⟩
theorem Kept2.drew (w : World) (g gr : Nat) : Kept2 w w.drew g gr := ⟨Nat.le_refl _, fun i _ _ _ => rfl⟩

set_option maxHeartbeats 800000 in
set_option maxRecDepth 100000 in
theorem alloc_any2 {base B g : Nat} (v vk : Value) (ws ks : List Int) (h b : Int) (n : Nat) (f : Bool) (tag : Int) (w : World) (kb : Bx w g #[v, .int .i64 h, .int .i64 b, .int .i64 n])
    (ho : w.ownsRow base 3 1 v ws.length (ws.map (Value.int .i64))) (hg : base ≤ g) (hne : some g ≠ v.ownBlock) (rk : Rd B .i64 w vk ks) (hB : B ≤ base) (h0 : 0 ≤ tag) (h1 : tag ≤ 3000) (h2 : ks.length ≤ 20) (hfit : n + 1 + ks.length ≤ ws.length) (hlen : ws.length ≤ 6000) :
    Calls Try.prog 38 #[.pointer (some ⟨g, 0, none⟩), .bool f, .int .i64 tag, vk] w fun e w' => e = .returned (.int .i64 n) ∧
      w'.ownsRow base 3 1 v ws.length ((ov ws n (hdOf f tag ks.length :: ks)).map (Value.int .i64)) ∧ Bx w' g #[v, .int .i64 h, .int .i64 b, .int .i64 (n + (1 + ks.length))] ∧ Below base w w' ∧ ∀ gr, v.ownBlock = some gr → Kept2 w w' g gr := by
  obtain ⟨a, cap, rfl⟩ := own_form ho
  obtain ⟨ka, kc, rfl⟩ := rk.form
  rcases ho.2 with ⟨hv, _⟩ | ⟨gr, cap', cur', hv, _⟩
  · injection hv; omega
  cases hv
  have hbg : base ≤ gr := (ho.lt gr rfl).1
  have hcap : ws.length ≤ cap := by obtain ⟨_, _, _, _, h⟩ := own_cells ho; exact h
  have q1 := kb.2.1
  have f1 := kb.2.2
  have y1 := kb.1
  have hnn : (n : Int) < (ws.length : Int) := by omega
  have hgr : ¬ g = gr := fun h => hne (by rw [h]; rfl)
  have hgr' : ¬ gr = g := fun h => hgr h.symm
  obtain ⟨i0, hi, hz0, hz1, hz2⟩ := info_parts Try.infoI2
  have hhd := hdOf_in f tag ks.length h0 h1 h2
  obtain ⟨hd, hhe⟩ : ∃ hd, hdOf f tag ks.length = hd := ⟨_, rfl⟩
  have hC := fun (w : World) => header_any f tag ks.length w h0 h1 h2
  rw [hhe] at hC hhd ⊢
  obtain ⟨hd0, hd1⟩ := hhd
  have HC := Lib.hid hC
  clear hC hhe
  generalize hwd : w.drew = w2
  have bd : Below w.heap.size w w2 := by rw [← hwd]; exact (Below.refl _ _).drew
  have k2 := kb.below bd y1
  have bb := bd.mono (show base ≤ w.heap.size by omega)
  have o2 := own_below ho bd (own_lt ho)
  have o3 := own_set o2 n (by omega) (.int .i64 hd)
  rw [← List.map_set, ov_one _ (by omega)] at o3
  have k3 := k2.grown (grownBy.setCell w2 gr n (.int .i64 hd)) (fun h => hgr (Option.some.inj h))
  have bb3 := bb.setCell (p := ⟨gr, n, none⟩) hbg (.int .i64 hd)
  have r3 := rk.below bb3 hB
  have c1 := own_cell o2 n (by omega)
  rw [List.getElem?_map, List.getElem?_eq_getElem (by omega), Option.map_some] at c1
  have c2 := own_frozen o2 n
  have q2 := k2.2.1
  have f2 := k2.2.2
  have q3 := k3.2.1
  have kp := (Kept2.drew w g gr)
  rw [hwd] at kp
  have KP := Lib.hid (kp.grown (grownBy.setCell w2 gr n (.int .i64 hd)) (.inr rfl))
  clear kp
  have HW := Lib.hid hwd
  have O3 := Lib.hid o3
  have K3 := Lib.hid k3
  have B3 := Lib.hid bb3
  have R3 := Lib.hid r3
  clear kb ho k2 bb bd o2 o3 k3 bb3 r3 rk hwd
  by_cases hk : ks.length = 0
  · have hkn : ks = [] := List.eq_nil_of_length_eq_zero hk
    subst hkn
    by_cases hcp : cap = n + 1
    · subst hcp
      go_enter Try.func38, Try.ntmps38
      go_wp2_with fail
      go_still_tail 11, (by kernel_rfl)
      still_call (HC.out _)
      repeat still_step
      try refine wpStill_nil ?_
      change wpList _ _ _ _ _ w.drew
      rw [HW.out]
      go_wp2_with ((with_reducible (show wpList _ _ _ (⟨_, .call ⟨.builtin .copy, _, _⟩, _, _, _, _⟩ :: _) _ _)); refine wpList_copy_nothing rfl _ _ 24 24 rfl 3 Try.underlying24 (by kernel_rfl) _ _ _ _ _ _ rfl rfl (Nat.zero_min _) ?_)
      have o4 := O3.out
      have k4 := K3.out
      have bb4 := B3.out
      have q4 := k4.2.1
      have f4 := k4.2.2
      have K4 := Lib.hid k4
      have O4 := Lib.hid o4
      have B4 := Lib.hid bb4
      clear k4 o4 bb4
      go_wp2
      go_ret
      exact ⟨rfl, ownsRow_setCell_other O4.out (by intro h; exact hgr' (Option.some.inj h)) _, K4.out.set 3 (by simp) _, B4.out.setCell hg _, fun r hr => by cases hr; exact KP.out.grown (grownBy.setCell _ g 3 _) (.inl rfl)⟩
    · go_enter Try.func38, Try.ntmps38
      go_wp2_with fail
      go_still_tail 11, (by kernel_rfl)
      still_call (HC.out _)
      repeat still_step
      try refine wpStill_nil ?_
      change wpList _ _ _ _ _ w.drew
      rw [HW.out]
      go_wp2_with ((with_reducible (show wpList _ _ _ (⟨_, .call ⟨.builtin .copy, _, _⟩, _, _, _, _⟩ :: _) _ _)); refine wpList_copy_nothing rfl _ _ 24 24 rfl 3 Try.underlying24 (by kernel_rfl) _ _ _ _ _ _ rfl rfl (Nat.zero_min _) ?_)
      have o4 := O3.out
      have k4 := K3.out
      have bb4 := B3.out
      have q4 := k4.2.1
      have f4 := k4.2.2
      have K4 := Lib.hid k4
      have O4 := Lib.hid o4
      have B4 := Lib.hid bb4
      clear k4 o4 bb4
      go_wp2
      go_ret
      exact ⟨rfl, ownsRow_setCell_other O4.out (by intro h; exact hgr' (Option.some.inj h)) _, K4.out.set 3 (by simp) _, B4.out.setCell hg _, fun r hr => by cases hr; exact KP.out.grown (grownBy.setCell _ g 3 _) (.inl rfl)⟩
  · have hcp : ¬ cap = n + 1 := by omega
    have hka : ∃ ad, ka = some ad := by
      rcases R3.out with ⟨h, _⟩ | ⟨_, _, _, h, _⟩
      · exact absurd (by rw [h]; rfl) hk
      · injection h with h; exact ⟨_, h⟩
    obtain ⟨ad, rfl⟩ := hka
    have hnews := (R3.out.news (Below.refl _ _)).2
    obtain ⟨cur, hc, hcl, _, _⟩ := own_cells O3.out
    have HN := Lib.hid hnews
    have HCU := Lib.hid hc
    clear hnews hc
    go_enter Try.func38, Try.ntmps38
    go_wp2_with fail
    go_still_tail 11, (by kernel_rfl)
    still_call (HC.out _)
    repeat still_step
    try refine wpStill_nil ?_
    change wpList _ _ _ _ _ w.drew
    rw [HW.out]
    go_wp2_with ((with_reducible (show wpList _ _ _ (⟨_, .call ⟨.builtin .copy, _, _⟩, _, _, _, _⟩ :: _) _ _)); refine wpList_copy_own rfl _ _ 24 24 rfl 3 Try.underlying24 (by kernel_rfl) gr (n + 1) _ _ ad _ _ rfl rfl cur.toArray 3 HCU.out (ks.map (Value.int .i64)) (by rw [List.length_map]; exact (Nat.min_eq_left (by omega)).symm) HN.out (by rw [List.size_toArray, List.length_map]; omega) (ints_one _ _) ?_; generalize hw4 : World.setRow _ _ _ = w4; have g4 := grownBy.row _ hw4; have hh4 : w4.heap[gr]? = some (.cells (splice cur (n + 1) (ks.map (Value.int .i64))).toArray 3 (0, 0)) := (by rw [← hw4, setRow_heap _ gr _ _ _ _ HCU.out]; simp [splice]); have k4 := K3.out.grown g4 (fun h => hgr (Option.some.inj h)); have q4 := k4.2.1; have f4 := k4.2.2; have K4 := Lib.hid k4; have H4 := Lib.hid hh4; have G4 := Lib.hid g4; clear k4 hh4 g4 hw4)
    have o4 := own_splice O3.out cur HCU.out (n + 1) (ks.map (Value.int .i64)) H4.out (by simp; omega)
    rw [show splice ((ov ws n [hd]).map (Value.int .i64)) (n + 1) (ks.map (Value.int .i64)) = (ov ws n (hd :: ks)).map (Value.int .i64) by rw [splice_map]; exact congrArg _ (ov_cons _ _ _ _ (by omega)).symm] at o4
    have bb4 := B3.out.trans (Below.of_grown (B := base) G4.out (by have := B3.out.size; omega) (fun k h => by cases h; exact hbg))
    have O4 := Lib.hid o4
    have B4 := Lib.hid bb4
    clear o4 bb4
    go_ret
    exact ⟨rfl, ownsRow_setCell_other O4.out (by intro h; exact hgr' (Option.some.inj h)) _, K4.out.set 3 (by simp) _, B4.out.setCell hg _, fun r hr => by cases hr; exact (KP.out.grown G4.out (.inr rfl)).grown (grownBy.setCell _ g 3 _) (.inl rfl)⟩

theorem alloc_any {base B g : Nat} (v vk : Value) (ws ks : List Int) (h b : Int) (n : Nat) (f : Bool) (tag : Int) (w : World) (kb : Bx w g #[v, .int .i64 h, .int .i64 b, .int .i64 n])
    (ho : w.ownsRow base 3 1 v ws.length (ws.map (Value.int .i64))) (hg : base ≤ g) (hne : some g ≠ v.ownBlock) (rk : Rd B .i64 w vk ks) (hB : B ≤ base) (h0 : 0 ≤ tag) (h1 : tag ≤ 3000) (h2 : ks.length ≤ 20) (hfit : n + 1 + ks.length ≤ ws.length) (hlen : ws.length ≤ 6000) :
    Calls Try.prog 38 #[.pointer (some ⟨g, 0, none⟩), .bool f, .int .i64 tag, vk] w fun e w' => e = .returned (.int .i64 n) ∧
      w'.ownsRow base 3 1 v ws.length ((ov ws n (hdOf f tag ks.length :: ks)).map (Value.int .i64)) ∧ Bx w' g #[v, .int .i64 h, .int .i64 b, .int .i64 (n + (1 + ks.length))] ∧ Below base w w' :=
  (alloc_any2 v vk ws ks h b n f tag w kb ho hg hne rk hB h0 h1 h2 hfit hlen).mono fun e w' h => ⟨h.1, h.2.1, h.2.2.1, h.2.2.2.1⟩

end Go.Proofs.Ytmcoidnonmmpjaa
