/- VmNew, of functions that are verified: the walk. -/
import Derived.Test.YtlkdlcpfcacigaaMgCloneC
import Derived.Test.YtlkdlcpfcacigaaHeapNew
import Derived.Test.YtlkdlcpfcacigaaVmT
import Derived.Test.YtlkdlcpfcacigaaMgAllocP
import Derived.Test.YtlkdlcpfcacigaaOwnH
import Derived.Deep.DeepCutAuto
import Derived.Deep.CutRange
namespace Go.Proofs.Ytlkdlcpfcacigaa
open Go.RowKit
set_option linter.unusedVariables false
set_option linter.unusedSimpArgs false

theorem own_slice {base : Nat} {e : TypeId} {sz n : Nat} {w : World} {v : Value} {xs : List Value} (h : w.ownsRow base e sz v n xs) (hn : 0 < n) : ∃ g cap, v = .slice (some ⟨g, 0, none⟩) n cap ∧ base ≤ g ∧ g < w.heap.size := by
  rcases h.2 with ⟨_, h0⟩ | ⟨g, cap, cur, rfl, hb, _⟩
  · omega
  · exact ⟨g, cap, rfl, (h.lt g rfl).1, (h.lt g rfl).2⟩
/-- the rows of a machine that is made, in blocks of the call's own. -/
structure NewR0 (base : Nat) (W : World) (fv hv sv cv : Value) (fs : List F2) (half : Nat) : Prop where
  f : OwnF base W fv fs
  z : W.ownsRow base 3 1 hv (2 * half) ((List.replicate (2 * half) 0).map (Value.int .i64))
  s : W.ownsRow base 3 1 sv 2 ([1, 1].map (Value.int .i64))
  c : W.ownsRow base 48 3 cv 1 (flat O3.enc [⟨0, 0, 1⟩])
/-- that these rows lie apart: the functions in blocks from a up to e. -/
structure RowsAp (fv hv sv cv : Value) (a e g s c : Nat) : Prop where
  hg : hv.ownBlock = some g
  hs : sv.ownBlock = some s
  hc : cv.ownBlock = some c
  n : g < a ∧ (s < a ∨ e ≤ s) ∧ (c < a ∨ e ≤ c) ∧ g ≠ s ∧ g ≠ c ∧ s ≠ c
structure NewRows (base : Nat) (W : World) (fv hv sv cv : Value) (fs : List F2) (half : Nat) : Prop extends NewR0 base W fv hv sv cv fs half where
  ap : ∃ a e g s c, base ≤ a ∧ e ≤ W.heap.size ∧ OwnH a e W fv fs ∧ RowsAp fv hv sv cv a e g s c

theorem own_madeN {base size : Nat} {e : TypeId} (w : World) (cur : Array Value) (n : Nat) (hb : base ≤ w.heap.size) (hm : n ≤ maxLen) (hs : cur.size = n * size) : (w.alloc (.cells cur e)).ownsRow base e size (.slice (some ⟨w.heap.size, 0, none⟩) n n) n cur.toList :=
  ⟨by rw [Array.length_toList]; exact hs, .inr ⟨w.heap.size, n, cur, rfl, hb, heap_alloc_new w _, Nat.le_refl _, hm, hs, List.take_of_length_le (by rw [Array.length_toList]; omega)⟩⟩
theorem OwnH.setCell {base hi : Nat} {w : World} {v : Value} {fs : List F2} (h : OwnH base hi w v fs) {a : Addr} (ha : a.block < base) (u : Value) : OwnH base hi (w.setCell a u) v fs := by
  obtain ⟨fl, ⟨h1, h2, h3, h4⟩, h5, h6⟩ := h
  exact ⟨fl, ⟨ownsRow_setCell_below h1 ha u, h2, fun j a b => ⟨(h3 j a b).1, ownsRow_setCell_below (h3 j a b).2 ha u⟩, h4⟩, h5, h6⟩
theorem NewR0.setCell {base : Nat} {W : World} {fv hv sv cv : Value} {fs : List F2} {half : Nat} (h : NewR0 base W fv hv sv cv fs half) {a : Addr} (ha : a.block < base) (u : Value) : NewR0 base (W.setCell a u) fv hv sv cv fs half :=
  ⟨OwnF.setCell h.f ha u, ownsRow_setCell_below h.z ha u, ownsRow_setCell_below h.s ha u, ownsRow_setCell_below h.c ha u⟩
theorem NewRows.setCell {base : Nat} {W : World} {fv hv sv cv : Value} {fs : List F2} {half : Nat} (h : NewRows base W fv hv sv cv fs half) {a : Addr} (ha : a.block < base) (u : Value) : NewRows base (W.setCell a u) fv hv sv cv fs half := by
  obtain ⟨h0, x, e, g, s, c, p1, p2, p3, p4⟩ := h
  exact ⟨h0.setCell ha u, x, e, g, s, c, p1, by rw [World.size_setCell]; exact p2, p3.setCell (by omega) u, p4⟩

/-- w has been gone on from to W, by steps of which one may have written below w, in rows from B0 on; v reads as it did. -/
structure Kp (B0 : Nat) (w : World) (v : Value) (fs : List F2) (W : World) : Prop where
  le : B0 ≤ w.heap.size
  below : Below B0 w W
  rd : RdF w.heap.size W v fs
theorem Kp.size {B0 : Nat} {w W : World} {v : Value} {fs : List F2} (h : Kp B0 w v fs W) : w.heap.size ≤ W.heap.size := h.below.size
theorem Kp.trans {B0 : Nat} {w W W' : World} {v : Value} {fs : List F2} (h : Kp B0 w v fs W) (hb : Below w.heap.size W W') : Kp B0 w v fs W' := ⟨h.le, h.below.trans (hb.mono h.le), h.rd.below hb (Nat.le_refl _)⟩
theorem Kp.setCell {B0 : Nat} {w W : World} {v : Value} {fs : List F2} (h : Kp B0 w v fs W) {a : Addr} (ha : w.heap.size ≤ a.block) (u : Value) : Kp B0 w v fs (W.setCell a u) := h.trans ((Below.refl _ _).setCell ha u)
/-- what lies from w's end on is as it was. -/
structure Ke (w W W' : World) : Prop where
  size : W.heap.size ≤ W'.heap.size
  block : ∀ k, w.heap.size ≤ k → k < W.heap.size → W'.heap[k]? = W.heap[k]?
theorem Bx.ke {w W W' : World} {g : Nat} {cur : Array Value} (h : Bx W g cur) (k : Ke w W W') (hg : w.heap.size ≤ g) : Bx W' g cur :=
  ⟨Nat.lt_of_lt_of_le h.1 k.size, fun j => (World.cell?_of_block (k.block g hg h.1)).trans (h.2.1 j), fun j => (World.frozen?_of_block (k.block g hg h.1)).trans (h.2.2 j)⟩
theorem own_ke {base : Nat} {e : TypeId} {sz : Nat} {w W W' : World} {v : Value} {n : Nat} {xs : List Value} (h : W.ownsRow base e sz v n xs) (k : Ke w W W') (hb : w.heap.size ≤ base) : W'.ownsRow base e sz v n xs := by
  refine ⟨h.1, ?_⟩
  rcases h.2 with hn | ⟨b, cap, cur, rfl, hbs, hg, rest⟩
  · exact .inl hn
  · refine .inr ⟨b, cap, cur, rfl, hbs, ?_, rest⟩
    rw [k.block b (Nat.le_trans hb hbs) (own_lt h b rfl)]; exact hg

set_option maxHeartbeats 6400000 in
set_option maxRecDepth 100000 in
theorem iVmNew_rows {B B0 : Nat} (v : Value) (fs : List F2) (half : Nat) (each : Bool) (w : World) (hr : RdF B w v fs) (hn : fs.length ≤ 1000) (ht : tot fs ≤ 4294967296) (h1 : 1 ≤ half) (h2 : half ≤ 3000)
    (HV : ∀ W, Below w.heap.size w W → Calls Try.prog 20 #[v] W fun e w' => e = .returned (.bool true) ∧ Kp B0 w v fs w' ∧ Ke w W w') :
    Calls Try.prog 7 #[v, .int .i64 half, .bool each] w fun e w' => ∃ fv hv sv cv, e = .returned (.tuple #[.agg #[fv, hv, .int .i64 half, .int .i64 0, .int .i64 0, sv, cv, .slice none 0 0, .int .i64 0, .bool each], .bool true]) ∧ NewRows (w.heap.size + 1) w' fv hv sv cv fs half ∧ Below B0 w w' := by
  have hin : inB (half : Int) 1 3000 = true := inB_true.2 ⟨by omega, by omega⟩
  have hnw : newWords (half : Int) = List.replicate (2 * half) 0 := by unfold newWords; rw [if_pos hin]; simp
  have HH := Lib.hid (fun (W : World) => (show Calls Try.prog 19 #[.int .i64 half] W fun e w' => ∃ v, e = .returned (.tuple #[.agg #[v, .int .i64 half, .int .i64 0, .int .i64 0], .bool true]) ∧
      w'.ownsRow W.heap.size 3 1 v (2 * half) ((List.replicate (2 * half) 0).map (Value.int .i64)) ∧ Below W.heap.size W w' from by
    have := iHeapNew_any half W
    rw [hin, hnw, List.length_replicate] at this
    simpa using this))
  have HR := Lib.hid (fun (W : World) (hb : Kp B0 w v fs W) => copyFuns_any v fs W hb.rd hn ht)
  have HVV := Lib.hid HV
  have HI := Lib.hid (fun (W : World) => (show Calls Try.prog 22 #[.int .i64 0] W fun e w' => e = .returned (.int .i64 1) ∧ W = w' from iIntWord_any 0 W))
  obtain ⟨fa, fc, rfl⟩ := hr.form
  clear hr HV hin hnw
  go_enter Try.func7, Try.ntmps7
  go_wp2_with fail
  generalize hxx : w.alloc _ = x0
  obtain ⟨bx, k6⟩ := Bx.alloc hxx
  have sx : x0.heap.size = w.heap.size + 1 := by rw [← hxx, World.size_alloc]
  clear hxx
  refine (HH.out _).mono ?_
  rintro e w1 ⟨v1, rfl, o1, b1⟩
  obtain ⟨g1, p1, rfl, hg1, hg2⟩ := own_slice o1 (by omega)
  have zx1 := b1.size
  replace k6 := k6.below b1 k6.1
  replace bx := bx.trans (b1.mono bx.size)
  replace o1 := own_base o1 (show w.heap.size + 1 ≤ x0.heap.size by omega)
  clear b1
  go_wp2_with fail
  generalize hxx : w1.alloc _ = w2
  obtain ⟨b2, k8⟩ := Bx.alloc hxx
  clear hxx
  have zx2 := b2.size
  replace k6 := k6.below b2 k6.1
  replace bx := bx.trans (b2.mono bx.size)
  replace o1 := own_below o1 b2 (own_lt o1)
  refine (HVV.out _ bx).mono ?_
  rintro e w3 ⟨rfl, bk, ke⟩
  have zx3 := ke.size
  replace k6 := k6.ke ke (Nat.le_refl _)
  replace k8 := k8.ke ke (by omega)
  replace o1 := own_ke o1 ke (Nat.le_succ _)
  clear bx
  have bx := bk
  clear bk ke b2
  go_wp2_with fail
  go_cut [7] from 10 to 32 (fun s7 W => s7 = .bool true ∧ ∃ (fv hv sv cv : Value), NewRows (w.heap.size + 1) W fv hv sv cv fs half ∧ Bx W w.heap.size #[fv, hv, .int .i64 half, .int .i64 0, .int .i64 0, sv, cv, .slice none 0 0, .int .i64 0, .bool each] ∧ Kp B0 w (.slice fa fs.length fc) fs W)
  case first =>
    refine wp_region_held_drew (S := (fun w' => ∀ j, w'.cell? ⟨w1.heap.size, j, none⟩ = #[.slice (some ⟨g1, 0, none⟩) (2 * half) p1, .int .i64 half, .int .i64 0, .int .i64 0][j]?)) (by kernel_rfl) (by first | (dsimp only; exact k8.2.1) | (exact k8.2.1)) (fun hHeld => ?_)
    refine tkH (i := 0) ?_
    refine tkH (i := 2) ?_
    refine tkH (i := 6) ?_
    refine tkH (i := 8) ?_
    generalize hxd : w3.drew = y0 at hHeld
    have hd : Below w3.heap.size w3 y0 := by rw [← hxd]; exact (Below.refl _ _).drew
    replace k6 := k6.below hd k6.1
    replace k8 := k8.below hd k8.1
    replace bx := bx.trans (hd.mono bx.size)
    replace o1 := own_below o1 hd (own_lt o1)
    have zx4 := hd.size
    clear hxd hd
    refine wpAnyH_ready (rs := [1, 7]) (by kernel_rfl) (by simp) ?_
    refine AllReadyH.cons (by (simp only [List.getElem?_toArray, List.getElem?_cons_succ, List.getElem?_cons_zero]; rfl)) (fun K hK => ?_) (AllReadyH.cons (by (simp only [List.getElem?_toArray, List.getElem?_cons_succ, List.getElem?_cons_zero]; rfl)) (fun K hK => ?_) AllReadyH.nil)
    · go_simp
      refine (HR.out y0 bx).mono ?_
      rintro e y1 ⟨fv, rfl, of, b9⟩
      obtain ⟨af, cf, rfl⟩ := of.form
      have oh := of.to_h
      replace k6 := k6.below b9 k6.1
      replace k8 := k8.below b9 k8.1
      replace bx := bx.trans (b9.mono bx.size)
      have zz := b9.size
      replace o1 := own_below o1 b9 (own_lt o1)
      replace of := of.base (show w.heap.size + 1 ≤ y0.heap.size by omega)
      clear b9
      refine hK.out _ _ (by first | (dsimp only; exact k8.2.1) | (exact k8.2.1)) (fun hHeld => ?_)
      clear hK K
      try simp only [Act.put, List.setIfInBounds_toArray, List.set_cons_zero, List.set_cons_succ]
      refine wpAnyH_ready (rs := [3, 7]) (by kernel_rfl) (by simp) ?_
      refine AllReadyH.cons (by (simp only [List.getElem?_toArray, List.getElem?_cons_succ, List.getElem?_cons_zero]; rfl)) (fun K hK => ?_) (AllReadyH.cons (by (simp only [List.getElem?_toArray, List.getElem?_cons_succ, List.getElem?_cons_zero]; rfl)) (fun K hK => ?_) AllReadyH.nil)
      · go_simp
        refine (HI.out _).mono ?_
        rintro e w' ⟨rfl, rfl⟩
        refine hK.out _ _ (by first | (dsimp only; exact k8.2.1) | (exact k8.2.1)) (fun hHeld => ?_)
        clear hK K
        try simp only [Act.put, List.setIfInBounds_toArray, List.set_cons_zero, List.set_cons_succ]
        refine wpAnyH_ready (rs := [4, 7]) (by kernel_rfl) (by simp) ?_
        refine AllReadyH.cons (by (simp only [List.getElem?_toArray, List.getElem?_cons_succ, List.getElem?_cons_zero]; rfl)) (fun K hK => ?_) (AllReadyH.cons (by (simp only [List.getElem?_toArray, List.getElem?_cons_succ, List.getElem?_cons_zero]; rfl)) (fun K hK => ?_) AllReadyH.nil)
        · go_simp
          refine (HI.out _).mono ?_
          rintro e w' ⟨rfl, rfl⟩
          refine hK.out _ _ (by first | (dsimp only; exact k8.2.1) | (exact k8.2.1)) (fun hHeld => ?_)
          clear hK K
          try simp only [Act.put, List.setIfInBounds_toArray, List.set_cons_zero, List.set_cons_succ]
          refine wpAnyH_ready (rs := [5, 7]) (by kernel_rfl) (by simp) ?_
          refine AllReadyH.cons (by (simp only [List.getElem?_toArray, List.getElem?_cons_succ, List.getElem?_cons_zero]; rfl)) (fun K hK => ?_) (AllReadyH.cons (by (simp only [List.getElem?_toArray, List.getElem?_cons_succ, List.getElem?_cons_zero]; rfl)) (fun K hK => ?_) AllReadyH.nil)
          · go_simp
            generalize hy : y1.alloc _ = y4
            obtain ⟨b9, _⟩ := Bx.alloc hy
            have os : y4.ownsRow (w.heap.size + 1) 3 1 (.slice (some ⟨y1.heap.size, 0, none⟩) 2 2) 2 ([1, 1].map (Value.int .i64)) := by rw [← hy]; exact own_madeN y1 #[.int .i64 1, .int .i64 1] 2 (by omega) (by unfold maxLen; omega) (by simp)
            have los := own_lt os _ rfl
            dsimp only at los
            clear hy
            replace k6 := k6.below b9 k6.1
            replace k8 := k8.below b9 k8.1
            replace bx := bx.trans (b9.mono bx.size)
            have zz := b9.size
            replace o1 := own_below o1 b9 (own_lt o1)
            replace of := of.below b9
            replace oh := oh.below b9 (by omega)
            clear b9
            refine hK.out _ _ (by first | (dsimp only; exact k8.2.1) | (exact k8.2.1)) (fun hHeld => ?_)
            clear hK K
            try simp only [Act.put, List.setIfInBounds_toArray, List.set_cons_zero, List.set_cons_succ]
            refine wpAnyH_ready (rs := [7]) (by kernel_rfl) (by simp) ?_
            refine AllReadyH.cons (by (simp only [List.getElem?_toArray, List.getElem?_cons_succ, List.getElem?_cons_zero]; rfl)) (fun K hK => ?_) AllReadyH.nil
            go_simp
            generalize hy : y4.alloc _ = y5
            obtain ⟨b9, _⟩ := Bx.alloc hy
            have oc : y5.ownsRow (w.heap.size + 1) 48 3 (.slice (some ⟨y4.heap.size, 0, none⟩) 1 1) 1 (flat O3.enc [⟨0, 0, 1⟩]) := by rw [← hy]; exact own_madeN y4 #[.int .i64 0, .int .i64 0, .int .i64 1] 1 (by omega) (by unfold maxLen; omega) (by simp)
            have loc := own_lt oc _ rfl
            dsimp only at loc
            clear hy
            replace k6 := k6.below b9 k6.1
            replace k8 := k8.below b9 k8.1
            replace bx := bx.trans (b9.mono bx.size)
            have zz := b9.size
            replace o1 := own_below o1 b9 (own_lt o1)
            replace of := of.below b9
            replace oh := oh.below b9 (by omega)
            replace os := own_below os b9 (own_lt os)
            clear b9
            refine hK.out _ _ (by first | (dsimp only; exact k8.2.1) | (exact k8.2.1)) (fun hHeld => ?_)
            clear hK K
            try simp only [Act.put, List.setIfInBounds_toArray, List.set_cons_zero, List.set_cons_succ]
            refine tkH (i := 9) ?_
            have q6 := k6.2.1
            have f6 := k6.2.2
            have y6 := k6.1
            have NR := Lib.hid (NewRows.mk ⟨of, o1, os, oc⟩ ⟨_, _, _, _, _, by omega, by omega, oh, ⟨rfl, rfl, rfl, by dsimp only; omega⟩⟩)
            have BB := Lib.hid bx
            have K6 := Lib.hid k6
            have hne : some w2.heap.size ≠ some w.heap.size := fun e => by have := Option.some.inj e; omega
            refine rdH (i := 10) (fun K hK => ?_)
            go_simp
            refine bkH hK (by first | (dsimp only; (refine (Bx.grown k8 (row := some w.heap.size) ?_ (fun e => by have := Option.some.inj e; omega)).2.1; (repeat (with_reducible refine grownBy.trans ?_ (grownBy.setCell _ _ _ _))); with_reducible exact grownBy.refl _ _)) | ((refine (Bx.grown k8 (row := some w.heap.size) ?_ (fun e => by have := Option.some.inj e; omega)).2.1; (repeat (with_reducible refine grownBy.trans ?_ (grownBy.setCell _ _ _ _))); with_reducible exact grownBy.refl _ _))) (fun hHeld => ?_)
            clear hK K
            refine tkH (i := 11) ?_
            refine wpAnyH_done (by kernel_rfl) ?_ _
            go_wp2_with fail
            go_meet
            refine ⟨rfl, .slice af fs.length cf, .slice (some ⟨g1, 0, none⟩) (2 * half) p1, .slice (some ⟨y1.heap.size, 0, none⟩) 2 2, .slice (some ⟨y4.heap.size, 0, none⟩) 1 1, ?_, ?_, ?_⟩
            · repeat (with_reducible refine NewRows.setCell ?_ (by exact Nat.lt_succ_self _) _)
              exact NR.out
            · have hx := (((((((((K6.out.set 0 (by simp) (.slice af fs.length cf)).set 1 (by simp) (.slice (some ⟨g1, 0, none⟩) (2 * half) p1)).set 2 (by simp) (.int .i64 half)).set 3 (by simp) (.int .i64 0)).set 4 (by simp) (.int .i64 0)).set 5 (by simp) (.slice (some ⟨y1.heap.size, 0, none⟩) 2 2)).set 6 (by simp) (.slice (some ⟨y4.heap.size, 0, none⟩) 1 1)).set 7 (by simp) (.slice none 0 0)).set 8 (by simp) (.int .i64 0)).set 9 (by simp) (.bool each)
              simpa using hx
            · repeat (with_reducible refine Kp.setCell ?_ (by exact Nat.le_refl _) _)
              exact BB.out
          · go_simp
            generalize hy : y1.alloc _ = y7
            obtain ⟨b9, _⟩ := Bx.alloc hy
            have oc : y7.ownsRow (w.heap.size + 1) 48 3 (.slice (some ⟨y1.heap.size, 0, none⟩) 1 1) 1 (flat O3.enc [⟨0, 0, 1⟩]) := by rw [← hy]; exact own_madeN y1 #[.int .i64 0, .int .i64 0, .int .i64 1] 1 (by omega) (by unfold maxLen; omega) (by simp)
            have loc := own_lt oc _ rfl
            dsimp only at loc
            clear hy
            replace k6 := k6.below b9 k6.1
            replace k8 := k8.below b9 k8.1
            replace bx := bx.trans (b9.mono bx.size)
            have zz := b9.size
            replace o1 := own_below o1 b9 (own_lt o1)
            replace of := of.below b9
            replace oh := oh.below b9 (by omega)
            clear b9
            refine hK.out _ _ (by first | (dsimp only; exact k8.2.1) | (exact k8.2.1)) (fun hHeld => ?_)
            clear hK K
            try simp only [Act.put, List.setIfInBounds_toArray, List.set_cons_zero, List.set_cons_succ]
            refine wpAnyH_ready (rs := [5]) (by kernel_rfl) (by simp) ?_
            refine AllReadyH.cons (by (simp only [List.getElem?_toArray, List.getElem?_cons_succ, List.getElem?_cons_zero]; rfl)) (fun K hK => ?_) AllReadyH.nil
            go_simp
            generalize hy : y7.alloc _ = y8
            obtain ⟨b9, _⟩ := Bx.alloc hy
            have os : y8.ownsRow (w.heap.size + 1) 3 1 (.slice (some ⟨y7.heap.size, 0, none⟩) 2 2) 2 ([1, 1].map (Value.int .i64)) := by rw [← hy]; exact own_madeN y7 #[.int .i64 1, .int .i64 1] 2 (by omega) (by unfold maxLen; omega) (by simp)
            have los := own_lt os _ rfl
            dsimp only at los
            clear hy
            replace k6 := k6.below b9 k6.1
            replace k8 := k8.below b9 k8.1
            replace bx := bx.trans (b9.mono bx.size)
            have zz := b9.size
            replace o1 := own_below o1 b9 (own_lt o1)
            replace of := of.below b9
            replace oh := oh.below b9 (by omega)
            replace oc := own_below oc b9 (own_lt oc)
            clear b9
            refine hK.out _ _ (by first | (dsimp only; exact k8.2.1) | (exact k8.2.1)) (fun hHeld => ?_)
            clear hK K
            try simp only [Act.put, List.setIfInBounds_toArray, List.set_cons_zero, List.set_cons_succ]
            refine tkH (i := 9) ?_
            have q6 := k6.2.1
            have f6 := k6.2.2
            have y6 := k6.1
            have NR := Lib.hid (NewRows.mk ⟨of, o1, os, oc⟩ ⟨_, _, _, _, _, by omega, by omega, oh, ⟨rfl, rfl, rfl, by dsimp only; omega⟩⟩)
            have BB := Lib.hid bx
            have K6 := Lib.hid k6
            have hne : some w2.heap.size ≠ some w.heap.size := fun e => by have := Option.some.inj e; omega
            refine rdH (i := 10) (fun K hK => ?_)
            go_simp
            refine bkH hK (by first | (dsimp only; (refine (Bx.grown k8 (row := some w.heap.size) ?_ (fun e => by have := Option.some.inj e; omega)).2.1; (repeat (with_reducible refine grownBy.trans ?_ (grownBy.setCell _ _ _ _))); with_reducible exact grownBy.refl _ _)) | ((refine (Bx.grown k8 (row := some w.heap.size) ?_ (fun e => by have := Option.some.inj e; omega)).2.1; (repeat (with_reducible refine grownBy.trans ?_ (grownBy.setCell _ _ _ _))); with_reducible exact grownBy.refl _ _))) (fun hHeld => ?_)
            clear hK K
            refine tkH (i := 11) ?_
            refine wpAnyH_done (by kernel_rfl) ?_ _
            go_wp2_with fail
            go_meet
            refine ⟨rfl, .slice af fs.length cf, .slice (some ⟨g1, 0, none⟩) (2 * half) p1, .slice (some ⟨y7.heap.size, 0, none⟩) 2 2, .slice (some ⟨y1.heap.size, 0, none⟩) 1 1, ?_, ?_, ?_⟩
            · repeat (with_reducible refine NewRows.setCell ?_ (by exact Nat.lt_succ_self _) _)
              exact NR.out
            · have hx := (((((((((K6.out.set 0 (by simp) (.slice af fs.length cf)).set 1 (by simp) (.slice (some ⟨g1, 0, none⟩) (2 * half) p1)).set 2 (by simp) (.int .i64 half)).set 3 (by simp) (.int .i64 0)).set 4 (by simp) (.int .i64 0)).set 5 (by simp) (.slice (some ⟨y7.heap.size, 0, none⟩) 2 2)).set 6 (by simp) (.slice (some ⟨y1.heap.size, 0, none⟩) 1 1)).set 7 (by simp) (.slice none 0 0)).set 8 (by simp) (.int .i64 0)).set 9 (by simp) (.bool each)
              simpa using hx
            · repeat (with_reducible refine Kp.setCell ?_ (by exact Nat.le_refl _) _)
              exact BB.out
        · go_simp
          generalize hy : y1.alloc _ = y10
          obtain ⟨b9, _⟩ := Bx.alloc hy
          have oc : y10.ownsRow (w.heap.size + 1) 48 3 (.slice (some ⟨y1.heap.size, 0, none⟩) 1 1) 1 (flat O3.enc [⟨0, 0, 1⟩]) := by rw [← hy]; exact own_madeN y1 #[.int .i64 0, .int .i64 0, .int .i64 1] 1 (by omega) (by unfold maxLen; omega) (by simp)
          have loc := own_lt oc _ rfl
          dsimp only at loc
          clear hy
          replace k6 := k6.below b9 k6.1
          replace k8 := k8.below b9 k8.1
          replace bx := bx.trans (b9.mono bx.size)
          have zz := b9.size
          replace o1 := own_below o1 b9 (own_lt o1)
          replace of := of.below b9
          replace oh := oh.below b9 (by omega)
          clear b9
          refine hK.out _ _ (by first | (dsimp only; exact k8.2.1) | (exact k8.2.1)) (fun hHeld => ?_)
          clear hK K
          try simp only [Act.put, List.setIfInBounds_toArray, List.set_cons_zero, List.set_cons_succ]
          refine wpAnyH_ready (rs := [4]) (by kernel_rfl) (by simp) ?_
          refine AllReadyH.cons (by (simp only [List.getElem?_toArray, List.getElem?_cons_succ, List.getElem?_cons_zero]; rfl)) (fun K hK => ?_) AllReadyH.nil
          go_simp
          refine (HI.out _).mono ?_
          rintro e w' ⟨rfl, rfl⟩
          refine hK.out _ _ (by first | (dsimp only; exact k8.2.1) | (exact k8.2.1)) (fun hHeld => ?_)
          clear hK K
          try simp only [Act.put, List.setIfInBounds_toArray, List.set_cons_zero, List.set_cons_succ]
          refine wpAnyH_ready (rs := [5]) (by kernel_rfl) (by simp) ?_
          refine AllReadyH.cons (by (simp only [List.getElem?_toArray, List.getElem?_cons_succ, List.getElem?_cons_zero]; rfl)) (fun K hK => ?_) AllReadyH.nil
          go_simp
          generalize hy : y10.alloc _ = y12
          obtain ⟨b9, _⟩ := Bx.alloc hy
          have os : y12.ownsRow (w.heap.size + 1) 3 1 (.slice (some ⟨y10.heap.size, 0, none⟩) 2 2) 2 ([1, 1].map (Value.int .i64)) := by rw [← hy]; exact own_madeN y10 #[.int .i64 1, .int .i64 1] 2 (by omega) (by unfold maxLen; omega) (by simp)
          have los := own_lt os _ rfl
          dsimp only at los
          clear hy
          replace k6 := k6.below b9 k6.1
          replace k8 := k8.below b9 k8.1
          replace bx := bx.trans (b9.mono bx.size)
          have zz := b9.size
          replace o1 := own_below o1 b9 (own_lt o1)
          replace of := of.below b9
          replace oh := oh.below b9 (by omega)
          replace oc := own_below oc b9 (own_lt oc)
          clear b9
          refine hK.out _ _ (by first | (dsimp only; exact k8.2.1) | (exact k8.2.1)) (fun hHeld => ?_)
          clear hK K
          try simp only [Act.put, List.setIfInBounds_toArray, List.set_cons_zero, List.set_cons_succ]
          refine tkH (i := 9) ?_
          have q6 := k6.2.1
          have f6 := k6.2.2
          have y6 := k6.1
          have NR := Lib.hid (NewRows.mk ⟨of, o1, os, oc⟩ ⟨_, _, _, _, _, by omega, by omega, oh, ⟨rfl, rfl, rfl, by dsimp only; omega⟩⟩)
          have BB := Lib.hid bx
          have K6 := Lib.hid k6
          have hne : some w2.heap.size ≠ some w.heap.size := fun e => by have := Option.some.inj e; omega
          refine rdH (i := 10) (fun K hK => ?_)
          go_simp
          refine bkH hK (by first | (dsimp only; (refine (Bx.grown k8 (row := some w.heap.size) ?_ (fun e => by have := Option.some.inj e; omega)).2.1; (repeat (with_reducible refine grownBy.trans ?_ (grownBy.setCell _ _ _ _))); with_reducible exact grownBy.refl _ _)) | ((refine (Bx.grown k8 (row := some w.heap.size) ?_ (fun e => by have := Option.some.inj e; omega)).2.1; (repeat (with_reducible refine grownBy.trans ?_ (grownBy.setCell _ _ _ _))); with_reducible exact grownBy.refl _ _))) (fun hHeld => ?_)
          clear hK K
          refine tkH (i := 11) ?_
          refine wpAnyH_done (by kernel_rfl) ?_ _
          go_wp2_with fail
          go_meet
          refine ⟨rfl, .slice af fs.length cf, .slice (some ⟨g1, 0, none⟩) (2 * half) p1, .slice (some ⟨y10.heap.size, 0, none⟩) 2 2, .slice (some ⟨y1.heap.size, 0, none⟩) 1 1, ?_, ?_, ?_⟩
          · repeat (with_reducible refine NewRows.setCell ?_ (by exact Nat.lt_succ_self _) _)
            exact NR.out
          · have hx := (((((((((K6.out.set 0 (by simp) (.slice af fs.length cf)).set 1 (by simp) (.slice (some ⟨g1, 0, none⟩) (2 * half) p1)).set 2 (by simp) (.int .i64 half)).set 3 (by simp) (.int .i64 0)).set 4 (by simp) (.int .i64 0)).set 5 (by simp) (.slice (some ⟨y10.heap.size, 0, none⟩) 2 2)).set 6 (by simp) (.slice (some ⟨y1.heap.size, 0, none⟩) 1 1)).set 7 (by simp) (.slice none 0 0)).set 8 (by simp) (.int .i64 0)).set 9 (by simp) (.bool each)
            simpa using hx
          · repeat (with_reducible refine Kp.setCell ?_ (by exact Nat.le_refl _) _)
            exact BB.out
      · go_simp
        generalize hy : y1.alloc _ = y14
        obtain ⟨b9, _⟩ := Bx.alloc hy
        have oc : y14.ownsRow (w.heap.size + 1) 48 3 (.slice (some ⟨y1.heap.size, 0, none⟩) 1 1) 1 (flat O3.enc [⟨0, 0, 1⟩]) := by rw [← hy]; exact own_madeN y1 #[.int .i64 0, .int .i64 0, .int .i64 1] 1 (by omega) (by unfold maxLen; omega) (by simp)
        have loc := own_lt oc _ rfl
        dsimp only at loc
        clear hy
        replace k6 := k6.below b9 k6.1
        replace k8 := k8.below b9 k8.1
        replace bx := bx.trans (b9.mono bx.size)
        have zz := b9.size
        replace o1 := own_below o1 b9 (own_lt o1)
        replace of := of.below b9
        replace oh := oh.below b9 (by omega)
        clear b9
        refine hK.out _ _ (by first | (dsimp only; exact k8.2.1) | (exact k8.2.1)) (fun hHeld => ?_)
        clear hK K
        try simp only [Act.put, List.setIfInBounds_toArray, List.set_cons_zero, List.set_cons_succ]
        refine wpAnyH_ready (rs := [3]) (by kernel_rfl) (by simp) ?_
        refine AllReadyH.cons (by (simp only [List.getElem?_toArray, List.getElem?_cons_succ, List.getElem?_cons_zero]; rfl)) (fun K hK => ?_) AllReadyH.nil
        go_simp
        refine (HI.out _).mono ?_
        rintro e w' ⟨rfl, rfl⟩
        refine hK.out _ _ (by first | (dsimp only; exact k8.2.1) | (exact k8.2.1)) (fun hHeld => ?_)
        clear hK K
        try simp only [Act.put, List.setIfInBounds_toArray, List.set_cons_zero, List.set_cons_succ]
        refine wpAnyH_ready (rs := [4]) (by kernel_rfl) (by simp) ?_
        refine AllReadyH.cons (by (simp only [List.getElem?_toArray, List.getElem?_cons_succ, List.getElem?_cons_zero]; rfl)) (fun K hK => ?_) AllReadyH.nil
        go_simp
        refine (HI.out _).mono ?_
        rintro e w' ⟨rfl, rfl⟩
        refine hK.out _ _ (by first | (dsimp only; exact k8.2.1) | (exact k8.2.1)) (fun hHeld => ?_)
        clear hK K
        try simp only [Act.put, List.setIfInBounds_toArray, List.set_cons_zero, List.set_cons_succ]
        refine wpAnyH_ready (rs := [5]) (by kernel_rfl) (by simp) ?_
        refine AllReadyH.cons (by (simp only [List.getElem?_toArray, List.getElem?_cons_succ, List.getElem?_cons_zero]; rfl)) (fun K hK => ?_) AllReadyH.nil
        go_simp
        generalize hy : y14.alloc _ = y17
        obtain ⟨b9, _⟩ := Bx.alloc hy
        have os : y17.ownsRow (w.heap.size + 1) 3 1 (.slice (some ⟨y14.heap.size, 0, none⟩) 2 2) 2 ([1, 1].map (Value.int .i64)) := by rw [← hy]; exact own_madeN y14 #[.int .i64 1, .int .i64 1] 2 (by omega) (by unfold maxLen; omega) (by simp)
        have los := own_lt os _ rfl
        dsimp only at los
        clear hy
        replace k6 := k6.below b9 k6.1
        replace k8 := k8.below b9 k8.1
        replace bx := bx.trans (b9.mono bx.size)
        have zz := b9.size
        replace o1 := own_below o1 b9 (own_lt o1)
        replace of := of.below b9
        replace oh := oh.below b9 (by omega)
        replace oc := own_below oc b9 (own_lt oc)
        clear b9
        refine hK.out _ _ (by first | (dsimp only; exact k8.2.1) | (exact k8.2.1)) (fun hHeld => ?_)
        clear hK K
        try simp only [Act.put, List.setIfInBounds_toArray, List.set_cons_zero, List.set_cons_succ]
        refine tkH (i := 9) ?_
        have q6 := k6.2.1
        have f6 := k6.2.2
        have y6 := k6.1
        have NR := Lib.hid (NewRows.mk ⟨of, o1, os, oc⟩ ⟨_, _, _, _, _, by omega, by omega, oh, ⟨rfl, rfl, rfl, by dsimp only; omega⟩⟩)
        have BB := Lib.hid bx
        have K6 := Lib.hid k6
        have hne : some w2.heap.size ≠ some w.heap.size := fun e => by have := Option.some.inj e; omega
        refine rdH (i := 10) (fun K hK => ?_)
        go_simp
        refine bkH hK (by first | (dsimp only; (refine (Bx.grown k8 (row := some w.heap.size) ?_ (fun e => by have := Option.some.inj e; omega)).2.1; (repeat (with_reducible refine grownBy.trans ?_ (grownBy.setCell _ _ _ _))); with_reducible exact grownBy.refl _ _)) | ((refine (Bx.grown k8 (row := some w.heap.size) ?_ (fun e => by have := Option.some.inj e; omega)).2.1; (repeat (with_reducible refine grownBy.trans ?_ (grownBy.setCell _ _ _ _))); with_reducible exact grownBy.refl _ _))) (fun hHeld => ?_)
        clear hK K
        refine tkH (i := 11) ?_
        refine wpAnyH_done (by kernel_rfl) ?_ _
        go_wp2_with fail
        go_meet
        refine ⟨rfl, .slice af fs.length cf, .slice (some ⟨g1, 0, none⟩) (2 * half) p1, .slice (some ⟨y14.heap.size, 0, none⟩) 2 2, .slice (some ⟨y1.heap.size, 0, none⟩) 1 1, ?_, ?_, ?_⟩
        · repeat (with_reducible refine NewRows.setCell ?_ (by exact Nat.lt_succ_self _) _)
          exact NR.out
        · have hx := (((((((((K6.out.set 0 (by simp) (.slice af fs.length cf)).set 1 (by simp) (.slice (some ⟨g1, 0, none⟩) (2 * half) p1)).set 2 (by simp) (.int .i64 half)).set 3 (by simp) (.int .i64 0)).set 4 (by simp) (.int .i64 0)).set 5 (by simp) (.slice (some ⟨y14.heap.size, 0, none⟩) 2 2)).set 6 (by simp) (.slice (some ⟨y1.heap.size, 0, none⟩) 1 1)).set 7 (by simp) (.slice none 0 0)).set 8 (by simp) (.int .i64 0)).set 9 (by simp) (.bool each)
          simpa using hx
        · repeat (with_reducible refine Kp.setCell ?_ (by exact Nat.le_refl _) _)
          exact BB.out
    · go_simp
      generalize hy : y0.alloc _ = y19
      obtain ⟨b9, _⟩ := Bx.alloc hy
      have oc : y19.ownsRow (w.heap.size + 1) 48 3 (.slice (some ⟨y0.heap.size, 0, none⟩) 1 1) 1 (flat O3.enc [⟨0, 0, 1⟩]) := by rw [← hy]; exact own_madeN y0 #[.int .i64 0, .int .i64 0, .int .i64 1] 1 (by omega) (by unfold maxLen; omega) (by simp)
      have loc := own_lt oc _ rfl
      dsimp only at loc
      clear hy
      replace k6 := k6.below b9 k6.1
      replace k8 := k8.below b9 k8.1
      replace bx := bx.trans (b9.mono bx.size)
      have zz := b9.size
      replace o1 := own_below o1 b9 (own_lt o1)
      clear b9
      refine hK.out _ _ (by first | (dsimp only; exact k8.2.1) | (exact k8.2.1)) (fun hHeld => ?_)
      clear hK K
      try simp only [Act.put, List.setIfInBounds_toArray, List.set_cons_zero, List.set_cons_succ]
      refine wpAnyH_ready (rs := [1]) (by kernel_rfl) (by simp) ?_
      refine AllReadyH.cons (by (simp only [List.getElem?_toArray, List.getElem?_cons_succ, List.getElem?_cons_zero]; rfl)) (fun K hK => ?_) AllReadyH.nil
      go_simp
      refine (HR.out y19 bx).mono ?_
      rintro e y20 ⟨fv, rfl, of, b9⟩
      obtain ⟨af, cf, rfl⟩ := of.form
      have oh := of.to_h
      replace k6 := k6.below b9 k6.1
      replace k8 := k8.below b9 k8.1
      replace bx := bx.trans (b9.mono bx.size)
      have zz := b9.size
      replace o1 := own_below o1 b9 (own_lt o1)
      replace oc := own_below oc b9 (own_lt oc)
      replace of := of.base (show w.heap.size + 1 ≤ y19.heap.size by omega)
      clear b9
      refine hK.out _ _ (by first | (dsimp only; exact k8.2.1) | (exact k8.2.1)) (fun hHeld => ?_)
      clear hK K
      try simp only [Act.put, List.setIfInBounds_toArray, List.set_cons_zero, List.set_cons_succ]
      refine wpAnyH_ready (rs := [3]) (by kernel_rfl) (by simp) ?_
      refine AllReadyH.cons (by (simp only [List.getElem?_toArray, List.getElem?_cons_succ, List.getElem?_cons_zero]; rfl)) (fun K hK => ?_) AllReadyH.nil
      go_simp
      refine (HI.out _).mono ?_
      rintro e w' ⟨rfl, rfl⟩
      refine hK.out _ _ (by first | (dsimp only; exact k8.2.1) | (exact k8.2.1)) (fun hHeld => ?_)
      clear hK K
      try simp only [Act.put, List.setIfInBounds_toArray, List.set_cons_zero, List.set_cons_succ]
      refine wpAnyH_ready (rs := [4]) (by kernel_rfl) (by simp) ?_
      refine AllReadyH.cons (by (simp only [List.getElem?_toArray, List.getElem?_cons_succ, List.getElem?_cons_zero]; rfl)) (fun K hK => ?_) AllReadyH.nil
      go_simp
      refine (HI.out _).mono ?_
      rintro e w' ⟨rfl, rfl⟩
      refine hK.out _ _ (by first | (dsimp only; exact k8.2.1) | (exact k8.2.1)) (fun hHeld => ?_)
      clear hK K
      try simp only [Act.put, List.setIfInBounds_toArray, List.set_cons_zero, List.set_cons_succ]
      refine wpAnyH_ready (rs := [5]) (by kernel_rfl) (by simp) ?_
      refine AllReadyH.cons (by (simp only [List.getElem?_toArray, List.getElem?_cons_succ, List.getElem?_cons_zero]; rfl)) (fun K hK => ?_) AllReadyH.nil
      go_simp
      generalize hy : y20.alloc _ = y23
      obtain ⟨b9, _⟩ := Bx.alloc hy
      have os : y23.ownsRow (w.heap.size + 1) 3 1 (.slice (some ⟨y20.heap.size, 0, none⟩) 2 2) 2 ([1, 1].map (Value.int .i64)) := by rw [← hy]; exact own_madeN y20 #[.int .i64 1, .int .i64 1] 2 (by omega) (by unfold maxLen; omega) (by simp)
      have los := own_lt os _ rfl
      dsimp only at los
      clear hy
      replace k6 := k6.below b9 k6.1
      replace k8 := k8.below b9 k8.1
      replace bx := bx.trans (b9.mono bx.size)
      have zz := b9.size
      replace o1 := own_below o1 b9 (own_lt o1)
      replace oc := own_below oc b9 (own_lt oc)
      replace of := of.below b9
      replace oh := oh.below b9 (by omega)
      clear b9
      refine hK.out _ _ (by first | (dsimp only; exact k8.2.1) | (exact k8.2.1)) (fun hHeld => ?_)
      clear hK K
      try simp only [Act.put, List.setIfInBounds_toArray, List.set_cons_zero, List.set_cons_succ]
      refine tkH (i := 9) ?_
      have q6 := k6.2.1
      have f6 := k6.2.2
      have y6 := k6.1
      have NR := Lib.hid (NewRows.mk ⟨of, o1, os, oc⟩ ⟨_, _, _, _, _, by omega, by omega, oh, ⟨rfl, rfl, rfl, by dsimp only; omega⟩⟩)
      have BB := Lib.hid bx
      have K6 := Lib.hid k6
      have hne : some w2.heap.size ≠ some w.heap.size := fun e => by have := Option.some.inj e; omega
      refine rdH (i := 10) (fun K hK => ?_)
      go_simp
      refine bkH hK (by first | (dsimp only; (refine (Bx.grown k8 (row := some w.heap.size) ?_ (fun e => by have := Option.some.inj e; omega)).2.1; (repeat (with_reducible refine grownBy.trans ?_ (grownBy.setCell _ _ _ _))); with_reducible exact grownBy.refl _ _)) | ((refine (Bx.grown k8 (row := some w.heap.size) ?_ (fun e => by have := Option.some.inj e; omega)).2.1; (repeat (with_reducible refine grownBy.trans ?_ (grownBy.setCell _ _ _ _))); with_reducible exact grownBy.refl _ _))) (fun hHeld => ?_)
      clear hK K
      refine tkH (i := 11) ?_
      refine wpAnyH_done (by kernel_rfl) ?_ _
      go_wp2_with fail
      go_meet
      refine ⟨rfl, .slice af fs.length cf, .slice (some ⟨g1, 0, none⟩) (2 * half) p1, .slice (some ⟨y20.heap.size, 0, none⟩) 2 2, .slice (some ⟨y0.heap.size, 0, none⟩) 1 1, ?_, ?_, ?_⟩
      · repeat (with_reducible refine NewRows.setCell ?_ (by exact Nat.lt_succ_self _) _)
        exact NR.out
      · have hx := (((((((((K6.out.set 0 (by simp) (.slice af fs.length cf)).set 1 (by simp) (.slice (some ⟨g1, 0, none⟩) (2 * half) p1)).set 2 (by simp) (.int .i64 half)).set 3 (by simp) (.int .i64 0)).set 4 (by simp) (.int .i64 0)).set 5 (by simp) (.slice (some ⟨y20.heap.size, 0, none⟩) 2 2)).set 6 (by simp) (.slice (some ⟨y0.heap.size, 0, none⟩) 1 1)).set 7 (by simp) (.slice none 0 0)).set 8 (by simp) (.int .i64 0)).set 9 (by simp) (.bool each)
        simpa using hx
      · repeat (with_reducible refine Kp.setCell ?_ (by exact Nat.le_refl _) _)
        exact BB.out
  case rest =>
    obtain ⟨rfl, fv, hv, sv, cv, NR, K, BB⟩ := hcut
    obtain ⟨fa9, fc9, rfl⟩ := NR.f.form
    obtain ⟨ha9, hc9, rfl⟩ := own_form NR.z
    obtain ⟨sa9, sc9, rfl⟩ := own_form NR.s
    obtain ⟨ca9, cc9, rfl⟩ := own_form NR.c
    have q6 := K.2.1
    clear o1 k6 k8 bx
    go_wp2
    refine bodyPost_ret (v := .tuple #[.agg #[.slice fa9 fs.length fc9, .slice ha9 (2 * half) hc9, .int .i64 half, .int .i64 0, .int .i64 0, .slice sa9 2 sc9, .slice ca9 1 cc9, .slice none 0 0, .int .i64 0, .bool each], .bool true]) ?_ rfl ⟨_, _, _, _, rfl, NR, BB.below⟩
    simp [results, Try.results7, go_sem, q6]

end Go.Proofs.Ytlkdlcpfcacigaa
